/- A value's bytes by the reference: wattleref04.Bytes. -/
import Derived.Test.YtaapbiiiepdopaaNb
import Derived.Test.YtaapbiiiepdopaaBa
namespace Go.Proofs.Ytaapbiiiepdopaa
open Go.RowKit Mem
set_option linter.unusedVariables false

theorem num64 {n : Nat} (h : n < 18446744073709551616) (w : World) : Calls Try.prog 55 #[.int .u64 (n : Int)] w fun e w' => e = .returned (.string (ofL (num n))) ∧ Below w.heap.size w w' := Number_any 9 (by omega) h
/-- what Bytes does at a value -/
def BytC (v : V) : Prop := (∃ d p q, may d p v = some q) → ∀ {w : World} {cs : Array Value} {S : Nat → Prop}, IsV w S v cs → (byt v).length ≤ 35184372088832 →
    Calls Try.prog 37 #[.agg cs] w fun e w' => e = .returned (.string (ofL (byt v))) ∧ Below w.heap.size w w'
theorem num_sz {n : Nat} (h : n < 18446744073709551616) : (ofL (num n)).size ≤ 10 := by rw [size_ofL]; exact num_len10 h

theorem by0 {w : World} {b : Bool} {m : Int} {s : ByteArray} {l : List V} {ks : List ByteArray} {AL AK : Option Addr} {nL cL nK cK : Nat} :
    Calls Try.prog 37 #[.agg #[.int .i64 0, .bool b, .int .i64 m, .string s, .slice AL nL cL, .slice AK nK cK]] w fun e w' => e = .returned (.string (ofL (byt (.mk 0 b m s l ks)))) ∧ Below w.heap.size w w' := by
  have h : byt (.mk 0 b m s l ks) = [0] := by rw [byt]; rfl
  rw [h]
  clear h
  go_enter Try.func37, Try.ntmps37
  go_wp2
  go_ret
  exact ⟨rfl, (Below.refl _ w).alloc (Nat.le_refl _) _⟩
theorem by1 {w : World} {b : Bool} {m : Int} {s : ByteArray} {l : List V} {ks : List ByteArray} {AL AK : Option Addr} {nL cL nK cK : Nat} :
    Calls Try.prog 37 #[.agg #[.int .i64 1, .bool b, .int .i64 m, .string s, .slice AL nL cL, .slice AK nK cK]] w fun e w' => e = .returned (.string (ofL (byt (.mk 1 b m s l ks)))) ∧ Below w.heap.size w w' := by
  cases b
  · have h : byt (.mk 1 false m s l ks) = [1] := by rw [byt]; rfl
    rw [h]
    clear h
    go_enter Try.func37, Try.ntmps37
    go_wp2
    go_ret
    exact ⟨rfl, (Below.refl _ w).alloc (Nat.le_refl _) _⟩
  · have h : byt (.mk 1 true m s l ks) = [2] := by rw [byt]; rfl
    rw [h]
    clear h
    go_enter Try.func37, Try.ntmps37
    go_wp2
    go_ret
    exact ⟨rfl, (Below.refl _ w).alloc (Nat.le_refl _) _⟩
theorem by2 {w : World} {b : Bool} {m : Int} {s : ByteArray} {l : List V} {ks : List ByteArray} {AL AK : Option Addr} {nL cL nK cK : Nat} (h1 : -9223372036854775808 ≤ m) (h2 : m ≤ 9223372036854775807) :
    Calls Try.prog 37 #[.agg #[.int .i64 2, .bool b, .int .i64 m, .string s, .slice AL nL cL, .slice AK nK cK]] w fun e w' => e = .returned (.string (ofL (byt (.mk 2 b m s l ks)))) ∧ Below w.heap.size w w' := by
  have h : ByteArray.mk #[3] ++ ofL (num (zz m)) = ofL (byt (.mk 2 b m s l ks)) := by rw [byt]; exact ofL_app [3] (num (zz m))
  rw [← h]
  clear h
  have hz := zz_lt h1 h2
  have hsz := num_sz hz
  go_enter Try.func37, Try.ntmps37
  go_wp2_with (first | (go_at_call 56; refine (zigzag_any h1 h2).mono ?_; rintro e w5 ⟨rfl, rfl⟩) | (go_at_call 55; refine (num64 hz _).mono ?_; rintro e w5 ⟨rfl, hb5⟩))
  go_ret
  exact ⟨rfl, ((Below.refl _ w).alloc (Nat.le_refl _) _).trans (hb5.mono (by simp))⟩
set_option maxHeartbeats 1000000 in
theorem by3 {w : World} {b : Bool} {m : Int} {s : ByteArray} {l : List V} {ks : List ByteArray} {AL AK : Option Addr} {nL cL nK cK : Nat} (hs : s.size ≤ 35184372088832) :
    Calls Try.prog 37 #[.agg #[.int .i64 3, .bool b, .int .i64 m, .string s, .slice AL nL cL, .slice AK nK cK]] w fun e w' => e = .returned (.string (ofL (byt (.mk 3 b m s l ks)))) ∧ Below w.heap.size w w' := by
  have h : ByteArray.mk #[4] ++ ofL (num s.size) ++ s = ofL (byt (.mk 3 b m s l ks)) := by
    conv => lhs; rw [← ofL_str s]
    rw [byt, show ByteArray.mk #[4] = ofL [4] from rfl, ofL_app, ofL_app]
    rfl
  rw [← h]
  clear h
  have hz : s.size < 18446744073709551616 := by omega
  have hsz := num_sz hz
  have R1 := Blk.new w 25 #[.int .i64 3, .bool b, .int .i64 m, .string s, .slice AL nL cL, .slice AK nK cK]
  have B1 : Below w.heap.size w (w.alloc (.cells #[.int .i64 3, .bool b, .int .i64 m, .string s, .slice AL nL cL, .slice AK nK cK] 25)) := (Below.refl _ w).alloc (Nat.le_refl _) _
  go_enter Try.func37, Try.ntmps37
  go_wp2_with fail
  generalize w.alloc (.cells #[.int .i64 3, .bool b, .int .i64 m, .string s, .slice AL nL cL, .slice AK nK cK] 25) = W at R1 B1 ⊢
  generalize w.heap.size = R at R1 ⊢
  have f3 : ∀ n, (W.drewN n).cell? ⟨R, 3, none⟩ = some (.string s) := fun n => blkc' (R1.drewN n) rfl
  have f3' : W.cell? ⟨R, 3, none⟩ = some (.string s) := blkc' R1 rfl
  have hu := u64n hz
  go_region_with (first
    | (go_at_call 55; refine (num64 hz _).mono ?_; rintro e w5 ⟨rfl, hb5⟩; have f5 : w5.cell? ⟨R, 3, none⟩ = some (.string s) := blkc' (Blk.below (R1.drewN 1) hb5 R1.lt) rfl))
  all_goals
    go_wp2
    go_ret
    exact ⟨rfl, (Below.drew B1).trans (hb5.mono (by exact B1.size))⟩
theorem by6 {w : World} {b : Bool} {m : Int} {s : ByteArray} {l : List V} {ks : List ByteArray} {AL AK : Option Addr} {nL cL nK cK : Nat} (h1 : 1 ≤ m) (h2 : m ≤ 9223372036854775807) :
    Calls Try.prog 37 #[.agg #[.int .i64 6, .bool b, .int .i64 m, .string s, .slice AL nL cL, .slice AK nK cK]] w fun e w' => e = .returned (.string (ofL (byt (.mk 6 b m s l ks)))) ∧ Below w.heap.size w w' := by
  have h : ByteArray.mk #[7] ++ ofL (num m.toNat) = ofL (byt (.mk 6 b m s l ks)) := by rw [byt]; exact ofL_app [7] (num m.toNat)
  rw [← h]
  clear h
  have hz : m.toNat < 18446744073709551616 := by omega
  have hsz := num_sz hz
  obtain ⟨k, rfl⟩ : ∃ k : Nat, m = k := ⟨m.toNat, by omega⟩
  rw [Int.toNat_natCast] at *
  go_enter Try.func37, Try.ntmps37
  go_wp2_with (first | (go_at_call 55; refine (num64 hz _).mono ?_; rintro e w5 ⟨rfl, hb5⟩))
  go_ret
  exact ⟨rfl, ((Below.refl _ w).alloc (Nat.le_refl _) _).trans (hb5.mono (by simp))⟩
theorem by7 {w : World} {b : Bool} {m : Int} {s : ByteArray} {l : List V} {ks : List ByteArray} {AL AK : Option Addr} {nL cL nK cK : Nat} (h1 : 1 ≤ m) (h2 : m ≤ 9223372036854775807) :
    Calls Try.prog 37 #[.agg #[.int .i64 7, .bool b, .int .i64 m, .string s, .slice AL nL cL, .slice AK nK cK]] w fun e w' => e = .returned (.string (ofL (byt (.mk 7 b m s l ks)))) ∧ Below w.heap.size w w' := by
  have h : ByteArray.mk #[8] ++ ofL (num m.toNat) = ofL (byt (.mk 7 b m s l ks)) := by rw [byt]; exact ofL_app [8] (num m.toNat)
  rw [← h]
  clear h
  have hz : m.toNat < 18446744073709551616 := by omega
  have hsz := num_sz hz
  obtain ⟨k, rfl⟩ : ∃ k : Nat, m = k := ⟨m.toNat, by omega⟩
  rw [Int.toNat_natCast] at *
  go_enter Try.func37, Try.ntmps37
  go_wp2_with (first | (go_at_call 55; refine (num64 hz _).mono ?_; rintro e w5 ⟨rfl, hb5⟩))
  go_ret
  exact ⟨rfl, ((Below.refl _ w).alloc (Nat.le_refl _) _).trans (hb5.mono (by simp))⟩

set_option maxHeartbeats 4000000 in
set_option maxRecDepth 100000 in
theorem by4 {w : World} {S : Nat → Prop} {b : Bool} {m : Int} {s : ByteArray} {l : List V} {ks : List ByteArray} {AL AK : Option Addr} {cL nK cK : Nat} {xs : List Value} (ih : ∀ v ∈ l, BytC v) (hmay : ∃ d p q, mays d p l = some q) (lL : l.length ≤ 9223372036854775807)
    (hR : RdS w S 6 AL l.length xs) (hI : IsVs w S l xs) (hn : (byt (.mk 4 b m s l ks)).length ≤ 35184372088832) :
    Calls Try.prog 37 #[.agg #[.int .i64 4, .bool b, .int .i64 m, .string s, .slice AL l.length cL, .slice AK nK cK]] w fun e w' => e = .returned (.string (ofL (byt (.mk 4 b m s l ks)))) ∧ Below w.heap.size w w' := by
  have hbt : byt (.mk 4 b m s l ks) = 5 :: (num l.length ++ byts false l ks) := by rw [byt]; simp [tagOf]
  have R1 := Blk.new w 25 #[.int .i64 4, .bool b, .int .i64 m, .string s, .slice AL l.length cL, .slice AK nK cK]
  have B1 : Below w.heap.size w (w.alloc (.cells #[.int .i64 4, .bool b, .int .i64 m, .string s, .slice AL l.length cL, .slice AK nK cK] 25)) := (Below.refl _ w).alloc (Nat.le_refl _) _
  have I1 := hI.grow B1
  have L1 := hR.grow B1
  rw [hbt] at hn ⊢
  rw [List.length_cons, List.length_append] at hn
  have HBT := hide hbt
  have hz : l.length < 18446744073709551616 := by omega
  have hsz := num_sz hz
  clear hbt hI hR
  go_enter Try.func37, Try.ntmps37
  go_wp2_with fail
  generalize w.alloc (.cells #[.int .i64 4, .bool b, .int .i64 m, .string s, .slice AL l.length cL, .slice AK nK cK] 25) = W at R1 B1 I1 L1 ⊢
  generalize w.heap.size = R at R1 ⊢
  refine (num64 hz _).mono ?_
  rintro e w1 ⟨rfl, hb1⟩
  have R2 := R1.below hb1 R1.lt
  have B2 := B1.trans (hb1.mono B1.size)
  have I2 := I1.grow hb1
  have L2 := L1.grow hb1
  have f0 : w1.cell? ⟨R, 0, none⟩ = some (.int .i64 4) := blkc' R2 rfl
  have f4 : w1.cell? ⟨R, 4, none⟩ = some (.slice AL l.length cL) := blkc' R2 rfl
  have HI2 := hide I2
  have HL2 := hide L2
  have HR2 := hide R2
  have HB2 := hide B2
  clear I2 L2 R2 B2 R1 B1 I1 L1 hb1
  go_wp2_with fail
  go_loopg [3, 4] l.length (fun g sv iv wr => ∃ (i : Nat) (ys : List UInt8), g = l.length - i ∧ sv = .string (ofL ys) ∧ iv = .int .i64 (i : Nat) ∧ i ≤ l.length ∧ Hid (ys ++ byts false (l.drop i) (ks.drop i) = 5 :: (num l.length ++ byts false l ks)) ∧ Hid (Below w1.heap.size w1 wr))
  case atStart => exact ⟨0, 5 :: num l.length, rfl, congrArg Value.string (ofL_app [5] (num l.length)), rfl, Nat.zero_le _, hide (by simp), Below.refl _ _⟩
  case round =>
    obtain ⟨i, ys, rfl, rfl, rfl, hi, hE, hB⟩ := hrel
    have f4 : wr.cell? ⟨R, 4, none⟩ = some (.slice AL l.length cL) := blkc' (HR2.out.below hB.out HR2.out.lt) rfl
    have f0 : wr.cell? ⟨R, 0, none⟩ = some (.int .i64 4) := blkc' (HR2.out.below hB.out HR2.out.lt) rfl
    have hBw := hide (HB2.out.trans (hB.out.mono HB2.out.size))
    by_cases hlt : i < l.length
    · obtain ⟨b2, o2, cs2, rfl, _, hb2, hV2, hc2⟩ := (HI2.out.grow hB.out).get (HL2.out.grow hB.out) hlt
      obtain ⟨k2, bb2, m2, s2, AL2, nL2, cL2, AK2, nK2, cK2, rfl⟩ := hV2.shape
      have hst := byts_step false (ks := ks) hlt
      have hmv := mays_mem l hmay.choose_spec.choose_spec.choose_spec l[i] (List.getElem_mem hlt)
      have hlen := congrArg List.length hE.out
      rw [hst] at hlen hE
      simp only [List.length_append, List.length_cons, key1, Bool.false_eq_true, if_false, List.length_nil] at hlen
      have hby : (byt l[i]).length ≤ 35184372088832 := by omega
      have hsy : (ofL ys).size ≤ 35184372088832 := by rw [size_ofL]; omega
      have hsb : (ofL (byt l[i])).size ≤ 35184372088832 := hby
      have g0 : wr.cell? ⟨b2, o2 + i * 6, none⟩ = some (.int .i64 k2) := hc2 0 (by decide)
      have g1 : wr.cell? ⟨b2, o2 + i * 6 + 1, none⟩ = some (.bool bb2) := hc2 1 (by decide)
      have g2 : wr.cell? ⟨b2, o2 + i * 6 + 2, none⟩ = some (.int .i64 m2) := hc2 2 (by decide)
      have g3 : wr.cell? ⟨b2, o2 + i * 6 + 3, none⟩ = some (.string s2) := hc2 3 (by decide)
      have g4 : wr.cell? ⟨b2, o2 + i * 6 + 4, none⟩ = some (.slice AL2 nL2 cL2) := hc2 4 (by decide)
      have g5 : wr.cell? ⟨b2, o2 + i * 6 + 5, none⟩ = some (.slice AK2 nK2 cK2) := hc2 5 (by decide)
      have HV2 := hide hV2
      clear hc2 hV2 hst hlen
      go_wp2_with fail
      refine (ih l[i] (List.getElem_mem hlt) hmv HV2.out hby).mono ?_
      rintro e w5 ⟨rfl, hb5⟩
      have hB5 := hide (hB.out.trans (hb5.mono hB.out.size))
      have HE5 : Hid ((ys ++ byt l[i]) ++ byts false (l.drop (i + 1)) (ks.drop (i + 1)) = 5 :: (num l.length ++ byts false l ks)) := hide (by rw [← hE.out]; simp [key1])
      clear hb5 HV2 g0 g1 g2 g3 g4 g5 hE hmv f4 f0
      go_wp2_with fail
      go_roundg (l.length - (i + 1))
      case measure => omega
      case rel => exact ⟨i + 1, ys ++ byt l[i], rfl, congrArg Value.string (ofL_app ys (byt l[i])), by go_num, by omega, HE5, hB5⟩
    · have hil : i = l.length := by omega
      have he : ys = 5 :: (num l.length ++ byts false l ks) := by
        rw [← hE.out, hil, List.drop_length, byts, List.append_nil]
      have HE := hide he
      clear hil he hE
      go_wp2
      go_ret
      exact ⟨congrArg (fun x => Ending.returned (.string (ofL x))) HE.out, hBw.out⟩
end Go.Proofs.Ytaapbiiiepdopaa
