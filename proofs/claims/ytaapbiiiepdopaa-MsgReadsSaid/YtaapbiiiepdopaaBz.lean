/- A value's bytes by the reference: maps; every value that may be. -/
import Derived.Test.YtaapbiiiepdopaaBy
namespace Go.Proofs.Ytaapbiiiepdopaa
open Go.RowKit Mem
set_option linter.unusedVariables false

theorem app4 (a b : List UInt8) (k : ByteArray) (c : List UInt8) : ofL a ++ ofL b ++ k ++ ofL c = ofL (a ++ b ++ str k ++ c) := by rw [← ofL_app, ← ofL_app, ← ofL_app, ofL_str]

set_option maxHeartbeats 4000000 in
set_option maxRecDepth 100000 in
theorem by5 {w : World} {S : Nat → Prop} {b : Bool} {m : Int} {s : ByteArray} {l : List V} {ks : List ByteArray} {AL AK : Option Addr} {cL cK : Nat} {xs : List Value} (ih : ∀ v ∈ l, BytC v) (hmay : ∃ d p q, mays d p l = some q) (lL : l.length ≤ 9223372036854775807)
    (hkl : ks.length ≤ l.length ∧ l.length ≤ ks.length) (hks : ∀ x ∈ ks, x.size ≤ 9223372036854775807) (hK : RdS w S 1 AK ks.length (ks.map .string)) (hR : RdS w S 6 AL l.length xs) (hI : IsVs w S l xs) (hn : (byt (.mk 5 b m s l ks)).length ≤ 35184372088832) :
    Calls Try.prog 37 #[.agg #[.int .i64 5, .bool b, .int .i64 m, .string s, .slice AL l.length cL, .slice AK ks.length cK]] w fun e w' => e = .returned (.string (ofL (byt (.mk 5 b m s l ks)))) ∧ Below w.heap.size w w' := by
  have hbt : byt (.mk 5 b m s l ks) = 6 :: (num l.length ++ byts true l ks) := by rw [byt]; simp [tagOf]
  have R1 := Blk.new w 25 #[.int .i64 5, .bool b, .int .i64 m, .string s, .slice AL l.length cL, .slice AK ks.length cK]
  have B1 : Below w.heap.size w (w.alloc (.cells #[.int .i64 5, .bool b, .int .i64 m, .string s, .slice AL l.length cL, .slice AK ks.length cK] 25)) := (Below.refl _ w).alloc (Nat.le_refl _) _
  obtain ⟨hkl1, hkl2⟩ := hkl
  have K1 := hK.grow B1
  have I1 := hI.grow B1
  have L1 := hR.grow B1
  rw [hbt] at hn ⊢
  rw [List.length_cons, List.length_append] at hn
  have HBT := hide hbt
  have hz : l.length < 18446744073709551616 := by omega
  have hsz := num_sz hz
  clear hbt hI hR hK
  go_enter Try.func37, Try.ntmps37
  go_wp2_with fail
  generalize w.alloc (.cells #[.int .i64 5, .bool b, .int .i64 m, .string s, .slice AL l.length cL, .slice AK ks.length cK] 25) = W at R1 B1 I1 L1 K1 ⊢
  generalize w.heap.size = R at R1 ⊢
  refine (num64 hz _).mono ?_
  rintro e w1 ⟨rfl, hb1⟩
  have R2 := R1.below hb1 R1.lt
  have B2 := B1.trans (hb1.mono B1.size)
  have I2 := I1.grow hb1
  have K2 := K1.grow hb1
  have L2 := L1.grow hb1
  have f0 : w1.cell? ⟨R, 0, none⟩ = some (.int .i64 5) := blkc' R2 rfl
  have f4 : w1.cell? ⟨R, 4, none⟩ = some (.slice AL l.length cL) := blkc' R2 rfl
  have HI2 := hide I2
  have HK2 := hide K2
  have HL2 := hide L2
  have HR2 := hide R2
  have HB2 := hide B2
  clear I2 L2 R2 B2 R1 B1 I1 L1 hb1 K2 K1
  go_wp2_with fail
  go_loopg [3, 4] l.length (fun g sv iv wr => ∃ (i : Nat) (ys : List UInt8), g = l.length - i ∧ sv = .string (ofL ys) ∧ iv = .int .i64 (i : Nat) ∧ i ≤ l.length ∧ Hid (ys ++ byts true (l.drop i) (ks.drop i) = 6 :: (num l.length ++ byts true l ks)) ∧ Hid (Below w1.heap.size w1 wr))
  case atStart => exact ⟨0, 6 :: num l.length, rfl, congrArg Value.string (ofL_app [6] (num l.length)), rfl, Nat.zero_le _, hide (by simp), Below.refl _ _⟩
  case round =>
    obtain ⟨i, ys, rfl, rfl, rfl, hi, hE, hB⟩ := hrel
    have f4 : wr.cell? ⟨R, 4, none⟩ = some (.slice AL l.length cL) := blkc' (HR2.out.below hB.out HR2.out.lt) rfl
    have f0 : wr.cell? ⟨R, 0, none⟩ = some (.int .i64 5) := blkc' (HR2.out.below hB.out HR2.out.lt) rfl
    have hBw := hide (HB2.out.trans (hB.out.mono HB2.out.size))
    by_cases hlt : i < l.length
    · obtain ⟨b2, o2, cs2, rfl, _, hb2, hV2, hc2⟩ := (HI2.out.grow hB.out).get (HL2.out.grow hB.out) hlt
      obtain ⟨k2, bb2, m2, s2, AL2, nL2, cL2, AK2, nK2, cK2, rfl⟩ := hV2.shape
      obtain ⟨bk, ok, rfl, _, hbk, hck⟩ := (HK2.out.grow hB.out).plain (by omega) (by omega)
      have hkc : wr.cell? ⟨bk, ok + i, none⟩ = some (.string (ks[i]'(by omega))) := by
        rw [hck i (by omega)]
        simp [show i < ks.length by omega]
      have hks8 := hks (ks[i]'(by omega)) (List.getElem_mem _)
      have hkey : key1 true (ks.drop i) = num (ks[i]'(by omega)).size ++ str (ks[i]'(by omega)) := by rw [List.drop_eq_getElem_cons (by omega)]; rfl
      have hst := byts_step true (ks := ks) hlt
      have hmv := mays_mem l hmay.choose_spec.choose_spec.choose_spec l[i] (List.getElem_mem hlt)
      have hlen := congrArg List.length hE.out
      rw [hkey] at hst
      rw [hst] at hlen hE
      simp only [List.length_append, List.length_cons, str_len] at hlen
      generalize ks[i]'(by omega) = kk at hkc hks8 hkey hE hlen hst
      have hby : (byt l[i]).length ≤ 35184372088832 := by omega
      have hsy : (ofL ys).size ≤ 35184372088832 := by rw [size_ofL]; omega
      have hsb : (ofL (byt l[i])).size ≤ 35184372088832 := hby
      have g0 : wr.cell? ⟨b2, o2 + i * 6, none⟩ = some (.int .i64 k2) := hc2 0 (by decide)
      have g1 : wr.cell? ⟨b2, o2 + i * 6 + 1, none⟩ = some (.bool bb2) := hc2 1 (by decide)
      have g2 : wr.cell? ⟨b2, o2 + i * 6 + 2, none⟩ = some (.int .i64 m2) := hc2 2 (by decide)
      have g3 : wr.cell? ⟨b2, o2 + i * 6 + 3, none⟩ = some (.string s2) := hc2 3 (by decide)
      have g4 : wr.cell? ⟨b2, o2 + i * 6 + 4, none⟩ = some (.slice AL2 nL2 cL2) := hc2 4 (by decide)
      have g5 : wr.cell? ⟨b2, o2 + i * 6 + 5, none⟩ = some (.slice AK2 nK2 cK2) := hc2 5 (by decide)
      have HV2 := hide hV2
      clear hc2 hV2 hst hkey hck
      have f5 : wr.cell? ⟨R, 5, none⟩ = some (.slice (some ⟨bk, ok, none⟩) ks.length cK) := blkc' (HR2.out.below hB.out HR2.out.lt) rfl
      have hin1 : (i : Int) < (ks.length : Int) := by omega
      have hkk8 : kk.size < 18446744073709551616 := by omega
      have hkz := num_sz hkk8
      have hku := u64n hkk8
      have hkn := num_len10 hkk8
      have hx1 : (9223372036854775807 < (ofL ys).size + (ofL (num kk.size)).size) = False := by rw [eq_iff_iff, iff_false]; omega
      have hx2 : (9223372036854775807 < (ofL ys).size + (ofL (num kk.size)).size + kk.size) = False := by rw [eq_iff_iff, iff_false]; omega
      have hx3 : (9223372036854775807 < (ofL ys).size + (ofL (num kk.size)).size + kk.size + (ofL (byt l[i])).size) = False := by rw [eq_iff_iff, iff_false]; omega
      clear hlen hkn
      go_wp2_with fail
      go_region_held3 (fun w' => w'.cell? ⟨R, 5, none⟩ = some (.slice (some ⟨bk, ok, none⟩) ks.length cK) ∧ w'.cell? ⟨bk, ok + i, none⟩ = some (.string kk))
        (first | exact ⟨f5, hkc⟩ | exact ⟨(hb5.cell (by exact HRlt)).trans f5, (hb5.cell (by exact hbk)).trans hkc⟩) (first
        | (go_at_call 55; (try rw [u64n hkk8]); refine (num64 hkk8 _).mono ?_; rintro e w5 ⟨rfl, hb5⟩; have HRlt : R < wr.heap.size := Nat.lt_of_lt_of_le HR2.out.lt hB.out.size))
      have hB5 : Below wr.heap.size wr w5 := (Below.drew (Below.refl _ wr)).trans hb5
      have hRlt : R < wr.heap.size := Nat.lt_of_lt_of_le HR2.out.lt hB.out.size
      have q4 : w5.cell? ⟨R, 4, none⟩ = some (.slice (some ⟨b2, o2, none⟩) l.length cL) := (hB5.cell (by exact hRlt)).trans f4
      have g0 : w5.cell? ⟨b2, o2 + i * 6, none⟩ = some (.int .i64 k2) := (hB5.cell (by exact hb2)).trans g0
      have g1 : w5.cell? ⟨b2, o2 + i * 6 + 1, none⟩ = some (.bool bb2) := (hB5.cell (by exact hb2)).trans g1
      have g2 : w5.cell? ⟨b2, o2 + i * 6 + 2, none⟩ = some (.int .i64 m2) := (hB5.cell (by exact hb2)).trans g2
      have g3 : w5.cell? ⟨b2, o2 + i * 6 + 3, none⟩ = some (.string s2) := (hB5.cell (by exact hb2)).trans g3
      have g4 : w5.cell? ⟨b2, o2 + i * 6 + 4, none⟩ = some (.slice AL2 nL2 cL2) := (hB5.cell (by exact hb2)).trans g4
      have g5 : w5.cell? ⟨b2, o2 + i * 6 + 5, none⟩ = some (.slice AK2 nK2 cK2) := (hB5.cell (by exact hb2)).trans g5
      have hV5 := HV2.out.grow hB5
      have hBB := hB.out.trans (hB5.mono hB.out.size)
      have HV5 := hide hV5
      have HBB := hide hBB
      clear hb5 hB5 hV5 hBB HV2 hB
      go_wp2_with fail
      refine (ih l[i] (List.getElem_mem hlt) hmv HV5.out hby).mono ?_
      rintro e w6 ⟨rfl, hb6⟩
      have hB6 := hide (HBB.out.trans (hb6.mono HBB.out.size))
      have HE5 : Hid ((ys ++ num kk.size ++ str kk ++ byt l[i]) ++ byts true (l.drop (i + 1)) (ks.drop (i + 1)) = 6 :: (num l.length ++ byts true l ks)) := hide (by rw [← hE.out]; simp [List.append_assoc])
      have HS : Hid (ofL ys ++ ofL (num kk.size) ++ kk ++ ofL (byt l[i]) = ofL (ys ++ num kk.size ++ str kk ++ byt l[i])) := hide (app4 _ _ _ _)
      clear hb6 HV5 g0 g1 g2 g3 g4 g5 hE hmv f4 f0 f5 hkc hin1 q4
      go_wp2_with fail
      go_roundg (l.length - (i + 1))
      case measure => omega
      case rel => exact ⟨i + 1, _, rfl, congrArg Value.string HS.out, by go_num, by omega, HE5, hB6⟩
    · have hil : i = l.length := by omega
      have he : ys = 6 :: (num l.length ++ byts true l ks) := by
        rw [← hE.out, hil, List.drop_length, byts, List.append_nil]
      have HE := hide he
      clear hil he hE
      go_wp2
      go_ret
      exact ⟨congrArg (fun x => Ending.returned (.string (ofL x))) HE.out, hBw.out⟩

theorem bytes_any (v : V) : BytC v := by
  refine V.ind (P := BytC) ?_ v
  intro k b m s l ks ih ⟨d, p, q, hm⟩ w cs S hV hn
  rw [IsV] at hV
  obtain ⟨AL, cL, AK, cK, xs, rfl, ⟨hl1, hl2, hk1, hk2⟩, ⟨hm1, hm2, _, _, _, hks⟩, hR, hI, hK⟩ := hV
  rw [may] at hm
  by_cases hc : p + 1 ≤ 4096 ∧ 1 ≤ d ∧ headB k b m s l.length ks = true
  · rw [if_pos hc] at hm
    obtain ⟨h0, h7, _, _, _, _, _, hm1, hkk⟩ := headB_iff.1 hc.2.2
    have hk : k = 0 ∨ k = 1 ∨ k = 2 ∨ k = 3 ∨ k = 4 ∨ k = 5 ∨ k = 6 ∨ k = 7 := by omega
    rcases hk with rfl | rfl | rfl | rfl | rfl | rfl | rfl | rfl
    · exact by0
    · exact by1
    · exact by2 (by omega) (by omega)
    · refine by3 ?_
      rw [byt] at hn
      simp [str_len] at hn
      omega
    · exact by4 ih ⟨_, _, _, hm⟩ (by omega) hR hI hn
    · have := (hkk rfl).1
      exact by5 ih ⟨_, _, _, hm⟩ (by omega) ⟨by omega, by omega⟩ hks hK hR hI hn
    · exact by6 (by omega) (by omega)
    · exact by7 (by omega) (by omega)
  · rw [if_neg hc] at hm; cases hm
end Go.Proofs.Ytaapbiiiepdopaa
