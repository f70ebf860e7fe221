/- Whether a value may be: value.look, value.Check. -/
import Derived.Test.YtaapbiiiepdopaaKe
namespace Go.Proofs.Ytaapbiiiepdopaa
open Go.RowKit Mem
set_option linter.unusedVariables false

theorem headB_eq (k : Int) (b : Bool) (n : Int) (s : ByteArray) (ll : Nat) (ks : List ByteArray) : headB k b n s ll ks = (decide (0 ≤ k) && decide (k ≤ 7) && bareB k b n s ll ks.length && (decide (k < 6) || decide (1 ≤ n)) && (!decide (k = 5) || (decide (ks.length = ll) && ksOk none ks))) := by
  unfold headB bareB
  simp only [Bool.and_assoc]
def LookP (r : Option Nat) (e : Ending) : Prop := match r with
  | some q => e = .returned (.tuple #[.int .i64 (q : Int), .bool true])
  | none => ∃ z : Nat, z ≤ 4097 ∧ e = .returned (.tuple #[.int .i64 (z : Int), .bool false])
def LookC (v : V) : Prop := ∀ {w : World} {S : Nat → Prop} {cs : Array Value} {d p : Nat}, IsV w S v cs → d ≤ 32 → p ≤ 4096 →
  Calls Try.prog 52 #[.agg cs, .int .i64 (d : Int), .int .i64 (p : Int)] w fun e w' => LookP (may d p v) e ∧ Below w.heap.size w w'
theorem may_none {d p : Nat} {k : Int} {b : Bool} {n : Int} {s : ByteArray} {l : List V} {ks : List ByteArray} (h : ¬ (p + 1 ≤ 4096 ∧ 1 ≤ d ∧ headB k b n s l.length ks = true)) : may d p (.mk k b n s l ks) = none := by rw [may, if_neg h]
theorem mays_snoc {d p q : Nat} {l : List V} {i : Nat} (h : i < l.length) (hm : mays d p (l.take i) = some q) : mays d p (l.take (i + 1)) = may d q l[i] := by
  rw [List.take_succ_eq_append_getElem h, mays_app, hm]
  simp only [mays]
  cases may d q l[i] <;> rfl
theorem mays_bad {d p : Nat} {l : List V} {i : Nat} (hm : mays d p (l.take i) = none) : mays d p l = none := by
  conv => lhs; rw [← List.take_append_drop i l]
  rw [mays_app, hm]

set_option maxHeartbeats 4000000 in
set_option maxRecDepth 100000 in
/-- what is refused ahead of the call of bare -/
theorem look_no1 {w : World} {d p : Nat} {k : Int} {b : Bool} {n : Int} {s : ByteArray} {AL AK : Option Addr} {nl cL nk cK : Nat} (hd : d ≤ 32) (hp : p ≤ 4096) (h : d = 0 ∨ 4096 ≤ p ∨ k < 0 ∨ 7 < k) :
    Calls Try.prog 52 #[.agg #[.int .i64 k, .bool b, .int .i64 n, .string s, .slice AL nl cL, .slice AK nk cK], .int .i64 (d : Int), .int .i64 (p : Int)] w fun e w' => LookP none e ∧ Below w.heap.size w w' := by
  by_cases h1 : d = 0
  · subst h1
    clear h
    go_enter Try.func52, Try.ntmps52
    go_wp2
    go_ret2
    exact ⟨⟨p + 1, by omega, rfl⟩, (Below.refl _ w).alloc (Nat.le_refl _) _⟩
  · have e1 : decide ((d : Int) < 1) = false := by simp; omega
    by_cases h2 : 4096 ≤ p
    · have e2 : decide ((4096 : Int) < (p : Int) + 1) = true := by simp; omega
      clear h h1 h2
      go_enter Try.func52, Try.ntmps52
      go_wp2
      go_ret2
      exact ⟨⟨p + 1, by omega, rfl⟩, (Below.refl _ w).alloc (Nat.le_refl _) _⟩
    · have e2 : decide ((4096 : Int) < (p : Int) + 1) = false := by simp; omega
      by_cases h3 : k < 0
      · have e3 : decide (k < 0) = true := by simp [h3]
        clear h h1 h2 h3
        go_enter Try.func52, Try.ntmps52
        go_wp2
        go_ret2
        exact ⟨⟨p + 1, by omega, rfl⟩, (Below.refl _ w).alloc (Nat.le_refl _) _⟩
      · have e3 : decide (k < 0) = false := by simp; omega
        have e4 : decide (7 < k) = true := by simp; omega
        clear h h1 h2 h3
        go_enter Try.func52, Try.ntmps52
        go_wp2
        go_ret2
        exact ⟨⟨p + 1, by omega, rfl⟩, (Below.refl _ w).alloc (Nat.le_refl _) _⟩

set_option maxHeartbeats 4000000 in
set_option maxRecDepth 100000 in
theorem look_no2 {w : World} {S : Nat → Prop} {d p : Nat} {k : Int} {b : Bool} {n : Int} {s : ByteArray} {AL AK : Option Addr} {nl cL cK : Nat} {ks : List ByteArray} (hd : d ≤ 32) (hd1 : 1 ≤ d) (hp : p < 4096) (h0 : 0 ≤ k) (h7 : k ≤ 7)
    (hK : RdS w S 1 AK ks.length (ks.map .string)) (lK : ks.length ≤ 9223372036854775807) (lk : ∀ x ∈ ks, x.size ≤ 9223372036854775807) (lL : nl ≤ 9223372036854775807) (h : headB k b n s nl ks = false) :
    Calls Try.prog 52 #[.agg #[.int .i64 k, .bool b, .int .i64 n, .string s, .slice AL nl cL, .slice AK ks.length cK], .int .i64 (d : Int), .int .i64 (p : Int)] w fun e w' => LookP none e ∧ Below w.heap.size w w' := by
  have R1 := Blk.new w 25 #[.int .i64 k, .bool b, .int .i64 n, .string s, .slice AL nl cL, .slice AK ks.length cK]
  have B1 : Below w.heap.size w (w.alloc (.cells #[.int .i64 k, .bool b, .int .i64 n, .string s, .slice AL nl cL, .slice AK ks.length cK] 25)) := (Below.refl _ w).alloc (Nat.le_refl _) _
  have K1 := hK.grow B1
  have hbare : ∀ W, Calls Try.prog 69 #[.agg #[.int .i64 k, .bool b, .int .i64 n, .string s, .slice AL nl cL, .slice AK ks.length cK]] W _ := fun W => bare_any (w := W) h0 h7
  have hh := headB_eq k b n s nl ks
  rw [h] at hh
  have HH := hide hh
  have HB := hide hbare
  have e1 : decide ((d : Int) < 1) = false := by simp; omega
  have e2 : decide ((4096 : Int) < (p : Int) + 1) = false := by simp; omega
  have e3 : decide (k < 0) = false := by simp; omega
  have e4 : decide (7 < k) = false := by simp; omega
  clear hh h hbare hK
  go_enter Try.func52, Try.ntmps52
  go_wp2_with fail
  generalize w.alloc (.cells #[.int .i64 k, .bool b, .int .i64 n, .string s, .slice AL nl cL, .slice AK ks.length cK] 25) = W at R1 B1 K1 ⊢
  generalize w.heap.size = R at R1 ⊢
  refine (HB.out W).mono ?_
  rintro e w1 ⟨rfl, hb1⟩
  have R2 := R1.below hb1 R1.lt
  have K2 := K1.grow hb1
  have B2 := B1.trans (hb1.mono B1.size)
  have f0 : w1.cell? ⟨R, 0, none⟩ = some (.int .i64 k) := blkc' R2 rfl
  have f2 : w1.cell? ⟨R, 2, none⟩ = some (.int .i64 n) := blkc' R2 rfl
  have f4 : w1.cell? ⟨R, 4, none⟩ = some (.slice AL nl cL) := blkc' R2 rfl
  have f5 : w1.cell? ⟨R, 5, none⟩ = some (.slice AK ks.length cK) := blkc' R2 rfl
  clear R1 B1 K1 hb1 HB R2
  have hh := HH.out
  clear HH
  by_cases c1 : bareB k b n s nl ks.length = true
  · rw [c1]
    simp only [h0, h7, decide_true, c1, Bool.true_and] at hh
    by_cases c2 : 6 ≤ k
    · have e6 : decide (6 ≤ k) = true := by simp [c2]
      by_cases c3 : n < 1
      · have e7 : decide (n < 1) = true := by simp [c3]
        clear hh c1 c2 c3
        go_wp2
        go_ret2
        exact ⟨⟨p + 1, by omega, rfl⟩, B2⟩
      · exfalso
        have a1 : decide (k < 6) = false := by simp; omega
        have a2 : decide (1 ≤ n) = true := by simp; omega
        have a3 : decide (k = 5) = false := by simp; omega
        simp [a1, a2, a3] at hh
    · have e6 : decide (6 ≤ k) = false := by simp; omega
      have a1 : decide (k < 6) = true := by simp; omega
      simp only [a1, Bool.true_or, Bool.true_and] at hh
      by_cases c3 : k = 5
      · subst c3
        simp only [decide_true, Bool.not_true, Bool.false_or] at hh
        by_cases c4 : ks.length = nl
        · have e7 : ((ks.length : Int) != (nl : Int)) = false := by simp [c4]
          simp only [c4, decide_true, Bool.true_and] at hh
          have hkeys := keys_any (c := cK) ks K2 lK lk
          rw [← hh] at hkeys
          have HK := hide hkeys
          have C4 := hide c4
          clear hh c1 c2 c4 hkeys a1
          go_wp2_with (go_at_call 70; refine HK.out.mono ?_; rintro e w2 ⟨rfl, rfl⟩)
          go_ret2
          exact ⟨⟨p + 1, by omega, rfl⟩, B2⟩
        · have e7 : ((ks.length : Int) != (nl : Int)) = true := by simp; omega
          clear hh c1 c2 c4 a1
          go_wp2
          go_ret2
          exact ⟨⟨p + 1, by omega, rfl⟩, B2⟩
      · exfalso
        have a3 : decide (k = 5) = false := by simp [c3]
        simp [a3] at hh
  · have c1' : bareB k b n s nl ks.length = false := by simpa using c1
    rw [c1']
    clear hh c1 c1'
    go_wp2
    go_ret2
    exact ⟨⟨p + 1, by omega, rfl⟩, B2⟩


set_option maxHeartbeats 8000000 in
set_option maxRecDepth 100000 in
theorem look_yes {w : World} {S : Nat → Prop} {d p : Nat} {k : Int} {b : Bool} {n : Int} {s : ByteArray} {AL AK : Option Addr} {cL cK : Nat} {l : List V} {ks : List ByteArray} {xs : List Value} (ih : ∀ v ∈ l, LookC v) (hd : d ≤ 32) (hd1 : 1 ≤ d) (hp : p < 4096) (h0 : 0 ≤ k) (h7 : k ≤ 7)
    (hK : RdS w S 1 AK ks.length (ks.map .string)) (lK : ks.length ≤ 9223372036854775807) (lk : ∀ x ∈ ks, x.size ≤ 9223372036854775807) (lL : l.length ≤ 9223372036854775807) (hR : RdS w S 6 AL l.length xs) (hI : IsVs w S l xs)
    (h1 : bareB k b n s l.length ks.length = true) (h2 : k < 6 ∨ 1 ≤ n) (h3 : k = 5 → ks.length = l.length ∧ ksOk none ks = true) :
    Calls Try.prog 52 #[.agg #[.int .i64 k, .bool b, .int .i64 n, .string s, .slice AL l.length cL, .slice AK ks.length cK], .int .i64 (d : Int), .int .i64 (p : Int)] w fun e w' => LookP (mays (d - 1) (p + 1) l) e ∧ Below w.heap.size w w' := by
  have R1 := Blk.new w 25 #[.int .i64 k, .bool b, .int .i64 n, .string s, .slice AL l.length cL, .slice AK ks.length cK]
  have B1 : Below w.heap.size w (w.alloc (.cells #[.int .i64 k, .bool b, .int .i64 n, .string s, .slice AL l.length cL, .slice AK ks.length cK] 25)) := (Below.refl _ w).alloc (Nat.le_refl _) _
  have K1 := hK.grow B1
  have I1 := hI.grow B1
  have L1 := hR.grow B1
  have hbare : ∀ W, Calls Try.prog 69 #[.agg #[.int .i64 k, .bool b, .int .i64 n, .string s, .slice AL l.length cL, .slice AK ks.length cK]] W _ := fun W => bare_any (w := W) h0 h7
  rw [h1] at hbare
  have HB := hide hbare
  have H3 := hide h3
  have e1 : decide ((d : Int) < 1) = false := by simp; omega
  have e2 : decide ((4096 : Int) < (p : Int) + 1) = false := by simp; omega
  have e3 : decide (k < 0) = false := by simp; omega
  have e4 : decide (7 < k) = false := by simp; omega
  clear hbare hK hI hR h1 h3
  go_enter Try.func52, Try.ntmps52
  go_wp2_with fail
  generalize w.alloc (.cells #[.int .i64 k, .bool b, .int .i64 n, .string s, .slice AL l.length cL, .slice AK ks.length cK] 25) = W at R1 B1 K1 I1 L1 ⊢
  generalize w.heap.size = R at R1 ⊢
  refine (HB.out W).mono ?_
  rintro e w1 ⟨rfl, hb1⟩
  have R2 := R1.below hb1 R1.lt
  have K2 := K1.grow hb1
  have I2 := I1.grow hb1
  have L2 := L1.grow hb1
  have B2 := B1.trans (hb1.mono B1.size)
  have f0 : w1.cell? ⟨R, 0, none⟩ = some (.int .i64 k) := blkc' R2 rfl
  have f2 : w1.cell? ⟨R, 2, none⟩ = some (.int .i64 n) := blkc' R2 rfl
  have f4 : w1.cell? ⟨R, 4, none⟩ = some (.slice AL l.length cL) := blkc' R2 rfl
  have f5 : w1.cell? ⟨R, 5, none⟩ = some (.slice AK ks.length cK) := blkc' R2 rfl
  clear R1 B1 K1 I1 L1 hb1 HB
  have hc : (6 ≤ k ∧ 1 ≤ n) ∨ k = 5 ∨ (k < 6 ∧ k ≠ 5) := by omega
  have HI2 := hide I2
  have HL2 := hide L2
  have HR2 := hide R2
  have HB2 := hide B2
  clear I2 L2 R2 B2
  rcases hc with hc | hc | hc
  · have e6 : decide (6 ≤ k) = true := by simp; omega
    have e7 : decide (n < 1) = false := by simp; omega
    have e8 : (k == 5) = false := by simp; omega
    clear h2 hc H3 K2 f5
    go_wp2
    go_loopg [2, 8, 9] l.length (fun g pv okv iv wr => ∃ (i q : Nat) (ok : Bool), g = l.length - i ∧ pv = .int .i64 (q : Nat) ∧ okv = .bool ok ∧ iv = .int .i64 (i : Nat) ∧ i ≤ l.length ∧ q ≤ 4097 ∧ (ok = true → q ≤ 4096) ∧ Hid ((ok = true → mays (d - 1) (p + 1) (l.take i) = some q) ∧ (ok = false → mays (d - 1) (p + 1) l = none)) ∧ Hid (Below w1.heap.size w1 wr))
    case atStart => exact ⟨0, p + 1, true, rfl, by go_num, rfl, rfl, Nat.zero_le _, by omega, fun _ => by omega, hide ⟨(fun _ => by simp [mays]), (fun h => by cases h)⟩, Below.refl _ _⟩
    case round =>
      obtain ⟨i, q, ok, rfl, rfl, rfl, rfl, hi, hq, hq2, hE, hB⟩ := hrel
      have f4 : wr.cell? ⟨R, 4, none⟩ = some (.slice AL l.length cL) := blkc' (HR2.out.below hB.out HR2.out.lt) rfl
      have hBw := hide (HB2.out.trans (hB.out.mono HB2.out.size))
      cases ok with
      | false =>
        have hm := hE.out.2 rfl
        have hP : LookP (mays (d - 1) (p + 1) l) (.returned (.tuple #[.int .i64 (q : Int), .bool false])) := by rw [hm]; exact ⟨q, hq, rfl⟩
        have HP := hide hP
        clear hE hm hP hq2
        by_cases hlt : i < l.length
        · go_wp2
          go_ret2
          exact ⟨HP.out, hBw.out⟩
        · go_wp2
          go_ret2
          exact ⟨HP.out, hBw.out⟩
      | true =>
        have hq3 := hq2 rfl
        have hm := hE.out.1 rfl
        clear hq2 hq hE
        by_cases hlt : i < l.length
        · have hm1 := mays_snoc hlt hm
          have hbad : may (d - 1) q l[i] = none → mays (d - 1) (p + 1) l = none := fun h => mays_bad (hm1.trans h)
          have HM := hide (And.intro hm1 hbad)
          clear hm hm1 hbad
          obtain ⟨b2, o2, cs2, rfl, _, hb2, hV2, hc2⟩ := (HI2.out.grow hB.out).get (HL2.out.grow hB.out) hlt
          obtain ⟨k2, bb2, m2, s2, AL2, nL2, cL2, AK2, nK2, cK2, rfl⟩ := hV2.shape
          have g0 : wr.cell? ⟨b2, o2 + i * 6, none⟩ = some (.int .i64 k2) := hc2 0 (by decide)
          have g1 : wr.cell? ⟨b2, o2 + i * 6 + 1, none⟩ = some (.bool bb2) := hc2 1 (by decide)
          have g2 : wr.cell? ⟨b2, o2 + i * 6 + 2, none⟩ = some (.int .i64 m2) := hc2 2 (by decide)
          have g3 : wr.cell? ⟨b2, o2 + i * 6 + 3, none⟩ = some (.string s2) := hc2 3 (by decide)
          have g4 : wr.cell? ⟨b2, o2 + i * 6 + 4, none⟩ = some (.slice AL2 nL2 cL2) := hc2 4 (by decide)
          have g5 : wr.cell? ⟨b2, o2 + i * 6 + 5, none⟩ = some (.slice AK2 nK2 cK2) := hc2 5 (by decide)
          have HV2 := hide hV2
          clear hc2 hV2
          go_wp2_with fail
          rw [show ((d : Int) - 1) = ((d - 1 : Nat) : Int) by omega]
          refine (ih l[i] (List.getElem_mem hlt) HV2.out (by omega) hq3).mono ?_
          rintro e w5 ⟨he, hb5⟩
          have hB5 := hide (hB.out.trans (hb5.mono hB.out.size))
          clear hb5 HV2 g0 g1 g2 g3 g4 g5
          cases hmv : may (d - 1) q l[i] with
          | none =>
            rw [hmv] at he
            obtain ⟨z, hz, rfl⟩ := he
            have hbad := HM.out.2 hmv
            have HBad := hide hbad
            clear hmv hbad HM
            go_wp2_with fail
            go_roundg (l.length - (i + 1))
            case measure => omega
            case rel => exact ⟨i + 1, z, false, rfl, rfl, rfl, by go_num, by omega, hz, (fun h => by cases h), hide ⟨(fun h => by cases h), fun _ => HBad.out⟩, hB5⟩
          | some q' =>
            rw [hmv] at he
            have he' : e = .returned (.tuple #[.int .i64 (q' : Int), .bool true]) := he
            subst he'
            have hq' := may_ge _ _ _ _ hmv
            have hgood := HM.out.1.trans hmv
            have HG := hide hgood
            clear hmv hgood HM he
            go_wp2_with fail
            go_roundg (l.length - (i + 1))
            case measure => omega
            case rel => exact ⟨i + 1, q', true, rfl, rfl, rfl, by go_num, by omega, by omega, (fun _ => by omega), hide ⟨fun _ => HG.out, (fun h => by cases h)⟩, hB5⟩
        · have hil : mays (d - 1) (p + 1) l = some q := by
            rw [List.take_of_length_le (by omega)] at hm
            exact hm
          have hP : LookP (mays (d - 1) (p + 1) l) (.returned (.tuple #[.int .i64 (q : Int), .bool true])) := by rw [hil]; rfl
          have HP := hide hP
          clear hm hil hP
          go_wp2
          go_ret2
          exact ⟨HP.out, hBw.out⟩
  · subst hc
    have e6 : decide ((6 : Int) ≤ 5) = false := by decide
    obtain ⟨h4, h5⟩ := H3.out rfl
    have hkeys := keys_any (c := cK) ks K2 lK lk
    rw [h5] at hkeys
    have e7 : ((ks.length : Int) != (l.length : Int)) = false := by simp [h4]
    have HK := hide hkeys
    have H4 := hide h4
    clear h2 H3 K2 hkeys h4 h5 f2
    go_wp2_with (go_at_call 70; refine HK.out.mono ?_; rintro e w2 ⟨rfl, rfl⟩)
    go_loopg [2, 8, 9] l.length (fun g pv okv iv wr => ∃ (i q : Nat) (ok : Bool), g = l.length - i ∧ pv = .int .i64 (q : Nat) ∧ okv = .bool ok ∧ iv = .int .i64 (i : Nat) ∧ i ≤ l.length ∧ q ≤ 4097 ∧ (ok = true → q ≤ 4096) ∧ Hid ((ok = true → mays (d - 1) (p + 1) (l.take i) = some q) ∧ (ok = false → mays (d - 1) (p + 1) l = none)) ∧ Hid (Below w1.heap.size w1 wr))
    case atStart => exact ⟨0, p + 1, true, rfl, by go_num, rfl, rfl, Nat.zero_le _, by omega, fun _ => by omega, hide ⟨(fun _ => by simp [mays]), (fun h => by cases h)⟩, Below.refl _ _⟩
    case round =>
      obtain ⟨i, q, ok, rfl, rfl, rfl, rfl, hi, hq, hq2, hE, hB⟩ := hrel
      have f4 : wr.cell? ⟨R, 4, none⟩ = some (.slice AL l.length cL) := blkc' (HR2.out.below hB.out HR2.out.lt) rfl
      have hBw := hide (HB2.out.trans (hB.out.mono HB2.out.size))
      cases ok with
      | false =>
        have hm := hE.out.2 rfl
        have hP : LookP (mays (d - 1) (p + 1) l) (.returned (.tuple #[.int .i64 (q : Int), .bool false])) := by rw [hm]; exact ⟨q, hq, rfl⟩
        have HP := hide hP
        clear hE hm hP hq2
        by_cases hlt : i < l.length
        · go_wp2
          go_ret2
          exact ⟨HP.out, hBw.out⟩
        · go_wp2
          go_ret2
          exact ⟨HP.out, hBw.out⟩
      | true =>
        have hq3 := hq2 rfl
        have hm := hE.out.1 rfl
        clear hq2 hq hE
        by_cases hlt : i < l.length
        · have hm1 := mays_snoc hlt hm
          have hbad : may (d - 1) q l[i] = none → mays (d - 1) (p + 1) l = none := fun h => mays_bad (hm1.trans h)
          have HM := hide (And.intro hm1 hbad)
          clear hm hm1 hbad
          obtain ⟨b2, o2, cs2, rfl, _, hb2, hV2, hc2⟩ := (HI2.out.grow hB.out).get (HL2.out.grow hB.out) hlt
          obtain ⟨k2, bb2, m2, s2, AL2, nL2, cL2, AK2, nK2, cK2, rfl⟩ := hV2.shape
          have g0 : wr.cell? ⟨b2, o2 + i * 6, none⟩ = some (.int .i64 k2) := hc2 0 (by decide)
          have g1 : wr.cell? ⟨b2, o2 + i * 6 + 1, none⟩ = some (.bool bb2) := hc2 1 (by decide)
          have g2 : wr.cell? ⟨b2, o2 + i * 6 + 2, none⟩ = some (.int .i64 m2) := hc2 2 (by decide)
          have g3 : wr.cell? ⟨b2, o2 + i * 6 + 3, none⟩ = some (.string s2) := hc2 3 (by decide)
          have g4 : wr.cell? ⟨b2, o2 + i * 6 + 4, none⟩ = some (.slice AL2 nL2 cL2) := hc2 4 (by decide)
          have g5 : wr.cell? ⟨b2, o2 + i * 6 + 5, none⟩ = some (.slice AK2 nK2 cK2) := hc2 5 (by decide)
          have HV2 := hide hV2
          clear hc2 hV2
          go_wp2_with fail
          rw [show ((d : Int) - 1) = ((d - 1 : Nat) : Int) by omega]
          refine (ih l[i] (List.getElem_mem hlt) HV2.out (by omega) hq3).mono ?_
          rintro e w5 ⟨he, hb5⟩
          have hB5 := hide (hB.out.trans (hb5.mono hB.out.size))
          clear hb5 HV2 g0 g1 g2 g3 g4 g5
          cases hmv : may (d - 1) q l[i] with
          | none =>
            rw [hmv] at he
            obtain ⟨z, hz, rfl⟩ := he
            have hbad := HM.out.2 hmv
            have HBad := hide hbad
            clear hmv hbad HM
            go_wp2_with fail
            go_roundg (l.length - (i + 1))
            case measure => omega
            case rel => exact ⟨i + 1, z, false, rfl, rfl, rfl, by go_num, by omega, hz, (fun h => by cases h), hide ⟨(fun h => by cases h), fun _ => HBad.out⟩, hB5⟩
          | some q' =>
            rw [hmv] at he
            have he' : e = .returned (.tuple #[.int .i64 (q' : Int), .bool true]) := he
            subst he'
            have hq' := may_ge _ _ _ _ hmv
            have hgood := HM.out.1.trans hmv
            have HG := hide hgood
            clear hmv hgood HM he
            go_wp2_with fail
            go_roundg (l.length - (i + 1))
            case measure => omega
            case rel => exact ⟨i + 1, q', true, rfl, rfl, rfl, by go_num, by omega, by omega, (fun _ => by omega), hide ⟨fun _ => HG.out, (fun h => by cases h)⟩, hB5⟩
        · have hil : mays (d - 1) (p + 1) l = some q := by
            rw [List.take_of_length_le (by omega)] at hm
            exact hm
          have hP : LookP (mays (d - 1) (p + 1) l) (.returned (.tuple #[.int .i64 (q : Int), .bool true])) := by rw [hil]; rfl
          have HP := hide hP
          clear hm hil hP
          go_wp2
          go_ret2
          exact ⟨HP.out, hBw.out⟩
  · have e6 : decide (6 ≤ k) = false := by simp; omega
    have e8 : (k == 5) = false := by simp; omega
    clear h2 hc H3 K2 f5 f2
    go_wp2
    go_loopg [2, 8, 9] l.length (fun g pv okv iv wr => ∃ (i q : Nat) (ok : Bool), g = l.length - i ∧ pv = .int .i64 (q : Nat) ∧ okv = .bool ok ∧ iv = .int .i64 (i : Nat) ∧ i ≤ l.length ∧ q ≤ 4097 ∧ (ok = true → q ≤ 4096) ∧ Hid ((ok = true → mays (d - 1) (p + 1) (l.take i) = some q) ∧ (ok = false → mays (d - 1) (p + 1) l = none)) ∧ Hid (Below w1.heap.size w1 wr))
    case atStart => exact ⟨0, p + 1, true, rfl, by go_num, rfl, rfl, Nat.zero_le _, by omega, fun _ => by omega, hide ⟨(fun _ => by simp [mays]), (fun h => by cases h)⟩, Below.refl _ _⟩
    case round =>
      obtain ⟨i, q, ok, rfl, rfl, rfl, rfl, hi, hq, hq2, hE, hB⟩ := hrel
      have f4 : wr.cell? ⟨R, 4, none⟩ = some (.slice AL l.length cL) := blkc' (HR2.out.below hB.out HR2.out.lt) rfl
      have hBw := hide (HB2.out.trans (hB.out.mono HB2.out.size))
      cases ok with
      | false =>
        have hm := hE.out.2 rfl
        have hP : LookP (mays (d - 1) (p + 1) l) (.returned (.tuple #[.int .i64 (q : Int), .bool false])) := by rw [hm]; exact ⟨q, hq, rfl⟩
        have HP := hide hP
        clear hE hm hP hq2
        by_cases hlt : i < l.length
        · go_wp2
          go_ret2
          exact ⟨HP.out, hBw.out⟩
        · go_wp2
          go_ret2
          exact ⟨HP.out, hBw.out⟩
      | true =>
        have hq3 := hq2 rfl
        have hm := hE.out.1 rfl
        clear hq2 hq hE
        by_cases hlt : i < l.length
        · have hm1 := mays_snoc hlt hm
          have hbad : may (d - 1) q l[i] = none → mays (d - 1) (p + 1) l = none := fun h => mays_bad (hm1.trans h)
          have HM := hide (And.intro hm1 hbad)
          clear hm hm1 hbad
          obtain ⟨b2, o2, cs2, rfl, _, hb2, hV2, hc2⟩ := (HI2.out.grow hB.out).get (HL2.out.grow hB.out) hlt
          obtain ⟨k2, bb2, m2, s2, AL2, nL2, cL2, AK2, nK2, cK2, rfl⟩ := hV2.shape
          have g0 : wr.cell? ⟨b2, o2 + i * 6, none⟩ = some (.int .i64 k2) := hc2 0 (by decide)
          have g1 : wr.cell? ⟨b2, o2 + i * 6 + 1, none⟩ = some (.bool bb2) := hc2 1 (by decide)
          have g2 : wr.cell? ⟨b2, o2 + i * 6 + 2, none⟩ = some (.int .i64 m2) := hc2 2 (by decide)
          have g3 : wr.cell? ⟨b2, o2 + i * 6 + 3, none⟩ = some (.string s2) := hc2 3 (by decide)
          have g4 : wr.cell? ⟨b2, o2 + i * 6 + 4, none⟩ = some (.slice AL2 nL2 cL2) := hc2 4 (by decide)
          have g5 : wr.cell? ⟨b2, o2 + i * 6 + 5, none⟩ = some (.slice AK2 nK2 cK2) := hc2 5 (by decide)
          have HV2 := hide hV2
          clear hc2 hV2
          go_wp2_with fail
          rw [show ((d : Int) - 1) = ((d - 1 : Nat) : Int) by omega]
          refine (ih l[i] (List.getElem_mem hlt) HV2.out (by omega) hq3).mono ?_
          rintro e w5 ⟨he, hb5⟩
          have hB5 := hide (hB.out.trans (hb5.mono hB.out.size))
          clear hb5 HV2 g0 g1 g2 g3 g4 g5
          cases hmv : may (d - 1) q l[i] with
          | none =>
            rw [hmv] at he
            obtain ⟨z, hz, rfl⟩ := he
            have hbad := HM.out.2 hmv
            have HBad := hide hbad
            clear hmv hbad HM
            go_wp2_with fail
            go_roundg (l.length - (i + 1))
            case measure => omega
            case rel => exact ⟨i + 1, z, false, rfl, rfl, rfl, by go_num, by omega, hz, (fun h => by cases h), hide ⟨(fun h => by cases h), fun _ => HBad.out⟩, hB5⟩
          | some q' =>
            rw [hmv] at he
            have he' : e = .returned (.tuple #[.int .i64 (q' : Int), .bool true]) := he
            subst he'
            have hq' := may_ge _ _ _ _ hmv
            have hgood := HM.out.1.trans hmv
            have HG := hide hgood
            clear hmv hgood HM he
            go_wp2_with fail
            go_roundg (l.length - (i + 1))
            case measure => omega
            case rel => exact ⟨i + 1, q', true, rfl, rfl, rfl, by go_num, by omega, by omega, (fun _ => by omega), hide ⟨fun _ => HG.out, (fun h => by cases h)⟩, hB5⟩
        · have hil : mays (d - 1) (p + 1) l = some q := by
            rw [List.take_of_length_le (by omega)] at hm
            exact hm
          have hP : LookP (mays (d - 1) (p + 1) l) (.returned (.tuple #[.int .i64 (q : Int), .bool true])) := by rw [hil]; rfl
          have HP := hide hP
          clear hm hil hP
          go_wp2
          go_ret2
          exact ⟨HP.out, hBw.out⟩

theorem look_any (v : V) : LookC v := by
  refine V.ind (P := LookC) ?_ v
  intro k b n s l ks ih w S cs d p hV hd hp
  rw [IsV] at hV
  obtain ⟨AL, cL, AK, cK, xs, rfl, ⟨hl1, hl2, hk1, hk2⟩, ⟨_, _, _, _, _, hks⟩, hR, hI, hK⟩ := hV
  by_cases hc : p + 1 ≤ 4096 ∧ 1 ≤ d ∧ headB k b n s l.length ks = true
  · rw [may, if_pos hc]
    obtain ⟨c1, c2, c3⟩ := hc
    obtain ⟨h0, h7, _, _, _, _, _, h8, h9⟩ := headB_iff.1 c3
    rw [headB_eq] at c3
    simp only [Bool.and_eq_true] at c3
    exact look_yes ih hd c2 (by omega) h0 h7 hK (by omega) hks (by omega) hR hI c3.1.1.2 h8 h9
  · rw [may, if_neg hc]
    by_cases h : d = 0 ∨ 4096 ≤ p ∨ k < 0 ∨ 7 < k
    · exact look_no1 hd hp h
    · refine look_no2 hd (by omega) (by omega) (by omega) (by omega) hK (by omega) hks (by omega) ?_
      cases hh : headB k b n s l.length ks with
      | false => rfl
      | true => exact absurd ⟨by omega, by omega, hh⟩ hc

theorem check_any {v : V} {w : World} {S : Nat → Prop} {cs : Array Value} (hV : IsV w S v cs) :
    Calls Try.prog 34 #[.agg cs] w fun e w' => e = .returned (.int .i64 (if mayB v = true then 0 else 20)) ∧ Below w.heap.size w w' := by
  have hl := fun o => look_any v (d := 32) (p := 0) (hV.alloc o) (Nat.le_refl _) (Nat.zero_le _)
  have hsh := hV.shape
  obtain ⟨k, b, n, s, AL, nL, cL, AK, nK, cK, rfl⟩ := hsh
  have HL := hide (hl (.cells #[.int .i64 k, .bool b, .int .i64 n, .string s, .slice AL nL cL, .slice AK nK cK] 25))
  have HB : Hid (Below w.heap.size w (w.alloc (.cells #[.int .i64 k, .bool b, .int .i64 n, .string s, .slice AL nL cL, .slice AK nK cK] 25))) := (Below.refl _ w).alloc (Nat.le_refl _) _
  clear hl hV
  have e1 : mayB v = (may 32 0 v).isSome := rfl
  rw [e1]
  clear e1
  cases hm : may 32 0 v with
  | none =>
    rw [hm] at HL
    rw [if_neg (by simp)]
    clear hm
    go_enter Try.func34, Try.ntmps34
    go_wp2_with fail
    refine HL.out.mono ?_
    rintro e w5 ⟨⟨z, hz, rfl⟩, hb5⟩
    have HB5 := hide (HB.out.trans (hb5.mono HB.out.size))
    clear hb5
    go_wp2
    go_ret
    exact ⟨rfl, HB5.out⟩
  | some q =>
    rw [hm] at HL
    rw [if_pos (by simp)]
    clear hm
    go_enter Try.func34, Try.ntmps34
    go_wp2_with fail
    refine HL.out.mono ?_
    rintro e w5 ⟨he, hb5⟩
    have HB5 := hide (HB.out.trans (hb5.mono HB.out.size))
    have he' : e = .returned (.tuple #[.int .i64 (q : Int), .bool true]) := he
    subst he'
    clear hb5 he
    go_wp2
    go_ret
    exact ⟨rfl, HB5.out⟩
end Go.Proofs.Ytaapbiiiepdopaa
