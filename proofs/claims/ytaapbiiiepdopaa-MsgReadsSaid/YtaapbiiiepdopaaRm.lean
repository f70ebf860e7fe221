/- Whether a value may be, by the reference: wattleref03.may, May. -/
import Derived.Test.YtaapbiiiepdopaaLo
namespace Go.Proofs.Ytaapbiiiepdopaa
open Go.RowKit Mem
set_option linter.unusedVariables false

def MayC (v : V) : Prop := ∀ {w : World} {S : Nat → Prop} {cs : Array Value} {d p : Nat}, IsV w S v cs → d ≤ 32 → p ≤ 4096 →
  Calls Try.prog 54 #[.agg cs, .int .i64 (d : Int), .int .i64 (p : Int)] w fun e w' => LookP (may d p v) e ∧ Below w.heap.size w w'

set_option maxHeartbeats 4000000 in
set_option maxRecDepth 100000 in
theorem rmay_no1 {w : World} {d p : Nat} {k : Int} {b : Bool} {n : Int} {s : ByteArray} {AL AK : Option Addr} {nl cL nk cK : Nat} (hd : d ≤ 32) (hp : p ≤ 4096) (h : d = 0 ∨ 4096 ≤ p ∨ k < 0 ∨ 7 < k) :
    Calls Try.prog 54 #[.agg #[.int .i64 k, .bool b, .int .i64 n, .string s, .slice AL nl cL, .slice AK nk cK], .int .i64 (d : Int), .int .i64 (p : Int)] w fun e w' => LookP none e ∧ Below w.heap.size w w' := by
  by_cases h2 : 4096 ≤ p
  · have e2 : decide ((4096 : Int) < (p : Int) + 1) = true := by simp; omega
    clear h h2
    go_enter Try.func54, Try.ntmps54
    go_wp2
    go_ret2
    exact ⟨⟨p + 1, by omega, rfl⟩, (Below.refl _ w).alloc (Nat.le_refl _) _⟩
  · have e2 : decide ((4096 : Int) < (p : Int) + 1) = false := by simp; omega
    by_cases h1 : d = 0
    · subst h1
      clear h h2
      go_enter Try.func54, Try.ntmps54
      go_wp2
      go_ret2
      exact ⟨⟨p + 1, by omega, rfl⟩, (Below.refl _ w).alloc (Nat.le_refl _) _⟩
    · have e1 : decide ((d : Int) < 1) = false := by simp; omega
      by_cases h3 : k < 0
      · have e3 : decide (k < 0) = true := by simp [h3]
        clear h h1 h2 h3
        go_enter Try.func54, Try.ntmps54
        go_wp2
        go_ret2
        exact ⟨⟨p + 1, by omega, rfl⟩, (Below.refl _ w).alloc (Nat.le_refl _) _⟩
      · have e3 : decide (k < 0) = false := by simp; omega
        have e4 : decide (7 < k) = true := by simp; omega
        clear h h1 h2 h3
        go_enter Try.func54, Try.ntmps54
        go_wp2
        go_ret2
        exact ⟨⟨p + 1, by omega, rfl⟩, (Below.refl _ w).alloc (Nat.le_refl _) _⟩

set_option maxHeartbeats 4000000 in
set_option maxRecDepth 100000 in
theorem rmay_no2 {w : World} {d p : Nat} {k : Int} {b : Bool} {n : Int} {s : ByteArray} {AL AK : Option Addr} {nl cL cK nk : Nat} (hd : d ≤ 32) (hd1 : 1 ≤ d) (hp : p < 4096) (h0 : 0 ≤ k) (h7 : k ≤ 7) (lK : nk ≤ 9223372036854775807) (lL : nl ≤ 9223372036854775807)
    (h : bareB k b n s nl nk = false ∨ (6 ≤ k ∧ n < 1) ∨ (k = 5 ∧ nk ≠ nl)) :
    Calls Try.prog 54 #[.agg #[.int .i64 k, .bool b, .int .i64 n, .string s, .slice AL nl cL, .slice AK nk cK], .int .i64 (d : Int), .int .i64 (p : Int)] w fun e w' => LookP none e ∧ Below w.heap.size w w' := by
  have R1 := Blk.new w 25 #[.int .i64 k, .bool b, .int .i64 n, .string s, .slice AL nl cL, .slice AK nk cK]
  have B1 : Below w.heap.size w (w.alloc (.cells #[.int .i64 k, .bool b, .int .i64 n, .string s, .slice AL nl cL, .slice AK nk cK] 25)) := (Below.refl _ w).alloc (Nat.le_refl _) _
  have hbare : ∀ W, Calls Try.prog 71 #[.agg #[.int .i64 k, .bool b, .int .i64 n, .string s, .slice AL nl cL, .slice AK nk cK]] W _ := fun W => unused_any (w := W) h0 h7
  have HH := hide h
  have HB := hide hbare
  have e1 : decide ((d : Int) < 1) = false := by simp; omega
  have e2 : decide ((4096 : Int) < (p : Int) + 1) = false := by simp; omega
  have e3 : decide (k < 0) = false := by simp; omega
  have e4 : decide (7 < k) = false := by simp; omega
  clear h hbare
  go_enter Try.func54, Try.ntmps54
  go_wp2_with fail
  generalize w.alloc (.cells #[.int .i64 k, .bool b, .int .i64 n, .string s, .slice AL nl cL, .slice AK nk cK] 25) = W at R1 B1 ⊢
  generalize w.heap.size = R at R1 ⊢
  refine (HB.out W).mono ?_
  rintro e w1 ⟨rfl, hb1⟩
  have R2 := R1.below hb1 R1.lt
  have B2 := B1.trans (hb1.mono B1.size)
  have f0 : w1.cell? ⟨R, 0, none⟩ = some (.int .i64 k) := blkc' R2 rfl
  have f2 : w1.cell? ⟨R, 2, none⟩ = some (.int .i64 n) := blkc' R2 rfl
  have f4 : w1.cell? ⟨R, 4, none⟩ = some (.slice AL nl cL) := blkc' R2 rfl
  have f5 : w1.cell? ⟨R, 5, none⟩ = some (.slice AK nk cK) := blkc' R2 rfl
  clear R1 B1 hb1 HB R2
  have hh := HH.out
  clear HH
  by_cases c1 : bareB k b n s nl nk = true
  · rw [c1] at hh
    rw [c1]
    have hh : (6 ≤ k ∧ n < 1) ∨ (k = 5 ∧ nk ≠ nl) := by
      rcases hh with h | h
      · cases h
      · exact h
    clear c1
    rcases hh with ⟨c2, c3⟩ | ⟨rfl, c3⟩
    · have e7 : decide (n < 1) = true := by simp [c3]
      have hk : k = 6 ∨ k = 7 := by omega
      clear c2 c3
      rcases hk with rfl | rfl
      · go_wp2
        go_ret2
        exact ⟨⟨p + 1, by omega, rfl⟩, B2⟩
      · go_wp2
        go_ret2
        exact ⟨⟨p + 1, by omega, rfl⟩, B2⟩
    · have e7 : ((nk : Int) != (nl : Int)) = true := by simp; omega
      clear c3
      go_wp2
      go_ret2
      exact ⟨⟨p + 1, by omega, rfl⟩, B2⟩
  · have c1' : bareB k b n s nl nk = false := by simpa using c1
    rw [c1']
    clear hh c1 c1'
    go_wp2
    go_ret2
    exact ⟨⟨p + 1, by omega, rfl⟩, B2⟩

set_option maxHeartbeats 8000000 in
set_option maxRecDepth 100000 in
theorem rmay_yes {w : World} {S : Nat → Prop} {d p : Nat} {k : Int} {b : Bool} {n : Int} {s : ByteArray} {AL AK : Option Addr} {cL cK : Nat} {l : List V} {ks : List ByteArray} {xs : List Value} (ih : ∀ v ∈ l, MayC v) (hd : d ≤ 32) (hd1 : 1 ≤ d) (hp : p < 4096) (h0 : 0 ≤ k) (h7 : k ≤ 7)
    (lK : ks.length ≤ 9223372036854775807) (lL : l.length ≤ 9223372036854775807) (hR : RdS w S 6 AL l.length xs) (hI : IsVs w S l xs)
    (h1 : bareB k b n s l.length ks.length = true) (h2 : k < 6 ∨ 1 ≤ n) (h3 : k ≠ 5) :
    Calls Try.prog 54 #[.agg #[.int .i64 k, .bool b, .int .i64 n, .string s, .slice AL l.length cL, .slice AK ks.length cK], .int .i64 (d : Int), .int .i64 (p : Int)] w fun e w' => LookP (mays (d - 1) (p + 1) l) e ∧ Below w.heap.size w w' := by
  have R1 := Blk.new w 25 #[.int .i64 k, .bool b, .int .i64 n, .string s, .slice AL l.length cL, .slice AK ks.length cK]
  have B1 : Below w.heap.size w (w.alloc (.cells #[.int .i64 k, .bool b, .int .i64 n, .string s, .slice AL l.length cL, .slice AK ks.length cK] 25)) := (Below.refl _ w).alloc (Nat.le_refl _) _
  have I1 := hI.grow B1
  have L1 := hR.grow B1
  have hbare : ∀ W, Calls Try.prog 71 #[.agg #[.int .i64 k, .bool b, .int .i64 n, .string s, .slice AL l.length cL, .slice AK ks.length cK]] W _ := fun W => unused_any (w := W) h0 h7
  rw [h1] at hbare
  have HB := hide hbare
  have e1 : decide ((d : Int) < 1) = false := by simp; omega
  have e2 : decide ((4096 : Int) < (p : Int) + 1) = false := by simp; omega
  have e3 : decide (k < 0) = false := by simp; omega
  have e4 : decide (7 < k) = false := by simp; omega
  have e5 : (k == 5) = false := by simp [h3]
  clear hbare hI hR h1
  go_enter Try.func54, Try.ntmps54
  go_wp2_with fail
  generalize w.alloc (.cells #[.int .i64 k, .bool b, .int .i64 n, .string s, .slice AL l.length cL, .slice AK ks.length cK] 25) = W at R1 B1 I1 L1 ⊢
  generalize w.heap.size = R at R1 ⊢
  refine (HB.out W).mono ?_
  rintro e w1 ⟨rfl, hb1⟩
  have R2 := R1.below hb1 R1.lt
  have I2 := I1.grow hb1
  have L2 := L1.grow hb1
  have B2 := B1.trans (hb1.mono B1.size)
  have f0 : w1.cell? ⟨R, 0, none⟩ = some (.int .i64 k) := blkc' R2 rfl
  have f2 : w1.cell? ⟨R, 2, none⟩ = some (.int .i64 n) := blkc' R2 rfl
  have f4 : w1.cell? ⟨R, 4, none⟩ = some (.slice AL l.length cL) := blkc' R2 rfl
  clear R1 B1 I1 L1 hb1 HB
  have HI2 := hide I2
  have HL2 := hide L2
  have HR2 := hide R2
  have HB2 := hide B2
  clear I2 L2 R2 B2
  have hc : (6 ≤ k ∧ 1 ≤ n) ∨ (k ≠ 6 ∧ k ≠ 7) := by omega
  rcases hc with ⟨hc, hn⟩ | ⟨hc, hc'⟩
  · have e7 : decide (n < 1) = false := by simp; omega
    have hk : k = 6 ∨ k = 7 := by omega
    clear h2 hc hn e5 e4 e3 h3 h0 h7
    rcases hk with rfl | rfl
    · go_wp2
      go_loopg [2, 9] l.length (fun g pv iv wr => ∃ (i q : Nat), g = l.length - i ∧ pv = .int .i64 (q : Nat) ∧ iv = .int .i64 (i : Nat) ∧ i ≤ l.length ∧ q ≤ 4096 ∧ Hid (mays (d - 1) (p + 1) (l.take i) = some q) ∧ Hid (Below w1.heap.size w1 wr))
      case atStart => exact ⟨0, p + 1, rfl, by go_num, rfl, Nat.zero_le _, by omega, hide (by simp [mays]), Below.refl _ _⟩
      case round =>
        obtain ⟨i, q, rfl, rfl, rfl, hi, hq3, hE, hB⟩ := hrel
        have f4 : wr.cell? ⟨R, 4, none⟩ = some (.slice AL l.length cL) := blkc' (HR2.out.below hB.out HR2.out.lt) rfl
        have hBw := hide (HB2.out.trans (hB.out.mono HB2.out.size))
        have hm := hE.out
        clear hE
        by_cases hlt : i < l.length
        · have hm1 := mays_snoc hlt hm
          have hbad : may (d - 1) q l[i] = none → mays (d - 1) (p + 1) l = none := fun h => mays_bad (hm1.trans h)
          have HM := hide (And.intro hm1 hbad)
          clear hm hm1 hbad
          obtain ⟨b2, o2, cs2, rfl, _, hb2, hV2, hc2⟩ := (HI2.out.grow hB.out).get (HL2.out.grow hB.out) hlt
          obtain ⟨k2, bb2, m2, s2, AL2, nL2, cL2, AK2, nK2, cK2, rfl⟩ := hV2.shape
          have g0 : wr.cell? ⟨b2, o2 + i * 6, none⟩ = some (.int .i64 k2) := hc2 0 (by decide)
          have g1 : wr.cell? ⟨b2, o2 + i * 6 + 1, none⟩ = some (.bool bb2) := hc2 1 (by decide)
          have g2 : wr.cell? ⟨b2, o2 + i * 6 + 2, none⟩ = some (.int .i64 m2) := hc2 2 (by decide)
          have g3 : wr.cell? ⟨b2, o2 + i * 6 + 3, none⟩ = some (.string s2) := hc2 3 (by decide)
          have g4 : wr.cell? ⟨b2, o2 + i * 6 + 4, none⟩ = some (.slice AL2 nL2 cL2) := hc2 4 (by decide)
          have g5 : wr.cell? ⟨b2, o2 + i * 6 + 5, none⟩ = some (.slice AK2 nK2 cK2) := hc2 5 (by decide)
          have HV2 := hide hV2
          clear hc2 hV2
          go_wp2_with fail
          rw [show ((d : Int) - 1) = ((d - 1 : Nat) : Int) by omega]
          refine (ih l[i] (List.getElem_mem hlt) HV2.out (by omega) hq3).mono ?_
          rintro e w5 ⟨he, hb5⟩
          have hB5 := hide (hB.out.trans (hb5.mono hB.out.size))
          have hB5w := hide (HB2.out.trans (hB5.out.mono HB2.out.size))
          clear hb5 HV2 g0 g1 g2 g3 g4 g5
          cases hmv : may (d - 1) q l[i] with
          | none =>
            rw [hmv] at he
            obtain ⟨z, hz, rfl⟩ := he
            have hP : LookP (mays (d - 1) (p + 1) l) (.returned (.tuple #[.int .i64 (z : Int), .bool false])) := by rw [HM.out.2 hmv]; exact ⟨z, hz, rfl⟩
            have HP := hide hP
            clear hmv HM hP
            go_wp2
            go_ret2
            exact ⟨HP.out, hB5w.out⟩
          | some q' =>
            rw [hmv] at he
            have he' : e = .returned (.tuple #[.int .i64 (q' : Int), .bool true]) := he
            subst he'
            have hq' := may_ge _ _ _ _ hmv
            have hgood := HM.out.1.trans hmv
            have HG := hide hgood
            clear hmv hgood HM he
            go_wp2_with fail
            go_roundg (l.length - (i + 1))
            case measure => omega
            case rel => exact ⟨i + 1, q', rfl, rfl, by go_num, by omega, by omega, hide HG.out, hB5⟩
        · have hil : mays (d - 1) (p + 1) l = some q := by
            rw [List.take_of_length_le (by omega)] at hm
            exact hm
          have hP : LookP (mays (d - 1) (p + 1) l) (.returned (.tuple #[.int .i64 (q : Int), .bool true])) := by rw [hil]; rfl
          have HP := hide hP
          clear hm hil hP
          go_wp2
          go_ret2
          exact ⟨HP.out, hBw.out⟩
    · go_wp2
      go_loopg [2, 9] l.length (fun g pv iv wr => ∃ (i q : Nat), g = l.length - i ∧ pv = .int .i64 (q : Nat) ∧ iv = .int .i64 (i : Nat) ∧ i ≤ l.length ∧ q ≤ 4096 ∧ Hid (mays (d - 1) (p + 1) (l.take i) = some q) ∧ Hid (Below w1.heap.size w1 wr))
      case atStart => exact ⟨0, p + 1, rfl, by go_num, rfl, Nat.zero_le _, by omega, hide (by simp [mays]), Below.refl _ _⟩
      case round =>
        obtain ⟨i, q, rfl, rfl, rfl, hi, hq3, hE, hB⟩ := hrel
        have f4 : wr.cell? ⟨R, 4, none⟩ = some (.slice AL l.length cL) := blkc' (HR2.out.below hB.out HR2.out.lt) rfl
        have hBw := hide (HB2.out.trans (hB.out.mono HB2.out.size))
        have hm := hE.out
        clear hE
        by_cases hlt : i < l.length
        · have hm1 := mays_snoc hlt hm
          have hbad : may (d - 1) q l[i] = none → mays (d - 1) (p + 1) l = none := fun h => mays_bad (hm1.trans h)
          have HM := hide (And.intro hm1 hbad)
          clear hm hm1 hbad
          obtain ⟨b2, o2, cs2, rfl, _, hb2, hV2, hc2⟩ := (HI2.out.grow hB.out).get (HL2.out.grow hB.out) hlt
          obtain ⟨k2, bb2, m2, s2, AL2, nL2, cL2, AK2, nK2, cK2, rfl⟩ := hV2.shape
          have g0 : wr.cell? ⟨b2, o2 + i * 6, none⟩ = some (.int .i64 k2) := hc2 0 (by decide)
          have g1 : wr.cell? ⟨b2, o2 + i * 6 + 1, none⟩ = some (.bool bb2) := hc2 1 (by decide)
          have g2 : wr.cell? ⟨b2, o2 + i * 6 + 2, none⟩ = some (.int .i64 m2) := hc2 2 (by decide)
          have g3 : wr.cell? ⟨b2, o2 + i * 6 + 3, none⟩ = some (.string s2) := hc2 3 (by decide)
          have g4 : wr.cell? ⟨b2, o2 + i * 6 + 4, none⟩ = some (.slice AL2 nL2 cL2) := hc2 4 (by decide)
          have g5 : wr.cell? ⟨b2, o2 + i * 6 + 5, none⟩ = some (.slice AK2 nK2 cK2) := hc2 5 (by decide)
          have HV2 := hide hV2
          clear hc2 hV2
          go_wp2_with fail
          rw [show ((d : Int) - 1) = ((d - 1 : Nat) : Int) by omega]
          refine (ih l[i] (List.getElem_mem hlt) HV2.out (by omega) hq3).mono ?_
          rintro e w5 ⟨he, hb5⟩
          have hB5 := hide (hB.out.trans (hb5.mono hB.out.size))
          have hB5w := hide (HB2.out.trans (hB5.out.mono HB2.out.size))
          clear hb5 HV2 g0 g1 g2 g3 g4 g5
          cases hmv : may (d - 1) q l[i] with
          | none =>
            rw [hmv] at he
            obtain ⟨z, hz, rfl⟩ := he
            have hP : LookP (mays (d - 1) (p + 1) l) (.returned (.tuple #[.int .i64 (z : Int), .bool false])) := by rw [HM.out.2 hmv]; exact ⟨z, hz, rfl⟩
            have HP := hide hP
            clear hmv HM hP
            go_wp2
            go_ret2
            exact ⟨HP.out, hB5w.out⟩
          | some q' =>
            rw [hmv] at he
            have he' : e = .returned (.tuple #[.int .i64 (q' : Int), .bool true]) := he
            subst he'
            have hq' := may_ge _ _ _ _ hmv
            have hgood := HM.out.1.trans hmv
            have HG := hide hgood
            clear hmv hgood HM he
            go_wp2_with fail
            go_roundg (l.length - (i + 1))
            case measure => omega
            case rel => exact ⟨i + 1, q', rfl, rfl, by go_num, by omega, by omega, hide HG.out, hB5⟩
        · have hil : mays (d - 1) (p + 1) l = some q := by
            rw [List.take_of_length_le (by omega)] at hm
            exact hm
          have hP : LookP (mays (d - 1) (p + 1) l) (.returned (.tuple #[.int .i64 (q : Int), .bool true])) := by rw [hil]; rfl
          have HP := hide hP
          clear hm hil hP
          go_wp2
          go_ret2
          exact ⟨HP.out, hBw.out⟩
  · have e6 : (k == 6) = false := by simp [hc]
    have e8 : (k == 7) = false := by simp [hc']
    clear h2 hc hc' h3 f2
    go_wp2
    go_loopg [2, 9] l.length (fun g pv iv wr => ∃ (i q : Nat), g = l.length - i ∧ pv = .int .i64 (q : Nat) ∧ iv = .int .i64 (i : Nat) ∧ i ≤ l.length ∧ q ≤ 4096 ∧ Hid (mays (d - 1) (p + 1) (l.take i) = some q) ∧ Hid (Below w1.heap.size w1 wr))
    case atStart => exact ⟨0, p + 1, rfl, by go_num, rfl, Nat.zero_le _, by omega, hide (by simp [mays]), Below.refl _ _⟩
    case round =>
      obtain ⟨i, q, rfl, rfl, rfl, hi, hq3, hE, hB⟩ := hrel
      have f4 : wr.cell? ⟨R, 4, none⟩ = some (.slice AL l.length cL) := blkc' (HR2.out.below hB.out HR2.out.lt) rfl
      have hBw := hide (HB2.out.trans (hB.out.mono HB2.out.size))
      have hm := hE.out
      clear hE
      by_cases hlt : i < l.length
      · have hm1 := mays_snoc hlt hm
        have hbad : may (d - 1) q l[i] = none → mays (d - 1) (p + 1) l = none := fun h => mays_bad (hm1.trans h)
        have HM := hide (And.intro hm1 hbad)
        clear hm hm1 hbad
        obtain ⟨b2, o2, cs2, rfl, _, hb2, hV2, hc2⟩ := (HI2.out.grow hB.out).get (HL2.out.grow hB.out) hlt
        obtain ⟨k2, bb2, m2, s2, AL2, nL2, cL2, AK2, nK2, cK2, rfl⟩ := hV2.shape
        have g0 : wr.cell? ⟨b2, o2 + i * 6, none⟩ = some (.int .i64 k2) := hc2 0 (by decide)
        have g1 : wr.cell? ⟨b2, o2 + i * 6 + 1, none⟩ = some (.bool bb2) := hc2 1 (by decide)
        have g2 : wr.cell? ⟨b2, o2 + i * 6 + 2, none⟩ = some (.int .i64 m2) := hc2 2 (by decide)
        have g3 : wr.cell? ⟨b2, o2 + i * 6 + 3, none⟩ = some (.string s2) := hc2 3 (by decide)
        have g4 : wr.cell? ⟨b2, o2 + i * 6 + 4, none⟩ = some (.slice AL2 nL2 cL2) := hc2 4 (by decide)
        have g5 : wr.cell? ⟨b2, o2 + i * 6 + 5, none⟩ = some (.slice AK2 nK2 cK2) := hc2 5 (by decide)
        have HV2 := hide hV2
        clear hc2 hV2
        go_wp2_with fail
        rw [show ((d : Int) - 1) = ((d - 1 : Nat) : Int) by omega]
        refine (ih l[i] (List.getElem_mem hlt) HV2.out (by omega) hq3).mono ?_
        rintro e w5 ⟨he, hb5⟩
        have hB5 := hide (hB.out.trans (hb5.mono hB.out.size))
        have hB5w := hide (HB2.out.trans (hB5.out.mono HB2.out.size))
        clear hb5 HV2 g0 g1 g2 g3 g4 g5
        cases hmv : may (d - 1) q l[i] with
        | none =>
          rw [hmv] at he
          obtain ⟨z, hz, rfl⟩ := he
          have hP : LookP (mays (d - 1) (p + 1) l) (.returned (.tuple #[.int .i64 (z : Int), .bool false])) := by rw [HM.out.2 hmv]; exact ⟨z, hz, rfl⟩
          have HP := hide hP
          clear hmv HM hP
          go_wp2
          go_ret2
          exact ⟨HP.out, hB5w.out⟩
        | some q' =>
          rw [hmv] at he
          have he' : e = .returned (.tuple #[.int .i64 (q' : Int), .bool true]) := he
          subst he'
          have hq' := may_ge _ _ _ _ hmv
          have hgood := HM.out.1.trans hmv
          have HG := hide hgood
          clear hmv hgood HM he
          go_wp2_with fail
          go_roundg (l.length - (i + 1))
          case measure => omega
          case rel => exact ⟨i + 1, q', rfl, rfl, by go_num, by omega, by omega, hide HG.out, hB5⟩
      · have hil : mays (d - 1) (p + 1) l = some q := by
          rw [List.take_of_length_le (by omega)] at hm
          exact hm
        have hP : LookP (mays (d - 1) (p + 1) l) (.returned (.tuple #[.int .i64 (q : Int), .bool true])) := by rw [hil]; rfl
        have HP := hide hP
        clear hm hil hP
        go_wp2
        go_ret2
        exact ⟨HP.out, hBw.out⟩


/-- what stands behind the keys -/
def Then (b : Bool) (r : Option Nat) : Option Nat := match b with
  | true => r
  | false => none
theorem leq_less {x y : ByteArray} : (Op.bytesLess x.toList y.toList || x.toList == y.toList) = !less y x := less_total _ _

set_option maxHeartbeats 8000000 in
set_option maxRecDepth 100000 in
theorem rmay_map {w : World} {S : Nat → Prop} {d p : Nat} {b : Bool} {n : Int} {s : ByteArray} {AL AK : Option Addr} {cL cK : Nat} {l : List V} {ks : List ByteArray} {xs : List Value} (ih : ∀ v ∈ l, MayC v) (hd : d ≤ 32) (hd1 : 1 ≤ d) (hp : p < 4096)
    (hK : RdS w S 1 AK ks.length (ks.map .string)) (lK : ks.length ≤ 9223372036854775807) (lk : ∀ x ∈ ks, x.size ≤ 9223372036854775807) (lL : l.length ≤ 9223372036854775807) (hR : RdS w S 6 AL l.length xs) (hI : IsVs w S l xs)
    (h1 : bareB 5 b n s l.length ks.length = true) (h2 : ks.length = l.length) :
    Calls Try.prog 54 #[.agg #[.int .i64 5, .bool b, .int .i64 n, .string s, .slice AL l.length cL, .slice AK ks.length cK], .int .i64 (d : Int), .int .i64 (p : Int)] w fun e w' => LookP (Then (ksOk none ks) (mays (d - 1) (p + 1) l)) e ∧ Below w.heap.size w w' := by
  have R1 := Blk.new w 25 #[.int .i64 5, .bool b, .int .i64 n, .string s, .slice AL l.length cL, .slice AK ks.length cK]
  have B1 : Below w.heap.size w (w.alloc (.cells #[.int .i64 5, .bool b, .int .i64 n, .string s, .slice AL l.length cL, .slice AK ks.length cK] 25)) := (Below.refl _ w).alloc (Nat.le_refl _) _
  have I1 := hI.grow B1
  have L1 := hR.grow B1
  have K1 := hK.grow B1
  have hbare : ∀ W, Calls Try.prog 71 #[.agg #[.int .i64 5, .bool b, .int .i64 n, .string s, .slice AL l.length cL, .slice AK ks.length cK]] W _ := fun W => unused_any (w := W) (by decide) (by decide)
  rw [h1] at hbare
  have HB := hide hbare
  have e1 : decide ((d : Int) < 1) = false := by simp; omega
  have e2 : decide ((4096 : Int) < (p : Int) + 1) = false := by simp; omega
  have e7 : ((ks.length : Int) != (l.length : Int)) = false := by simp [h2]
  have HX1 : Hid (ksOk none ks = false → ∀ z : Nat, z ≤ 4097 → LookP (Then (ksOk none ks) (mays (d - 1) (p + 1) l)) (.returned (.tuple #[.int .i64 (z : Int), .bool false]))) := hide (fun h z hz => by rw [h]; exact ⟨z, hz, rfl⟩)
  clear hbare hI hR h1 hK h2
  go_enter Try.func54, Try.ntmps54
  go_wp2_with fail
  generalize w.alloc (.cells #[.int .i64 5, .bool b, .int .i64 n, .string s, .slice AL l.length cL, .slice AK ks.length cK] 25) = W at R1 B1 I1 L1 K1 ⊢
  generalize w.heap.size = R at R1 ⊢
  refine (HB.out W).mono ?_
  rintro e w1 ⟨rfl, hb1⟩
  have R2 := R1.below hb1 R1.lt
  have I2 := I1.grow hb1
  have L2 := L1.grow hb1
  have K2 := K1.grow hb1
  have B2 := B1.trans (hb1.mono B1.size)
  have f0 : w1.cell? ⟨R, 0, none⟩ = some (.int .i64 5) := blkc' R2 rfl
  have f2 : w1.cell? ⟨R, 2, none⟩ = some (.int .i64 n) := blkc' R2 rfl
  have f4 : w1.cell? ⟨R, 4, none⟩ = some (.slice AL l.length cL) := blkc' R2 rfl
  have f5 : w1.cell? ⟨R, 5, none⟩ = some (.slice AK ks.length cK) := blkc' R2 rfl
  clear R1 B1 I1 L1 hb1 HB K1
  have HI2 := hide I2
  have HL2 := hide L2
  have HR2 := hide R2
  have HB2 := hide B2
  clear I2 L2 R2 B2
  go_wp2
  go_loopg [8] ks.length (fun g iv wr => ∃ (i m : Nat), g = ks.length - i ∧ iv = .int .i64 (i : Nat) ∧ i ≤ ks.length ∧ Hid (ksOk none (ks.take i) = true) ∧ wr = w1.drewN m)
  case atStart => exact ⟨0, 0, rfl, rfl, Nat.zero_le _, hide (by simp [ksOk]), rfl⟩
  case round =>
    obtain ⟨i, m, rfl, rfl, hi, hE, rfl⟩ := hrel
    have hbd : ∀ m, Hid (Below w.heap.size w (w1.drewN m)) := fun m => Below.drewN' HB2.out m
    by_cases hlt : i < ks.length
    · obtain ⟨bA, oA, rfl, _, hbA, hcA⟩ := K2.plain (by omega) (by omega)
      have fA : w1.cell? ⟨bA, oA + i, none⟩ = some (.string ks[i]) := by rw [hcA i (by omega)]; simp [hlt]
      have hsz := lk ks[i] (List.getElem_mem hlt)
      have hnext := ksOk_next hlt hE.out
      have hfp : 0 < i → w1.cell? ⟨bA, oA + (i - 1), none⟩ = some (.string (ks[i - 1]'(by omega))) := fun h => by rw [hcA (i - 1) (by omega)]; simp [show i - 1 < ks.length by omega]
      have hlast : 0 < i → (ks.take i).getLast? = some (ks[i - 1]'(by omega)) := fun h => last_take h (by omega)
      have hHE := hide (And.intro hE hlast)
      have hx0 : (i : Int) < (ks.length : Int) := by omega
      clear hcA lk hlast hE K2
      generalize ks[i] = k at fA hsz hnext
      have hK : Hid (ksOk none (ks.take (i + 1)) = (kOk k && behind (ks.take i).getLast? k)) := hnext
      clear hnext
      by_cases c1 : k.size = 0
      · have hb := ksOk_bad (ks := ks) (i := i + 1) (by omega) (by rw [hK.out]; simp [kOk, c1])
        have HP := hide (HX1.out hb (p + 1) (by omega))
        have e1 : decide ((k.size : Int) < 1) = true := by simp; omega
        clear hb c1 hfp HX1
        go_wp2_with fail
        go_quiet (fail)
        go_wp2
        go_ret2
        exact ⟨HP.out, Below.drewN' (hbd _).out _⟩
      · have e8 : decide ((k.size : Int) < 1) = false := by simp; omega
        by_cases c2 : 64 < k.size
        · have hb := ksOk_bad (ks := ks) (i := i + 1) (by omega) (by rw [hK.out]; simp [kOk]; omega)
          have HP := hide (HX1.out hb (p + 1) (by omega))
          have e9 : decide ((64 : Int) < (k.size : Int)) = true := by simp; omega
          clear hb hfp HX1 c1 c2
          go_wp2_with fail
          go_quiet (fail)
          go_wp2
          go_ret2
          exact ⟨HP.out, Below.drewN' (hbd _).out _⟩
        · have e9 : decide ((64 : Int) < (k.size : Int)) = false := by simp; omega
          by_cases c3 : 0 < i
          · have fp := hfp c3
            obtain ⟨hE, hlast⟩ := hHE.out
            have hl := hlast c3
            clear hlast hHE hfp
            generalize ks[i - 1]'(by omega) = k0 at fp hl
            have hKn : ksOk none (ks.take (i + 1)) = less k0 k := by rw [hK.out, hl]; simp [kOk, behind]; omega
            have HKn := hide hKn
            have hx1 : (i : Int) - 1 < (ks.length : Int) := by omega
            have hx2 : 0 ≤ (i : Int) - 1 := by omega
            have hx3 : ((i : Int) - 1).toNat = i - 1 := by omega
            have hx4 : IntKind.i64.wrap ((i : Int) - 1) = (i : Int) - 1 := IntWalk.i64_in _ (by omega)
            have e10 : decide ((0 : Int) < (i : Int)) = true := by simp; omega
            have hlq := leq_less (x := k) (y := k0)
            clear hK hKn hl c1 c2
            by_cases c4 : less k0 k = true
            · rw [c4] at hlq
              have H4 := hide c4
              clear c4
              go_wp2_with fail
              go_quiet (fail)
              clear hx4 hx1 hx2 hx3 hlq e10 e8 e9
              go_wp2_with fail
              go_roundg (ks.length - (i + 1))
              case measure => omega
              case rel => exact ⟨i + 1, _, rfl, by go_num, by omega, hide (by rw [HKn.out, H4.out]), rfl⟩
            · have c5 : less k0 k = false := by simpa using c4
              rw [c5] at hlq
              have hb := ksOk_bad (ks := ks) (i := i + 1) (by omega) (by rw [HKn.out]; exact c5)
              have HP := hide (HX1.out hb (p + 1) (by omega))
              clear hb c4 c5 HX1
              go_wp2_with fail
              go_quiet (fail)
              go_wp2
              go_ret2
              exact ⟨HP.out, Below.drewN' (hbd _).out _⟩
          · have hi0 : i = 0 := by omega
            subst hi0
            have hKn : ksOk none (ks.take (0 + 1)) = true := by rw [hK.out]; simp [kOk, behind]; omega
            have HKn := hide hKn
            have fA0 : w1.cell? ⟨bA, oA, none⟩ = some (.string k) := fA
            clear hK hKn hfp c1 c2
            go_wp2_with fail
            go_quiet (fail)
            go_wp2_with fail
            go_roundg (ks.length - 1)
            case measure => omega
            case rel => exact ⟨1, _, rfl, by go_num, by omega, hide HKn.out, rfl⟩
    · have hil : ksOk none ks = true := by
        have := hE.out
        rw [List.take_of_length_le (by omega)] at this
        exact this
      have HX2 : Hid (∀ {e : Ending}, LookP (mays (d - 1) (p + 1) l) e → LookP (Then (ksOk none ks) (mays (d - 1) (p + 1) l)) e) := hide (fun h => by rw [hil]; exact h)
      clear hil hE HX1 K2
      go_wp2
      go_loopg [2, 9] l.length (fun g pv iv wr => ∃ (i q : Nat), g = l.length - i ∧ pv = .int .i64 (q : Nat) ∧ iv = .int .i64 (i : Nat) ∧ i ≤ l.length ∧ q ≤ 4096 ∧ Hid (mays (d - 1) (p + 1) (l.take i) = some q) ∧ Hid (Below w1.heap.size w1 wr))
      case atStart => exact ⟨0, p + 1, rfl, by go_num, rfl, Nat.zero_le _, by omega, hide (by simp [mays]), Below.drewN' (Below.refl _ _) _⟩
      case round =>
        obtain ⟨i, q, rfl, rfl, rfl, hi, hq3, hE, hB⟩ := hrel
        have f4 : wr.cell? ⟨R, 4, none⟩ = some (.slice AL l.length cL) := blkc' (HR2.out.below hB.out HR2.out.lt) rfl
        have hBw := hide (HB2.out.trans (hB.out.mono HB2.out.size))
        have hm := hE.out
        clear hE
        by_cases hlt : i < l.length
        · have hm1 := mays_snoc hlt hm
          have hbad : may (d - 1) q l[i] = none → mays (d - 1) (p + 1) l = none := fun h => mays_bad (hm1.trans h)
          have HM := hide (And.intro hm1 hbad)
          clear hm hm1 hbad
          obtain ⟨b2, o2, cs2, rfl, _, hb2, hV2, hc2⟩ := (HI2.out.grow hB.out).get (HL2.out.grow hB.out) hlt
          obtain ⟨k2, bb2, m2, s2, AL2, nL2, cL2, AK2, nK2, cK2, rfl⟩ := hV2.shape
          have g0 : wr.cell? ⟨b2, o2 + i * 6, none⟩ = some (.int .i64 k2) := hc2 0 (by decide)
          have g1 : wr.cell? ⟨b2, o2 + i * 6 + 1, none⟩ = some (.bool bb2) := hc2 1 (by decide)
          have g2 : wr.cell? ⟨b2, o2 + i * 6 + 2, none⟩ = some (.int .i64 m2) := hc2 2 (by decide)
          have g3 : wr.cell? ⟨b2, o2 + i * 6 + 3, none⟩ = some (.string s2) := hc2 3 (by decide)
          have g4 : wr.cell? ⟨b2, o2 + i * 6 + 4, none⟩ = some (.slice AL2 nL2 cL2) := hc2 4 (by decide)
          have g5 : wr.cell? ⟨b2, o2 + i * 6 + 5, none⟩ = some (.slice AK2 nK2 cK2) := hc2 5 (by decide)
          have HV2 := hide hV2
          clear hc2 hV2
          go_wp2_with fail
          rw [show ((d : Int) - 1) = ((d - 1 : Nat) : Int) by omega]
          refine (ih l[i] (List.getElem_mem hlt) HV2.out (by omega) hq3).mono ?_
          rintro e w5 ⟨he, hb5⟩
          have hB5 := hide (hB.out.trans (hb5.mono hB.out.size))
          have hB5w := hide (HB2.out.trans (hB5.out.mono HB2.out.size))
          clear hb5 HV2 g0 g1 g2 g3 g4 g5
          cases hmv : may (d - 1) q l[i] with
          | none =>
            rw [hmv] at he
            obtain ⟨z, hz, rfl⟩ := he
            have hP : LookP (mays (d - 1) (p + 1) l) (.returned (.tuple #[.int .i64 (z : Int), .bool false])) := by rw [HM.out.2 hmv]; exact ⟨z, hz, rfl⟩
            have HP := hide hP
            clear hmv HM hP
            go_wp2
            go_ret2
            exact ⟨HX2.out HP.out, hB5w.out⟩
          | some q' =>
            rw [hmv] at he
            have he' : e = .returned (.tuple #[.int .i64 (q' : Int), .bool true]) := he
            subst he'
            have hq' := may_ge _ _ _ _ hmv
            have hgood := HM.out.1.trans hmv
            have HG := hide hgood
            clear hmv hgood HM he
            go_wp2_with fail
            go_roundg (l.length - (i + 1))
            case measure => omega
            case rel => exact ⟨i + 1, q', rfl, rfl, by go_num, by omega, by omega, hide HG.out, hB5⟩
        · have hil : mays (d - 1) (p + 1) l = some q := by
            rw [List.take_of_length_le (by omega)] at hm
            exact hm
          have hP : LookP (mays (d - 1) (p + 1) l) (.returned (.tuple #[.int .i64 (q : Int), .bool true])) := by rw [hil]; rfl
          have HP := hide hP
          clear hm hil hP
          go_wp2
          go_ret2
          exact ⟨HX2.out HP.out, hBw.out⟩

theorem rmay_any (v : V) : MayC v := by
  refine V.ind (P := MayC) ?_ v
  intro k b n s l ks ih w S cs d p hV hd hp
  rw [IsV] at hV
  obtain ⟨AL, cL, AK, cK, xs, rfl, ⟨hl1, hl2, hk1, hk2⟩, ⟨_, _, _, _, _, hks⟩, hR, hI, hK⟩ := hV
  by_cases h : d = 0 ∨ 4096 ≤ p ∨ k < 0 ∨ 7 < k
  · rw [may_none (by
      rintro ⟨c1, c2, c3⟩
      obtain ⟨h0, h7, _⟩ := headB_iff.1 c3
      omega)]
    exact rmay_no1 hd hp h
  · by_cases h' : bareB k b n s l.length ks.length = false ∨ (6 ≤ k ∧ n < 1) ∨ (k = 5 ∧ ks.length ≠ l.length)
    · rw [may_none (by
        rintro ⟨c1, c2, c3⟩
        obtain ⟨_, _, _, _, _, _, _, h8, h9⟩ := headB_iff.1 c3
        rw [headB_eq] at c3
        simp only [Bool.and_eq_true] at c3
        have c4 := c3.1.1.2
        rcases h' with h' | h' | ⟨rfl, h'⟩
        · rw [h'] at c4; cases c4
        · omega
        · exact h' (h9 rfl).1)]
      exact rmay_no2 hd (by omega) (by omega) (by omega) (by omega) (by omega) (by omega) h'
    · have hb : bareB k b n s l.length ks.length = true := by
        cases hq : bareB k b n s l.length ks.length with
        | true => rfl
        | false => exact absurd (.inl hq) h'
      by_cases h5 : k = 5
      · subst h5
        have hl : ks.length = l.length := by
          rcases Nat.decEq ks.length l.length with h | h
          · exact absurd (.inr (.inr ⟨rfl, h⟩)) h'
          · exact h
        have e : may d p (.mk 5 b n s l ks) = Then (ksOk none ks) (mays (d - 1) (p + 1) l) := by
          rw [may]
          cases hq : ksOk none ks with
          | true => rw [if_pos ⟨by omega, by omega, by rw [headB_eq, hb, hq, hl]; simp⟩, Then]
          | false => rw [if_neg (by rintro ⟨_, _, c⟩; have := (headB_iff.1 c).2.2.2.2.2.2.2.2 rfl; rw [hq] at this; cases this.2)]; rfl
        rw [e]
        exact rmay_map ih hd (by omega) (by omega) hK (by omega) hks (by omega) hR hI hb hl
      · have h2 : k < 6 ∨ 1 ≤ n := by
          by_cases h6 : k < 6
          · exact .inl h6
          · by_cases h7 : 1 ≤ n
            · exact .inr h7
            · exact absurd (.inr (.inl ⟨by omega, by omega⟩)) h'
        have hh : headB k b n s l.length ks = true := by
          rw [headB_eq, hb]
          have a1 : decide (0 ≤ k) = true := decide_eq_true (by omega)
          have a2 : decide (k ≤ 7) = true := decide_eq_true (by omega)
          have a3 : decide (k = 5) = false := decide_eq_false h5
          rw [a1, a2, a3]
          rcases h2 with h2 | h2 <;> simp [h2]
        have e : may d p (.mk k b n s l ks) = mays (d - 1) (p + 1) l := by rw [may, if_pos ⟨by omega, by omega, hh⟩]
        rw [e]
        exact rmay_yes ih hd (by omega) (by omega) (by omega) (by omega) (by omega) (by omega) hR hI hb h2 h5

theorem rMay_any {v : V} {w : World} {S : Nat → Prop} {cs : Array Value} (hV : IsV w S v cs) :
    Calls Try.prog 36 #[.agg cs] w fun e w' => e = .returned (.bool (mayB v)) ∧ Below w.heap.size w w' := by
  have hl := fun o => rmay_any v (d := 32) (p := 0) (hV.alloc o) (Nat.le_refl _) (Nat.zero_le _)
  have hsh := hV.shape
  obtain ⟨k, b, n, s, AL, nL, cL, AK, nK, cK, rfl⟩ := hsh
  have HL := hide (hl (.cells #[.int .i64 k, .bool b, .int .i64 n, .string s, .slice AL nL cL, .slice AK nK cK] 25))
  have HB : Hid (Below w.heap.size w (w.alloc (.cells #[.int .i64 k, .bool b, .int .i64 n, .string s, .slice AL nL cL, .slice AK nK cK] 25))) := (Below.refl _ w).alloc (Nat.le_refl _) _
  clear hl hV
  have e1 : mayB v = (may 32 0 v).isSome := rfl
  rw [e1]
  clear e1
  cases hm : may 32 0 v with
  | none =>
    rw [hm] at HL
    clear hm
    go_enter Try.func36, Try.ntmps36
    go_wp2_with fail
    refine HL.out.mono ?_
    rintro e w5 ⟨⟨z, hz, rfl⟩, hb5⟩
    have HB5 := hide (HB.out.trans (hb5.mono HB.out.size))
    clear hb5
    go_wp2
    go_ret
    exact ⟨rfl, HB5.out⟩
  | some q =>
    rw [hm] at HL
    clear hm
    go_enter Try.func36, Try.ntmps36
    go_wp2_with fail
    refine HL.out.mono ?_
    rintro e w5 ⟨he, hb5⟩
    have HB5 := hide (HB.out.trans (hb5.mono HB.out.size))
    have he' : e = .returned (.tuple #[.int .i64 (q : Int), .bool true]) := he
    subst he'
    clear hb5 he
    go_wp2
    go_ret
    exact ⟨rfl, HB5.out⟩
end Go.Proofs.Ytaapbiiiepdopaa
