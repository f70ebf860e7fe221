/- value.Plain and its reference: no node and no edge in a value. -/
import Derived.Test.YtaapbiiiepdopaaMc
namespace Go.Proofs.Ytaapbiiiepdopaa
open Go.RowKit Mem
set_option linter.unusedVariables false

def PlainC (v : V) : Prop := ∀ {w : World} {S : Nat → Prop} {cs : Array Value}, IsV w S v cs →
  Calls Try.prog 68 #[.agg cs] w fun e w' => e = .returned (.bool (plV v)) ∧ Below w.heap.size w w'
theorem notPlain_any {v : V} (hv : PlainC v) {w : World} {S : Nat → Prop} {cs : Array Value} (hV : IsV w S v cs) :
    Calls Try.prog 75 #[.agg cs] w fun e w' => e = .returned (.bool (!plV v)) ∧ Below w.heap.size w w' := by
  obtain ⟨k, b, n, s, AL, nL, cL, AK, nK, cK, rfl⟩ := hV.shape
  have H := fun o => hv (hV.alloc o)
  have HC := hide H
  clear H hV
  go_enter Try.func75, Try.ntmps75
  go_wp2_with fail
  refine (HC.out _).mono ?_
  rintro e w5 ⟨rfl, hb⟩
  have HB := hide (((Below.refl _ w).alloc (Nat.le_refl _) (.cells #[.int .i64 k, .bool b, .int .i64 n, .string s, .slice AL nL cL, .slice AK nK cK] 25)).trans (hb.mono (by simp)))
  clear hb HC
  go_wp2
  go_ret
  exact ⟨rfl, HB.out⟩
def IdxP (l : List V) (e : Ending) : Prop := ∃ z : Int, e = .returned (.int .i64 z) ∧ -1 ≤ z ∧ (decide (0 ≤ z) = !plVs l)
theorem plVs_snoc (l : List V) (i : Nat) (h : i < l.length) (hp : plVs (l.take i) = true) : plVs (l.take (i + 1)) = plV l[i] := by
  rw [List.take_succ_eq_append_getElem h, Bool.eq_iff_iff, plVs_iff]
  rw [plVs_iff] at hp
  constructor
  · intro g; exact g _ (List.mem_append_right _ List.mem_cons_self)
  · intro g v hv
    rcases List.mem_append.1 hv with hv | hv
    · exact hp v hv
    · rcases List.mem_cons.1 hv with rfl | hv
      · exact g
      · cases hv
set_option maxHeartbeats 2000000 in
theorem index_any (l : List V) (ih : ∀ v ∈ l, PlainC v) {w : World} {S : Nat → Prop} {A : Option Addr} {c : Nat} {xs : List Value} (ha : RdS w S 6 A l.length xs) (ha' : IsVs w S l xs) (la : l.length ≤ 9223372036854775807) :
    Calls Try.prog 76 #[.slice A l.length c, .func (.func 75) #[] #[]] w fun e w' => IdxP l e ∧ Below w.heap.size w w' := by
  go_enter Try.func76, Try.ntmps76
  go_wp2
  go_loopg [8] l.length (fun g iv wr => ∃ (i : Nat), g = l.length - i ∧ iv = .int .i64 (i : Nat) ∧ i ≤ l.length ∧ Hid (plVs (l.take i) = true) ∧ Hid (Below w.heap.size w wr))
  case atStart => exact ⟨0, rfl, rfl, Nat.zero_le _, rfl, Below.refl _ _⟩
  case round =>
    obtain ⟨i, rfl, rfl, hi, hE, hB⟩ := hrel
    by_cases hlt : i < l.length
    · obtain ⟨bA, oA, cs, rfl, _, hbA, hVA, hcA⟩ := (ha'.grow hB.out).get (ha.grow hB.out) hlt
      obtain ⟨k2, bb2, m2, s2, AL2, nL2, cL2, AK2, nK2, cK2, rfl⟩ := hVA.shape
      have g0 : wr.cell? ⟨bA, oA + i * 6, none⟩ = some (.int .i64 k2) := hcA 0 (by decide)
      have g1 : wr.cell? ⟨bA, oA + i * 6 + 1, none⟩ = some (.bool bb2) := hcA 1 (by decide)
      have g2 : wr.cell? ⟨bA, oA + i * 6 + 2, none⟩ = some (.int .i64 m2) := hcA 2 (by decide)
      have g3 : wr.cell? ⟨bA, oA + i * 6 + 3, none⟩ = some (.string s2) := hcA 3 (by decide)
      have g4 : wr.cell? ⟨bA, oA + i * 6 + 4, none⟩ = some (.slice AL2 nL2 cL2) := hcA 4 (by decide)
      have g5 : wr.cell? ⟨bA, oA + i * 6 + 5, none⟩ = some (.slice AK2 nK2 cK2) := hcA 5 (by decide)
      have hx1 : (i : Int) < (l.length : Int) := by omega
      have HN := hide (notPlain_any (ih l[i] (List.getElem_mem hlt)) hVA)
      have HS := hide (plVs_snoc l i hlt hE.out)
      clear hVA hcA
      go_wp2_with fail
      refine HN.out.mono ?_
      rintro e w5 ⟨rfl, hb⟩
      have HB5 := hide (hB.out.trans (hb.mono hB.out.size))
      clear hb HN g0 g1 g2 g3 g4 g5
      generalize hq : plV l[i] = q at HS
      have HQ := hide hq
      clear hq
      cases q with
      | true =>
        go_wp2_with fail
        go_roundg (l.length - (i + 1))
        case measure => omega
        case rel => exact ⟨i + 1, rfl, by go_num, by omega, HS, HB5⟩
      | false =>
        go_wp2
        go_ret
        refine ⟨⟨(i : Int), rfl, by omega, ?_⟩, HB5.out⟩
        have h1 : plVs l = false := by
          cases h : plVs l with
          | false => rfl
          | true =>
            have := (plVs_iff l).1 h _ (List.getElem_mem hlt)
            rw [HQ.out] at this
            cases this
        rw [h1]; simp
    · have hil : i = l.length := by omega
      have hE' := hE.out
      rw [hil, List.take_length] at hE'
      have HE := hide hE'
      clear hE'
      go_wp2
      go_ret
      exact ⟨⟨-1, rfl, by omega, by rw [HE.out]; simp⟩, hB.out⟩
theorem contains_any (l : List V) (ih : ∀ v ∈ l, PlainC v) {w : World} {S : Nat → Prop} {A : Option Addr} {c : Nat} {xs : List Value} (ha : RdS w S 6 A l.length xs) (ha' : IsVs w S l xs) (la : l.length ≤ 9223372036854775807) :
    Calls Try.prog 74 #[.slice A l.length c, .func (.func 75) #[] #[]] w fun e w' => e = .returned (.bool (!plVs l)) ∧ Below w.heap.size w w' := by
  have H := hide (index_any l ih (c := c) ha ha' la)
  clear ha ha'
  go_enter Try.func74, Try.ntmps74
  go_wp2_with fail
  refine H.out.mono ?_
  rintro e w5 ⟨⟨z, rfl, hz1, hz⟩, hb⟩
  have HB := hide hb
  generalize hp : plVs l = q at hz
  have HP := hide hp
  clear hb hp
  cases q with
  | true =>
    have e1 : decide (0 ≤ z) = false := hz
    have HZ := hide hz
    clear hz
    go_wp2
    go_ret
    exact ⟨by rw [HP.out]; rfl, HB.out⟩
  | false =>
    have e1 : decide (0 ≤ z) = true := hz
    have HZ := hide hz
    clear hz
    go_wp2
    go_ret
    exact ⟨by rw [HP.out]; rfl, HB.out⟩
set_option maxHeartbeats 1000000 in
theorem plain_any (v : V) : PlainC v := by
  refine V.ind (P := PlainC) ?_ v
  intro k b n s l ks ih w S cs hV
  rw [IsV] at hV
  obtain ⟨AL, cL, AK, cK, xs, rfl, ⟨hl1, hl2, hk1, hk2⟩, _, hR, hI, hK⟩ := hV
  have B0 := fun o => (Below.refl w.heap.size w).alloc (Nat.le_refl _) o
  have hC := fun o => contains_any l ih (c := cL) (hR.grow (B0 o)) (hI.grow (B0 o)) (by omega)
  have HC := hide hC
  clear hC hR hI hK
  rw [plV]
  by_cases h6 : k < 6
  · have e6 : decide (k < 6) = true := by simp [h6]
    rw [e6, Bool.true_and]
    have H6 := hide h6
    clear h6
    go_enter Try.func68, Try.ntmps68
    go_wp2_with fail
    refine (HC.out _).mono ?_
    rintro e w5 ⟨rfl, hb⟩
    have HB := hide ((B0 (.cells #[.int .i64 k, .bool b, .int .i64 n, .string s, .slice AL l.length cL, .slice AK ks.length cK] 25)).trans (hb.mono (by simp)))
    clear hb HC
    generalize hq : plVs l = q
    have HQ := hide hq
    clear hq
    cases q <;> (go_wp2; go_ret; exact ⟨by rw [HQ.out]; rfl, HB.out⟩)
  · have e6 : decide (k < 6) = false := by simp; omega
    rw [e6, Bool.false_and]
    have H6 := hide h6
    clear h6
    go_enter Try.func68, Try.ntmps68
    go_wp2
    go_ret
    exact ⟨rfl, B0 _⟩

/-! ## The reference's -/
def RPlainC (v : V) : Prop := ∀ {w : World} {S : Nat → Prop} {cs : Array Value}, IsV w S v cs →
  Calls Try.prog 66 #[.agg cs] w fun e w' => e = .returned (.bool (plR v)) ∧ Below w.heap.size w w'
theorem plRs_snoc (l : List V) (i : Nat) (h : i < l.length) (hp : plRs (l.take i) = true) : plRs (l.take (i + 1)) = plR l[i] := by
  rw [List.take_succ_eq_append_getElem h, Bool.eq_iff_iff, plRs_iff]
  rw [plRs_iff] at hp
  constructor
  · intro g; exact g _ (List.mem_append_right _ List.mem_cons_self)
  · intro g v hv
    rcases List.mem_append.1 hv with hv | hv
    · exact hp v hv
    · rcases List.mem_cons.1 hv with rfl | hv
      · exact g
      · cases hv
set_option maxHeartbeats 2000000 in
theorem rplain_any (v : V) : RPlainC v := by
  refine V.ind (P := RPlainC) ?_ v
  intro k b n s l ks ih w S cs hV
  rw [IsV] at hV
  obtain ⟨AL, cL, AK, cK, xs, rfl, ⟨hl1, hl2, hk1, hk2⟩, _, hR, hI, hK⟩ := hV
  have B0 := (Below.refl w.heap.size w).alloc (Nat.le_refl _) (.cells #[.int .i64 k, .bool b, .int .i64 n, .string s, .slice AL l.length cL, .slice AK ks.length cK] 25)
  have X0 := Blk.new w 25 #[.int .i64 k, .bool b, .int .i64 n, .string s, .slice AL l.length cL, .slice AK ks.length cK]
  have hR := hR.grow B0
  have hI := hI.grow B0
  have HB0 := hide B0
  have HX0 := hide X0
  clear B0 X0 hK
  rw [plR]
  by_cases h6 : k = 6
  · subst h6
    rw [show (!(decide ((6 : Int) = 6) || decide ((6 : Int) = 7)) && plRs l) = false by simp]
    go_enter Try.func66, Try.ntmps66
    go_wp2
    go_ret
    exact ⟨rfl, HB0.out⟩
  · by_cases h7 : k = 7
    · subst h7
      rw [show (!(decide ((7 : Int) = 6) || decide ((7 : Int) = 7)) && plRs l) = false by simp]
      go_enter Try.func66, Try.ntmps66
      go_wp2
      go_ret
      exact ⟨rfl, HB0.out⟩
    · rw [show (!(decide (k = 6) || decide (k = 7)) && plRs l) = plRs l by simp [h6, h7]]
      have e6 : (k == 6) = false := by simp [h6]
      have e7 : (k == 7) = false := by simp [h7]
      have H67 := hide (And.intro h6 h7)
      clear h6 h7
      go_enter Try.func66, Try.ntmps66
      go_wp2_with fail
      generalize w.alloc (.cells #[.int .i64 k, .bool b, .int .i64 n, .string s, .slice AL l.length cL, .slice AK ks.length cK] 25) = W at HB0 HX0 hR hI ⊢
      go_loopg [3] l.length (fun g iv wr => ∃ (i : Nat), g = l.length - i ∧ iv = .int .i64 (i : Nat) ∧ i ≤ l.length ∧ Hid (plRs (l.take i) = true) ∧ Hid (Below W.heap.size W wr))
      case atStart => exact ⟨0, rfl, rfl, Nat.zero_le _, rfl, Below.refl _ _⟩
      case round =>
        obtain ⟨i, rfl, rfl, hi, hE, hB⟩ := hrel
        have f4 : wr.cell? ⟨w.heap.size, 4, none⟩ = some (.slice AL l.length cL) := blkR (HX0.out.below hB.out HX0.out.lt) rfl
        by_cases hlt : i < l.length
        · obtain ⟨bA, oA, cs, rfl, _, hbA, hVA, hcA⟩ := (hI.grow hB.out).get (hR.grow hB.out) hlt
          obtain ⟨k2, bb2, m2, s2, AL2, nL2, cL2, AK2, nK2, cK2, rfl⟩ := hVA.shape
          have g0 : wr.cell? ⟨bA, oA + i * 6, none⟩ = some (.int .i64 k2) := hcA 0 (by decide)
          have g1 : wr.cell? ⟨bA, oA + i * 6 + 1, none⟩ = some (.bool bb2) := hcA 1 (by decide)
          have g2 : wr.cell? ⟨bA, oA + i * 6 + 2, none⟩ = some (.int .i64 m2) := hcA 2 (by decide)
          have g3 : wr.cell? ⟨bA, oA + i * 6 + 3, none⟩ = some (.string s2) := hcA 3 (by decide)
          have g4 : wr.cell? ⟨bA, oA + i * 6 + 4, none⟩ = some (.slice AL2 nL2 cL2) := hcA 4 (by decide)
          have g5 : wr.cell? ⟨bA, oA + i * 6 + 5, none⟩ = some (.slice AK2 nK2 cK2) := hcA 5 (by decide)
          have hx1 : (i : Int) < (l.length : Int) := by omega
          have HN := hide (ih l[i] (List.getElem_mem hlt) hVA)
          have HS := hide (plRs_snoc l i hlt hE.out)
          clear hVA hcA
          go_wp2_with fail
          refine HN.out.mono ?_
          rintro e w5 ⟨rfl, hb⟩
          have HB5 := hide (hB.out.trans (hb.mono hB.out.size))
          clear hb HN g0 g1 g2 g3 g4 g5 f4
          generalize hq : plR l[i] = q at HS
          have HQ := hide hq
          clear hq
          cases q with
          | true =>
            go_wp2_with fail
            go_roundg (l.length - (i + 1))
            case measure => omega
            case rel => exact ⟨i + 1, rfl, by go_num, by omega, HS, HB5⟩
          | false =>
            have h1 : plRs l = false := by
              cases h : plRs l with
              | false => rfl
              | true =>
                have := (plRs_iff l).1 h _ (List.getElem_mem hlt)
                rw [HQ.out] at this
                cases this
            have H1 := hide h1
            clear h1
            go_wp2
            go_ret
            exact ⟨by rw [H1.out]; rfl, HB0.out.trans (HB5.out.mono HB0.out.size)⟩
        · have hil : i = l.length := by omega
          have hx1 : ¬ (i : Int) < (l.length : Int) := by omega
          have hE' := hE.out
          rw [hil, List.take_length] at hE'
          have HE := hide hE'
          clear hE' hil
          go_wp2
          go_ret
          exact ⟨by rw [HE.out]; rfl, HB0.out.trans (hB.out.mono HB0.out.size)⟩
end Go.Proofs.Ytaapbiiiepdopaa
