/- The reference's Unpin. -/
import Derived.Test.YtajeifeigjggoaaRw
import Derived.Laws.OwnMore
import Derived.Test.YtajeifeigjggoaaLaw2
namespace Go.Proofs.Ytajeifeigjggoaa
open Go.RowKit Go.Maps Mem
set_option linter.unusedVariables false

theorem refunpin_bad {w : World} {B r now d : Nat} {p : List Nat} {its : List (Int × Nat)} (t : Int) (h : Rf w B r now p its d) (hn : p.length ≤ 4294967296) (ht : t < 1 ∨ (p.length : Int) < t) :
    Calls Try.prog 20 #[.pointer (some ⟨r, 0, none⟩), .int .i64 t] w fun e w' => e = .returned (.int .i64 23) ∧ w = w' := by
  obtain ⟨P1, c1, I2, c2, N3, c3, G4, c4, hb, h1, _⟩ := h
  have f1 : w.cell? ⟨r, 1, none⟩ = some (.slice P1 p.length c1) := by rw [hb.cell]; rfl
  by_cases hc : t < 1
  · go_enter Try.func20, Try.ntmps20
    go_wp2
    all_goals first | omega | skip
    go_ret
    exact ⟨rfl, rfl⟩
  · have hd : (p.length : Int) < t := by omega
    go_enter Try.func20, Try.ntmps20
    go_wp2
    all_goals first | omega | skip
    go_ret
    exact ⟨rfl, rfl⟩

theorem refunpin_gone {w : World} {B r now d : Nat} {p : List Nat} {its : List (Int × Nat)} (t : Nat) (h : Rf w B r now p its d) (hn : p.length ≤ 4294967296) (ht : 1 ≤ t) (ht2 : t ≤ p.length) (hz : p.getD (t - 1) 0 = 0) :
    Calls Try.prog 20 #[.pointer (some ⟨r, 0, none⟩), .int .i64 (t : Int)] w fun e w' => e = .returned (.int .i64 24) ∧ w = w' := by
  obtain ⟨P1, c1, I2, c2, N3, c3, G4, c4, hb, h1, _⟩ := h
  have f1 : w.cell? ⟨r, 1, none⟩ = some (.slice P1 p.length c1) := by rw [hb.cell]; rfl
  obtain ⟨s, rfl⟩ : ∃ s, t = s + 1 := ⟨t - 1, by omega⟩
  obtain ⟨_, _, e1, _, hr⟩ := own_form h1
  cases e1
  obtain ⟨b, o, rfl, _, _, _, hc⟩ := hr.plain (by omega) (by omega)
  have f2 : w.cell? ⟨b, o + s, none⟩ = some (.int .i64 0) := by
    rw [hc s (by omega)]
    unfold nums
    rw [List.getElem?_map, List.getElem?_eq_getElem (by omega)]
    simp [List.getD, List.getElem?_eq_getElem (show s < p.length by omega)] at hz
    simp [hz]
  clear hc hr
  go_enter Try.func20, Try.ntmps20
  go_wp2
  all_goals first | omega | skip
  go_ret
  exact ⟨rfl, rfl⟩

theorem refunpin_ok {w : World} {B r now d v : Nat} {p : List Nat} {its : List (Int × Nat)} (t : Nat) (h : Rf w B r now p its d) (hn : p.length ≤ 4294967296) (ht : 1 ≤ t) (ht2 : t ≤ p.length) (hz : p[t - 1]? = some v) (hv : 0 < v) (hv2 : v ≤ 4294967296) :
    Calls Try.prog 20 #[.pointer (some ⟨r, 0, none⟩), .int .i64 (t : Int)] w fun e w' => e = .returned (.int .i64 0) ∧ Rf w' B r now (p.set (t - 1) 0) its d ∧ Fr IT w w' ∧ Below B w w' := by
  obtain ⟨P1, c1, I2, c2, N3, c3, G4, c4, hb, h1, h2, h3, h4, n1, n2, hd, hr0, hB⟩ := h
  have f1 : w.cell? ⟨r, 1, none⟩ = some (.slice P1 p.length c1) := by rw [hb.cell]; rfl
  obtain ⟨s, rfl⟩ : ∃ s, t = s + 1 := ⟨t - 1, by omega⟩
  obtain ⟨b, rfl, hbB⟩ : ∃ b, P1 = some ⟨b, 0, none⟩ ∧ B ≤ b := by
    rcases h1.2 with ⟨e1, e2⟩ | ⟨g', cap, cur, e1, hgB, _⟩
    · omega
    · cases e1
      exact ⟨g', rfl, hgB⟩
  have f2 : w.cell? ⟨b, s, none⟩ = some (.int .i64 (v : Int)) := by
    have := own_cell h1 (i := s) (by omega)
    rw [Nat.zero_add] at this
    rw [this]
    unfold nums
    rw [List.getElem?_map, show p[s]? = some v from hz]
    rfl
  have f3 := h1.frozenAt s
  obtain ⟨g1, g2⟩ := h1.stored s (.int .i64 0)
  have hbr := own_far h1 hb (by decide) b rfl
  have F1 := fr_grown (Fr.refl IT w) h1 g2 (fun cs fr => ⟨_, _, _, rfl, .inl rfl⟩)
  have B1 : Below B w (w.setCell ⟨b, s, none⟩ (.int .i64 0)) := (Below.refl B w).setCell hbB _
  have hb' := hb.far (p := ⟨b, s, none⟩) (fun e => hbr e.symm) (.int .i64 0)
  have r2 := own_grown h2 g2 (fun k hk e => (n1 b rfl).1 (by cases e; exact hk))
  have r3 := own_grown h3 g2 (fun k hk e => (n1 b rfl).2 (by cases e; exact hk))
  have r4 := own_grown h4 g2 (fun k hk e => own_own_ne h4 h1 (by decide) k hk e)
  have hnum : (nums p).set s (.int .i64 0) = nums (p.set s 0) := by unfold nums; rw [List.map_set]; rfl
  rw [hnum] at g1
  have HX := hide (And.intro g1 (And.intro F1 (And.intro B1 (And.intro hb' (And.intro r2 (And.intro r3 r4))))))
  clear g1 g2 F1 B1 hb' r2 r3 r4 h1 h2 h3 h4 hb
  go_enter Try.func20, Try.ntmps20
  go_wp2
  all_goals first | omega | skip
  go_ret
  obtain ⟨g1, F1, B1, hb', r2, r3, r4⟩ := HX.out
  refine ⟨rfl, ⟨some ⟨b, 0, none⟩, c1, I2, c2, N3, c3, G4, c4, ?_, ?_, r2, r3, r4, ?_, n2, hd, hr0, Nat.le_trans hB F1.size⟩, F1, B1⟩
  · simpa using hb'
  · simpa using g1
  · simpa using n1
end Go.Proofs.Ytajeifeigjggoaa
