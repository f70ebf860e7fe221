/- The reference's keeper of epochs: its state, its making, its counts. -/
import Derived.Test.YtajeifeigjggoaaLw3
import Derived.Test.YtajeifeigjggoaaSam
namespace Go.Proofs.Ytajeifeigjggoaa
open Go.RowKit Go.Maps Mem
set_option linter.unusedVariables false

def nums (p : List Nat) : List Value := p.map fun (v : Nat) => Value.int .i64 (v : Int)
def goneRow (d n : Nat) : List Value := List.replicate d (.bool true) ++ List.replicate (n - d) (.bool false)

/-- the reference at block r: now, its tickets p, all that was retired its, of which the first d are gone -/
def Rf (w : World) (B r now : Nat) (p : List Nat) (its : List (Int × Nat)) (d : Nat) : Prop :=
  ∃ P1 c1 I2 c2 N3 c3 G4 c4, Blk w r 49 #[.int .i64 (now : Int), .slice P1 p.length c1, .slice I2 its.length c2, .slice N3 its.length c3, .slice G4 its.length c4] ∧
    w.ownsRow B 2 1 (.slice P1 p.length c1) p.length (nums p) ∧ w.ownsRow B 2 1 (.slice I2 its.length c2) its.length (its.map fun x => Value.int .i64 x.1) ∧
    w.ownsRow B 2 1 (.slice N3 its.length c3) its.length (its.map fun x => Value.int .i64 (x.2 : Int)) ∧ w.ownsRow B 4 1 (.slice G4 its.length c4) its.length (goneRow d its.length) ∧
    (∀ k, (Value.slice P1 p.length c1).ownBlock = some k → ¬ (Value.slice I2 its.length c2).ownBlock = some k ∧ ¬ (Value.slice N3 its.length c3).ownBlock = some k) ∧
    (∀ k, (Value.slice I2 its.length c2).ownBlock = some k → ¬ (Value.slice N3 its.length c3).ownBlock = some k) ∧ d ≤ its.length ∧ B ≤ r ∧ B ≤ w.heap.size

theorem refnew_any (w : World) (B : Nat) (hB : B ≤ w.heap.size) : Calls Try.prog 18 #[] w fun e w' => e = .returned (.pointer (some ⟨w.heap.size, 0, none⟩)) ∧ Rf w' B w.heap.size 1 [] [] 0 ∧ Below w.heap.size w w' ∧ w'.heap.size = w.heap.size + 1 := by
  go_enter Try.func18, Try.ntmps18
  go_wp2
  go_ret
  refine ⟨rfl, ⟨none, 0, none, 0, none, 0, none, 0, ?_, World.ownsRow_nil _ _ _ _, World.ownsRow_nil _ _ _ _, World.ownsRow_nil _ _ _ _, World.ownsRow_nil _ _ _ _, ?_, ?_, Nat.le_refl _, hB, ?_⟩, (Below.refl _ w).alloc (Nat.le_refl _) _, by simp⟩
  · exact Blk.new w 49 _
  · intro k hk; cases hk
  · intro k hk; cases hk
  · simp; omega

theorem refpinned_any {w : World} {B r now d : Nat} {p : List Nat} {its : List (Int × Nat)} (h : Rf w B r now p its d) (hn : p.length ≤ 4294967296) :
    Calls Try.prog 23 #[.pointer (some ⟨r, 0, none⟩)] w fun e w' => e = .returned (.int .i64 (cnt p : Int)) ∧ w = w' := by
  obtain ⟨P1, c1, I2, c2, N3, c3, G4, c4, hb, h1, _⟩ := h
  have f1 : w.cell? ⟨r, 1, none⟩ = some (.slice P1 p.length c1) := by rw [hb.cell]; rfl
  obtain ⟨_, _, e1, _, hr⟩ := own_form h1
  cases e1
  go_enter Try.func23, Try.ntmps23
  go_wp2
  go_loopw [3, 4] (fun s i wr => ∃ k, k ≤ p.length ∧ i = .int .i64 (k : Nat) ∧ s = .int .i64 (cnt (p.take k) : Nat) ∧ wr = w) (fun _ i _ => p.length - (intOf i).toNat)
  case atStart => exact ⟨0, Nat.zero_le _, rfl, rfl, rfl⟩
  case round =>
    obtain ⟨k, hk, rfl, rfl, rfl⟩ := hrel
    have hcl := cnt_le (p.take k)
    rw [List.length_take] at hcl
    by_cases hlt : k < p.length
    · obtain ⟨b, o, rfl, _, _, _, hc⟩ := hr.plain (by omega) (by omega)
      have f2 : wr.cell? ⟨b, o + k, none⟩ = some (.int .i64 ((p[k] : Nat) : Int)) := by rw [hc k (by omega)]; unfold nums; rw [List.getElem?_map, List.getElem?_eq_getElem hlt]; rfl
      have hs : cnt (p.take (k + 1)) = cnt (p.take k) + (if 0 < p[k] then 1 else 0) := by
        rw [List.take_add_one, List.getElem?_eq_getElem hlt]
        unfold cnt
        rw [List.countP_append]
        simp [List.countP_cons]
      generalize p[k] = y at f2 hs
      have HS := hide hs
      clear hs hc hr
      by_cases hy : 0 < y
      · go_wp2
        go_roundw
        case rel => exact ⟨k + 1, by omega, by go_num, by rw [HS.out, if_pos hy]; go_num, trivial⟩
        case measure => simp [intOf]; omega
      · go_wp2
        go_roundw
        case rel => exact ⟨k + 1, by omega, by go_num, by rw [HS.out, if_neg hy]; rfl, trivial⟩
        case measure => simp [intOf]; omega
    · have e : p.take k = p := List.take_of_length_le (by omega)
      rw [e]
      go_wp2
      go_ret
      exact ⟨rfl, rfl⟩
end Go.Proofs.Ytajeifeigjggoaa
