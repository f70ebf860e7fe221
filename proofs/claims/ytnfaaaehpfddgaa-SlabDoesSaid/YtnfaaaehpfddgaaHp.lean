/- The free slots' heap: its methods, up, down, Push, Pop, by memory. -/
import Derived.Test.YtnfaaaehpfddgaaMem2
import Derived.Test.YtnfaaaehpfddgaaProg
import Derived.Test.YtnfaaaehpfddgaaPla
import Derived.StillTailTactics
import Derived.Deep.RegionLaw
import Derived.BigQuiet
namespace Go.Proofs.Ytnfaaaehpfddgaa
open Go.RowKit Mem
set_option linter.unusedVariables false

theorem el56 : Elem Try.prog 56 3 (.int .i64 0) 1 8 := ⟨Try.underlying56, by kernel_rfl, rfl, by decide⟩
def nats (xs : List Nat) : List Value := xs.map fun (x : Nat) => Value.int .i64 (x : Int)
theorem nats_len (xs : List Nat) : (nats xs).length = xs.length := by simp [nats]
theorem nats_at {xs : List Nat} {i : Nat} (hi : i < xs.length) : (nats xs)[i]? = some (.int .i64 (at_ xs i : Int)) := by
  unfold nats
  rw [List.getElem?_map, at_get hi]
  rfl
theorem nats_set (xs : List Nat) (i v : Nat) : (nats xs).set i (.int .i64 (v : Int)) = nats (xs.set i v) := by unfold nats; rw [List.map_set]

theorem m_push (a : Addr) (w : World) : (method 190 60 (.pointer (some a)) "Push").run Try.prog w = .ok (51, .pointer (some a)) w := by kernel_rfl
theorem m_pop (a : Addr) (w : World) : (method 190 60 (.pointer (some a)) "Pop").run Try.prog w = .ok (50, .pointer (some a)) w := by kernel_rfl
theorem m_len0 (a : Addr) (w : World) : (method 190 60 (.pointer (some a)) "Len").run Try.prog w = (do pure (47, ← load a) : Sem (FuncId × Value)).run Try.prog w := by kernel_rfl
theorem m_less0 (a : Addr) (w : World) : (method 190 60 (.pointer (some a)) "Less").run Try.prog w = (do pure (48, ← load a) : Sem (FuncId × Value)).run Try.prog w := by kernel_rfl
theorem m_swap0 (a : Addr) (w : World) : (method 190 60 (.pointer (some a)) "Swap").run Try.prog w = (do pure (49, ← load a) : Sem (FuncId × Value)).run Try.prog w := by kernel_rfl
theorem m_len (a : Addr) (w : World) (v : Value) (h : w.cell? a = some v) : (method 190 60 (.pointer (some a)) "Len").run Try.prog w = .ok (47, v) w := by
  rw [m_len0]
  simp [h]
theorem m_less (a : Addr) (w : World) (v : Value) (h : w.cell? a = some v) : (method 190 60 (.pointer (some a)) "Less").run Try.prog w = .ok (48, v) w := by
  rw [m_less0]
  simp [h]
theorem m_swap (a : Addr) (w : World) (v : Value) (h : w.cell? a = some v) : (method 190 60 (.pointer (some a)) "Swap").run Try.prog w = .ok (49, v) w := by
  rw [m_swap0]
  simp [h]

theorem len_any (A : Option Addr) (n c : Nat) (w : World) : Calls Try.prog 47 #[.slice A n c] w fun e w' => e = .returned (.int .i64 (n : Int)) ∧ w = w' := by
  go_enter Try.func47, Try.ntmps47
  go_wp2
  go_ret
  exact ⟨rfl, rfl⟩

theorem less_any {B g c i j : Nat} {xs : List Nat} {w : World} (h : w.ownsRow B 3 1 (.slice (some ⟨g, 0, none⟩) xs.length c) xs.length (nats xs)) (hi : i < xs.length) (hj : j < xs.length) :
    Calls Try.prog 48 #[.slice (some ⟨g, 0, none⟩) xs.length c, .int .i64 (i : Int), .int .i64 (j : Int)] w fun e w' => e = .returned (.bool (decide (at_ xs i < at_ xs j))) ∧ ∃ m, w.drewN m = w' := by
  have fi : w.cell? ⟨g, i, none⟩ = some (.int .i64 (at_ xs i : Int)) := by
    have := own_cell h (i := i) hi
    rw [Nat.zero_add] at this
    rw [this, nats_at hi]
  have fj : w.cell? ⟨g, j, none⟩ = some (.int .i64 (at_ xs j : Int)) := by
    have := own_cell h (i := j) hj
    rw [Nat.zero_add] at this
    rw [this, nats_at hj]
  generalize at_ xs i = a at fi ⊢
  generalize at_ xs j = b at fj ⊢
  generalize xs.length = n at hi hj ⊢
  clear h
  go_enter Try.func48, Try.ntmps48
  go_wp2
  go_quiet (fail)
  go_wp2
  go_ret
  exact ⟨by simp, _, rfl⟩

theorem swap_any {B g c i j : Nat} {xs : List Nat} {w : World} (h : w.ownsRow B 3 1 (.slice (some ⟨g, 0, none⟩) xs.length c) xs.length (nats xs)) (hi : i < xs.length) (hj : j < xs.length) :
    Calls Try.prog 49 #[.slice (some ⟨g, 0, none⟩) xs.length c, .int .i64 (i : Int), .int .i64 (j : Int)] w fun e w' => e = .returned (.tuple #[]) ∧
      w'.ownsRow B 3 1 (.slice (some ⟨g, 0, none⟩) xs.length c) xs.length (nats (sw xs i j)) ∧ Only (fun k => k = g) w w' := by
  have fi : w.cell? ⟨g, i, none⟩ = some (.int .i64 (at_ xs i : Int)) := by
    have := own_cell h (i := i) hi
    rw [Nat.zero_add] at this
    rw [this, nats_at hi]
  have fj : w.cell? ⟨g, j, none⟩ = some (.int .i64 (at_ xs j : Int)) := by
    have := own_cell h (i := j) hj
    rw [Nat.zero_add] at this
    rw [this, nats_at hj]
  have gi := h.frozenAt i
  have gj := h.frozenAt j
  have h1 := (h.stored i (.int .i64 (at_ xs j : Int))).1
  have gj1 := h1.frozenAt j
  obtain ⟨u, gc⟩ : ∃ u, (w.setCell ⟨g, i, none⟩ (.int .i64 (at_ xs j : Int))).cell? ⟨g, j, none⟩ = some u := by
    have h1' := h1
    rw [nats_set] at h1'
    have := own_cell h1' (i := j) hj
    rw [Nat.zero_add] at this
    exact ⟨_, by rw [this, nats_at (by simpa using hj)]⟩
  have h2 := (h1.stored j (.int .i64 (at_ xs i : Int))).1
  rw [nats_set, nats_set] at h2
  have O2 : Only (fun k => k = g) w ((w.setCell ⟨g, i, none⟩ (.int .i64 (at_ xs j : Int))).setCell ⟨g, j, none⟩ (.int .i64 (at_ xs i : Int))) := ((Only.refl (fun k => k = g) w).setCell (p := ⟨g, i, none⟩) (.inl rfl) _).setCell (p := ⟨g, j, none⟩) (.inl rfl) _
  have HH := hide (And.intro h2 O2)
  clear h h1 h2 O2
  unfold sw
  generalize at_ xs i = a at fi HH ⊢
  generalize at_ xs j = b at fj HH gj1 gc ⊢
  go_enter Try.func49, Try.ntmps49
  go_wp2
  go_region
  all_goals
    refine bodyPost_end (results_none rfl _ _ _) rfl ?_
    exact ⟨rfl, HH.out.1, HH.out.2.drewN 1⟩
end Go.Proofs.Ytnfaaaehpfddgaa
