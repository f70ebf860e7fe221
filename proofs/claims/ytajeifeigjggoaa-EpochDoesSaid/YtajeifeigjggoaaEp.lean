/- What the functions of an epoch's keeper do, each once; numbers far below 2^63 are asked. -/
import Derived.Test.YtajeifeigjggoaaMem
import Derived.Test.YtajeifeigjggoaaPla
import Derived.Test.YtajeifeigjggoaaProg
import Derived.Outline
import Derived.Handy
import Derived.Deep.QuietTactic
import Derived.BigQuiet
import Derived.StillTailTactics
import Derived.Deep.LoopGhost
import Derived.Maps.RangeWalk
namespace Go.Proofs.Ytajeifeigjggoaa
open Go.RowKit Go.Maps Mem
set_option linter.unusedVariables false

theorem key2 : Keyed Try.prog 2 := int_keyed Try.underlying2
theorem zero2 (w : World) : (zeroValue 2).run Try.prog w = .ok (.int .i64 0) w := by kernel_rfl
theorem el52 : Elem Try.prog 52 56 (.agg #[.int .i64 0, .int .i64 0]) 2 16 := ⟨Try.underlying52, by kernel_rfl, rfl, by decide⟩
theorem el33 : Elem Try.prog 33 2 (.int .i64 0) 1 8 := ⟨Try.underlying33, by kernel_rfl, rfl, by decide⟩

/-- the cells of what waits -/
def qcells (q : List (Int × Nat)) : List Value := q.flatMap fun x => [Value.int .i64 x.1, .int .i64 x.2]
theorem qcells_len (q : List (Int × Nat)) : (qcells q).length = q.length * 2 := by
  unfold qcells
  induction q with
  | nil => rfl
  | cons x r ih => simp only [List.flatMap_cons, List.length_append, List.length_cons, List.length_nil, ih]; omega
theorem qcells_append (q r : List (Int × Nat)) : qcells (q ++ r) = qcells q ++ qcells r := by unfold qcells; rw [List.flatMap_append]
theorem qcells_one (q : List (Int × Nat)) : ∀ u ∈ qcells q, u.oneCell' = true := by
  intro u hu
  unfold qcells at hu
  obtain ⟨x, _, hx⟩ := List.mem_flatMap.1 hu
  simp at hx
  rcases hx with rfl | rfl <;> rfl
theorem qcells_at {q : List (Int × Nat)} {k : Nat} (hk : k < q.length) : (qcells q)[k * 2]? = some (.int .i64 (q[k]).1) ∧ (qcells q)[k * 2 + 1]? = some (.int .i64 ((q[k]).2 : Int)) := by
  induction q generalizing k with
  | nil => simp at hk
  | cons x r ih =>
    cases k with
    | zero => exact ⟨rfl, rfl⟩
    | succ k =>
      have h := ih (k := k) (by simpa using hk)
      have e : qcells (x :: r) = Value.int .i64 x.1 :: .int .i64 x.2 :: qcells r := rfl
      rw [e, show (k + 1) * 2 = k * 2 + 1 + 1 from by omega]
      simpa using h
theorem qcells_drop (q : List (Int × Nat)) (k : Nat) : (qcells q).drop (k * 2) = qcells (q.drop k) := by
  induction k generalizing q with
  | zero => simp
  | succ k ih =>
    cases q with
    | nil => simp [qcells]
    | cons x r =>
      have e : qcells (x :: r) = Value.int .i64 x.1 :: .int .i64 x.2 :: qcells r := rfl
      rw [e, show (k + 1) * 2 = k * 2 + 1 + 1 from by omega]
      simpa using ih r

/-- a keeper at block g, its map at block b: the epoch now, the tickets p, what waits q -/
def Ep (w : World) (g b B now : Nat) (p : List Nat) (q : List (Int × Nat)) (V : Value) : Prop :=
  ∃ (QA : Option Addr) (qc : Nat) (D : DataW Unit), V = .slice QA q.length qc ∧ Blk w g 54 #[.int .i64 (now : Int), .int .i64 (p.length : Int), .map (some b), V] ∧
    w.ownsMap Try.prog 2 (plainElem Try.prog 2) b p.length D ∧ PinRel D p ∧ w.ownsRow B 56 2 V q.length (qcells q)

theorem new_any (w : World) : Calls Try.prog 7 #[] w fun e w' => e = .returned (.pointer (some ⟨w.heap.size + 1, 0, none⟩)) ∧
    Ep w' (w.heap.size + 1) w.heap.size w.heap.size 1 [] [] (.slice none 0 0) ∧ Below w.heap.size w w' ∧ w'.heap.size = w.heap.size + 2 := by
  have hmm := @run_makeMap Try.prog
  go_enter Try.func7, Try.ntmps7
  go_wp2
  go_ret
  refine ⟨rfl, ⟨none, 0, .map [], rfl, ?_, ?_, pin_empty, World.ownsRow_nil _ _ _ _⟩, ((Below.refl _ w).alloc (Nat.le_refl _) _).alloc (by simp) _, by simp⟩
  · have h := Blk.new (w.alloc (.map #[] 0)) 54 #[.int .i64 1, .int .i64 0, .map (some w.heap.size), .slice none 0 0]
    simp only [World.size_alloc] at h
    exact h
  · exact (World.ownsMap_made w Try.prog 2 _).alloc _

theorem now_any {g b B now : Nat} {p : List Nat} {q : List (Int × Nat)} {V : Value} (w : World) (h : Ep w g b B now p q V) : Calls Try.prog 16 #[.pointer (some ⟨g, 0, none⟩)] w fun e w' => e = .returned (.int .i64 (now : Int)) ∧ w = w' := by
  obtain ⟨QA, qc, D, rfl, hg, hm, hp, hq⟩ := h
  have h0 : w.cell? ⟨g, 0, none⟩ = some (.int .i64 (now : Int)) := by rw [hg.cell]; rfl
  go_enter Try.func16, Try.ntmps16
  go_wp2
  go_ret
  exact ⟨rfl, rfl⟩

theorem waiting_any {g b B now : Nat} {p : List Nat} {q : List (Int × Nat)} {V : Value} (w : World) (h : Ep w g b B now p q V) : Calls Try.prog 15 #[.pointer (some ⟨g, 0, none⟩)] w fun e w' => e = .returned (.int .i64 (q.length : Int)) ∧ w = w' := by
  obtain ⟨QA, qc, D, rfl, hg, hm, hp, hq⟩ := h
  have h0 : w.cell? ⟨g, 3, none⟩ = some (.slice QA q.length qc) := by rw [hg.cell]; rfl
  go_enter Try.func15, Try.ntmps15
  go_wp2
  go_ret
  exact ⟨rfl, rfl⟩

theorem pinned_any {g b B now : Nat} {p : List Nat} {q : List (Int × Nat)} {V : Value} (w : World) (h : Ep w g b B now p q V) : Calls Try.prog 17 #[.pointer (some ⟨g, 0, none⟩)] w fun e w' => e = .returned (.int .i64 (cnt p : Int)) ∧ w = w' := by
  obtain ⟨QA, qc, D, rfl, hg, hm, hp, hq⟩ := h
  have h0 : w.cell? ⟨g, 2, none⟩ = some (.map (some b)) := by rw [hg.cell]; rfl
  have hl := fun ty => hm.len (t := 51) (e := 2) Try.underlying51 ty
  rw [hp.size_] at hl
  go_enter Try.func17, Try.ntmps17
  go_wp2
  go_ret
  exact ⟨rfl, rfl⟩

end Go.Proofs.Ytajeifeigjggoaa
