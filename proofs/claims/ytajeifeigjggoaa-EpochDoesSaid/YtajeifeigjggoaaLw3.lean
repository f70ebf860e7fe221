/- All that was retired comes out in its order: in plain Lean. -/
import Derived.Test.YtajeifeigjggoaaFr
namespace Go.Proofs.Ytajeifeigjggoaa
open Go.RowKit Go.Maps Mem
set_option linter.unusedVariables false

/-- what came out, then what waits, is what was retired; what waits was retired by now -/
structure Flow (now : Nat) (o : List Int) (q : List (Int × Nat)) (l : List Int) : Prop where
  all : o ++ q.map (·.1) = l
  old : ∀ y ∈ q, y.2 ≤ now
theorem flow_retire {now : Nat} {o : List Int} {q : List (Int × Nat)} {l : List Int} (h : Flow now o q l) (x : Int) : Flow now o (q ++ [(x, now)]) (l ++ [x]) where
  all := by rw [List.map_append, ← List.append_assoc, h.all]; rfl
  old y hy := by
    rcases List.mem_append.1 hy with hy | hy
    · exact h.old y hy
    · rcases List.mem_cons.1 hy with rfl | hy
      · exact Nat.le_refl _
      · cases hy
theorem due_append (now : Nat) (q : List (Int × Nat)) : due now q ++ q.drop (due now q).length = q := by
  rw [due_drop]
  exact List.takeWhile_append_dropWhile
theorem busy_nil (now : Nat) : busy now [] = false := rfl
theorem flow_advance {now : Nat} {o : List Int} {q : List (Int × Nat)} {l : List Int} (h : Flow now o q l) : Flow (now + 1) (o ++ (advO now [] q).map (·.1)) (advQ now [] q) l where
  all := by
    unfold advO advQ
    rw [busy_nil, if_neg (by decide), if_neg (by decide), List.append_assoc, ← List.map_append, due_append]
    exact h.all
  old y hy := by
    unfold advQ at hy
    rw [busy_nil, if_neg (by decide)] at hy
    have := h.old y (List.mem_of_mem_drop hy)
    omega
theorem flow_last {now : Nat} {o : List Int} {q : List (Int × Nat)} {l : List Int} (h : Flow now o q l) : advQ (now + 1) [] (advQ now [] q) = [] := by
  have hy : ∀ y ∈ advQ now [] q, y.2 + 1 ≤ now + 1 := by
    intro y hy
    unfold advQ at hy
    rw [busy_nil, if_neg (by decide)] at hy
    have := h.old y (List.mem_of_mem_drop hy)
    omega
  generalize advQ now [] q = r at hy
  unfold advQ
  rw [busy_nil, if_neg (by decide), due_drop]
  induction r with
  | nil => rfl
  | cons a r ih =>
    rw [List.dropWhile_cons, if_pos (by simpa using hy a (by simp))]
    exact ih (fun y hm => hy y (List.mem_cons_of_mem _ hm))
theorem advN_nil (now : Nat) : advN now [] = now + 1 := rfl
theorem advE_nil (now : Nat) : advE now [] = 0 := rfl
end Go.Proofs.Ytajeifeigjggoaa
