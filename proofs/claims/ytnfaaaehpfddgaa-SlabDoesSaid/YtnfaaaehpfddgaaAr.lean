/- What the acts of an argument read as. -/
import Derived.Test.YtnfaaaehpfddgaaLaw1
import Derived.Deep.SlicePairs
namespace Go.Proofs.Ytnfaaaehpfddgaa
open Go.RowKit Mem Go.Deep Go.ChangeShapes Go.WideShapes
set_option linter.unusedVariables false

/-- an act: kind, number, raw, slot, generation, value -/
abbrev Op6 := Int × Int × Bool × Int × Int × Int
def cells6 (o : Op6) : List Value := [.int .i64 o.1, .int .i64 o.2.1, .bool o.2.2.1, .int .i64 o.2.2.2.1, .int .i64 o.2.2.2.2.1, .int .i64 o.2.2.2.2.2]
def op6 (l : List Op6) : List Value := l.flatMap cells6
theorem op6_len (l : List Op6) : (op6 l).length = l.length * 6 := by
  induction l with
  | nil => rfl
  | cons o r ih =>
    rw [show op6 (o :: r) = cells6 o ++ op6 r from rfl, List.length_append, ih]
    simp only [cells6, List.length_cons, List.length_nil]
    omega
theorem op6_at {l : List Op6} {k : Nat} {o : Op6} (h : l[k]? = some o) {r : Nat} (hr : r < 6) : (op6 l)[k * 6 + r]? = (cells6 o)[r]? := by
  induction l generalizing k with
  | nil => simp at h
  | cons x t ih =>
    rw [show op6 (x :: t) = cells6 x ++ op6 t from rfl]
    have hl : (cells6 x).length = 6 := rfl
    cases k with
    | zero =>
      simp at h
      subst h
      rw [List.getElem?_append_left (by omega)]
      simp
    | succ k =>
      rw [List.getElem?_append_right (by omega), hl, show (k + 1) * 6 + r - 6 = k * 6 + r by omega]
      exact ih (by simpa using h)

theorem rd_op6 {H : Type} {enc : TypeId × Value → H} {w : World} {base : Nat} {sp : Nat → Bool} {held : Bool} {fuel : Nat} {v : Value} {d : DataW H} {ps : List MemPlace} (h : DataW.trod enc Try.prog w base sp held fuel 36 [v] = some (d, ps)) :
    ∃ (A : Option Addr) (n c : Nat) (l : List Op6), v = .slice A n c ∧ n ≤ c ∧ Reads w 0 w.heap.size 6 A n (op6 l) := by
  rcases open_slice Try.underlying36 h with ⟨hcs, hx⟩ | ⟨a, len, cap, m, n, D, Pl, hcs, hb, hl, hm, hmm, hx, hi⟩
  · simp only [List.cons.injEq, and_true] at hcs
    exact ⟨none, 0, 0, [], hcs, Nat.le_refl _, Reads.none_⟩
  · simp only [List.cons.injEq, and_true] at hcs
    have hlm : len ≤ m := by rw [hmm]; split <;> omega
    have ce : Try.prog.cellsOf 38 = 6 := by kernel_rfl
    have each : ∀ i, i < len → ∃ o : Op6, ∀ r u, (cells6 o)[r]? = some u → w.cell? (a.add (i * 6 + r)) = some u := by
      intro i hil
      obtain ⟨cs', h1, h2⟩ := hi i (by omega)
      rw [ce] at h1
      obtain ⟨_, hlen, hcell⟩ := World.cells?_some h1
      obtain ⟨xs, k, hk, hxy, _, hxl, hf⟩ := DataW.trod_struct Try.underlying38 h2
      match cs', hlen with
      | [v0, v1, v2, v3, v4, v5], _ =>
        match xs, hxl with
        | [y0, y1, y2, y3, y4], _ =>
          have c2 : Try.prog.cellsOf 2 = 1 := by kernel_rfl
          have c3 : Try.prog.cellsOf 3 = 1 := by kernel_rfl
          have c4 : Try.prog.cellsOf 4 = 1 := by kernel_rfl
          have c29 : Try.prog.cellsOf 29 = 2 := by kernel_rfl
          have g0 := hf 0 _ rfl
          have g1 := hf 1 _ rfl
          have g2 := hf 2 _ rfl
          have g3 := hf 3 _ rfl
          have g4 := hf 4 _ rfl
          simp [c2, c3, c4, c29] at g0 g1 g2 g3 g4
          obtain ⟨z0, e0, _⟩ := DataW.trod_int Try.underlying3 g0
          obtain ⟨z1, e1, _⟩ := DataW.trod_int Try.underlying3 g1
          obtain ⟨z2, e2, _⟩ := DataW.trod_bool Try.underlying4 g2
          obtain ⟨z5, e5, _⟩ := DataW.trod_int Try.underlying2 g4
          obtain ⟨ws, k2, _, _, _, hwl, hf2⟩ := DataW.trod_struct Try.underlying29 g3
          match ws, hwl with
          | [q0, q1], _ =>
            have j0 := hf2 0 _ rfl
            have j1 := hf2 1 _ rfl
            simp [c2, c3] at j0 j1
            obtain ⟨z3, e3, _⟩ := DataW.trod_int Try.underlying3 j0
            obtain ⟨z4, e4, _⟩ := DataW.trod_int Try.underlying2 j1
            simp only [List.cons.injEq, and_true] at e0 e1 e2 e3 e4 e5
            subst e0; subst e1; subst e2; subst e3; subst e4; subst e5
            refine ⟨(z0, z1, z2, z3, z4, z5), fun r u hu => ?_⟩
            have hr : r < 6 := (List.getElem?_eq_some_iff.1 hu).1
            rw [← add_of_add, hcell r hr]
            exact hu
    let f : Nat → Op6 := fun i => if hil : i < len then (each i hil).choose else (0, 0, false, 0, 0, 0)
    have hf : ∀ i, i < len → ∀ r u, (cells6 (f i))[r]? = some u → w.cell? (a.add (i * 6 + r)) = some u := by
      intro i hil
      have := (each i hil).choose_spec
      simp only [f, dif_pos hil]
      exact this
    refine ⟨some a, len, cap, (List.range len).map f, hcs, hl, by rw [op6_len]; simp, fun hn => ⟨a, rfl, Nat.zero_le _, ?_, fun j u hu => ?_⟩⟩
    · have := World.block_lt_of_cell? w _ (hf 0 hn 0 _ rfl)
      rwa [block_of_add] at this
    · have hj : j < len * 6 := by
        have := (List.getElem?_eq_some_iff.1 hu).1
        rw [op6_len] at this
        simpa using this
      have hj2 : j / 6 < len := by omega
      have hg : ((List.range len).map f)[j / 6]? = some (f (j / 6)) := by simp [hj2]
      have e6 := op6_at hg (r := j % 6) (by omega)
      rw [show j / 6 * 6 + j % 6 = j by omega] at e6
      rw [e6] at hu
      have := hf (j / 6) hj2 (j % 6) u hu
      rwa [show j / 6 * 6 + j % 6 = j by omega] at this

theorem arg_op6 {H : Type} {enc : TypeId × Value → H} {w : World} {b0 : Nat} {r : Reach} {v : Value} {d : DataW H} {ps : List MemPlace} (x : Value.okWide Try.prog w r b0 36 v) (h : DataW.Trod enc Try.prog w 0 (fun _ => true) true 36 v d ps) :
    ∃ (A : Option Addr) (n c : Nat) (l : List Op6), v = .slice A n c ∧ n ≤ c ∧ Reads w 0 w.heap.size 6 A n (op6 l) := by
  obtain ⟨A, n, c, rfl⟩ := okWide_slice Try.underlying36 x
  obtain ⟨fuel, h⟩ := h
  exact rd_op6 (by simpa [Value.cells] using h)
end Go.Proofs.Ytnfaaaehpfddgaa
