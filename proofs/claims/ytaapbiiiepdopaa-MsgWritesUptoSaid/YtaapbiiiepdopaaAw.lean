/- A message that a function is handed. -/
import Derived.Test.YtaapbiiiepdopaaMb
import Derived.Test.YtaapbiiiepdopaaAv
namespace Go.Proofs.Ytaapbiiiepdopaa
open Go.RowKit Mem Go.Deep Go.ChangeShapes Go.WideShapes
set_option linter.unusedVariables false

section
variable {H : Type} {enc : TypeId × Value → H} {w : World}
set_option maxRecDepth 100000 in
theorem arg_msg {r : Reach} {b0 : Nat} {v : Value} {d : DataW H} {ps : List MemPlace} (x : Value.okWide Try.prog w r b0 41 v) (h : DataW.Trod enc Try.prog w 0 (fun _ => true) true 41 v d ps) :
    ∃ (m : M) (cs : Array Value), v = .agg cs ∧ IsM w (fun b => b < w.heap.size) m cs ∧ m.s.size + m.t.size + bulk m.v ≤ Rows.uptoBulk d := by
  obtain ⟨fuel, h⟩ := h
  simp only [Value.okWide, Try.underlying41] at x
  obtain ⟨cs, rfl, _⟩ := x
  have h : DataW.trod enc Try.prog w 0 (fun _ => true) true fuel 41 cs.toList = some (d, ps) := by simpa [Value.cells] using h
  obtain ⟨xs, k, hk, hx, hlen, hxl, hf⟩ := DataW.trod_struct Try.underlying41 h
  have c41 : Try.prog.cellsOf 41 = 10 := by kernel_rfl
  rw [c41] at hlen
  obtain ⟨cs⟩ := cs
  match cs, hlen with
  | [v0, v1, v2, v3, v4, v5, v6, v7, v8, v9], _ =>
    match xs, hxl with
    | [y0, y1, y2, y3, y4], _ =>
      have c2 : Try.prog.cellsOf 2 = 1 := by kernel_rfl
      have c3 : Try.prog.cellsOf 3 = 1 := by kernel_rfl
      have c9 : Try.prog.cellsOf 9 = 1 := by kernel_rfl
      have c25 : Try.prog.cellsOf 25 = 6 := by kernel_rfl
      have g0 := hf 0 _ rfl
      have g1 := hf 1 _ rfl
      have g2 := hf 2 _ rfl
      have g3 := hf 3 _ rfl
      have g4 := hf 4 _ rfl
      simp [c2, c3, c9, c25] at g0 g1 g2 g3 g4
      obtain ⟨z0, e0, f0, b0⟩ := DataW.trod_int Try.underlying3 g0
      obtain ⟨z1, e1, f1, b1⟩ := DataW.trod_string Try.underlying9 g1
      obtain ⟨z2, e2, f2, b2⟩ := DataW.trod_string Try.underlying9 g2
      obtain ⟨z3, e3, f3, b3⟩ := DataW.trod_int Try.underlying2 g3
      obtain ⟨mv, hv, hb⟩ := rd_val (d := y4.1) (ps := y4.2) _ (Nat.le_refl _) g4
      simp only [List.cons.injEq, and_true] at e0 e1 e2 e3
      subst e0; subst e1; subst e2; subst e3
      simp only [Prod.mk.injEq] at hx
      obtain ⟨hd, _⟩ := hx
      have hbk : Rows.uptoBulk d = 1 + ((z1.size + 1) + ((z2.size + 1) + (1 + (Rows.uptoBulk y4.1 + 0)))) + 1 := by
        rw [hd, f0, f1, f2, f3]
        simp [Rows.uptoBulk, Rows.uptoBulkAll]
      have hw0 : -9223372036854775808 ≤ z0 ∧ z0 ≤ 9223372036854775807 := bounds_i64 b0
      have hw3 : -9223372036854775808 ≤ z3 ∧ z3 ≤ 9223372036854775807 := bounds_i64 b3
      obtain ⟨k9, b9, n9, s9, AL9, nL9, cL9, AK9, nK9, cK9, e9⟩ := hv.shape
      simp only [Array.mk.injEq, List.cons.injEq, and_true] at e9
      obtain ⟨rfl, rfl, rfl, rfl, rfl, rfl⟩ := e9
      refine ⟨⟨z0, z1, z2, z3, mv⟩, _, rfl, ⟨k9, b9, n9, s9, AL9, nL9, cL9, AK9, nK9, cK9, rfl, hv, hw0.1, hw0.2, hw3.1, hw3.2, b1, b2⟩, ?_⟩
      dsimp only
      omega
end
end Go.Proofs.Ytaapbiiiepdopaa
