/- EpochAll's walk over what came in; bulk of at most 1048576. -/
import Derived.Test.YtajeifeigjggoaaLaw3
namespace Go.Proofs.Ytajeifeigjggoaa
open Go.RowKit Go.Maps Mem Go.Deep Go.ChangeShapes Go.WideShapes
set_option linter.unusedVariables false

theorem arg_ints {H : Type} {enc : TypeId × Value → H} {w : World} {b0 : Nat} {r : Reach} {t e : TypeId} {v : Value} {d : DataW H} {ps : List MemPlace} (ht : Try.prog.underlying t = some (.slice e)) (he : Try.prog.underlying e = some (.int .i64)) (hc : Try.prog.cellsOf e = 1)
    (x : Value.okWide Try.prog w r b0 t v) (h : DataW.Trod enc Try.prog w 0 (fun _ => true) true t v d ps) :
    ∃ (A : Option Addr) (n c : Nat) (l : List Int), v = .slice A n c ∧ n ≤ c ∧ Reads w 0 w.heap.size 1 A n (ints l) ∧ n + 1 ≤ Rows.uptoBulk d := by
  obtain ⟨A, n, c, rfl⟩ := okWide_slice ht x
  obtain ⟨fuel, h⟩ := h
  obtain ⟨A, n, c, zs, hv, hn, hr, _, hb⟩ := rd_ints ht he hc (by simpa [Value.cells] using h)
  exact ⟨A, n, c, zs, hv, hn, hr, hb⟩

theorem epochAll_walk (H : Type) (enc : TypeId × Value → H) (W : World) (base : Nat) (v0 : Value) (d0 : DataW H) (p0 : List MemPlace) (v1 : Value) (d1 : DataW H) (p1 : List MemPlace)
    (x0 : Value.okWide Try.prog W .any base 33 v0) (h0 : DataW.Trod enc Try.prog W 0 (fun _ => true) true 33 v0 d0 p0) (x1 : Value.okWide Try.prog W .any base 34 v1) (h1 : DataW.Trod enc Try.prog W 0 (fun _ => true) true 34 v1 d1 p1)
    (hk : Rows.uptoSmall H ([d0, d1] ++ []) = true) : Calls Try.prog 4 #[v0, v1] W fun e W' => e = .returned (.bool true) ∧ Below W.heap.size W W' := by
  obtain ⟨A, n, c, l, rfl, _, hr, hb⟩ := arg_ints Try.underlying33 Try.underlying2 (by kernel_rfl) x0 h0
  obtain ⟨A1, n1, c1, l1, rfl, _, hr1, hb1⟩ := arg_ints Try.underlying34 Try.underlying3 (by kernel_rfl) x1 h1
  have h : Rows.uptoBulkAll [d0, d1] ≤ 1048576 := of_decide_eq_true hk
  simp only [Rows.uptoBulkAll] at h
  exact all_any l l1 n c n1 c1 A A1 W hr hr1 (by omega) (by omega)
end Go.Proofs.Ytajeifeigjggoaa
