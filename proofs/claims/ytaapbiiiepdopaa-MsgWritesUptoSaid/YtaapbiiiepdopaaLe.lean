/- MsgWrites, of an argument. -/
import Derived.Test.YtaapbiiiepdopaaLc
import Derived.Test.YtaapbiiiepdopaaAw
namespace Go.Proofs.Ytaapbiiiepdopaa
open Go.RowKit Mem Go.Deep Go.ChangeShapes Go.WideShapes
set_option linter.unusedVariables false
theorem msgWrites_walk (H : Type) (enc : TypeId × Value → H) (W : World) (base : Nat) (v0 : Value) (d0 : DataW H) (p0 : List MemPlace)
    (x0 : Value.okWide Try.prog W .any base 41 v0) (h0 : DataW.Trod enc Try.prog W 0 (fun _ => true) true 41 v0 d0 p0) (hk : Rows.uptoSmall H ([d0] ++ []) = true) :
    Calls Try.prog 12 #[v0] W fun e W' => e = .returned (.bool true) ∧ Below W.heap.size W W' := by
  obtain ⟨m, cs, rfl, hM, hb⟩ := arg_msg x0 h0
  have hs := small1 hk
  exact mwrites_law hM (by omega)
end Go.Proofs.Ytaapbiiiepdopaa
