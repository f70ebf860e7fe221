/-
  No cell of these rows narrows 'for every input' (looked for: loops, veiled, ifaces, maps, wideKeys, modest, calm, conditions, laid).
  DERIVED. THE GIVEN ROWS OF THIS SEAT. 4 by the template 'for every input the law returns true; each argument reads behind the call as it read before'; 0 by the template 'total and deterministic' (their statements: YtajeifeigjggoaaTotals.lean).
  GIVEN WITH THE SEED: the statements are not yours to turn. If you find one false, say at which input.
  Laid BY PROGRAM, IN A SANDBOX (cutbox-rows.mjs): the forced cells as the released guide's own fill.sh prints them over the translation 03cb1dc67fdd8b41… (all of the seat's roots in one cut). By AI agents, Wed Nov 11 2026. No macro, syntax, notation, axiom, sorry.
-/
import Derived.Test.YtajeifeigjggoaaChecked
import GoSem.Claim
import GoSem.ClaimJoined
import GoSem.ClaimMapViews
import Derived.JoinedTies
import Derived.KernelRfl
namespace Go.Proofs.Ytajeifeigjggoaa
/- THE CELL 'sum', in the pinned program and in every row, IS THE sha256 OF THE DUMP (.gsa) THAT YtajeifeigjggoaaProg.lean LOADS. Nothing in Lean hashes anything: it is a label: what it is worth is what the hold of that sum in a sandbox is worth. -/
noncomputable def Try.pinned : Pinned := { name := "ytajeifeigjggoaa", sum := "03cb1dc67fdd8b41fa135d4fde0f53a375c3f2d6a6ce1dff12894f6973fa69e4", checked := Try.checked }
namespace Rows
def none {H : Type} : Left H := { results := [], args := [] }

/-- 'wattlelaw23.EpochSafe': WHATEVER THE INPUT: true; the input reads as it did. -/
def epochSafeSpec : ChangeSpec := { name := "epochSafe", fn := fun _ => fun
  | [d1, d2, d3] => { results := [.lit (.bool true)], args := [d1, d2, d3] }
  | _ => none }
def epochSafeRow : OpenClaim := { program := "ytajeifeigjggoaa", sum := "03cb1dc67fdd8b41fa135d4fde0f53a375c3f2d6a6ce1dff12894f6973fa69e4", func := "wattle/wattlelaw23.EpochSafe", spec := "epochSafe", apart := false }
def EpochSafeSaid : Prop := epochSafeRow.holds Try.pinned (OpenSpec.ofChange epochSafeSpec)

/-- ITS FALSE NEIGHBOUR: 'it returns false'. Refute it at one input. -/
def epochSafeWrong : ChangeSpec := { name := "epochSafe", fn := fun _ => fun
  | [d1, d2, d3] => { results := [.lit (.bool false)], args := [d1, d2, d3] }
  | _ => none }
def EpochSafeWrongFalsely : Prop := epochSafeRow.holds Try.pinned (OpenSpec.ofChange epochSafeWrong)

/-- 'wattlelaw23.EpochAll': WHATEVER THE INPUT: true; the input reads as it did. -/
def epochAllSpec : ChangeSpec := { name := "epochAll", fn := fun _ => fun
  | [d1, d2] => { results := [.lit (.bool true)], args := [d1, d2] }
  | _ => none }
def epochAllRow : OpenClaim := { program := "ytajeifeigjggoaa", sum := "03cb1dc67fdd8b41fa135d4fde0f53a375c3f2d6a6ce1dff12894f6973fa69e4", func := "wattle/wattlelaw23.EpochAll", spec := "epochAll", apart := false }
def EpochAllSaid : Prop := epochAllRow.holds Try.pinned (OpenSpec.ofChange epochAllSpec)

/-- ITS FALSE NEIGHBOUR: 'it returns false'. Refute it at one input. -/
def epochAllWrong : ChangeSpec := { name := "epochAll", fn := fun _ => fun
  | [d1, d2] => { results := [.lit (.bool false)], args := [d1, d2] }
  | _ => none }
def EpochAllWrongFalsely : Prop := epochAllRow.holds Try.pinned (OpenSpec.ofChange epochAllWrong)

/-- 'wattlelaw23.EpochEnds': WHATEVER THE INPUT: true; the input reads as it did. -/
def epochEndsSpec : ChangeSpec := { name := "epochEnds", fn := fun _ => fun
  | [d] => { results := [.lit (.bool true)], args := [d] }
  | _ => none }
def epochEndsRow : OpenClaim := { program := "ytajeifeigjggoaa", sum := "03cb1dc67fdd8b41fa135d4fde0f53a375c3f2d6a6ce1dff12894f6973fa69e4", func := "wattle/wattlelaw23.EpochEnds", spec := "epochEnds", apart := false }
def EpochEndsSaid : Prop := epochEndsRow.holds Try.pinned (OpenSpec.ofChange epochEndsSpec)

/-- ITS FALSE NEIGHBOUR: 'it returns false'. Refute it at one input. -/
def epochEndsWrong : ChangeSpec := { name := "epochEnds", fn := fun _ => fun
  | [d] => { results := [.lit (.bool false)], args := [d] }
  | _ => none }
def EpochEndsWrongFalsely : Prop := epochEndsRow.holds Try.pinned (OpenSpec.ofChange epochEndsWrong)

/-- 'wattlelaw23.EpochDoes': WHATEVER THE INPUT: true; the input reads as it did. -/
def epochDoesSpec : ChangeSpec := { name := "epochDoes", fn := fun _ => fun
  | [d] => { results := [.lit (.bool true)], args := [d] }
  | _ => none }
def epochDoesRow : OpenClaim := { program := "ytajeifeigjggoaa", sum := "03cb1dc67fdd8b41fa135d4fde0f53a375c3f2d6a6ce1dff12894f6973fa69e4", func := "wattle/wattlelaw23.EpochDoes", spec := "epochDoes", apart := false }
def EpochDoesSaid : Prop := epochDoesRow.holds Try.pinned (OpenSpec.ofChange epochDoesSpec)

/-- ITS FALSE NEIGHBOUR: 'it returns false'. Refute it at one input. -/
def epochDoesWrong : ChangeSpec := { name := "epochDoes", fn := fun _ => fun
  | [d] => { results := [.lit (.bool false)], args := [d] }
  | _ => none }
def EpochDoesWrongFalsely : Prop := epochDoesRow.holds Try.pinned (OpenSpec.ofChange epochDoesWrong)

/- THE SECOND FORM. 'bulk': how many values and letters a reading holds, each counted each time it is reached (what is shared counts as often as it is met; a slice's spare places count too). A statement '..UptoSaid' is the law's where the arguments, and the package variables that the reading takes, are together of bulk at most 1048576: NARROWER than '..Said'. Prove '..Said' where nothing that the law and all that it calls make is longer than what came in: it says more and counts as full. Else prove '..UptoSaid'. A law counts once. -/
mutual
def uptoBulk {H : Type} : DataW H → Nat
  | .lit (.string bytes) => bytes.length + 1
  | .lit _ => 1
  | .nil => 1
  | .ptr d => uptoBulk d + 1
  | .slice elems spare => uptoBulkAll elems + uptoBulkAll spare + 1
  | .agg parts => uptoBulkAll parts + 1
  | .iface _ d => uptoBulk d + 1
  | .map entries => uptoBulkEntries entries + 1
  | .held _ => 1
def uptoBulkAll {H : Type} : List (DataW H) → Nat
  | [] => 0
  | d :: r => uptoBulk d + uptoBulkAll r
def uptoBulkEntries {H : Type} : List (Lit × DataW H) → Nat
  | [] => 0
  | x :: r => uptoBulkEntry x + uptoBulkEntries r
def uptoBulkEntry {H : Type} : Lit × DataW H → Nat
  | (.string bytes, d) => bytes.length + uptoBulk d + 1
  | (_, d) => uptoBulk d + 1
 end
def uptoSmall : (H : Type) → List (DataW H) → Bool := fun _ ds => decide (uptoBulkAll ds ≤ 1048576)
def OpenSpec.upto (s : _root_.Go.ChangeSpec) : _root_.Go.OpenSpec := { _root_.Go.OpenSpec.ofChange s with cond := some uptoSmall }

/-- 'wattlelaw23.EpochSafe', WHERE WHAT IT READS IS OF BULK AT MOST 1048576: true; the input reads as it did. -/
def epochSafeUptoRow : OpenClaim := { program := "ytajeifeigjggoaa", sum := "03cb1dc67fdd8b41fa135d4fde0f53a375c3f2d6a6ce1dff12894f6973fa69e4", func := "wattle/wattlelaw23.EpochSafe", spec := "epochSafe", apart := false, narrowed := true }
def EpochSafeUptoSaid : Prop := epochSafeUptoRow.holds Try.pinned (OpenSpec.upto epochSafeSpec)

/-- 'wattlelaw23.EpochAll', WHERE WHAT IT READS IS OF BULK AT MOST 1048576: true; the input reads as it did. -/
def epochAllUptoRow : OpenClaim := { program := "ytajeifeigjggoaa", sum := "03cb1dc67fdd8b41fa135d4fde0f53a375c3f2d6a6ce1dff12894f6973fa69e4", func := "wattle/wattlelaw23.EpochAll", spec := "epochAll", apart := false, narrowed := true }
def EpochAllUptoSaid : Prop := epochAllUptoRow.holds Try.pinned (OpenSpec.upto epochAllSpec)

/-- 'wattlelaw23.EpochEnds', WHERE WHAT IT READS IS OF BULK AT MOST 1048576: true; the input reads as it did. -/
def epochEndsUptoRow : OpenClaim := { program := "ytajeifeigjggoaa", sum := "03cb1dc67fdd8b41fa135d4fde0f53a375c3f2d6a6ce1dff12894f6973fa69e4", func := "wattle/wattlelaw23.EpochEnds", spec := "epochEnds", apart := false, narrowed := true }
def EpochEndsUptoSaid : Prop := epochEndsUptoRow.holds Try.pinned (OpenSpec.upto epochEndsSpec)

/-- 'wattlelaw23.EpochDoes', WHERE WHAT IT READS IS OF BULK AT MOST 1048576: true; the input reads as it did. -/
def epochDoesUptoRow : OpenClaim := { program := "ytajeifeigjggoaa", sum := "03cb1dc67fdd8b41fa135d4fde0f53a375c3f2d6a6ce1dff12894f6973fa69e4", func := "wattle/wattlelaw23.EpochDoes", spec := "epochDoes", apart := false, narrowed := true }
def EpochDoesUptoSaid : Prop := epochDoesUptoRow.holds Try.pinned (OpenSpec.upto epochDoesSpec)

end Rows
end Go.Proofs.Ytajeifeigjggoaa
