/-
  No cell of these rows narrows 'for every input' (looked for: loops, veiled, ifaces, maps, wideKeys, modest, calm, conditions, laid).
  DERIVED. THE GIVEN ROWS OF THIS SEAT. 4 by the template 'for every input the law returns true; each argument reads behind the call as it read before'; 0 by the template 'total and deterministic' (their statements: YtnfaaaehpfddgaaTotals.lean).
  GIVEN WITH THE SEED: the statements are not yours to turn. If you find one false, say at which input.
  Laid BY PROGRAM, IN A SANDBOX (cutbox-rows.mjs): the forced cells as the released guide's own fill.sh prints them over the translation 009b68e2a76c9f73… (all of the seat's roots in one cut). By AI agents, Wed Nov 11 2026. No macro, syntax, notation, axiom, sorry.
-/
import Derived.Test.YtnfaaaehpfddgaaChecked
import GoSem.Claim
import GoSem.ClaimJoined
import GoSem.ClaimMapViews
import Derived.JoinedTies
import Derived.KernelRfl
namespace Go.Proofs.Ytnfaaaehpfddgaa
/- THE CELL 'sum', in the pinned program and in every row, IS THE sha256 OF THE DUMP (.gsa) THAT YtnfaaaehpfddgaaProg.lean LOADS. Nothing in Lean hashes anything: it is a label: what it is worth is what the hold of that sum in a sandbox is worth. -/
noncomputable def Try.pinned : Pinned := { name := "ytnfaaaehpfddgaa", sum := "009b68e2a76c9f73427d4f280fb913d4620e867cb1541ee3e84f55c530785816", checked := Try.checked }
namespace Rows
def none {H : Type} : Left H := { results := [], args := [] }

/-- 'wattlelaw22.SlabRoom': WHATEVER THE INPUT: true; the input reads as it did. -/
def slabRoomSpec : ChangeSpec := { name := "slabRoom", fn := fun _ => fun
  | [d1, d2] => { results := [.lit (.bool true)], args := [d1, d2] }
  | _ => none }
def slabRoomRow : OpenClaim := { program := "ytnfaaaehpfddgaa", sum := "009b68e2a76c9f73427d4f280fb913d4620e867cb1541ee3e84f55c530785816", func := "wattle/wattlelaw22.SlabRoom", spec := "slabRoom", unfollowed := true, recurses := true, apart := false }
def SlabRoomSaid : Prop := slabRoomRow.holds Try.pinned (OpenSpec.ofChange slabRoomSpec)

/-- ITS FALSE NEIGHBOUR: 'it returns false'. Refute it at one input. -/
def slabRoomWrong : ChangeSpec := { name := "slabRoom", fn := fun _ => fun
  | [d1, d2] => { results := [.lit (.bool false)], args := [d1, d2] }
  | _ => none }
def SlabRoomWrongFalsely : Prop := slabRoomRow.holds Try.pinned (OpenSpec.ofChange slabRoomWrong)

/-- 'wattlelaw22.SlabSlots': WHATEVER THE INPUT: true; the input reads as it did. -/
def slabSlotsSpec : ChangeSpec := { name := "slabSlots", fn := fun _ => fun
  | [d] => { results := [.lit (.bool true)], args := [d] }
  | _ => none }
def slabSlotsRow : OpenClaim := { program := "ytnfaaaehpfddgaa", sum := "009b68e2a76c9f73427d4f280fb913d4620e867cb1541ee3e84f55c530785816", func := "wattle/wattlelaw22.SlabSlots", spec := "slabSlots", unfollowed := true, recurses := true, apart := false }
def SlabSlotsSaid : Prop := slabSlotsRow.holds Try.pinned (OpenSpec.ofChange slabSlotsSpec)

/-- ITS FALSE NEIGHBOUR: 'it returns false'. Refute it at one input. -/
def slabSlotsWrong : ChangeSpec := { name := "slabSlots", fn := fun _ => fun
  | [d] => { results := [.lit (.bool false)], args := [d] }
  | _ => none }
def SlabSlotsWrongFalsely : Prop := slabSlotsRow.holds Try.pinned (OpenSpec.ofChange slabSlotsWrong)

/-- 'wattlelaw22.SlabOnce': WHATEVER THE INPUT: true; the input reads as it did. -/
def slabOnceSpec : ChangeSpec := { name := "slabOnce", fn := fun _ => fun
  | [d1, d2] => { results := [.lit (.bool true)], args := [d1, d2] }
  | _ => none }
def slabOnceRow : OpenClaim := { program := "ytnfaaaehpfddgaa", sum := "009b68e2a76c9f73427d4f280fb913d4620e867cb1541ee3e84f55c530785816", func := "wattle/wattlelaw22.SlabOnce", spec := "slabOnce", unfollowed := true, recurses := true, apart := false }
def SlabOnceSaid : Prop := slabOnceRow.holds Try.pinned (OpenSpec.ofChange slabOnceSpec)

/-- ITS FALSE NEIGHBOUR: 'it returns false'. Refute it at one input. -/
def slabOnceWrong : ChangeSpec := { name := "slabOnce", fn := fun _ => fun
  | [d1, d2] => { results := [.lit (.bool false)], args := [d1, d2] }
  | _ => none }
def SlabOnceWrongFalsely : Prop := slabOnceRow.holds Try.pinned (OpenSpec.ofChange slabOnceWrong)

/-- 'wattlelaw22.SlabDoes': WHATEVER THE INPUT: true; the input reads as it did. -/
def slabDoesSpec : ChangeSpec := { name := "slabDoes", fn := fun _ => fun
  | [d1, d2] => { results := [.lit (.bool true)], args := [d1, d2] }
  | _ => none }
def slabDoesRow : OpenClaim := { program := "ytnfaaaehpfddgaa", sum := "009b68e2a76c9f73427d4f280fb913d4620e867cb1541ee3e84f55c530785816", func := "wattle/wattlelaw22.SlabDoes", spec := "slabDoes", unfollowed := true, recurses := true, apart := false }
def SlabDoesSaid : Prop := slabDoesRow.holds Try.pinned (OpenSpec.ofChange slabDoesSpec)

/-- ITS FALSE NEIGHBOUR: 'it returns false'. Refute it at one input. -/
def slabDoesWrong : ChangeSpec := { name := "slabDoes", fn := fun _ => fun
  | [d1, d2] => { results := [.lit (.bool false)], args := [d1, d2] }
  | _ => none }
def SlabDoesWrongFalsely : Prop := slabDoesRow.holds Try.pinned (OpenSpec.ofChange slabDoesWrong)

/- THE SECOND FORM. 'bulk': how many values and letters a reading holds, each counted each time it is reached (what is shared counts as often as it is met; a slice's spare places count too). A statement '..UptoSaid' is the law's where the arguments, and the package variables that the reading takes, are together of bulk at most 1048576: NARROWER than '..Said'. Prove '..Said' where nothing that the law and all that it calls make is longer than what came in: it says more and counts as full. Else prove '..UptoSaid'. A law counts once. -/
mutual
def uptoBulk {H : Type} : DataW H → Nat
  | .lit (.string bytes) => bytes.length + 1
  | .lit _ => 1
  | .nil => 1
  | .ptr d => uptoBulk d + 1
  | .slice elems spare => uptoBulkAll elems + uptoBulkAll spare + 1
  | .agg parts => uptoBulkAll parts + 1
  | .iface _ d => uptoBulk d + 1
  | .map entries => uptoBulkEntries entries + 1
  | .held _ => 1
def uptoBulkAll {H : Type} : List (DataW H) → Nat
  | [] => 0
  | d :: r => uptoBulk d + uptoBulkAll r
def uptoBulkEntries {H : Type} : List (Lit × DataW H) → Nat
  | [] => 0
  | x :: r => uptoBulkEntry x + uptoBulkEntries r
def uptoBulkEntry {H : Type} : Lit × DataW H → Nat
  | (.string bytes, d) => bytes.length + uptoBulk d + 1
  | (_, d) => uptoBulk d + 1
 end
def uptoSmall : (H : Type) → List (DataW H) → Bool := fun _ ds => decide (uptoBulkAll ds ≤ 1048576)
def OpenSpec.upto (s : _root_.Go.ChangeSpec) : _root_.Go.OpenSpec := { _root_.Go.OpenSpec.ofChange s with cond := some uptoSmall }

/-- 'wattlelaw22.SlabRoom', WHERE WHAT IT READS IS OF BULK AT MOST 1048576: true; the input reads as it did. -/
def slabRoomUptoRow : OpenClaim := { program := "ytnfaaaehpfddgaa", sum := "009b68e2a76c9f73427d4f280fb913d4620e867cb1541ee3e84f55c530785816", func := "wattle/wattlelaw22.SlabRoom", spec := "slabRoom", unfollowed := true, recurses := true, apart := false, narrowed := true }
def SlabRoomUptoSaid : Prop := slabRoomUptoRow.holds Try.pinned (OpenSpec.upto slabRoomSpec)

/-- 'wattlelaw22.SlabSlots', WHERE WHAT IT READS IS OF BULK AT MOST 1048576: true; the input reads as it did. -/
def slabSlotsUptoRow : OpenClaim := { program := "ytnfaaaehpfddgaa", sum := "009b68e2a76c9f73427d4f280fb913d4620e867cb1541ee3e84f55c530785816", func := "wattle/wattlelaw22.SlabSlots", spec := "slabSlots", unfollowed := true, recurses := true, apart := false, narrowed := true }
def SlabSlotsUptoSaid : Prop := slabSlotsUptoRow.holds Try.pinned (OpenSpec.upto slabSlotsSpec)

/-- 'wattlelaw22.SlabOnce', WHERE WHAT IT READS IS OF BULK AT MOST 1048576: true; the input reads as it did. -/
def slabOnceUptoRow : OpenClaim := { program := "ytnfaaaehpfddgaa", sum := "009b68e2a76c9f73427d4f280fb913d4620e867cb1541ee3e84f55c530785816", func := "wattle/wattlelaw22.SlabOnce", spec := "slabOnce", unfollowed := true, recurses := true, apart := false, narrowed := true }
def SlabOnceUptoSaid : Prop := slabOnceUptoRow.holds Try.pinned (OpenSpec.upto slabOnceSpec)

/-- 'wattlelaw22.SlabDoes', WHERE WHAT IT READS IS OF BULK AT MOST 1048576: true; the input reads as it did. -/
def slabDoesUptoRow : OpenClaim := { program := "ytnfaaaehpfddgaa", sum := "009b68e2a76c9f73427d4f280fb913d4620e867cb1541ee3e84f55c530785816", func := "wattle/wattlelaw22.SlabDoes", spec := "slabDoes", unfollowed := true, recurses := true, apart := false, narrowed := true }
def SlabDoesUptoSaid : Prop := slabDoesUptoRow.holds Try.pinned (OpenSpec.upto slabDoesSpec)

end Rows
end Go.Proofs.Ytnfaaaehpfddgaa
