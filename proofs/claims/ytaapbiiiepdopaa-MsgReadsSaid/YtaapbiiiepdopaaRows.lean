/-
  NARROWER THAN 'FOR EVERY INPUT', by the rows' own cells (each row's printed sentence says how): PackWrites: loops · PackBack: loops · PackCuts: loops · PackApart: loops · MsgBack: loops · MsgWrites: loops · MsgStream: loops.
  DERIVED. THE GIVEN ROWS OF THIS SEAT. 11 by the template 'for every input the law returns true; each argument reads behind the call as it read before'; 0 by the template 'total and deterministic' (their statements: YtaapbiiiepdopaaTotals.lean).
  GIVEN WITH THE SEED: the statements are not yours to turn. If you find one false, say at which input.
  Laid BY PROGRAM, IN A SANDBOX (cutbox-rows.mjs): the forced cells as the released guide's own fill.sh prints them over the translation bceeb41d8b34bf6a… (all of the seat's roots in one cut). By AI agents, Wed Nov 11 2026. No macro, syntax, notation, axiom, sorry.
-/
import Derived.Test.YtaapbiiiepdopaaChecked
import GoSem.Claim
import GoSem.ClaimJoined
import GoSem.ClaimMapViews
import Derived.JoinedTies
import Derived.KernelRfl
namespace Go.Proofs.Ytaapbiiiepdopaa
/- THE CELL 'sum', in the pinned program and in every row, IS THE sha256 OF THE DUMP (.gsa) THAT YtaapbiiiepdopaaProg.lean LOADS. Nothing in Lean hashes anything: it is a label: what it is worth is what the hold of that sum in a sandbox is worth. -/
noncomputable def Try.pinned : Pinned := { name := "ytaapbiiiepdopaa", sum := "bceeb41d8b34bf6a093f002a40eb8796cbd44f014abd9fbb9ac72b17e90d902b", checked := Try.checked }
namespace Rows
def none {H : Type} : Left H := { results := [], args := [] }

/-- 'wattlelaw04.PackWrites': WHATEVER THE INPUT: true; the input reads as it did. -/
def packWritesSpec : ChangeSpec := { name := "packWrites", fn := fun _ => fun
  | [d] => { results := [.lit (.bool true)], args := [d] }
  | _ => none }
def packWritesRow : OpenClaim := { program := "ytaapbiiiepdopaa", sum := "bceeb41d8b34bf6a093f002a40eb8796cbd44f014abd9fbb9ac72b17e90d902b", func := "wattle/wattlelaw04.PackWrites", spec := "packWrites", unfollowed := true, recurses := true, loops := true, apart := false }
def PackWritesSaid : Prop := packWritesRow.holds Try.pinned (OpenSpec.ofChange packWritesSpec)

/-- ITS FALSE NEIGHBOUR: 'it returns false'. Refute it at one input. -/
def packWritesWrong : ChangeSpec := { name := "packWrites", fn := fun _ => fun
  | [d] => { results := [.lit (.bool false)], args := [d] }
  | _ => none }
def PackWritesWrongFalsely : Prop := packWritesRow.holds Try.pinned (OpenSpec.ofChange packWritesWrong)

/-- 'wattlelaw04.PackReads': WHATEVER THE INPUT: true; the input reads as it did. -/
def packReadsSpec : ChangeSpec := { name := "packReads", fn := fun _ => fun
  | [d] => { results := [.lit (.bool true)], args := [d] }
  | _ => none }
def packReadsRow : OpenClaim := { program := "ytaapbiiiepdopaa", sum := "bceeb41d8b34bf6a093f002a40eb8796cbd44f014abd9fbb9ac72b17e90d902b", func := "wattle/wattlelaw04.PackReads", spec := "packReads", unfollowed := true, recurses := true, apart := false }
def PackReadsSaid : Prop := packReadsRow.holds Try.pinned (OpenSpec.ofChange packReadsSpec)

/-- ITS FALSE NEIGHBOUR: 'it returns false'. Refute it at one input. -/
def packReadsWrong : ChangeSpec := { name := "packReads", fn := fun _ => fun
  | [d] => { results := [.lit (.bool false)], args := [d] }
  | _ => none }
def PackReadsWrongFalsely : Prop := packReadsRow.holds Try.pinned (OpenSpec.ofChange packReadsWrong)

/-- 'wattlelaw04.PackBack': WHATEVER THE INPUT: true; the input reads as it did. -/
def packBackSpec : ChangeSpec := { name := "packBack", fn := fun _ => fun
  | [d1, d2] => { results := [.lit (.bool true)], args := [d1, d2] }
  | _ => none }
def packBackRow : OpenClaim := { program := "ytaapbiiiepdopaa", sum := "bceeb41d8b34bf6a093f002a40eb8796cbd44f014abd9fbb9ac72b17e90d902b", func := "wattle/wattlelaw04.PackBack", spec := "packBack", unfollowed := true, recurses := true, loops := true, apart := false }
def PackBackSaid : Prop := packBackRow.holds Try.pinned (OpenSpec.ofChange packBackSpec)

/-- ITS FALSE NEIGHBOUR: 'it returns false'. Refute it at one input. -/
def packBackWrong : ChangeSpec := { name := "packBack", fn := fun _ => fun
  | [d1, d2] => { results := [.lit (.bool false)], args := [d1, d2] }
  | _ => none }
def PackBackWrongFalsely : Prop := packBackRow.holds Try.pinned (OpenSpec.ofChange packBackWrong)

/-- 'wattlelaw04.PackOne': WHATEVER THE INPUT: true; the input reads as it did. -/
def packOneSpec : ChangeSpec := { name := "packOne", fn := fun _ => fun
  | [d] => { results := [.lit (.bool true)], args := [d] }
  | _ => none }
def packOneRow : OpenClaim := { program := "ytaapbiiiepdopaa", sum := "bceeb41d8b34bf6a093f002a40eb8796cbd44f014abd9fbb9ac72b17e90d902b", func := "wattle/wattlelaw04.PackOne", spec := "packOne", unfollowed := true, recurses := true, apart := false }
def PackOneSaid : Prop := packOneRow.holds Try.pinned (OpenSpec.ofChange packOneSpec)

/-- ITS FALSE NEIGHBOUR: 'it returns false'. Refute it at one input. -/
def packOneWrong : ChangeSpec := { name := "packOne", fn := fun _ => fun
  | [d] => { results := [.lit (.bool false)], args := [d] }
  | _ => none }
def PackOneWrongFalsely : Prop := packOneRow.holds Try.pinned (OpenSpec.ofChange packOneWrong)

/-- 'wattlelaw04.PackCuts': WHATEVER THE INPUT: true; the input reads as it did. -/
def packCutsSpec : ChangeSpec := { name := "packCuts", fn := fun _ => fun
  | [d1, d2] => { results := [.lit (.bool true)], args := [d1, d2] }
  | _ => none }
def packCutsRow : OpenClaim := { program := "ytaapbiiiepdopaa", sum := "bceeb41d8b34bf6a093f002a40eb8796cbd44f014abd9fbb9ac72b17e90d902b", func := "wattle/wattlelaw04.PackCuts", spec := "packCuts", unfollowed := true, recurses := true, loops := true, apart := false }
def PackCutsSaid : Prop := packCutsRow.holds Try.pinned (OpenSpec.ofChange packCutsSpec)

/-- ITS FALSE NEIGHBOUR: 'it returns false'. Refute it at one input. -/
def packCutsWrong : ChangeSpec := { name := "packCuts", fn := fun _ => fun
  | [d1, d2] => { results := [.lit (.bool false)], args := [d1, d2] }
  | _ => none }
def PackCutsWrongFalsely : Prop := packCutsRow.holds Try.pinned (OpenSpec.ofChange packCutsWrong)

/-- 'wattlelaw04.PackApart': WHATEVER THE INPUT: true; the input reads as it did. -/
def packApartSpec : ChangeSpec := { name := "packApart", fn := fun _ => fun
  | [d1, d2] => { results := [.lit (.bool true)], args := [d1, d2] }
  | _ => none }
def packApartRow : OpenClaim := { program := "ytaapbiiiepdopaa", sum := "bceeb41d8b34bf6a093f002a40eb8796cbd44f014abd9fbb9ac72b17e90d902b", func := "wattle/wattlelaw04.PackApart", spec := "packApart", unfollowed := true, recurses := true, loops := true, apart := false }
def PackApartSaid : Prop := packApartRow.holds Try.pinned (OpenSpec.ofChange packApartSpec)

/-- ITS FALSE NEIGHBOUR: 'it returns false'. Refute it at one input. -/
def packApartWrong : ChangeSpec := { name := "packApart", fn := fun _ => fun
  | [d1, d2] => { results := [.lit (.bool false)], args := [d1, d2] }
  | _ => none }
def PackApartWrongFalsely : Prop := packApartRow.holds Try.pinned (OpenSpec.ofChange packApartWrong)

/-- 'wattlelaw08.MsgReads': WHATEVER THE INPUT: true; the input reads as it did. -/
def msgReadsSpec : ChangeSpec := { name := "msgReads", fn := fun _ => fun
  | [d] => { results := [.lit (.bool true)], args := [d] }
  | _ => none }
def msgReadsRow : OpenClaim := { program := "ytaapbiiiepdopaa", sum := "bceeb41d8b34bf6a093f002a40eb8796cbd44f014abd9fbb9ac72b17e90d902b", func := "wattle/wattlelaw08.MsgReads", spec := "msgReads", unfollowed := true, recurses := true, apart := false }
def MsgReadsSaid : Prop := msgReadsRow.holds Try.pinned (OpenSpec.ofChange msgReadsSpec)

/-- ITS FALSE NEIGHBOUR: 'it returns false'. Refute it at one input. -/
def msgReadsWrong : ChangeSpec := { name := "msgReads", fn := fun _ => fun
  | [d] => { results := [.lit (.bool false)], args := [d] }
  | _ => none }
def MsgReadsWrongFalsely : Prop := msgReadsRow.holds Try.pinned (OpenSpec.ofChange msgReadsWrong)

/-- 'wattlelaw08.MsgBack': WHATEVER THE INPUT: true; the input reads as it did. -/
def msgBackSpec : ChangeSpec := { name := "msgBack", fn := fun _ => fun
  | [d] => { results := [.lit (.bool true)], args := [d] }
  | _ => none }
def msgBackRow : OpenClaim := { program := "ytaapbiiiepdopaa", sum := "bceeb41d8b34bf6a093f002a40eb8796cbd44f014abd9fbb9ac72b17e90d902b", func := "wattle/wattlelaw08.MsgBack", spec := "msgBack", unfollowed := true, recurses := true, loops := true, apart := false }
def MsgBackSaid : Prop := msgBackRow.holds Try.pinned (OpenSpec.ofChange msgBackSpec)

/-- ITS FALSE NEIGHBOUR: 'it returns false'. Refute it at one input. -/
def msgBackWrong : ChangeSpec := { name := "msgBack", fn := fun _ => fun
  | [d] => { results := [.lit (.bool false)], args := [d] }
  | _ => none }
def MsgBackWrongFalsely : Prop := msgBackRow.holds Try.pinned (OpenSpec.ofChange msgBackWrong)

/-- 'wattlelaw08.MsgOne': WHATEVER THE INPUT: true; the input reads as it did. -/
def msgOneSpec : ChangeSpec := { name := "msgOne", fn := fun _ => fun
  | [d] => { results := [.lit (.bool true)], args := [d] }
  | _ => none }
def msgOneRow : OpenClaim := { program := "ytaapbiiiepdopaa", sum := "bceeb41d8b34bf6a093f002a40eb8796cbd44f014abd9fbb9ac72b17e90d902b", func := "wattle/wattlelaw08.MsgOne", spec := "msgOne", unfollowed := true, recurses := true, apart := false }
def MsgOneSaid : Prop := msgOneRow.holds Try.pinned (OpenSpec.ofChange msgOneSpec)

/-- ITS FALSE NEIGHBOUR: 'it returns false'. Refute it at one input. -/
def msgOneWrong : ChangeSpec := { name := "msgOne", fn := fun _ => fun
  | [d] => { results := [.lit (.bool false)], args := [d] }
  | _ => none }
def MsgOneWrongFalsely : Prop := msgOneRow.holds Try.pinned (OpenSpec.ofChange msgOneWrong)

/-- 'wattlelaw08.MsgWrites': WHATEVER THE INPUT: true; the input reads as it did. -/
def msgWritesSpec : ChangeSpec := { name := "msgWrites", fn := fun _ => fun
  | [d] => { results := [.lit (.bool true)], args := [d] }
  | _ => none }
def msgWritesRow : OpenClaim := { program := "ytaapbiiiepdopaa", sum := "bceeb41d8b34bf6a093f002a40eb8796cbd44f014abd9fbb9ac72b17e90d902b", func := "wattle/wattlelaw08.MsgWrites", spec := "msgWrites", unfollowed := true, recurses := true, loops := true, apart := false }
def MsgWritesSaid : Prop := msgWritesRow.holds Try.pinned (OpenSpec.ofChange msgWritesSpec)

/-- ITS FALSE NEIGHBOUR: 'it returns false'. Refute it at one input. -/
def msgWritesWrong : ChangeSpec := { name := "msgWrites", fn := fun _ => fun
  | [d] => { results := [.lit (.bool false)], args := [d] }
  | _ => none }
def MsgWritesWrongFalsely : Prop := msgWritesRow.holds Try.pinned (OpenSpec.ofChange msgWritesWrong)

/-- 'wattlelaw08.MsgStream': WHATEVER THE INPUT: true; the input reads as it did. -/
def msgStreamSpec : ChangeSpec := { name := "msgStream", fn := fun _ => fun
  | [d1, d2] => { results := [.lit (.bool true)], args := [d1, d2] }
  | _ => none }
def msgStreamRow : OpenClaim := { program := "ytaapbiiiepdopaa", sum := "bceeb41d8b34bf6a093f002a40eb8796cbd44f014abd9fbb9ac72b17e90d902b", func := "wattle/wattlelaw08.MsgStream", spec := "msgStream", unfollowed := true, recurses := true, loops := true, apart := false }
def MsgStreamSaid : Prop := msgStreamRow.holds Try.pinned (OpenSpec.ofChange msgStreamSpec)

/-- ITS FALSE NEIGHBOUR: 'it returns false'. Refute it at one input. -/
def msgStreamWrong : ChangeSpec := { name := "msgStream", fn := fun _ => fun
  | [d1, d2] => { results := [.lit (.bool false)], args := [d1, d2] }
  | _ => none }
def MsgStreamWrongFalsely : Prop := msgStreamRow.holds Try.pinned (OpenSpec.ofChange msgStreamWrong)

/- THE SECOND FORM. 'bulk': how many values and letters a reading holds, each counted each time it is reached (what is shared counts as often as it is met; a slice's spare places count too). A statement '..UptoSaid' is the law's where the arguments, and the package variables that the reading takes, are together of bulk at most 1048576: NARROWER than '..Said'. Prove '..Said' where nothing that the law and all that it calls make is longer than what came in: it says more and counts as full. Else prove '..UptoSaid'. A law counts once. -/
mutual
def uptoBulk {H : Type} : DataW H → Nat
  | .lit (.string bytes) => bytes.length + 1
  | .lit _ => 1
  | .nil => 1
  | .ptr d => uptoBulk d + 1
  | .slice elems spare => uptoBulkAll elems + uptoBulkAll spare + 1
  | .agg parts => uptoBulkAll parts + 1
  | .iface _ d => uptoBulk d + 1
  | .map entries => uptoBulkEntries entries + 1
  | .held _ => 1
def uptoBulkAll {H : Type} : List (DataW H) → Nat
  | [] => 0
  | d :: r => uptoBulk d + uptoBulkAll r
def uptoBulkEntries {H : Type} : List (Lit × DataW H) → Nat
  | [] => 0
  | x :: r => uptoBulkEntry x + uptoBulkEntries r
def uptoBulkEntry {H : Type} : Lit × DataW H → Nat
  | (.string bytes, d) => bytes.length + uptoBulk d + 1
  | (_, d) => uptoBulk d + 1
 end
def uptoSmall : (H : Type) → List (DataW H) → Bool := fun _ ds => decide (uptoBulkAll ds ≤ 1048576)
def OpenSpec.upto (s : _root_.Go.ChangeSpec) : _root_.Go.OpenSpec := { _root_.Go.OpenSpec.ofChange s with cond := some uptoSmall }

/-- 'wattlelaw04.PackWrites', WHERE WHAT IT READS IS OF BULK AT MOST 1048576: true; the input reads as it did. -/
def packWritesUptoRow : OpenClaim := { program := "ytaapbiiiepdopaa", sum := "bceeb41d8b34bf6a093f002a40eb8796cbd44f014abd9fbb9ac72b17e90d902b", func := "wattle/wattlelaw04.PackWrites", spec := "packWrites", unfollowed := true, recurses := true, loops := true, apart := false, narrowed := true }
def PackWritesUptoSaid : Prop := packWritesUptoRow.holds Try.pinned (OpenSpec.upto packWritesSpec)

/-- 'wattlelaw04.PackReads', WHERE WHAT IT READS IS OF BULK AT MOST 1048576: true; the input reads as it did. -/
def packReadsUptoRow : OpenClaim := { program := "ytaapbiiiepdopaa", sum := "bceeb41d8b34bf6a093f002a40eb8796cbd44f014abd9fbb9ac72b17e90d902b", func := "wattle/wattlelaw04.PackReads", spec := "packReads", unfollowed := true, recurses := true, apart := false, narrowed := true }
def PackReadsUptoSaid : Prop := packReadsUptoRow.holds Try.pinned (OpenSpec.upto packReadsSpec)

/-- 'wattlelaw04.PackBack', WHERE WHAT IT READS IS OF BULK AT MOST 1048576: true; the input reads as it did. -/
def packBackUptoRow : OpenClaim := { program := "ytaapbiiiepdopaa", sum := "bceeb41d8b34bf6a093f002a40eb8796cbd44f014abd9fbb9ac72b17e90d902b", func := "wattle/wattlelaw04.PackBack", spec := "packBack", unfollowed := true, recurses := true, loops := true, apart := false, narrowed := true }
def PackBackUptoSaid : Prop := packBackUptoRow.holds Try.pinned (OpenSpec.upto packBackSpec)

/-- 'wattlelaw04.PackOne', WHERE WHAT IT READS IS OF BULK AT MOST 1048576: true; the input reads as it did. -/
def packOneUptoRow : OpenClaim := { program := "ytaapbiiiepdopaa", sum := "bceeb41d8b34bf6a093f002a40eb8796cbd44f014abd9fbb9ac72b17e90d902b", func := "wattle/wattlelaw04.PackOne", spec := "packOne", unfollowed := true, recurses := true, apart := false, narrowed := true }
def PackOneUptoSaid : Prop := packOneUptoRow.holds Try.pinned (OpenSpec.upto packOneSpec)

/-- 'wattlelaw04.PackCuts', WHERE WHAT IT READS IS OF BULK AT MOST 1048576: true; the input reads as it did. -/
def packCutsUptoRow : OpenClaim := { program := "ytaapbiiiepdopaa", sum := "bceeb41d8b34bf6a093f002a40eb8796cbd44f014abd9fbb9ac72b17e90d902b", func := "wattle/wattlelaw04.PackCuts", spec := "packCuts", unfollowed := true, recurses := true, loops := true, apart := false, narrowed := true }
def PackCutsUptoSaid : Prop := packCutsUptoRow.holds Try.pinned (OpenSpec.upto packCutsSpec)

/-- 'wattlelaw04.PackApart', WHERE WHAT IT READS IS OF BULK AT MOST 1048576: true; the input reads as it did. -/
def packApartUptoRow : OpenClaim := { program := "ytaapbiiiepdopaa", sum := "bceeb41d8b34bf6a093f002a40eb8796cbd44f014abd9fbb9ac72b17e90d902b", func := "wattle/wattlelaw04.PackApart", spec := "packApart", unfollowed := true, recurses := true, loops := true, apart := false, narrowed := true }
def PackApartUptoSaid : Prop := packApartUptoRow.holds Try.pinned (OpenSpec.upto packApartSpec)

/-- 'wattlelaw08.MsgReads', WHERE WHAT IT READS IS OF BULK AT MOST 1048576: true; the input reads as it did. -/
def msgReadsUptoRow : OpenClaim := { program := "ytaapbiiiepdopaa", sum := "bceeb41d8b34bf6a093f002a40eb8796cbd44f014abd9fbb9ac72b17e90d902b", func := "wattle/wattlelaw08.MsgReads", spec := "msgReads", unfollowed := true, recurses := true, apart := false, narrowed := true }
def MsgReadsUptoSaid : Prop := msgReadsUptoRow.holds Try.pinned (OpenSpec.upto msgReadsSpec)

/-- 'wattlelaw08.MsgBack', WHERE WHAT IT READS IS OF BULK AT MOST 1048576: true; the input reads as it did. -/
def msgBackUptoRow : OpenClaim := { program := "ytaapbiiiepdopaa", sum := "bceeb41d8b34bf6a093f002a40eb8796cbd44f014abd9fbb9ac72b17e90d902b", func := "wattle/wattlelaw08.MsgBack", spec := "msgBack", unfollowed := true, recurses := true, loops := true, apart := false, narrowed := true }
def MsgBackUptoSaid : Prop := msgBackUptoRow.holds Try.pinned (OpenSpec.upto msgBackSpec)

/-- 'wattlelaw08.MsgOne', WHERE WHAT IT READS IS OF BULK AT MOST 1048576: true; the input reads as it did. -/
def msgOneUptoRow : OpenClaim := { program := "ytaapbiiiepdopaa", sum := "bceeb41d8b34bf6a093f002a40eb8796cbd44f014abd9fbb9ac72b17e90d902b", func := "wattle/wattlelaw08.MsgOne", spec := "msgOne", unfollowed := true, recurses := true, apart := false, narrowed := true }
def MsgOneUptoSaid : Prop := msgOneUptoRow.holds Try.pinned (OpenSpec.upto msgOneSpec)

/-- 'wattlelaw08.MsgWrites', WHERE WHAT IT READS IS OF BULK AT MOST 1048576: true; the input reads as it did. -/
def msgWritesUptoRow : OpenClaim := { program := "ytaapbiiiepdopaa", sum := "bceeb41d8b34bf6a093f002a40eb8796cbd44f014abd9fbb9ac72b17e90d902b", func := "wattle/wattlelaw08.MsgWrites", spec := "msgWrites", unfollowed := true, recurses := true, loops := true, apart := false, narrowed := true }
def MsgWritesUptoSaid : Prop := msgWritesUptoRow.holds Try.pinned (OpenSpec.upto msgWritesSpec)

/-- 'wattlelaw08.MsgStream', WHERE WHAT IT READS IS OF BULK AT MOST 1048576: true; the input reads as it did. -/
def msgStreamUptoRow : OpenClaim := { program := "ytaapbiiiepdopaa", sum := "bceeb41d8b34bf6a093f002a40eb8796cbd44f014abd9fbb9ac72b17e90d902b", func := "wattle/wattlelaw08.MsgStream", spec := "msgStream", unfollowed := true, recurses := true, loops := true, apart := false, narrowed := true }
def MsgStreamUptoSaid : Prop := msgStreamUptoRow.holds Try.pinned (OpenSpec.upto msgStreamSpec)

end Rows
end Go.Proofs.Ytaapbiiiepdopaa
