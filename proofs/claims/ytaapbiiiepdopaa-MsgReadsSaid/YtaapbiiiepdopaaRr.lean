/- A reader of bytes: must, next. -/
import Derived.Test.YtaapbiiiepdopaaMv
import Derived.Deep.LoopGhost
import Derived.Deep.QuietTactic
import Derived.BigQuiet
import Derived.Deep.RegionHeld3
import Derived.Deep.RegionWith
import Derived.StillTailTactics
import Derived.WalkLawsBesides
namespace Go.Proofs.Ytaapbiiiepdopaa
open Go.RowKit Mem
set_option linter.unusedVariables false

/-- what a fault throws -/
def Pan (z : Int) : Ending := .panicked [{ v := .iface 28 (.int .i64 z), recovered := false }]
/-- the reader at block g: bytes bs, a place, parts so far -/
structure RS (w : World) (g : Nat) (A : Option Addr) (n c : Nat) (bs : List UInt8) (at_ p : Nat) : Prop where
  blk : Blk w g 66 #[.slice A n c, .int .i64 (at_ : Int), .int .i64 (p : Int)]
  rd : Reads w 0 g 1 A n (bs.map B8)
  le : at_ ≤ n
  nc : n ≤ c
  cm : c ≤ 9223372036854775807
theorem RS.len {w : World} {g n c at_ p : Nat} {A : Option Addr} {bs : List UInt8} (h : RS w g A n c bs at_ p) : bs.length = n := by simpa using h.rd.1
theorem blkR {w : World} {g t i : Nat} {cs : Array Value} {u : Value} (h : Blk w g t cs) (hi : cs[i]? = some u) : w.cell? ⟨g, i, none⟩ = some u := (h.cell i).trans hi
/-- the reader's block alone has turned -/
def Rt (g : Nat) (w w' : World) : Prop := Only (fun k => k = g) w w'
theorem RS.drewN {w : World} {g n c at_ p : Nat} {A : Option Addr} {bs : List UInt8} (h : RS w g A n c bs at_ p) (m : Nat) : RS (w.drewN m) g A n c bs at_ p := ⟨h.blk.drewN m, h.rd.drewN m, h.le, h.nc, h.cm⟩
theorem RS.grow {w w' : World} {g n c at_ p : Nat} {A : Option Addr} {bs : List UInt8} (h : RS w g A n c bs at_ p) (hb : Below w.heap.size w w') : RS w' g A n c bs at_ p := ⟨h.blk.below hb h.blk.lt, h.rd.below hb (Nat.le_of_lt h.blk.lt), h.le, h.nc, h.cm⟩
theorem Rt.refl (g : Nat) (w : World) : Rt g w w := Only.refl _ w
theorem Rt.trans {g : Nat} {w w' w'' : World} (h : Rt g w w') (h' : Rt g w' w'') : Rt g w w'' := Only.trans (S := fun k => k = g) (S' := fun k => k = g) h h' (fun _ _ h => h)
theorem Rt.drewN {g : Nat} {w w' : World} (h : Rt g w w') (m : Nat) : Rt g w (w'.drewN m) := Only.drewN h m
theorem Rt.alloc {g : Nat} {w w' : World} (h : Rt g w w') (o : Obj) : Rt g w (w'.alloc o) := Only.alloc h o
theorem Rt.ofBelow {g : Nat} {w w' : World} (h : Below w.heap.size w w') : Rt g w w' := (Only.ofBelow (S := fun k => k = g) h)

theorem must_ok (v : Value) (z : Int) (w : World) : Calls Try.prog 58 #[v, .bool true, .int .i64 z] w fun e w' => e = .returned (.tuple #[]) ∧ w' = w := by
  go_enter Try.func58, Try.ntmps58
  go_wp2
  refine bodyPost_end (results_none rfl _ _ _) rfl ⟨rfl, rfl⟩
theorem must_no (v : Value) (z : Int) (w : World) : Calls Try.prog 58 #[v, .bool false, .int .i64 z] w fun e w' => e = .panicked [{ v := .iface 28 (.int .i64 z), recovered := false }] ∧ w' = w := by
  go_enter Try.func58, Try.ntmps58
  go_wp2
  exact ⟨rfl, rfl, rfl⟩

set_option maxHeartbeats 1000000 in
theorem next_ok {w : World} {g n c at_ p : Nat} {A : Option Addr} {bs : List UInt8} {x : UInt8} (h : RS w g A n c bs at_ p) (hx : bs[at_]? = some x) :
    Calls Try.prog 57 #[.pointer (some ⟨g, 0, none⟩)] w fun e w' => e = .returned (.int .u8 x.toNat) ∧ RS w' g A n c bs (at_ + 1) p ∧ Rt g w w' := by
  have hlt := (List.getElem?_eq_some_iff.1 hx).1
  have hl := h.len
  have hn : at_ < n := by omega
  have hcm := h.cm
  have hnc := h.nc
  obtain ⟨b2, o2, rfl, h0, hbg, hb2, hc2⟩ := h.rd.plain (by omega) (by omega)
  have f0 : ∀ m, (w.drewN m).cell? ⟨g, 0, none⟩ = some (.slice (some ⟨b2, o2, none⟩) n c) := fun m => blkR (h.blk.drewN m) rfl
  have f1 : w.cell? ⟨g, 1, none⟩ = some (.int .i64 (at_ : Int)) := blkR h.blk rfl
  have p1 : w.frozen? ⟨g, 1, none⟩ = false := h.blk.frozen 1
  have f0' : w.cell? ⟨g, 0, none⟩ = some (.slice (some ⟨b2, o2, none⟩) n c) := blkR h.blk rfl
  have fx : w.cell? ⟨b2, o2 + at_, none⟩ = some (.int .u8 x.toNat) := by
    rw [hc2 at_ (by omega), List.getElem?_map, hx]; rfl
  have e1 : decide (at_ < n) = true := by simp [hn]
  have H := hide h
  have HL := hide hl
  clear hc2 hl hx h f0
  go_enter Try.func57, Try.ntmps57
  go_wp2_with fail
  go_quiet ((go_at_call 58; exact Calls.quiet_of_same (must_ok _ _ _)))
  have R2 := (H.out.blk.drewN nq).set_ 1 (.int .i64 ((at_ : Int) + 1))
  have hO : Rt g w ((w.drewN nq).setCell ⟨g, 1, none⟩ (.int .i64 ((at_ : Int) + 1))) := Only.setCell (Rt.drewN (Rt.refl g w) nq) (.inl rfl) _
  have hD := (H.out.rd.drewN nq).setCell (p := ⟨g, 1, none⟩) (.inr (Nat.le_refl _)) (.int .i64 ((at_ : Int) + 1))
  go_wp2_with fail
  have fx2 : ((w.drewN nq).setCell ⟨g, 1, none⟩ (.int .i64 ((at_ : Int) + 1))).cell? ⟨b2, o2 + at_, none⟩ = some (.int .u8 x.toNat) := (World.cell?_setCell_other _ _ _ _ (by intro e; have := congrArg Addr.block e; simp at this; omega)).trans fx
  have k0 : ((w.drewN nq).setCell ⟨g, 1, none⟩ (.int .i64 ((at_ : Int) + 1))).cell? ⟨g, 0, none⟩ = some (.slice (some ⟨b2, o2, none⟩) n c) := blkR R2 rfl
  have k1 : ((w.drewN nq).setCell ⟨g, 1, none⟩ (.int .i64 ((at_ : Int) + 1))).cell? ⟨g, 1, none⟩ = some (.int .i64 ((at_ : Int) + 1)) := blkR R2 rfl
  generalize (w.drewN nq).setCell ⟨g, 1, none⟩ (.int .i64 ((at_ : Int) + 1)) = W at R2 hO hD fx2 k0 k1 ⊢
  have q1 : IntKind.i64.wrap ((at_ : Int) + 1 - 1) = (at_ : Int) := by rw [show ((at_ : Int) + 1 - 1) = (at_ : Int) by omega]; exact IntWalk.i64_in _ (by omega)
  have q2 : (at_ : Int) < (n : Int) := by omega
  go_quiet (fail)
  go_wp2
  go_ret
  refine ⟨rfl, ⟨?_, hD.drewN _, by omega, H.out.nc, H.out.cm⟩, hO.drewN _⟩
  have := R2.drewN nq
  simpa using this

set_option maxHeartbeats 1000000 in
set_option maxRecDepth 100000 in
theorem next_no {w : World} {g n c at_ p : Nat} {A : Option Addr} {bs : List UInt8} (h : RS w g A n c bs at_ p) (hx : bs[at_]? = none) :
    Calls Try.prog 57 #[.pointer (some ⟨g, 0, none⟩)] w fun e w' => e = Pan 22 ∧ Rt g w w' := by
  have hlt := List.getElem?_eq_none_iff.1 hx
  have hl := h.len
  have hcm := h.cm
  have hnc := h.nc
  have hn : n ≤ at_ := by omega
  have f0 : w.cell? ⟨g, 0, none⟩ = some (.slice A n c) := blkR h.blk rfl
  have f1 : w.cell? ⟨g, 1, none⟩ = some (.int .i64 (at_ : Int)) := blkR h.blk rfl
  have e1 : decide (at_ < n) = false := by simp; omega
  have H := hide h
  have HL := hide hl
  clear hl hx h
  go_enter Try.func57, Try.ntmps57
  go_wp2_with fail
  go_still_tail 11, (by kernel_rfl)
  change wpList _ _ _ _ _ w.drew
  go_wp2_with (go_at_call 58; refine (must_no _ _ _).mono ?_; rintro e w5 ⟨rfl, rfl⟩)
  exact ⟨rfl, rfl, Rt.drewN (Rt.refl g w) 1⟩
end Go.Proofs.Ytaapbiiiepdopaa
