/- A reader of bytes: a text, a key. -/
import Derived.Test.YtaapbiiiepdopaaRn
namespace Go.Proofs.Ytaapbiiiepdopaa
open Go.RowKit Mem
set_option linter.unusedVariables false

set_option maxHeartbeats 1000000 in
set_option maxRecDepth 100000 in
theorem text_no {w : World} {g n c at_ p m : Nat} {A : Option Addr} {bs : List UInt8} (h : RS w g A n c bs at_ p) (hm : n - at_ < m) (h64 : m < 18446744073709551616) :
    Calls Try.prog 60 #[.pointer (some ⟨g, 0, none⟩), .int .u64 (m : Int)] w fun e w' => e = Pan 22 ∧ Rt g w w' := by
  have hcm := h.cm
  have hnc := h.nc
  have hle := h.le
  have f0 : w.cell? ⟨g, 0, none⟩ = some (.slice A n c) := blkR h.blk rfl
  have f1 : w.cell? ⟨g, 1, none⟩ = some (.int .i64 (at_ : Int)) := blkR h.blk rfl
  have q1 : IntKind.i64.wrap ((n : Int) - (at_ : Int)) = ((n - at_ : Nat) : Int) := by rw [show ((n : Int) - (at_ : Int)) = ((n - at_ : Nat) : Int) by omega]; exact IntWalk.i64_in _ (by omega)
  have q2 : IntKind.u64.wrap ((n - at_ : Nat) : Int) = ((n - at_ : Nat) : Int) := by rw [wr64]; omega
  have e1 : decide (m ≤ n - at_) = false := by simp; omega
  have H := hide h
  clear h
  go_enter Try.func60, Try.ntmps60
  go_wp2_with fail
  go_still_tail 14, (by kernel_rfl)
  change wpList _ _ _ _ _ w.drew
  go_wp2_with fail
  refine (must_no _ _ _).mono ?_
  rintro e w5 ⟨rfl, rfl⟩
  exact ⟨rfl, rfl, Rt.drewN (Rt.refl g w) 1⟩
theorem run_sl {n c at_ m : Nat} {A : Option Addr} (hm : m ≤ n - at_) (hle : at_ ≤ n) (hnc : n ≤ c) (W : World) :
    (Instr.slice 27 (.slice A n c) (some (.int .i64 (at_ : Int))) (some (.int .i64 ((at_ : Int) + (m : Int)))) none).run Try.prog W = .ok (.slice (if c = at_ then A else A.map (·.add at_)) m (c - at_)) W := by
  obtain ⟨i, hi, hz, hsz, hby⟩ := info_parts el27.info
  have he : Try.prog.elem 27 = 5 := by unfold Program.elem; rw [Try.underlying27]
  rw [run_slice_lh W 27 A n c (by rw [he]; exact Try.underlying27) .i64 .i64 _ _ (by omega) (by omega) (by omega), he]
  simp only [sizeOf, typeInfo, Sem.run_bind, Sem.run_pure, Result.andThen]
  simp [sliced, hsz, hi]
  omega
set_option maxHeartbeats 1000000 in
set_option maxRecDepth 100000 in
theorem text_ok {w : World} {g n c at_ p m : Nat} {A : Option Addr} {bs : List UInt8} (h : RS w g A n c bs at_ p) (hm : m ≤ n - at_) :
    Calls Try.prog 60 #[.pointer (some ⟨g, 0, none⟩), .int .u64 (m : Int)] w fun e w' => e = .returned (.string (ofL ((bs.drop at_).take m))) ∧ RS w' g A n c bs (at_ + m) p ∧ Rt g w w' := by
  have hcm := h.cm
  have hnc := h.nc
  have hle := h.le
  have f0 : w.cell? ⟨g, 0, none⟩ = some (.slice A n c) := blkR h.blk rfl
  have f1 : w.cell? ⟨g, 1, none⟩ = some (.int .i64 (at_ : Int)) := blkR h.blk rfl
  have p1 : w.frozen? ⟨g, 1, none⟩ = false := h.blk.frozen 1
  have q1 : IntKind.i64.wrap ((n : Int) - (at_ : Int)) = ((n - at_ : Nat) : Int) := by rw [show ((n : Int) - (at_ : Int)) = ((n - at_ : Nat) : Int) by omega]; exact IntWalk.i64_in _ (by omega)
  have q2 : IntKind.u64.wrap ((n - at_ : Nat) : Int) = ((n - at_ : Nat) : Int) := by rw [wr64]; omega
  have q3 : IntKind.i64.wrap (m : Int) = (m : Int) := IntWalk.i64_in _ (by omega)
  have q4 : IntKind.i64.wrap ((at_ : Int) + (m : Int)) = (at_ : Int) + (m : Int) := IntWalk.i64_in _ (by omega)
  have e1 : decide (m ≤ n - at_) = true := by simp; omega
  have hsl := run_sl (A := A) hm hle hnc
  have hrd : Reads w 0 g 1 (if c = at_ then A else A.map (·.add at_)) m (((bs.drop at_).take m).map B8) := by
    have h1 := ((h.rd.cut (k := at_) hle hnc).take (k := m) hm)
    rw [Nat.mul_one, Nat.mul_one, ← List.map_drop, ← List.map_take] at h1
    exact h1
  generalize (if c = at_ then A else A.map (·.add at_)) = X at hsl hrd
  have hcv : ∀ k, (convert 27 9 (.slice X m (c - at_))).run Try.prog (w.drewN k) = .ok (.string (ofL ((bs.drop at_).take m))) (w.drewN k) := fun k => (hrd.drewN k).str 27 9 5 Try.underlying27 Try.underlying5 Try.underlying9 _
  have H := hide h
  clear h hrd
  go_enter Try.func60, Try.ntmps60
  go_wp2_with fail
  go_quiet ((go_at_call 58; exact Calls.quiet_of_same (must_ok _ _ _)))
  revert nq
  intro n1
  go_wp2_with fail
  go_quiet (fail)
  have R2 := (H.out.blk.drewN (n1 + nq)).set_ 1 (.int .i64 ((at_ : Int) + (m : Int)))
  have hO : Rt g w ((w.drewN (n1 + nq)).setCell ⟨g, 1, none⟩ (.int .i64 ((at_ : Int) + (m : Int)))) := Only.setCell (Rt.drewN (Rt.refl g w) (n1 + nq)) (.inl rfl) _
  have hD := (H.out.rd.drewN (n1 + nq)).setCell (p := ⟨g, 1, none⟩) (.inr (Nat.le_refl _)) (.int .i64 ((at_ : Int) + (m : Int)))
  clear hsl hcv
  go_wp2
  go_ret
  refine ⟨rfl, ⟨?_, hD, by omega, H.out.nc, H.out.cm⟩, hO⟩
  simpa using R2
end Go.Proofs.Ytaapbiiiepdopaa
