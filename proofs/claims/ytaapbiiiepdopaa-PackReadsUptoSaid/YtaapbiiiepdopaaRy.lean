/- wattleref04's reading of a text. -/
import Derived.Test.YtaapbiiiepdopaaRz
import Derived.Test.YtaapbiiiepdopaaRt
namespace Go.Proofs.Ytaapbiiiepdopaa
open Go.RowKit Mem
set_option linter.unusedVariables false

set_option maxHeartbeats 1000000 in
set_option maxRecDepth 100000 in
theorem rdtext_no {w : World} {n c at_ m : Nat} {A : Option Addr} (hat : at_ ≤ n) (hn : n ≤ 1048576) (hm : n - at_ < m) (h64 : m < 18446744073709551616) :
    Calls Try.prog 63 #[.slice A n c, .int .i64 (at_ : Int), .int .u64 (m : Int)] w fun e w' => e = .returned (.tuple #[.string ⟨#[]⟩, .int .i64 0, .int .i64 22]) ∧ w = w' := by
  have q1 : IntKind.i64.wrap ((n : Int) - (at_ : Int)) = ((n - at_ : Nat) : Int) := by rw [show ((n : Int) - (at_ : Int)) = ((n - at_ : Nat) : Int) by omega]; exact IntWalk.i64_in _ (by omega)
  have q2 : IntKind.u64.wrap ((n - at_ : Nat) : Int) = ((n - at_ : Nat) : Int) := by rw [wr64]; omega
  have e1 : decide (((n - at_ : Nat) : Int) < (m : Int)) = true := by simp; omega
  generalize n - at_ = k at q1 q2 e1 hm
  go_enter Try.func63, Try.ntmps63
  go_wp2
  refine bodyPost_ret (results_tmp3 rfl _ _ _) rfl ?_
  exact ⟨rfl, rfl⟩
set_option maxHeartbeats 1000000 in
set_option maxRecDepth 100000 in
theorem rdtext_ok {w : World} {hi n c at_ m : Nat} {A : Option Addr} {bs : List UInt8} (hr : Reads w 0 hi 1 A n (bs.map B8)) (hat : at_ ≤ n) (hc : n ≤ c) (hn : n ≤ 1048576) (hm : m ≤ n - at_) :
    Calls Try.prog 63 #[.slice A n c, .int .i64 (at_ : Int), .int .u64 (m : Int)] w fun e w' => e = .returned (.tuple #[.string (ofL ((bs.drop at_).take m)), .int .i64 ((at_ + m : Nat) : Int), .int .i64 0]) ∧ w = w' := by
  have q1 : IntKind.i64.wrap ((n : Int) - (at_ : Int)) = ((n - at_ : Nat) : Int) := by rw [show ((n : Int) - (at_ : Int)) = ((n - at_ : Nat) : Int) by omega]; exact IntWalk.i64_in _ (by omega)
  have q2 : IntKind.u64.wrap ((n - at_ : Nat) : Int) = ((n - at_ : Nat) : Int) := by rw [wr64]; omega
  have q3 : IntKind.i64.wrap (m : Int) = (m : Int) := IntWalk.i64_in _ (by omega)
  have q4 : IntKind.i64.wrap ((at_ : Int) + (m : Int)) = (at_ : Int) + (m : Int) := IntWalk.i64_in _ (by omega)
  have e1 : decide (((n - at_ : Nat) : Int) < (m : Int)) = false := by simp; omega
  have hsl := run_sl (A := A) hm hat hc w
  have hrd : Reads w 0 hi 1 (if c = at_ then A else A.map (·.add at_)) m (((bs.drop at_).take m).map B8) := by
    have h1 := ((hr.cut (k := at_) hat hc).take (k := m) hm)
    rw [Nat.mul_one, Nat.mul_one, ← List.map_drop, ← List.map_take] at h1
    exact h1
  generalize (if c = at_ then A else A.map (·.add at_)) = X at hsl hrd
  have hcv : (convert 27 9 (.slice X m (c - at_))).run Try.prog w = .ok (.string (ofL ((bs.drop at_).take m))) w := hrd.str 27 9 5 Try.underlying27 Try.underlying5 Try.underlying9 _
  clear hrd hr
  generalize n - at_ = k at q1 q2 e1 hm
  go_enter Try.func63, Try.ntmps63
  go_wp2
  refine bodyPost_ret (results_tmp3 rfl _ _ _) rfl ?_
  exact ⟨by simp, rfl⟩
end Go.Proofs.Ytaapbiiiepdopaa
