/- What a value's kind does not use is zero: bare, unused; for kinds that may be. -/
import Derived.Test.YtaapbiiiepdopaaMv
import Derived.BigGuardPart
import Derived.WalkLawsBesides
namespace Go.Proofs.Ytaapbiiiepdopaa
open Go.RowKit Mem
set_option linter.unusedVariables false

def bareB (k : Int) (b : Bool) (n : Int) (s : ByteArray) (ll kl : Nat) : Bool :=
  (decide (k = 1) || !b) && (decide (k = 2) || decide (6 ≤ k) || decide (n = 0)) && (decide (k = 3) || decide (s.size = 0)) && (decide (k = 4) || decide (k = 5) || decide (ll = 0)) && (decide (k = 5) || decide (kl = 0))
theorem isE (s : ByteArray) : s.toList.isEmpty = decide (s.size = 0) := by
  rw [ByteArray.toList_eq, Bool.eq_iff_iff, List.isEmpty_iff, decide_eq_true_eq, ← List.length_eq_zero_iff, Array.length_toList]
  exact Iff.rfl
theorem beq0 (n : Nat) : ((n : Int) == 0) = decide (n = 0) := by rw [Bool.eq_iff_iff]; simp
theorem ret_b {a b : Bool} (h : a = b) : Ending.returned (.bool a) = .returned (.bool b) := by rw [h]

set_option maxHeartbeats 8000000 in
theorem bare_any {w : World} {k : Int} {b : Bool} {n : Int} {s : ByteArray} {ll cL kl cK : Nat} {AL AK : Option Addr} (h0 : 0 ≤ k) (h7 : k ≤ 7) :
    Calls Try.prog 69 #[.agg #[.int .i64 k, .bool b, .int .i64 n, .string s, .slice AL ll cL, .slice AK kl cK]] w fun e w' => e = .returned (.bool (bareB k b n s ll kl)) ∧ Below w.heap.size w w' := by
  have hk : k = 0 ∨ k = 1 ∨ k = 2 ∨ k = 3 ∨ k = 4 ∨ k = 5 ∨ k = 6 ∨ k = 7 := by omega
  clear h0 h7
  rcases hk with rfl | rfl | rfl | rfl | rfl | rfl | rfl | rfl
  all_goals
    go_enter Try.func69, Try.ntmps69
    go_wp2
    all_goals
      go_ret
      refine ⟨ret_b ?_, (Below.refl _ w).alloc (Nat.le_refl _) _⟩
      simp_all [bareB, isE, beq0]

set_option maxHeartbeats 8000000 in
theorem unused_any {w : World} {k : Int} {b : Bool} {n : Int} {s : ByteArray} {ll cL kl cK : Nat} {AL AK : Option Addr} (h0 : 0 ≤ k) (h7 : k ≤ 7) :
    Calls Try.prog 71 #[.agg #[.int .i64 k, .bool b, .int .i64 n, .string s, .slice AL ll cL, .slice AK kl cK]] w fun e w' => e = .returned (.bool (bareB k b n s ll kl)) ∧ Below w.heap.size w w' := by
  have hk : k = 0 ∨ k = 1 ∨ k = 2 ∨ k = 3 ∨ k = 4 ∨ k = 5 ∨ k = 6 ∨ k = 7 := by omega
  clear h0 h7
  rcases hk with rfl | rfl | rfl | rfl | rfl | rfl | rfl | rfl
  all_goals
    go_enter Try.func71, Try.ntmps71
    go_wp2
    all_goals
      go_ret
      refine ⟨ret_b ?_, (Below.refl _ w).alloc (Nat.le_refl _) _⟩
      first | (simp_all [bareB, isE, beq0]; done) | (simp_all [bareB, isE]; omega)
end Go.Proofs.Ytaapbiiiepdopaa
