/- The reference's Same over two equal rows of numbers. -/
import Derived.Test.YtajeifeigjggoaaFr
namespace Go.Proofs.Ytajeifeigjggoaa
open Go.RowKit Go.Maps Mem
set_option linter.unusedVariables false

theorem same_ints (zs : List Int) (l1 h1 l2 h2 n c1 c2 : Nat) (A1 A2 : Option Addr) (w : World) (hr1 : Reads w l1 h1 1 A1 n (zs.map (Value.int .i64))) (hr2 : Reads w l2 h2 1 A2 n (zs.map (Value.int .i64))) (hn : n ≤ 4294967296) :
    Calls Try.prog 14 #[.slice A1 n c1, .slice A2 n c2] w fun e w' => e = .returned (.bool true) ∧ ∃ m, w.drewN m = w' := by
  have hl : zs.length = n := by simpa using hr1.1
  go_enter Try.func14, Try.ntmps14
  go_wp2
  go_loopw [5] (fun i wr => ∃ k m : Nat, k ≤ n ∧ i = .int .i64 (k : Nat) ∧ wr = w.drewN m) (fun i _ => n - (intOf i).toNat)
  case atStart => exact ⟨0, 0, Nat.zero_le _, rfl, rfl⟩
  case round =>
    obtain ⟨k, m, hk, rfl, rfl⟩ := hrel
    by_cases hlt : k < n
    · obtain ⟨b1, o1, rfl, _, _, _, hc1⟩ := hr1.plain (by omega) (by omega)
      obtain ⟨b2, o2, rfl, _, _, _, hc2⟩ := hr2.plain (by omega) (by omega)
      have hz : (zs.map (Value.int .i64))[k]? = some (.int .i64 (zs[k]'(by omega))) := by rw [List.getElem?_map, List.getElem?_eq_getElem (by omega)]; rfl
      have f1 : w.cell? ⟨b1, o1 + k, none⟩ = some (.int .i64 (zs[k]'(by omega))) := by rw [hc1 k (by omega), hz]
      have f2 : w.cell? ⟨b2, o2 + k, none⟩ = some (.int .i64 (zs[k]'(by omega))) := by rw [hc2 k (by omega), hz]
      generalize zs[k]'(by omega) = z at f1 f2
      clear hz hc1 hc2 hr1 hr2
      go_wp2
      go_quiet (fail)
      go_wp2
      go_roundw
      case rel => exact ⟨k + 1, m + nq, by omega, by go_num, rfl⟩
      case measure => simp [intOf]; omega
    · go_wp2
      go_ret
      exact ⟨rfl, m, rfl⟩
end Go.Proofs.Ytajeifeigjggoaa
