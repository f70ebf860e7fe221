/- A number in pieces of seven bits, laid behind bytes. -/
import Derived.Test.YtaapbiiiepdopaaMv
import Derived.Deep.LoopGhost
namespace Go.Proofs.Ytaapbiiiepdopaa
open Go.RowKit Mem
set_option linter.unusedVariables false

theorem or128 (k : Nat) : bits .or .u8 ((k : Int) % 256) 128 = ((k % 128 + 128 : Nat) : Int) := by
  have h : ∀ x : Fin 256, bits .or .u8 ((x.val : Nat) : Int) 128 = ((x.val % 128 + 128 : Nat) : Int) := by decide +kernel
  have := h ⟨k % 256, Nat.mod_lt _ (by decide)⟩
  simp only at this
  rw [show ((k : Int) % 256) = ((k % 256 : Nat) : Int) by omega, this]
  omega

set_option maxHeartbeats 1000000 in
set_option maxRecDepth 100000 in
theorem number_any {w : World} {base n c k : Nat} {A : Option Addr} {xs : List UInt8} (hown : w.ownsRow base 5 1 (.slice A n c) n (xs.map B8)) (hk : k < 18446744073709551616) (hn : n ≤ 70000000000000) (hB : base ≤ w.heap.size) :
    Calls Try.prog 53 #[.slice A n c, .int .u64 (k : Int)] w fun e w' => ∃ A' c' N, e = .returned (.slice A' N c') ∧ Lay w base w' A' N c' (xs ++ num k) := by
  have hlen := num_len10 hk
  go_enter Try.func53, Try.ntmps53
  go_wp2_with fail
  go_loopg [0, 1] k (fun m s kv wr => ∃ (k' : Nat) (ys : List UInt8) (A : Option Addr) (c N : Nat), k' = m ∧ s = .slice A N c ∧ kv = .int .u64 (k' : Int) ∧ k' ≤ k ∧ N + (num k').length ≤ n + 10 ∧ Hid (ys ++ num k' = xs ++ num k) ∧ Hid (Lay w base wr A N c ys))
  case atStart => exact ⟨k, xs, A, c, n, rfl, rfl, rfl, Nat.le_refl _, by omega, rfl, Lay.start hown hB⟩
  case round =>
    obtain ⟨k', ys, A, c, N, rfl, rfl, rfl, hk', hN, hE, hL⟩ := hrel
    have hNb : N ≤ 70000000000010 := by omega
    by_cases h0 : k' < 128
    · go_wp2_with (first | (at_builtin; refine pause ?_) | go_in)
      refine unpause (wpList_lay1 (.tmp 15) (.tmp 18) hL.out (UInt8.ofNat k') _ (B8_ofNat k' (by omega)) rfl (by omega) rfl rfl rfl rfl rfl ?_)
      intro A' N' c' w' _ hL'
      have e : ys ++ [UInt8.ofNat k'] = xs ++ num k := by rw [← hE.out, num_small h0]
      rw [e] at hL'
      clear e
      go_wp2
      go_ret
      exact ⟨A', c', N', rfl, hL'⟩
    · go_wp2_with (first | (at_builtin; refine pause ?_) | go_in)
      refine unpause (wpList_lay1 (.tmp 7) (.tmp 11) hL.out (UInt8.ofNat (k' % 128 + 128)) _ ((congrArg _ (or128 k')).trans (B8_ofNat (k' % 128 + 128) (by omega))) rfl (by omega) rfl rfl rfl rfl rfl ?_)
      intro A' N' c' w' hN' hL'
      have e : (ys ++ [UInt8.ofNat (k' % 128 + 128)]) ++ num (k' / 128) = xs ++ num k := by rw [← hE.out, num_big h0, List.append_assoc]; rfl
      have he := hide e
      have hNN : N' + (num (k' / 128)).length ≤ n + 10 := by rw [num_big h0, List.length_cons] at hN; omega
      have hHL := hide hL'
      clear e hL' hE hL hN'
      go_wp2_with fail
      go_roundg (k' / 128)
      case measure => omega
      case rel => exact ⟨k' / 128, _, A', c', N', rfl, rfl, by go_num, by omega, hNN, he, hHL⟩
end Go.Proofs.Ytaapbiiiepdopaa
