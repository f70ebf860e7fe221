/- wattleref04's reading of a number. -/
import Derived.Test.YtaapbiiiepdopaaRn
namespace Go.Proofs.Ytaapbiiiepdopaa
open Go.RowKit Mem
set_option linter.unusedVariables false

def RnP (R : Except Int (Nat × Nat)) (at_ : Nat) (e : Ending) : Prop := match R with
  | .ok (m, k) => e = .returned (.tuple #[.int .u64 (m : Int), .int .i64 ((at_ + k : Nat) : Int), .int .i64 0])
  | .error z => e = .returned (.tuple #[.int .u64 0, .int .i64 0, .int .i64 z])
theorem RnP_ok {R : Except Int (Nat × Nat)} {at_ m k : Nat} {a b : Int} (h : R = .ok (m, k)) (ha : a = (m : Int)) (hb : b = ((at_ + k : Nat) : Int)) : RnP R at_ (.returned (.tuple #[.int .u64 a, .int .i64 b, .int .i64 0])) := by subst ha; subst hb; rw [h]; rfl
theorem RnP_no {R : Except Int (Nat × Nat)} {at_ : Nat} {z : Int} (h : R = .error z) : RnP R at_ (.returned (.tuple #[.int .u64 0, .int .i64 0, .int .i64 z])) := by rw [h]; rfl
theorem piece_small {k x : Nat} (hk : k ≤ 9) (hx : x < 256) (h9 : k = 9 → x ≤ 1) : x % 128 * 128 ^ k + 128 ^ k ≤ 18446744073709551616 := by
  have e9 : (128 : Nat) ^ 9 = 9223372036854775808 := by decide
  have e8 : (128 : Nat) ^ 8 = 72057594037927936 := by decide
  by_cases h : k = 9
  · subst h
    have := h9 rfl
    rw [e9]
    omega
  · have h8 : 128 ^ k ≤ 128 ^ 8 := Nat.pow_le_pow_right (by decide) (by omega)
    have : x % 128 * 128 ^ k ≤ 127 * 128 ^ 8 := Nat.mul_le_mul (by omega) h8
    rw [e8] at h8 this
    omega

set_option maxHeartbeats 4000000 in
set_option maxRecDepth 100000 in
theorem rdnum_any {w : World} {hi n c at_ : Nat} {A : Option Addr} {bs : List UInt8} (hr : Reads w 0 hi 1 A n (bs.map B8)) (hat : at_ ≤ n) (hc : n ≤ c ∧ c ≤ 9223372036854775807) (hn : n ≤ 1048576) :
    Calls Try.prog 62 #[.slice A n c, .int .i64 (at_ : Int)] w fun e w' => RnP (rn 0 (bs.drop at_)) at_ e ∧ w = w' := by
  have hlen : bs.length = n := by simpa using hr.1
  have H := hide hr
  have HL := hide hlen
  clear hr hlen
  go_enter Try.func62, Try.ntmps62
  go_wp2_with fail
  go_loopg [7, 8, 9] 10 (fun gm nv pv iv wr => ∃ (k acc M : Nat), gm = 10 - k ∧ nv = .int .u64 (acc : Nat) ∧ pv = .int .u64 (M : Nat) ∧ iv = .int .i64 (k : Nat) ∧ k ≤ 9 ∧ Hid (M = 128 ^ k) ∧ Hid (acc < 128 ^ k) ∧ Hid (rn 0 (bs.drop at_) = cont k acc (rn k (bs.drop (at_ + k)))) ∧ wr = w)
  case atStart => exact ⟨0, 0, 1, rfl, rfl, rfl, rfl, Nat.zero_le _, hide rfl, hide (by decide), hide (by unfold cont; cases rn 0 (bs.drop at_) <;> simp), rfl⟩
  case round =>
    obtain ⟨k, acc, M, rfl, rfl, rfl, rfl, hk, hM, hacc, hE, rfl⟩ := hrel
    have k10 : decide ((k : Int) < 10) = true := by simp; omega
    obtain ⟨J, hJ⟩ : ∃ J : Nat, J = at_ + k := ⟨_, rfl⟩
    have hJb : at_ + k ≤ n + 9 := by omega
    cases hx : bs[at_ + k]? with
    | none =>
      have HF := hide (fin_none hE.out hx)
      have hge : n ≤ at_ + k := by rw [← HL.out]; exact List.getElem?_eq_none_iff.1 hx
      have q1 : IntKind.i64.wrap ((at_ : Int) + (k : Int)) = (J : Int) := by rw [IntWalk.i64_in _ (by omega)]; omega
      have e1 : decide ((n : Int) ≤ (J : Int)) = true := by simp; omega
      have e2 : n ≤ J := by omega
      clear hx
      go_wp2
      refine bodyPost_ret (results_tmp3 rfl _ _ _) rfl ?_
      exact ⟨RnP_no HF.out, rfl⟩
    | some x =>
      have hlt : at_ + k < n := by rw [← HL.out]; exact (List.getElem?_eq_some_iff.1 hx).1
      have hx256 : x.toNat < 256 := x.toNat_lt
      have q1 : IntKind.i64.wrap ((at_ : Int) + (k : Int)) = (J : Int) := by rw [IntWalk.i64_in _ (by omega)]; omega
      have e1 : decide ((n : Int) ≤ (J : Int)) = false := by simp; omega
      have e2 : J < n := by omega
      have e3 : ¬ n ≤ J := by omega
      have e4 : (J : Int) < (n : Int) := by omega
      obtain ⟨b0, o0, rfl, _, _, hb0, hcell⟩ := H.out.plain (by omega) (by decide)
      have c0 : wr.cell? ⟨b0, o0 + J, none⟩ = some (.int .u8 ((x.toNat : Nat) : Int)) := by
        rw [hcell J (by omega), List.getElem?_map, hJ, hx]
        rfl
      have q2 : IntKind.u64.wrap ((x.toNat : Nat) : Int) = ((x.toNat : Nat) : Int) := by rw [wr64]; omega
      have hbad := fin_bad hE.out hx
      have hlast := fin_last hE.out hx
      have hnext := fin_next hE.out hx
      clear hcell
      by_cases hbd : (k = 9 ∧ 1 < x.toNat) ∨ (0 < k ∧ x.toNat = 0)
      · have HF := hide (hbad hbd)
        clear hbad hlast hnext hx
        clear hJ hJb hlt hacc hE hM HL
        have hcase : (k = 9 ∧ 1 < x.toNat) ∨ (k = 9 ∧ 0 < k ∧ x.toNat = 0) ∨ (¬ k = 9 ∧ 0 < k ∧ x.toNat = 0) := by omega
        rcases hcase with ⟨hk9, h1⟩ | ⟨hk9, h0, hz⟩ | ⟨hk9, h0, hz⟩
        · skip
          have K9 : ((k : Int) == 9) = true := by simp; omega
          have g1 : decide ((1 : Int) < ((x.toNat : Nat) : Int)) = true := by simp; omega
          clear hk9 hbd
          go_wp2
          refine bodyPost_ret (results_tmp3 rfl _ _ _) rfl ?_
          exact ⟨RnP_no HF.out, rfl⟩
        · skip
          have K9 : ((k : Int) == 9) = true := by simp; omega
          have g1 : decide ((1 : Int) < ((x.toNat : Nat) : Int)) = false := by simp; omega
          have g0 : decide ((0 : Int) < (k : Int)) = true := by simp; omega
          have gz : (((x.toNat : Nat) : Int) == 0) = true := by simp; omega
          clear hk9 hbd
          go_wp2
          refine bodyPost_ret (results_tmp3 rfl _ _ _) rfl ?_
          exact ⟨RnP_no HF.out, rfl⟩
        · skip
          have K9 : ((k : Int) == 9) = false := by simp; omega
          have g0 : decide ((0 : Int) < (k : Int)) = true := by simp; omega
          have gz : (((x.toNat : Nat) : Int) == 0) = true := by simp; omega
          clear hk9 hbd
          go_wp2
          refine bodyPost_ret (results_tmp3 rfl _ _ _) rfl ?_
          exact ⟨RnP_no HF.out, rfl⟩
      · have h9 : k = 9 → x.toNat ≤ 1 := fun e => by omega
        have hp := piece_small hk hx256 h9
        have hacc' := hacc.out
        have hM' := hM.out
        obtain ⟨P, hP⟩ : ∃ P : Nat, P = x.toNat % 128 * M := ⟨_, rfl⟩
        have hPb : P + M ≤ 18446744073709551616 := by rw [hP, hM']; exact hp
        have haccM : acc < M := by rw [hM']; exact hacc'
        have q3 : IntKind.u64.wrap (((x.toNat : Nat) : Int) % 128 * (M : Int)) = (P : Int) := by
          have e : (((x.toNat : Nat) : Int) % 128 * (M : Int)) = (P : Int) := by rw [hP]; simp
          rw [e, wr64]
          omega
        have q4 : IntKind.u64.wrap ((acc : Int) + (P : Int)) = (acc : Int) + (P : Int) := by rw [wr64]; omega
        have q5 : IntKind.i64.wrap ((J : Int) + 1) = (J : Int) + 1 := IntWalk.i64_in _ (by omega)
        have HP := hide (And.intro hP (And.intro hM' (And.intro hacc' (And.intro hlast hnext))))
        have HBD := hide hbd
        clear hbad hlast hnext hx hp hacc' hM' hP
        have hcase : k = 9 ∨ k = 0 ∨ (¬ k = 9 ∧ 0 < k) := by omega
        have HJ := hide hJ
        have HH9 := hide h9
        clear hJ hJb hlt h9 hbd
        rcases hcase with hk9 | hk9 | ⟨hk9, h0⟩
        · have hx1 : x.toNat = 1 := by have := HBD.out; have := HH9.out; omega
          have K9 : ((k : Int) == 9) = true := by simp; omega
          have g1 : decide ((1 : Int) < ((x.toNat : Nat) : Int)) = false := by simp; omega
          have g0 : decide ((0 : Int) < (k : Int)) = true := by simp; omega
          have nz : ¬ x.toNat = 0 := by omega
          have n1 : ¬ 1 < x.toNat := by omega
          have kp : 0 < k := by omega
          have hl : x.toNat < 128 := by omega
          have HLT := hide hl
          clear hk9 hx1
          go_wp2
          refine bodyPost_ret (results_tmp3 rfl _ _ _) rfl ?_
          have eP : P = 128 ^ k * x.toNat := by rw [HP.out.1, HP.out.2.1, Nat.mod_eq_of_lt HLT.out, Nat.mul_comm]
          exact ⟨RnP_ok (HP.out.2.2.2.1 HBD.out HLT.out) (by rw [← eP]; simp) (by have := HJ.out; omega), rfl⟩
        · have hk8 : k < 9 := by omega
          have K9 : ((k : Int) == 9) = false := by simp; omega
          have g0 : decide ((0 : Int) < (k : Int)) = false := by simp; omega
          have kp : ¬ 0 < k := by omega
          have hM8 : M * 128 ≤ 9223372036854775808 := by
            have e8 : (128 : Nat) ^ 8 = 72057594037927936 := by decide
            have h8 : 128 ^ k ≤ 128 ^ 8 := Nat.pow_le_pow_right (by decide) (by omega)
            have := HP.out.2.1
            omega
          have q6 : IntKind.u64.wrap ((M : Int) * 128) = (M : Int) * 128 := by rw [wr64]; omega
          have q7 : IntKind.i64.wrap ((k : Int) + 1) = (k : Int) + 1 := IntWalk.i64_in _ (by omega)
          clear hk9
          by_cases hl : x.toNat < 128
          · have HLT := hide hl
            go_wp2
            refine bodyPost_ret (results_tmp3 rfl _ _ _) rfl ?_
            have eP : P = 128 ^ k * x.toNat := by rw [HP.out.1, HP.out.2.1, Nat.mod_eq_of_lt HLT.out, Nat.mul_comm]
            exact ⟨RnP_ok (HP.out.2.2.2.1 HBD.out HLT.out) (by rw [← eP]; simp) (by have := HJ.out; omega), rfl⟩
          · have HLT := hide hl
            have hge : 128 ≤ x.toNat := by omega
            go_wp2
            go_roundg (10 - (k + 1))
            case measure => omega
            have e2 : M * 128 = 128 ^ (k + 1) := by rw [HP.out.2.1, Nat.pow_succ]
            have eP : P = 128 ^ k * (x.toNat - 128) := by rw [HP.out.1, HP.out.2.1, show x.toNat % 128 = x.toNat - 128 by omega, Nat.mul_comm]
            have hlt2 : acc + P < 128 ^ (k + 1) := by rw [eP]; exact acc_next HP.out.2.2.1 hx256
            have hE2 := HP.out.2.2.2.2 HBD.out HLT.out
            rw [← eP] at hE2
            exact ⟨k + 1, acc + P, M * 128, rfl, by simp, by simp, by go_num, by omega, hide e2, hide hlt2, hide hE2, rfl⟩
        · have hk8 : k < 9 := by omega
          have K9 : ((k : Int) == 9) = false := by simp; omega
          have g0 : decide ((0 : Int) < (k : Int)) = true := by simp; omega
          have kp : 0 < k := by omega
          have nz : ¬ x.toNat = 0 := by have := HBD.out; omega
          have hM8 : M * 128 ≤ 9223372036854775808 := by
            have e8 : (128 : Nat) ^ 8 = 72057594037927936 := by decide
            have h8 : 128 ^ k ≤ 128 ^ 8 := Nat.pow_le_pow_right (by decide) (by omega)
            have := HP.out.2.1
            omega
          have q6 : IntKind.u64.wrap ((M : Int) * 128) = (M : Int) * 128 := by rw [wr64]; omega
          have q7 : IntKind.i64.wrap ((k : Int) + 1) = (k : Int) + 1 := IntWalk.i64_in _ (by omega)
          clear hk9
          by_cases hl : x.toNat < 128
          · have HLT := hide hl
            go_wp2
            refine bodyPost_ret (results_tmp3 rfl _ _ _) rfl ?_
            have eP : P = 128 ^ k * x.toNat := by rw [HP.out.1, HP.out.2.1, Nat.mod_eq_of_lt HLT.out, Nat.mul_comm]
            exact ⟨RnP_ok (HP.out.2.2.2.1 HBD.out HLT.out) (by rw [← eP]; simp) (by have := HJ.out; omega), rfl⟩
          · have HLT := hide hl
            have hge : 128 ≤ x.toNat := by omega
            go_wp2
            go_roundg (10 - (k + 1))
            case measure => omega
            have e2 : M * 128 = 128 ^ (k + 1) := by rw [HP.out.2.1, Nat.pow_succ]
            have eP : P = 128 ^ k * (x.toNat - 128) := by rw [HP.out.1, HP.out.2.1, show x.toNat % 128 = x.toNat - 128 by omega, Nat.mul_comm]
            have hlt2 : acc + P < 128 ^ (k + 1) := by rw [eP]; exact acc_next HP.out.2.2.1 hx256
            have hE2 := HP.out.2.2.2.2 HBD.out HLT.out
            rw [← eP] at hE2
            exact ⟨k + 1, acc + P, M * 128, rfl, by simp, by simp, by go_num, by omega, hide e2, hide hlt2, hide hE2, rfl⟩
end Go.Proofs.Ytaapbiiiepdopaa
