/- wattleref04's reading of a number. wattleref04's reading of a text. wattleref04's reading of a value: leaves. wattleref04's reading of a value: numbers, texts. wattleref04's reading of a value: a text. wattleref04's rows: what holds at a round's head, and what a key, a value turn. wattleref04's rows: lists. -/
import Derived.Test.YtaapbiiiepdopaaRn
import Derived.Test.YtaapbiiiepdopaaRt
import Derived.Test.YtaapbiiiepdopaaL6
namespace Go.Proofs.Ytaapbiiiepdopaa
open Go.RowKit Mem
set_option linter.unusedVariables false

def RnP (R : Except Int (Nat × Nat)) (at_ : Nat) (e : Ending) : Prop := match R with
  | .ok (m, k) => e = .returned (.tuple #[.int .u64 (m : Int), .int .i64 ((at_ + k : Nat) : Int), .int .i64 0])
  | .error z => e = .returned (.tuple #[.int .u64 0, .int .i64 0, .int .i64 z])
theorem RnP_ok {R : Except Int (Nat × Nat)} {at_ m k : Nat} {a b : Int} (h : R = .ok (m, k)) (ha : a = (m : Int)) (hb : b = ((at_ + k : Nat) : Int)) : RnP R at_ (.returned (.tuple #[.int .u64 a, .int .i64 b, .int .i64 0])) := by subst ha; subst hb; rw [h]; rfl
theorem RnP_no {R : Except Int (Nat × Nat)} {at_ : Nat} {z : Int} (h : R = .error z) : RnP R at_ (.returned (.tuple #[.int .u64 0, .int .i64 0, .int .i64 z])) := by rw [h]; rfl
theorem piece_small {k x : Nat} (hk : k ≤ 9) (hx : x < 256) (h9 : k = 9 → x ≤ 1) : x % 128 * 128 ^ k + 128 ^ k ≤ 18446744073709551616 := by
  have e9 : (128 : Nat) ^ 9 = 9223372036854775808 := by decide
  have e8 : (128 : Nat) ^ 8 = 72057594037927936 := by decide
  by_cases h : k = 9
  · subst h
    have := h9 rfl
    rw [e9]
    omega
  · have h8 : 128 ^ k ≤ 128 ^ 8 := Nat.pow_le_pow_right (by decide) (by omega)
    have : x % 128 * 128 ^ k ≤ 127 * 128 ^ 8 := Nat.mul_le_mul (by omega) h8
    rw [e8] at h8 this
    omega

set_option maxHeartbeats 4000000 in
set_option maxRecDepth 100000 in
theorem rdnum_any {w : World} {hi n c at_ : Nat} {A : Option Addr} {bs : List UInt8} (hr : Reads w 0 hi 1 A n (bs.map B8)) (hat : at_ ≤ n) (hc : n ≤ c ∧ c ≤ 9223372036854775807) (hn : n ≤ 9223372036854775807) :
    Calls Try.prog 62 #[.slice A n c, .int .i64 (at_ : Int)] w fun e w' => RnP (rn 0 (bs.drop at_)) at_ e ∧ w = w' := by
  have hlen : bs.length = n := by simpa using hr.1
  have H := hide hr
  have HL := hide hlen
  clear hr hlen
  go_enter Try.func62, Try.ntmps62
  go_wp2_with fail
  go_loopg [7, 8, 9] 10 (fun gm nv pv iv wr => ∃ (k acc M : Nat), gm = 10 - k ∧ nv = .int .u64 (acc : Nat) ∧ pv = .int .u64 (M : Nat) ∧ iv = .int .i64 (k : Nat) ∧ k ≤ 9 ∧ at_ + k ≤ n ∧ Hid (M = 128 ^ k) ∧ Hid (acc < 128 ^ k) ∧ Hid (rn 0 (bs.drop at_) = cont k acc (rn k (bs.drop (at_ + k)))) ∧ wr = w)
  case atStart => exact ⟨0, 0, 1, rfl, rfl, rfl, rfl, Nat.zero_le _, hat, hide rfl, hide (by decide), hide (by unfold cont; cases rn 0 (bs.drop at_) <;> simp), rfl⟩
  case round =>
    obtain ⟨k, acc, M, rfl, rfl, rfl, rfl, hk, hJb, hM, hacc, hE, rfl⟩ := hrel
    have k10 : decide ((k : Int) < 10) = true := by simp; omega
    obtain ⟨J, hJ⟩ : ∃ J : Nat, J = at_ + k := ⟨_, rfl⟩
    cases hx : bs[at_ + k]? with
    | none =>
      have HF := hide (fin_none hE.out hx)
      have hge : n ≤ at_ + k := by rw [← HL.out]; exact List.getElem?_eq_none_iff.1 hx
      have q1 : IntKind.i64.wrap ((at_ : Int) + (k : Int)) = (J : Int) := by rw [IntWalk.i64_in _ (by omega)]; omega
      have e1 : decide ((n : Int) ≤ (J : Int)) = true := by simp; omega
      have e2 : n ≤ J := by omega
      clear hx
      go_wp2
      refine bodyPost_ret (results_tmp3 rfl _ _ _) rfl ?_
      exact ⟨RnP_no HF.out, rfl⟩
    | some x =>
      have hlt : at_ + k < n := by rw [← HL.out]; exact (List.getElem?_eq_some_iff.1 hx).1
      have hx256 : x.toNat < 256 := x.toNat_lt
      have q1 : IntKind.i64.wrap ((at_ : Int) + (k : Int)) = (J : Int) := by rw [IntWalk.i64_in _ (by omega)]; omega
      have e1 : decide ((n : Int) ≤ (J : Int)) = false := by simp; omega
      have e2 : J < n := by omega
      have e3 : ¬ n ≤ J := by omega
      have e4 : (J : Int) < (n : Int) := by omega
      obtain ⟨b0, o0, rfl, _, _, hb0, hcell⟩ := H.out.plain (by omega) (by decide)
      have c0 : wr.cell? ⟨b0, o0 + J, none⟩ = some (.int .u8 ((x.toNat : Nat) : Int)) := by
        rw [hcell J (by omega), List.getElem?_map, hJ, hx]
        rfl
      have q2 : IntKind.u64.wrap ((x.toNat : Nat) : Int) = ((x.toNat : Nat) : Int) := by rw [wr64]; omega
      have hbad := fin_bad hE.out hx
      have hlast := fin_last hE.out hx
      have hnext := fin_next hE.out hx
      clear hcell
      by_cases hbd : (k = 9 ∧ 1 < x.toNat) ∨ (0 < k ∧ x.toNat = 0)
      · have HF := hide (hbad hbd)
        clear hbad hlast hnext hx
        clear hJ hJb hlt hacc hE hM HL
        have hcase : (k = 9 ∧ 1 < x.toNat) ∨ (k = 9 ∧ 0 < k ∧ x.toNat = 0) ∨ (¬ k = 9 ∧ 0 < k ∧ x.toNat = 0) := by omega
        rcases hcase with ⟨hk9, h1⟩ | ⟨hk9, h0, hz⟩ | ⟨hk9, h0, hz⟩
        · skip
          have K9 : ((k : Int) == 9) = true := by simp; omega
          have g1 : decide ((1 : Int) < ((x.toNat : Nat) : Int)) = true := by simp; omega
          clear hk9 hbd
          go_wp2
          refine bodyPost_ret (results_tmp3 rfl _ _ _) rfl ?_
          exact ⟨RnP_no HF.out, rfl⟩
        · skip
          have K9 : ((k : Int) == 9) = true := by simp; omega
          have g1 : decide ((1 : Int) < ((x.toNat : Nat) : Int)) = false := by simp; omega
          have g0 : decide ((0 : Int) < (k : Int)) = true := by simp; omega
          have gz : (((x.toNat : Nat) : Int) == 0) = true := by simp; omega
          clear hk9 hbd
          go_wp2
          refine bodyPost_ret (results_tmp3 rfl _ _ _) rfl ?_
          exact ⟨RnP_no HF.out, rfl⟩
        · skip
          have K9 : ((k : Int) == 9) = false := by simp; omega
          have g0 : decide ((0 : Int) < (k : Int)) = true := by simp; omega
          have gz : (((x.toNat : Nat) : Int) == 0) = true := by simp; omega
          clear hk9 hbd
          go_wp2
          refine bodyPost_ret (results_tmp3 rfl _ _ _) rfl ?_
          exact ⟨RnP_no HF.out, rfl⟩
      · have h9 : k = 9 → x.toNat ≤ 1 := fun e => by omega
        have hp := piece_small hk hx256 h9
        have hacc' := hacc.out
        have hM' := hM.out
        obtain ⟨P, hP⟩ : ∃ P : Nat, P = x.toNat % 128 * M := ⟨_, rfl⟩
        have hPb : P + M ≤ 18446744073709551616 := by rw [hP, hM']; exact hp
        have haccM : acc < M := by rw [hM']; exact hacc'
        have q3 : IntKind.u64.wrap (((x.toNat : Nat) : Int) % 128 * (M : Int)) = (P : Int) := by
          have e : (((x.toNat : Nat) : Int) % 128 * (M : Int)) = (P : Int) := by rw [hP]; simp
          rw [e, wr64]
          omega
        have q4 : IntKind.u64.wrap ((acc : Int) + (P : Int)) = (acc : Int) + (P : Int) := by rw [wr64]; omega
        have q5 : IntKind.i64.wrap ((J : Int) + 1) = (J : Int) + 1 := IntWalk.i64_in _ (by omega)
        have HP := hide (And.intro hP (And.intro hM' (And.intro hacc' (And.intro hlast hnext))))
        have HBD := hide hbd
        clear hbad hlast hnext hx hp hacc' hM' hP
        have hcase : k = 9 ∨ k = 0 ∨ (¬ k = 9 ∧ 0 < k) := by omega
        have HJ := hide hJ
        have HH9 := hide h9
        clear hJ hJb hlt h9 hbd
        rcases hcase with hk9 | hk9 | ⟨hk9, h0⟩
        · have hx1 : x.toNat = 1 := by have := HBD.out; have := HH9.out; omega
          have K9 : ((k : Int) == 9) = true := by simp; omega
          have g1 : decide ((1 : Int) < ((x.toNat : Nat) : Int)) = false := by simp; omega
          have g0 : decide ((0 : Int) < (k : Int)) = true := by simp; omega
          have nz : ¬ x.toNat = 0 := by omega
          have n1 : ¬ 1 < x.toNat := by omega
          have kp : 0 < k := by omega
          have hl : x.toNat < 128 := by omega
          have HLT := hide hl
          clear hk9 hx1
          go_wp2
          refine bodyPost_ret (results_tmp3 rfl _ _ _) rfl ?_
          have eP : P = 128 ^ k * x.toNat := by rw [HP.out.1, HP.out.2.1, Nat.mod_eq_of_lt HLT.out, Nat.mul_comm]
          exact ⟨RnP_ok (HP.out.2.2.2.1 HBD.out HLT.out) (by rw [← eP]; simp) (by have := HJ.out; omega), rfl⟩
        · have hk8 : k < 9 := by omega
          have K9 : ((k : Int) == 9) = false := by simp; omega
          have g0 : decide ((0 : Int) < (k : Int)) = false := by simp; omega
          have kp : ¬ 0 < k := by omega
          have hM8 : M * 128 ≤ 9223372036854775808 := by
            have e8 : (128 : Nat) ^ 8 = 72057594037927936 := by decide
            have h8 : 128 ^ k ≤ 128 ^ 8 := Nat.pow_le_pow_right (by decide) (by omega)
            have := HP.out.2.1
            omega
          have q6 : IntKind.u64.wrap ((M : Int) * 128) = (M : Int) * 128 := by rw [wr64]; omega
          have q7 : IntKind.i64.wrap ((k : Int) + 1) = (k : Int) + 1 := IntWalk.i64_in _ (by omega)
          clear hk9
          by_cases hl : x.toNat < 128
          · have HLT := hide hl
            go_wp2
            refine bodyPost_ret (results_tmp3 rfl _ _ _) rfl ?_
            have eP : P = 128 ^ k * x.toNat := by rw [HP.out.1, HP.out.2.1, Nat.mod_eq_of_lt HLT.out, Nat.mul_comm]
            exact ⟨RnP_ok (HP.out.2.2.2.1 HBD.out HLT.out) (by rw [← eP]; simp) (by have := HJ.out; omega), rfl⟩
          · have HLT := hide hl
            have hge : 128 ≤ x.toNat := by omega
            go_wp2
            go_roundg (10 - (k + 1))
            case measure => omega
            have e2 : M * 128 = 128 ^ (k + 1) := by rw [HP.out.2.1, Nat.pow_succ]
            have eP : P = 128 ^ k * (x.toNat - 128) := by rw [HP.out.1, HP.out.2.1, show x.toNat % 128 = x.toNat - 128 by omega, Nat.mul_comm]
            have hlt2 : acc + P < 128 ^ (k + 1) := by rw [eP]; exact acc_next HP.out.2.2.1 hx256
            have hE2 := HP.out.2.2.2.2 HBD.out HLT.out
            rw [← eP] at hE2
            exact ⟨k + 1, acc + P, M * 128, rfl, by simp, by simp, by go_num, by omega, by have := HJ.out; omega, hide e2, hide hlt2, hide hE2, rfl⟩
        · have hk8 : k < 9 := by omega
          have K9 : ((k : Int) == 9) = false := by simp; omega
          have g0 : decide ((0 : Int) < (k : Int)) = true := by simp; omega
          have kp : 0 < k := by omega
          have nz : ¬ x.toNat = 0 := by have := HBD.out; omega
          have hM8 : M * 128 ≤ 9223372036854775808 := by
            have e8 : (128 : Nat) ^ 8 = 72057594037927936 := by decide
            have h8 : 128 ^ k ≤ 128 ^ 8 := Nat.pow_le_pow_right (by decide) (by omega)
            have := HP.out.2.1
            omega
          have q6 : IntKind.u64.wrap ((M : Int) * 128) = (M : Int) * 128 := by rw [wr64]; omega
          have q7 : IntKind.i64.wrap ((k : Int) + 1) = (k : Int) + 1 := IntWalk.i64_in _ (by omega)
          clear hk9
          by_cases hl : x.toNat < 128
          · have HLT := hide hl
            go_wp2
            refine bodyPost_ret (results_tmp3 rfl _ _ _) rfl ?_
            have eP : P = 128 ^ k * x.toNat := by rw [HP.out.1, HP.out.2.1, Nat.mod_eq_of_lt HLT.out, Nat.mul_comm]
            exact ⟨RnP_ok (HP.out.2.2.2.1 HBD.out HLT.out) (by rw [← eP]; simp) (by have := HJ.out; omega), rfl⟩
          · have HLT := hide hl
            have hge : 128 ≤ x.toNat := by omega
            go_wp2
            go_roundg (10 - (k + 1))
            case measure => omega
            have e2 : M * 128 = 128 ^ (k + 1) := by rw [HP.out.2.1, Nat.pow_succ]
            have eP : P = 128 ^ k * (x.toNat - 128) := by rw [HP.out.1, HP.out.2.1, show x.toNat % 128 = x.toNat - 128 by omega, Nat.mul_comm]
            have hlt2 : acc + P < 128 ^ (k + 1) := by rw [eP]; exact acc_next HP.out.2.2.1 hx256
            have hE2 := HP.out.2.2.2.2 HBD.out HLT.out
            rw [← eP] at hE2
            exact ⟨k + 1, acc + P, M * 128, rfl, by simp, by simp, by go_num, by omega, by have := HJ.out; omega, hide e2, hide hlt2, hide hE2, rfl⟩
end Go.Proofs.Ytaapbiiiepdopaa

namespace Go.Proofs.Ytaapbiiiepdopaa
open Go.RowKit Mem
set_option linter.unusedVariables false

set_option maxHeartbeats 1000000 in
set_option maxRecDepth 100000 in
theorem rdtext_no {w : World} {n c at_ m : Nat} {A : Option Addr} (hat : at_ ≤ n) (hn : n ≤ 9223372036854775807) (hm : n - at_ < m) (h64 : m < 18446744073709551616) :
    Calls Try.prog 63 #[.slice A n c, .int .i64 (at_ : Int), .int .u64 (m : Int)] w fun e w' => e = .returned (.tuple #[.string ⟨#[]⟩, .int .i64 0, .int .i64 22]) ∧ w = w' := by
  have q1 : IntKind.i64.wrap ((n : Int) - (at_ : Int)) = ((n - at_ : Nat) : Int) := by rw [show ((n : Int) - (at_ : Int)) = ((n - at_ : Nat) : Int) by omega]; exact IntWalk.i64_in _ (by omega)
  have q2 : IntKind.u64.wrap ((n - at_ : Nat) : Int) = ((n - at_ : Nat) : Int) := by rw [wr64]; omega
  have e1 : decide (((n - at_ : Nat) : Int) < (m : Int)) = true := by simp; omega
  generalize n - at_ = k at q1 q2 e1 hm
  go_enter Try.func63, Try.ntmps63
  go_wp2
  refine bodyPost_ret (results_tmp3 rfl _ _ _) rfl ?_
  exact ⟨rfl, rfl⟩
set_option maxHeartbeats 1000000 in
set_option maxRecDepth 100000 in
theorem rdtext_ok {w : World} {hi n c at_ m : Nat} {A : Option Addr} {bs : List UInt8} (hr : Reads w 0 hi 1 A n (bs.map B8)) (hat : at_ ≤ n) (hc : n ≤ c) (hn : n ≤ 9223372036854775807) (hm : m ≤ n - at_) :
    Calls Try.prog 63 #[.slice A n c, .int .i64 (at_ : Int), .int .u64 (m : Int)] w fun e w' => e = .returned (.tuple #[.string (ofL ((bs.drop at_).take m)), .int .i64 ((at_ + m : Nat) : Int), .int .i64 0]) ∧ w = w' := by
  have q1 : IntKind.i64.wrap ((n : Int) - (at_ : Int)) = ((n - at_ : Nat) : Int) := by rw [show ((n : Int) - (at_ : Int)) = ((n - at_ : Nat) : Int) by omega]; exact IntWalk.i64_in _ (by omega)
  have q2 : IntKind.u64.wrap ((n - at_ : Nat) : Int) = ((n - at_ : Nat) : Int) := by rw [wr64]; omega
  have q3 : IntKind.i64.wrap (m : Int) = (m : Int) := IntWalk.i64_in _ (by omega)
  have q4 : IntKind.i64.wrap ((at_ : Int) + (m : Int)) = (at_ : Int) + (m : Int) := IntWalk.i64_in _ (by omega)
  have e1 : decide (((n - at_ : Nat) : Int) < (m : Int)) = false := by simp; omega
  have hsl := run_sl (A := A) hm hat hc w
  have hrd : Reads w 0 hi 1 (if c = at_ then A else A.map (·.add at_)) m (((bs.drop at_).take m).map B8) := by
    have h1 := ((hr.cut (k := at_) hat hc).take (k := m) hm)
    rw [Nat.mul_one, Nat.mul_one, ← List.map_drop, ← List.map_take] at h1
    exact h1
  generalize (if c = at_ then A else A.map (·.add at_)) = X at hsl hrd
  have hcv : (convert 27 9 (.slice X m (c - at_))).run Try.prog w = .ok (.string (ofL ((bs.drop at_).take m))) w := hrd.str 27 9 5 Try.underlying27 Try.underlying5 Try.underlying9 _
  clear hrd hr
  generalize n - at_ = k at q1 q2 e1 hm
  go_enter Try.func63, Try.ntmps63
  go_wp2
  refine bodyPost_ret (results_tmp3 rfl _ _ _) rfl ?_
  exact ⟨by simp, rfl⟩
end Go.Proofs.Ytaapbiiiepdopaa

namespace Go.Proofs.Ytaapbiiiepdopaa
open Go.RowKit Mem
set_option linter.unusedVariables false

/-- what read answers -/
def RefP (R : Rd) (w : World) (e : Ending) (w' : World) : Prop := Below w.heap.size w w' ∧ match R with
  | .ok (v, at', q) => ∃ cs, e = .returned (.tuple #[.agg cs, .int .i64 (at' : Int), .int .i64 (q : Int), .int .i64 0]) ∧ IsV w' (fun b => w.heap.size ≤ b) v cs
  | .error z => ∃ cs a q, e = .returned (.tuple #[.agg cs, .int .i64 a, .int .i64 q, .int .i64 z]) ∧ IsV w' (fun b => w.heap.size ≤ b) nul cs
theorem RefP_ok {R : Rd} {w w' : World} {v : V} {at' q : Nat} {cs : Array Value} {a b : Int} (h : R = .ok (v, at', q)) (hb : Below w.heap.size w w') (hv : IsV w' (fun b => w.heap.size ≤ b) v cs) (ha : a = (at' : Int)) (hq : b = (q : Int)) :
    RefP R w (.returned (.tuple #[.agg cs, .int .i64 a, .int .i64 b, .int .i64 0])) w' := by subst ha; subst hq; rw [h]; exact ⟨hb, cs, rfl, hv⟩
theorem RefP_no {R : Rd} {w w' : World} {cs : Array Value} {a b z : Int} (h : R = .error z) (hb : Below w.heap.size w w') (hv : IsV w' (fun b => w.heap.size ≤ b) nul cs) :
    RefP R w (.returned (.tuple #[.agg cs, .int .i64 a, .int .i64 b, .int .i64 z])) w' := by rw [h]; exact ⟨hb, cs, a, b, rfl, hv⟩
theorem results_cell4 {P : Program} {fn : Func} {p q r u : Tmp} {ty : TypeId} (h : fn.results = #[.cell p ty, .tmp q, .tmp r, .tmp u]) (tmps : Array Value) (w : World) (g : Nat) (t : TypeId) (cs : Array Value) (d : TypeDesc)
    (hp : tmps.getD p undef = .pointer (some ⟨g, 0, none⟩)) (hg : Blk w g t cs)
    (hu : P.underlying ty = some d) (hd : (match d with | .struct _ | .array _ _ => true | _ => false) = true) (hi : (P.info? ty).map (·.size) = some cs.size) :
    (results fn tmps).run P w = .ok (.tuple #[.agg cs, tmps.getD q undef, tmps.getD r undef, tmps.getD u undef]) w := by
  have e : (results fn tmps).run P w = ((asAddr (tmps.getD p undef)).run P w).andThen fun a w₁ => ((loadVar ty a).run P w₁).andThen fun u1 w₂ => .ok (.tuple #[u1, tmps.getD q undef, tmps.getD r undef, tmps.getD u undef]) w₂ := by
    simp only [results, h]
    simp [Sem.run_bind, Result.andThen]
  rw [e, hp]
  simp [asAddr, run_loadVar_row w g t ty cs (0, 0) d hg hu hd hi, Result.andThen]

section
variable {w : World} {n c at_ p d : Nat} {A : Option Addr} {bs : List UInt8}
set_option maxHeartbeats 1000000 in
set_option maxRecDepth 100000 in
theorem ref_none (hr : Reads w 0 w.heap.size 1 A n (bs.map B8)) (hat : at_ ≤ n) (hc : n ≤ c ∧ c ≤ 9223372036854775807) (hn : n ≤ 9223372036854775807) (hp : p ≤ 4096) (hx : bs[at_]? = none) :
    Calls Try.prog 42 #[.slice A n c, .int .i64 (at_ : Int), .int .i64 (d : Int), .int .i64 (p : Int)] w fun e w' => RefP (rd bs d p at_) w e w' := by
  have hR : rd bs d p at_ = .error 22 := by cases d <;> rw [rd, hx]
  have hlen : bs.length = n := by simpa using hr.1
  have X0 : ∀ (w : World) (cs ds : Array Value), Blk ((w.alloc (.cells cs 25)).alloc (.cells ds 25)) w.heap.size 25 cs := fun w cs ds => (Blk.new w 25 cs).alloc _
  have B0 : ∀ (w : World) (cs ds : Array Value), Below w.heap.size w ((w.alloc (.cells cs 25)).alloc (.cells ds 25)) := fun w cs ds => ((Below.refl w.heap.size w).alloc (Nat.le_refl _) _).alloc (by simp) _
  have hge : n ≤ at_ := by rw [← hlen]; exact List.getElem?_eq_none_iff.1 hx
  have e1 : decide ((n : Int) ≤ (at_ : Int)) = true := by simp; omega
  have HR := hide hR
  clear hr hx hR
  go_enter Try.func42, Try.ntmps42
  go_wp2_with fail
  refine bodyPost_ret (results_cell4 rfl _ _ w.heap.size 25 #[.int .i64 0, .bool false, .int .i64 0, .string ⟨#[]⟩, .slice none 0 0, .slice none 0 0] _ rfl (X0 _ _ _) Try.underlying25 rfl (by kernel_rfl)) rfl ?_
  exact RefP_no HR.out (B0 _ _ _) (leaf (by decide) (by decide) (by decide))
set_option maxHeartbeats 1000000 in
set_option maxRecDepth 100000 in
theorem ref_bad (hr : Reads w 0 w.heap.size 1 A n (bs.map B8)) (hat : at_ ≤ n) (hc : n ≤ c ∧ c ≤ 9223372036854775807) (hn : n ≤ 9223372036854775807) (hp : p ≤ 4096) (hd : d ≤ 32) {x : UInt8} (hx : bs[at_]? = some x) (hb : 8 < x.toNat ∨ d = 0 ∨ 4096 < p + 1) :
    Calls Try.prog 42 #[.slice A n c, .int .i64 (at_ : Int), .int .i64 (d : Int), .int .i64 (p : Int)] w fun e w' => RefP (rd bs d p at_) w e w' := by
  have hR : rd bs d p at_ = .error 1 := by
    cases d with
    | zero => rw [rd, hx]
    | succ d => rw [rd, hx]; dsimp only; rw [if_pos (by omega)]
  have hlen : bs.length = n := by simpa using hr.1
  have X0 : ∀ (w : World) (cs ds : Array Value), Blk ((w.alloc (.cells cs 25)).alloc (.cells ds 25)) w.heap.size 25 cs := fun w cs ds => (Blk.new w 25 cs).alloc _
  have B0 : ∀ (w : World) (cs ds : Array Value), Below w.heap.size w ((w.alloc (.cells cs 25)).alloc (.cells ds 25)) := fun w cs ds => ((Below.refl w.heap.size w).alloc (Nat.le_refl _) _).alloc (by simp) _
  have hlt : at_ < n := by rw [← hlen]; exact (List.getElem?_eq_some_iff.1 hx).1
  have e1 : decide ((n : Int) ≤ (at_ : Int)) = false := by simp; omega
  have e2 : ¬ n ≤ at_ := by omega
  have e3 : (at_ : Int) < (n : Int) := by omega
  have q1 : IntKind.i64.wrap ((at_ : Int) + 1) = (at_ : Int) + 1 := IntWalk.i64_in _ (by omega)
  have q2 : IntKind.i64.wrap ((p : Int) + 1) = (p : Int) + 1 := IntWalk.i64_in _ (by omega)
  obtain ⟨b0, o0, rfl, _, hb0, hb0', hcell⟩ := hr.plain (by omega) (by decide)
  have c0 : ∀ o o', ((w.alloc o).alloc o').cell? ⟨b0, o0 + at_, none⟩ = some (.int .u8 ((x.toNat : Nat) : Int)) := fun o o' => by
    rw [World.cell?_alloc_lt _ _ _ (show b0 < _ by simp; omega), World.cell?_alloc_lt _ _ _ (show b0 < _ from hb0'), hcell at_ (by omega), List.getElem?_map, hx]
    rfl
  have HR := hide hR
  have hx256 : x.toNat < 256 := x.toNat_lt
  clear hx hR hcell hr
  have hcase : 8 < x.toNat ∨ (¬ 8 < x.toNat ∧ d = 0) ∨ (¬ 8 < x.toNat ∧ 0 < d ∧ 4096 < p + 1) := by omega
  rcases hcase with h1 | ⟨h1, h2⟩ | ⟨h1, h2, h3⟩
  · have g1 : decide ((8 : Int) < ((x.toNat : Nat) : Int)) = true := by simp; omega
    go_enter Try.func42, Try.ntmps42
    go_wp2_with fail
    refine bodyPost_ret (results_cell4 rfl _ _ w.heap.size 25 #[.int .i64 0, .bool false, .int .i64 0, .string ⟨#[]⟩, .slice none 0 0, .slice none 0 0] _ rfl (X0 _ _ _) Try.underlying25 rfl (by kernel_rfl)) rfl ?_
    exact RefP_no HR.out (B0 _ _ _) (leaf (by decide) (by decide) (by decide))
  · have g1 : decide ((8 : Int) < ((x.toNat : Nat) : Int)) = false := by simp; omega
    subst h2
    go_enter Try.func42, Try.ntmps42
    go_wp2_with fail
    refine bodyPost_ret (results_cell4 rfl _ _ w.heap.size 25 #[.int .i64 0, .bool false, .int .i64 0, .string ⟨#[]⟩, .slice none 0 0, .slice none 0 0] _ rfl (X0 _ _ _) Try.underlying25 rfl (by kernel_rfl)) rfl ?_
    exact RefP_no HR.out (B0 _ _ _) (leaf (by decide) (by decide) (by decide))
  · have g1 : decide ((8 : Int) < ((x.toNat : Nat) : Int)) = false := by simp; omega
    have g2 : decide ((d : Int) < 1) = false := by simp; omega
    have g3 : decide ((4096 : Int) < (p : Int) + 1) = true := by simp; omega
    go_enter Try.func42, Try.ntmps42
    go_wp2_with fail
    refine bodyPost_ret (results_cell4 rfl _ _ w.heap.size 25 #[.int .i64 0, .bool false, .int .i64 0, .string ⟨#[]⟩, .slice none 0 0, .slice none 0 0] _ rfl (X0 _ _ _) Try.underlying25 rfl (by kernel_rfl)) rfl ?_
    exact RefP_no HR.out (B0 _ _ _) (leaf (by decide) (by decide) (by decide))
set_option maxHeartbeats 1000000 in
set_option maxRecDepth 100000 in
theorem ref_t0 (hr : Reads w 0 w.heap.size 1 A n (bs.map B8)) (hat : at_ ≤ n) (hc : n ≤ c ∧ c ≤ 9223372036854775807) (hn : n ≤ 9223372036854775807) (hp : p ≤ 4096) (hd : d + 1 ≤ 32) (hp1 : p + 1 ≤ 4096) (hx : bs[at_]? = some 0) :
    Calls Try.prog 42 #[.slice A n c, .int .i64 (at_ : Int), .int .i64 ((d + 1 : Nat) : Int), .int .i64 (p : Int)] w fun e w' => RefP (rd bs (d + 1) p at_) w e w' := by
  have hR : rd bs (d + 1) p at_ = .ok (nul, at_ + 1, p + 1) := by
    rw [rd, hx]
    dsimp only
    rw [if_neg (by rw [show (0 : UInt8).toNat = 0 from rfl]; omega)]
    rfl
  have hlen : bs.length = n := by simpa using hr.1
  have X0 : ∀ (w : World) (cs ds : Array Value), Blk ((w.alloc (.cells cs 25)).alloc (.cells ds 25)) w.heap.size 25 cs := fun w cs ds => (Blk.new w 25 cs).alloc _
  have B0 : ∀ (w : World) (cs ds : Array Value), Below w.heap.size w ((w.alloc (.cells cs 25)).alloc (.cells ds 25)) := fun w cs ds => ((Below.refl w.heap.size w).alloc (Nat.le_refl _) _).alloc (by simp) _
  have hlt : at_ < n := by rw [← hlen]; exact (List.getElem?_eq_some_iff.1 hx).1
  have e1 : decide ((n : Int) ≤ (at_ : Int)) = false := by simp; omega
  have e2 : ¬ n ≤ at_ := by omega
  have e3 : (at_ : Int) < (n : Int) := by omega
  have q1 : IntKind.i64.wrap ((at_ : Int) + 1) = (at_ : Int) + 1 := IntWalk.i64_in _ (by omega)
  have q2 : IntKind.i64.wrap ((p : Int) + 1) = (p : Int) + 1 := IntWalk.i64_in _ (by omega)
  obtain ⟨b0, o0, rfl, _, hb0, hb0', hcell⟩ := hr.plain (by omega) (by decide)
  have c0 : ∀ o o', ((w.alloc o).alloc o').cell? ⟨b0, o0 + at_, none⟩ = some (.int .u8 0) := fun o o' => by
    rw [World.cell?_alloc_lt _ _ _ (show b0 < _ by simp; omega), World.cell?_alloc_lt _ _ _ (show b0 < _ from hb0'), hcell at_ (by omega), List.getElem?_map, hx]
    rfl
  have g2 : decide (((d + 1 : Nat) : Int) < 1) = false := by simp; omega
  have g2' : decide ((d : Int) + 1 < 1) = false := by simp; omega
  have g3 : decide ((4096 : Int) < (p : Int) + 1) = false := by simp; omega
  have HR := hide hR
  clear hx hR hcell hr
  go_enter Try.func42, Try.ntmps42
  go_wp2_with fail
  refine bodyPost_ret (results_cell4 rfl _ _ w.heap.size 25 #[.int .i64 0, .bool false, .int .i64 0, .string ⟨#[]⟩, .slice none 0 0, .slice none 0 0] _ rfl (X0 _ _ _) Try.underlying25 rfl (by kernel_rfl)) rfl ?_
  exact RefP_ok HR.out (B0 _ _ _) (leaf (by decide) (by decide) (by decide)) (by simp) (by simp)
set_option maxHeartbeats 1000000 in
set_option maxRecDepth 100000 in
theorem ref_t1 (hr : Reads w 0 w.heap.size 1 A n (bs.map B8)) (hat : at_ ≤ n) (hc : n ≤ c ∧ c ≤ 9223372036854775807) (hn : n ≤ 9223372036854775807) (hp : p ≤ 4096) (hd : d + 1 ≤ 32) (hp1 : p + 1 ≤ 4096) (hx : bs[at_]? = some 1) :
    Calls Try.prog 42 #[.slice A n c, .int .i64 (at_ : Int), .int .i64 ((d + 1 : Nat) : Int), .int .i64 (p : Int)] w fun e w' => RefP (rd bs (d + 1) p at_) w e w' := by
  have hR : rd bs (d + 1) p at_ = .ok (.mk 1 false 0 .empty [] [], at_ + 1, p + 1) := by
    rw [rd, hx]
    dsimp only
    rw [if_neg (by rw [show (1 : UInt8).toNat = 1 from rfl]; omega)]
    rfl
  have hlen : bs.length = n := by simpa using hr.1
  have X0 : ∀ (w : World) (cs ds : Array Value), Blk ((w.alloc (.cells cs 25)).alloc (.cells ds 25)) w.heap.size 25 cs := fun w cs ds => (Blk.new w 25 cs).alloc _
  have B0 : ∀ (w : World) (cs ds : Array Value), Below w.heap.size w ((w.alloc (.cells cs 25)).alloc (.cells ds 25)) := fun w cs ds => ((Below.refl w.heap.size w).alloc (Nat.le_refl _) _).alloc (by simp) _
  have hlt : at_ < n := by rw [← hlen]; exact (List.getElem?_eq_some_iff.1 hx).1
  have e1 : decide ((n : Int) ≤ (at_ : Int)) = false := by simp; omega
  have e2 : ¬ n ≤ at_ := by omega
  have e3 : (at_ : Int) < (n : Int) := by omega
  have q1 : IntKind.i64.wrap ((at_ : Int) + 1) = (at_ : Int) + 1 := IntWalk.i64_in _ (by omega)
  have q2 : IntKind.i64.wrap ((p : Int) + 1) = (p : Int) + 1 := IntWalk.i64_in _ (by omega)
  obtain ⟨b0, o0, rfl, _, hb0, hb0', hcell⟩ := hr.plain (by omega) (by decide)
  have c0 : ∀ o o', ((w.alloc o).alloc o').cell? ⟨b0, o0 + at_, none⟩ = some (.int .u8 1) := fun o o' => by
    rw [World.cell?_alloc_lt _ _ _ (show b0 < _ by simp; omega), World.cell?_alloc_lt _ _ _ (show b0 < _ from hb0'), hcell at_ (by omega), List.getElem?_map, hx]
    rfl
  have g2 : decide (((d + 1 : Nat) : Int) < 1) = false := by simp; omega
  have g2' : decide ((d : Int) + 1 < 1) = false := by simp; omega
  have g3 : decide ((4096 : Int) < (p : Int) + 1) = false := by simp; omega
  have HR := hide hR
  clear hx hR hcell hr
  go_enter Try.func42, Try.ntmps42
  go_wp2_with fail
  refine bodyPost_ret (results_cell4 rfl _ _ w.heap.size 25 #[.int .i64 1, .bool false, .int .i64 0, .string ⟨#[]⟩, .slice none 0 0, .slice none 0 0] _ rfl (X0 _ _ _) Try.underlying25 rfl (by kernel_rfl)) rfl ?_
  exact RefP_ok HR.out (B0 _ _ _) (leaf (by decide) (by decide) (by decide)) (by simp) (by simp)
set_option maxHeartbeats 1000000 in
set_option maxRecDepth 100000 in
theorem ref_t2 (hr : Reads w 0 w.heap.size 1 A n (bs.map B8)) (hat : at_ ≤ n) (hc : n ≤ c ∧ c ≤ 9223372036854775807) (hn : n ≤ 9223372036854775807) (hp : p ≤ 4096) (hd : d + 1 ≤ 32) (hp1 : p + 1 ≤ 4096) (hx : bs[at_]? = some 2) :
    Calls Try.prog 42 #[.slice A n c, .int .i64 (at_ : Int), .int .i64 ((d + 1 : Nat) : Int), .int .i64 (p : Int)] w fun e w' => RefP (rd bs (d + 1) p at_) w e w' := by
  have hR : rd bs (d + 1) p at_ = .ok (.mk 1 true 0 .empty [] [], at_ + 1, p + 1) := by
    rw [rd, hx]
    dsimp only
    rw [if_neg (by rw [show (2 : UInt8).toNat = 2 from rfl]; omega)]
    rfl
  have hlen : bs.length = n := by simpa using hr.1
  have X0 : ∀ (w : World) (cs ds : Array Value), Blk ((w.alloc (.cells cs 25)).alloc (.cells ds 25)) w.heap.size 25 cs := fun w cs ds => (Blk.new w 25 cs).alloc _
  have B0 : ∀ (w : World) (cs ds : Array Value), Below w.heap.size w ((w.alloc (.cells cs 25)).alloc (.cells ds 25)) := fun w cs ds => ((Below.refl w.heap.size w).alloc (Nat.le_refl _) _).alloc (by simp) _
  have hlt : at_ < n := by rw [← hlen]; exact (List.getElem?_eq_some_iff.1 hx).1
  have e1 : decide ((n : Int) ≤ (at_ : Int)) = false := by simp; omega
  have e2 : ¬ n ≤ at_ := by omega
  have e3 : (at_ : Int) < (n : Int) := by omega
  have q1 : IntKind.i64.wrap ((at_ : Int) + 1) = (at_ : Int) + 1 := IntWalk.i64_in _ (by omega)
  have q2 : IntKind.i64.wrap ((p : Int) + 1) = (p : Int) + 1 := IntWalk.i64_in _ (by omega)
  obtain ⟨b0, o0, rfl, _, hb0, hb0', hcell⟩ := hr.plain (by omega) (by decide)
  have c0 : ∀ o o', ((w.alloc o).alloc o').cell? ⟨b0, o0 + at_, none⟩ = some (.int .u8 2) := fun o o' => by
    rw [World.cell?_alloc_lt _ _ _ (show b0 < _ by simp; omega), World.cell?_alloc_lt _ _ _ (show b0 < _ from hb0'), hcell at_ (by omega), List.getElem?_map, hx]
    rfl
  have g2 : decide (((d + 1 : Nat) : Int) < 1) = false := by simp; omega
  have g2' : decide ((d : Int) + 1 < 1) = false := by simp; omega
  have g3 : decide ((4096 : Int) < (p : Int) + 1) = false := by simp; omega
  have HR := hide hR
  clear hx hR hcell hr
  go_enter Try.func42, Try.ntmps42
  go_wp2_with fail
  refine bodyPost_ret (results_cell4 rfl _ _ w.heap.size 25 #[.int .i64 1, .bool true, .int .i64 0, .string ⟨#[]⟩, .slice none 0 0, .slice none 0 0] _ rfl (X0 _ _ _) Try.underlying25 rfl (by kernel_rfl)) rfl ?_
  exact RefP_ok HR.out (B0 _ _ _) (leaf (by decide) (by decide) (by decide)) (by simp) (by simp)
end
end Go.Proofs.Ytaapbiiiepdopaa

namespace Go.Proofs.Ytaapbiiiepdopaa
open Go.RowKit Mem
set_option linter.unusedVariables false
section
variable {w : World} {n c at_ p d : Nat} {A : Option Addr} {bs : List UInt8}
set_option maxHeartbeats 1000000 in
set_option maxRecDepth 100000 in
theorem ref_t3 (hr : Reads w 0 w.heap.size 1 A n (bs.map B8)) (hat : at_ ≤ n) (hc : n ≤ c ∧ c ≤ 9223372036854775807) (hn : n ≤ 9223372036854775807) (hp : p ≤ 4096) (hd : d + 1 ≤ 32) (hp1 : p + 1 ≤ 4096) (hx : bs[at_]? = some 3) :
    Calls Try.prog 42 #[.slice A n c, .int .i64 (at_ : Int), .int .i64 ((d + 1 : Nat) : Int), .int .i64 (p : Int)] w fun e w' => RefP (rd bs (d + 1) p at_) w e w' := by
  have hr0 : rd bs (d + 1) p at_ = rdT bs (rd bs d) 3 (p + 1) (at_ + 1) := by
    rw [rd, hx]
    dsimp only
    rw [if_neg (by rw [show (3 : UInt8).toNat = 3 from rfl]; omega)]
    rfl
  have HQ := hide hr0
  have hlen : bs.length = n := by simpa using hr.1
  have X0 : ∀ (w : World) (cs ds : Array Value), Blk ((w.alloc (.cells cs 25)).alloc (.cells ds 25)) w.heap.size 25 cs := fun w cs ds => (Blk.new w 25 cs).alloc _
  have B0 : ∀ (w : World) (cs ds : Array Value), Below w.heap.size w ((w.alloc (.cells cs 25)).alloc (.cells ds 25)) := fun w cs ds => ((Below.refl w.heap.size w).alloc (Nat.le_refl _) _).alloc (by simp) _
  have hlt : at_ < n := by rw [← hlen]; exact (List.getElem?_eq_some_iff.1 hx).1
  have e1 : decide ((n : Int) ≤ (at_ : Int)) = false := by simp; omega
  have e2 : ¬ n ≤ at_ := by omega
  have e3 : (at_ : Int) < (n : Int) := by omega
  have q1 : IntKind.i64.wrap ((at_ : Int) + 1) = (at_ : Int) + 1 := IntWalk.i64_in _ (by omega)
  have q2 : IntKind.i64.wrap ((p : Int) + 1) = (p : Int) + 1 := IntWalk.i64_in _ (by omega)
  obtain ⟨b0, o0, rfl, _, hb0, hb0', hcell⟩ := hr.plain (by omega) (by decide)
  have c0 : ∀ o o', ((w.alloc o).alloc o').cell? ⟨b0, o0 + at_, none⟩ = some (.int .u8 3) := fun o o' => by
    rw [World.cell?_alloc_lt _ _ _ (show b0 < _ by simp; omega), World.cell?_alloc_lt _ _ _ (show b0 < _ from hb0'), hcell at_ (by omega), List.getElem?_map, hx]
    rfl
  have g2 : decide (((d + 1 : Nat) : Int) < 1) = false := by simp; omega
  have g2' : decide ((d : Int) + 1 < 1) = false := by simp; omega
  have g3 : decide ((4096 : Int) < (p : Int) + 1) = false := by simp; omega
  have hnum : ∀ (cs ds : Array Value), Calls Try.prog 62 #[.slice (some ⟨b0, o0, none⟩) n c, .int .i64 ((at_ + 1 : Nat) : Int)] ((w.alloc (.cells cs 25)).alloc (.cells ds 25)) fun e w' => RnP (rn 0 (bs.drop (at_ + 1))) (at_ + 1) e ∧ (w.alloc (.cells cs 25)).alloc (.cells ds 25) = w' :=
    fun cs ds => rdnum_any (hr.below (B0 w cs ds) (Nat.le_refl _)) (by omega) hc hn
  have HN := hide hnum
  have HRD := hide hr
  clear hnum
  go_enter Try.func42, Try.ntmps42
  go_wp2_with fail
  refine (HN.out _ _).mono ?_
  rintro e w5 ⟨he, rfl⟩
  cases hn0 : rn 0 (bs.drop (at_ + 1)) with
  | error z =>
    rw [hn0] at he
    have he' : e = .returned (.tuple #[.int .u64 0, .int .i64 0, .int .i64 z]) := he
    subst he'
    have hz : ¬ z = 0 := by rcases rn_err _ _ _ hn0 with h | h <;> omega
    have hfin : rd bs (d + 1) p at_ = .error z := by rw [HQ.out, rdT, if_neg (by decide), if_neg (by decide), hn0]
    have HR := hide hfin
    clear he hn0 hfin hx hcell hr
    go_wp2_with fail
    refine bodyPost_ret (results_cell4 rfl _ _ w.heap.size 25 #[.int .i64 0, .bool false, .int .i64 0, .string ⟨#[]⟩, .slice none 0 0, .slice none 0 0] _ rfl (X0 _ _ _) Try.underlying25 rfl (by kernel_rfl)) rfl ?_
    exact RefP_no HR.out (B0 _ _ _) (leaf (by decide) (by decide) (by decide))
  | ok q =>
    obtain ⟨m, k⟩ := q
    rw [hn0] at he
    have he' : e = .returned (.tuple #[.int .u64 (m : Int), .int .i64 ((at_ + 1 + k : Nat) : Int), .int .i64 0]) := he
    subst he'
    have hm64 := (rn_of hn0).1
    have hfin : rd bs (d + 1) p at_ = .ok (.mk 2 false (uz m) .empty [] [], at_ + 1 + k, p + 1) := by rw [HQ.out, rdT, if_neg (by decide), if_neg (by decide), hn0]; rfl
    have w1 : IntKind.i64.wrap ((m : Int) / 2) = (m : Int) / 2 := IntWalk.i64_in _ (by omega)
    have w2 : IntKind.i64.wrap (-((m : Int) / 2)) = -((m : Int) / 2) := IntWalk.i64_in _ (by omega)
    have w3 : IntKind.i64.wrap (-((m : Int) / 2) - 1) = -((m : Int) / 2) - 1 := IntWalk.i64_in _ (by omega)
    by_cases ho : m % 2 = 1
    · have hu : uz m = -((m : Int) / 2) - 1 := by unfold uz; rw [if_pos ho]; omega
      rw [hu] at hfin
      have HR := hide hfin
      have s1 : ((m : Int) % 2 == 1) = true := by simp; omega
      clear he hn0 hfin hx hcell hr hu
      go_wp2_with fail
      refine bodyPost_ret (results_cell4 rfl _ _ w.heap.size 25 #[.int .i64 2, .bool false, .int .i64 (-((m : Int) / 2) - 1), .string ⟨#[]⟩, .slice none 0 0, .slice none 0 0] _ rfl (X0 _ _ _) Try.underlying25 rfl (by kernel_rfl)) rfl ?_
      exact RefP_ok HR.out (B0 _ _ _) (leaf ⟨by omega, by omega⟩ (by decide) (by decide)) (by simp) (by simp)
    · have hu : uz m = (m : Int) / 2 := by unfold uz; rw [if_neg ho]; omega
      rw [hu] at hfin
      have HR := hide hfin
      have s1 : ((m : Int) % 2 == 1) = false := by simp; omega
      clear he hn0 hfin hx hcell hr hu
      go_wp2_with fail
      refine bodyPost_ret (results_cell4 rfl _ _ w.heap.size 25 #[.int .i64 2, .bool false, .int .i64 ((m : Int) / 2), .string ⟨#[]⟩, .slice none 0 0, .slice none 0 0] _ rfl (X0 _ _ _) Try.underlying25 rfl (by kernel_rfl)) rfl ?_
      exact RefP_ok HR.out (B0 _ _ _) (leaf ⟨by omega, by omega⟩ (by decide) (by decide)) (by simp) (by simp)
set_option maxHeartbeats 1000000 in
set_option maxRecDepth 100000 in
theorem ref_t7 (hr : Reads w 0 w.heap.size 1 A n (bs.map B8)) (hat : at_ ≤ n) (hc : n ≤ c ∧ c ≤ 9223372036854775807) (hn : n ≤ 9223372036854775807) (hp : p ≤ 4096) (hd : d + 1 ≤ 32) (hp1 : p + 1 ≤ 4096) (hx : bs[at_]? = some 7) :
    Calls Try.prog 42 #[.slice A n c, .int .i64 (at_ : Int), .int .i64 ((d + 1 : Nat) : Int), .int .i64 (p : Int)] w fun e w' => RefP (rd bs (d + 1) p at_) w e w' := by
  have hr0 : rd bs (d + 1) p at_ = rdT bs (rd bs d) 7 (p + 1) (at_ + 1) := by
    rw [rd, hx]
    dsimp only
    rw [if_neg (by rw [show (7 : UInt8).toNat = 7 from rfl]; omega)]
    rfl
  have HQ := hide hr0
  have hlen : bs.length = n := by simpa using hr.1
  have X0 : ∀ (w : World) (cs ds : Array Value), Blk ((w.alloc (.cells cs 25)).alloc (.cells ds 25)) w.heap.size 25 cs := fun w cs ds => (Blk.new w 25 cs).alloc _
  have B0 : ∀ (w : World) (cs ds : Array Value), Below w.heap.size w ((w.alloc (.cells cs 25)).alloc (.cells ds 25)) := fun w cs ds => ((Below.refl w.heap.size w).alloc (Nat.le_refl _) _).alloc (by simp) _
  have hlt : at_ < n := by rw [← hlen]; exact (List.getElem?_eq_some_iff.1 hx).1
  have e1 : decide ((n : Int) ≤ (at_ : Int)) = false := by simp; omega
  have e2 : ¬ n ≤ at_ := by omega
  have e3 : (at_ : Int) < (n : Int) := by omega
  have q1 : IntKind.i64.wrap ((at_ : Int) + 1) = (at_ : Int) + 1 := IntWalk.i64_in _ (by omega)
  have q2 : IntKind.i64.wrap ((p : Int) + 1) = (p : Int) + 1 := IntWalk.i64_in _ (by omega)
  obtain ⟨b0, o0, rfl, _, hb0, hb0', hcell⟩ := hr.plain (by omega) (by decide)
  have c0 : ∀ o o', ((w.alloc o).alloc o').cell? ⟨b0, o0 + at_, none⟩ = some (.int .u8 7) := fun o o' => by
    rw [World.cell?_alloc_lt _ _ _ (show b0 < _ by simp; omega), World.cell?_alloc_lt _ _ _ (show b0 < _ from hb0'), hcell at_ (by omega), List.getElem?_map, hx]
    rfl
  have g2 : decide (((d + 1 : Nat) : Int) < 1) = false := by simp; omega
  have g2' : decide ((d : Int) + 1 < 1) = false := by simp; omega
  have g3 : decide ((4096 : Int) < (p : Int) + 1) = false := by simp; omega
  have hnum : ∀ (cs ds : Array Value), Calls Try.prog 62 #[.slice (some ⟨b0, o0, none⟩) n c, .int .i64 ((at_ + 1 : Nat) : Int)] ((w.alloc (.cells cs 25)).alloc (.cells ds 25)) fun e w' => RnP (rn 0 (bs.drop (at_ + 1))) (at_ + 1) e ∧ (w.alloc (.cells cs 25)).alloc (.cells ds 25) = w' :=
    fun cs ds => rdnum_any (hr.below (B0 w cs ds) (Nat.le_refl _)) (by omega) hc hn
  have HN := hide hnum
  have HRD := hide hr
  clear hnum
  go_enter Try.func42, Try.ntmps42
  go_wp2_with fail
  refine (HN.out _ _).mono ?_
  rintro e w5 ⟨he, rfl⟩
  cases hn0 : rn 0 (bs.drop (at_ + 1)) with
  | error z =>
    rw [hn0] at he
    have he' : e = .returned (.tuple #[.int .u64 0, .int .i64 0, .int .i64 z]) := he
    subst he'
    have hz : ¬ z = 0 := by rcases rn_err _ _ _ hn0 with h | h <;> omega
    have hfin : rd bs (d + 1) p at_ = .error z := by rw [HQ.out, rdT, if_neg (by decide), if_neg (by decide), hn0]
    have HR := hide hfin
    clear he hn0 hfin hx hcell hr
    go_wp2_with fail
    refine bodyPost_ret (results_cell4 rfl _ _ w.heap.size 25 #[.int .i64 0, .bool false, .int .i64 0, .string ⟨#[]⟩, .slice none 0 0, .slice none 0 0] _ rfl (X0 _ _ _) Try.underlying25 rfl (by kernel_rfl)) rfl ?_
    exact RefP_no HR.out (B0 _ _ _) (leaf (by decide) (by decide) (by decide))
  | ok q =>
    obtain ⟨m, k⟩ := q
    rw [hn0] at he
    have he' : e = .returned (.tuple #[.int .u64 (m : Int), .int .i64 ((at_ + 1 + k : Nat) : Int), .int .i64 0]) := he
    subst he'
    have hm64 := (rn_of hn0).1
    by_cases hb : m < 1 ∨ 9223372036854775808 ≤ m
    · have hfin : rd bs (d + 1) p at_ = .error 1 := by rw [HQ.out, rdT, if_neg (by decide), if_neg (by decide), hn0]; dsimp only; rw [if_neg (by decide), if_neg (by decide), if_pos (by decide), if_pos hb]
      have HR := hide hfin
      clear he hn0 hfin hx hcell hr
      have hcase : m < 1 ∨ (¬ m < 1 ∧ 9223372036854775808 ≤ m) := by omega
      rcases hcase with h1 | ⟨h1, h2⟩
      · have s1 : decide ((m : Int) < 1) = true := by simp; omega
        go_wp2_with fail
        refine bodyPost_ret (results_cell4 rfl _ _ w.heap.size 25 #[.int .i64 0, .bool false, .int .i64 0, .string ⟨#[]⟩, .slice none 0 0, .slice none 0 0] _ rfl (X0 _ _ _) Try.underlying25 rfl (by kernel_rfl)) rfl ?_
        exact RefP_no HR.out (B0 _ _ _) (leaf (by decide) (by decide) (by decide))
      · have s1 : decide ((m : Int) < 1) = false := by simp; omega
        have s2 : decide ((9223372036854775808 : Int) ≤ (m : Int)) = true := by simp; omega
        go_wp2_with fail
        refine bodyPost_ret (results_cell4 rfl _ _ w.heap.size 25 #[.int .i64 0, .bool false, .int .i64 0, .string ⟨#[]⟩, .slice none 0 0, .slice none 0 0] _ rfl (X0 _ _ _) Try.underlying25 rfl (by kernel_rfl)) rfl ?_
        exact RefP_no HR.out (B0 _ _ _) (leaf (by decide) (by decide) (by decide))
    · have hfin : rd bs (d + 1) p at_ = .ok (.mk 6 false (m : Int) .empty [] [], at_ + 1 + k, p + 1) := by rw [HQ.out, rdT, if_neg (by decide), if_neg (by decide), hn0]; dsimp only; rw [if_neg (by decide), if_neg (by decide), if_pos (by decide), if_neg hb]; rfl
      have HR := hide hfin
      have s1 : decide ((m : Int) < 1) = false := by simp; omega
      have s2 : decide ((9223372036854775808 : Int) ≤ (m : Int)) = false := by simp; omega
      have w1 : IntKind.i64.wrap (m : Int) = (m : Int) := IntWalk.i64_in _ (by omega)
      clear he hn0 hfin hx hcell hr
      go_wp2_with fail
      refine bodyPost_ret (results_cell4 rfl _ _ w.heap.size 25 #[.int .i64 6, .bool false, .int .i64 (m : Int), .string ⟨#[]⟩, .slice none 0 0, .slice none 0 0] _ rfl (X0 _ _ _) Try.underlying25 rfl (by kernel_rfl)) rfl ?_
      exact RefP_ok HR.out (B0 _ _ _) (leaf ⟨by omega, by omega⟩ (by decide) (by decide)) (by simp) (by simp)
set_option maxHeartbeats 1000000 in
set_option maxRecDepth 100000 in
theorem ref_t8 (hr : Reads w 0 w.heap.size 1 A n (bs.map B8)) (hat : at_ ≤ n) (hc : n ≤ c ∧ c ≤ 9223372036854775807) (hn : n ≤ 9223372036854775807) (hp : p ≤ 4096) (hd : d + 1 ≤ 32) (hp1 : p + 1 ≤ 4096) (hx : bs[at_]? = some 8) :
    Calls Try.prog 42 #[.slice A n c, .int .i64 (at_ : Int), .int .i64 ((d + 1 : Nat) : Int), .int .i64 (p : Int)] w fun e w' => RefP (rd bs (d + 1) p at_) w e w' := by
  have hr0 : rd bs (d + 1) p at_ = rdT bs (rd bs d) 8 (p + 1) (at_ + 1) := by
    rw [rd, hx]
    dsimp only
    rw [if_neg (by rw [show (8 : UInt8).toNat = 8 from rfl]; omega)]
    rfl
  have HQ := hide hr0
  have hlen : bs.length = n := by simpa using hr.1
  have X0 : ∀ (w : World) (cs ds : Array Value), Blk ((w.alloc (.cells cs 25)).alloc (.cells ds 25)) w.heap.size 25 cs := fun w cs ds => (Blk.new w 25 cs).alloc _
  have B0 : ∀ (w : World) (cs ds : Array Value), Below w.heap.size w ((w.alloc (.cells cs 25)).alloc (.cells ds 25)) := fun w cs ds => ((Below.refl w.heap.size w).alloc (Nat.le_refl _) _).alloc (by simp) _
  have hlt : at_ < n := by rw [← hlen]; exact (List.getElem?_eq_some_iff.1 hx).1
  have e1 : decide ((n : Int) ≤ (at_ : Int)) = false := by simp; omega
  have e2 : ¬ n ≤ at_ := by omega
  have e3 : (at_ : Int) < (n : Int) := by omega
  have q1 : IntKind.i64.wrap ((at_ : Int) + 1) = (at_ : Int) + 1 := IntWalk.i64_in _ (by omega)
  have q2 : IntKind.i64.wrap ((p : Int) + 1) = (p : Int) + 1 := IntWalk.i64_in _ (by omega)
  obtain ⟨b0, o0, rfl, _, hb0, hb0', hcell⟩ := hr.plain (by omega) (by decide)
  have c0 : ∀ o o', ((w.alloc o).alloc o').cell? ⟨b0, o0 + at_, none⟩ = some (.int .u8 8) := fun o o' => by
    rw [World.cell?_alloc_lt _ _ _ (show b0 < _ by simp; omega), World.cell?_alloc_lt _ _ _ (show b0 < _ from hb0'), hcell at_ (by omega), List.getElem?_map, hx]
    rfl
  have g2 : decide (((d + 1 : Nat) : Int) < 1) = false := by simp; omega
  have g2' : decide ((d : Int) + 1 < 1) = false := by simp; omega
  have g3 : decide ((4096 : Int) < (p : Int) + 1) = false := by simp; omega
  have hnum : ∀ (cs ds : Array Value), Calls Try.prog 62 #[.slice (some ⟨b0, o0, none⟩) n c, .int .i64 ((at_ + 1 : Nat) : Int)] ((w.alloc (.cells cs 25)).alloc (.cells ds 25)) fun e w' => RnP (rn 0 (bs.drop (at_ + 1))) (at_ + 1) e ∧ (w.alloc (.cells cs 25)).alloc (.cells ds 25) = w' :=
    fun cs ds => rdnum_any (hr.below (B0 w cs ds) (Nat.le_refl _)) (by omega) hc hn
  have HN := hide hnum
  have HRD := hide hr
  clear hnum
  go_enter Try.func42, Try.ntmps42
  go_wp2_with fail
  refine (HN.out _ _).mono ?_
  rintro e w5 ⟨he, rfl⟩
  cases hn0 : rn 0 (bs.drop (at_ + 1)) with
  | error z =>
    rw [hn0] at he
    have he' : e = .returned (.tuple #[.int .u64 0, .int .i64 0, .int .i64 z]) := he
    subst he'
    have hz : ¬ z = 0 := by rcases rn_err _ _ _ hn0 with h | h <;> omega
    have hfin : rd bs (d + 1) p at_ = .error z := by rw [HQ.out, rdT, if_neg (by decide), if_neg (by decide), hn0]
    have HR := hide hfin
    clear he hn0 hfin hx hcell hr
    go_wp2_with fail
    refine bodyPost_ret (results_cell4 rfl _ _ w.heap.size 25 #[.int .i64 0, .bool false, .int .i64 0, .string ⟨#[]⟩, .slice none 0 0, .slice none 0 0] _ rfl (X0 _ _ _) Try.underlying25 rfl (by kernel_rfl)) rfl ?_
    exact RefP_no HR.out (B0 _ _ _) (leaf (by decide) (by decide) (by decide))
  | ok q =>
    obtain ⟨m, k⟩ := q
    rw [hn0] at he
    have he' : e = .returned (.tuple #[.int .u64 (m : Int), .int .i64 ((at_ + 1 + k : Nat) : Int), .int .i64 0]) := he
    subst he'
    have hm64 := (rn_of hn0).1
    by_cases hb : m < 1 ∨ 9223372036854775808 ≤ m
    · have hfin : rd bs (d + 1) p at_ = .error 1 := by rw [HQ.out, rdT, if_neg (by decide), if_neg (by decide), hn0]; dsimp only; rw [if_neg (by decide), if_neg (by decide), if_pos (by decide), if_pos hb]
      have HR := hide hfin
      clear he hn0 hfin hx hcell hr
      have hcase : m < 1 ∨ (¬ m < 1 ∧ 9223372036854775808 ≤ m) := by omega
      rcases hcase with h1 | ⟨h1, h2⟩
      · have s1 : decide ((m : Int) < 1) = true := by simp; omega
        go_wp2_with fail
        refine bodyPost_ret (results_cell4 rfl _ _ w.heap.size 25 #[.int .i64 0, .bool false, .int .i64 0, .string ⟨#[]⟩, .slice none 0 0, .slice none 0 0] _ rfl (X0 _ _ _) Try.underlying25 rfl (by kernel_rfl)) rfl ?_
        exact RefP_no HR.out (B0 _ _ _) (leaf (by decide) (by decide) (by decide))
      · have s1 : decide ((m : Int) < 1) = false := by simp; omega
        have s2 : decide ((9223372036854775808 : Int) ≤ (m : Int)) = true := by simp; omega
        go_wp2_with fail
        refine bodyPost_ret (results_cell4 rfl _ _ w.heap.size 25 #[.int .i64 0, .bool false, .int .i64 0, .string ⟨#[]⟩, .slice none 0 0, .slice none 0 0] _ rfl (X0 _ _ _) Try.underlying25 rfl (by kernel_rfl)) rfl ?_
        exact RefP_no HR.out (B0 _ _ _) (leaf (by decide) (by decide) (by decide))
    · have hfin : rd bs (d + 1) p at_ = .ok (.mk 7 false (m : Int) .empty [] [], at_ + 1 + k, p + 1) := by rw [HQ.out, rdT, if_neg (by decide), if_neg (by decide), hn0]; dsimp only; rw [if_neg (by decide), if_neg (by decide), if_pos (by decide), if_neg hb]; rfl
      have HR := hide hfin
      have s1 : decide ((m : Int) < 1) = false := by simp; omega
      have s2 : decide ((9223372036854775808 : Int) ≤ (m : Int)) = false := by simp; omega
      have w1 : IntKind.i64.wrap (m : Int) = (m : Int) := IntWalk.i64_in _ (by omega)
      clear he hn0 hfin hx hcell hr
      go_wp2_with fail
      refine bodyPost_ret (results_cell4 rfl _ _ w.heap.size 25 #[.int .i64 7, .bool false, .int .i64 (m : Int), .string ⟨#[]⟩, .slice none 0 0, .slice none 0 0] _ rfl (X0 _ _ _) Try.underlying25 rfl (by kernel_rfl)) rfl ?_
      exact RefP_ok HR.out (B0 _ _ _) (leaf ⟨by omega, by omega⟩ (by decide) (by decide)) (by simp) (by simp)
end
end Go.Proofs.Ytaapbiiiepdopaa

namespace Go.Proofs.Ytaapbiiiepdopaa
open Go.RowKit Mem
set_option linter.unusedVariables false
section
variable {w : World} {n c at_ p d : Nat} {A : Option Addr} {bs : List UInt8}
set_option maxHeartbeats 1000000 in
set_option maxRecDepth 100000 in
theorem ref_t4 (hr : Reads w 0 w.heap.size 1 A n (bs.map B8)) (hat : at_ ≤ n) (hc : n ≤ c ∧ c ≤ 9223372036854775807) (hn : n ≤ 9223372036854775807) (hp : p ≤ 4096) (hd : d + 1 ≤ 32) (hp1 : p + 1 ≤ 4096) (hx : bs[at_]? = some 4) :
    Calls Try.prog 42 #[.slice A n c, .int .i64 (at_ : Int), .int .i64 ((d + 1 : Nat) : Int), .int .i64 (p : Int)] w fun e w' => RefP (rd bs (d + 1) p at_) w e w' := by
  have hr0 : rd bs (d + 1) p at_ = rdT bs (rd bs d) 4 (p + 1) (at_ + 1) := by
    rw [rd, hx]
    dsimp only
    rw [if_neg (by rw [show (4 : UInt8).toNat = 4 from rfl]; omega)]
    rfl
  have HQ := hide hr0
  have hlen : bs.length = n := by simpa using hr.1
  have X0 : ∀ (w : World) (cs ds : Array Value), Blk ((w.alloc (.cells cs 25)).alloc (.cells ds 25)) w.heap.size 25 cs := fun w cs ds => (Blk.new w 25 cs).alloc _
  have B0 : ∀ (w : World) (cs ds : Array Value), Below w.heap.size w ((w.alloc (.cells cs 25)).alloc (.cells ds 25)) := fun w cs ds => ((Below.refl w.heap.size w).alloc (Nat.le_refl _) _).alloc (by simp) _
  have hlt : at_ < n := by rw [← hlen]; exact (List.getElem?_eq_some_iff.1 hx).1
  have e1 : decide ((n : Int) ≤ (at_ : Int)) = false := by simp; omega
  have e2 : ¬ n ≤ at_ := by omega
  have e3 : (at_ : Int) < (n : Int) := by omega
  have q1 : IntKind.i64.wrap ((at_ : Int) + 1) = (at_ : Int) + 1 := IntWalk.i64_in _ (by omega)
  have q2 : IntKind.i64.wrap ((p : Int) + 1) = (p : Int) + 1 := IntWalk.i64_in _ (by omega)
  obtain ⟨b0, o0, rfl, _, hb0, hb0', hcell⟩ := hr.plain (by omega) (by decide)
  have c0 : ∀ o o', ((w.alloc o).alloc o').cell? ⟨b0, o0 + at_, none⟩ = some (.int .u8 4) := fun o o' => by
    rw [World.cell?_alloc_lt _ _ _ (show b0 < _ by simp; omega), World.cell?_alloc_lt _ _ _ (show b0 < _ from hb0'), hcell at_ (by omega), List.getElem?_map, hx]
    rfl
  have g2 : decide (((d + 1 : Nat) : Int) < 1) = false := by simp; omega
  have g2' : decide ((d : Int) + 1 < 1) = false := by simp; omega
  have g3 : decide ((4096 : Int) < (p : Int) + 1) = false := by simp; omega
  have hnum : ∀ (cs ds : Array Value), Calls Try.prog 62 #[.slice (some ⟨b0, o0, none⟩) n c, .int .i64 ((at_ + 1 : Nat) : Int)] ((w.alloc (.cells cs 25)).alloc (.cells ds 25)) fun e w' => RnP (rn 0 (bs.drop (at_ + 1))) (at_ + 1) e ∧ (w.alloc (.cells cs 25)).alloc (.cells ds 25) = w' :=
    fun cs ds => rdnum_any (hr.below (B0 w cs ds) (Nat.le_refl _)) (by omega) hc hn
  have HN := hide hnum
  have HRD := hide hr
  clear hnum
  go_enter Try.func42, Try.ntmps42
  go_wp2_with fail
  refine (HN.out _ _).mono ?_
  rintro e w5 ⟨he, rfl⟩
  cases hn0 : rn 0 (bs.drop (at_ + 1)) with
  | error z =>
    rw [hn0] at he
    have he' : e = .returned (.tuple #[.int .u64 0, .int .i64 0, .int .i64 z]) := he
    subst he'
    have hz : ¬ z = 0 := by rcases rn_err _ _ _ hn0 with h | h <;> omega
    have hfin : rd bs (d + 1) p at_ = .error z := by rw [HQ.out, rdT, if_neg (by decide), if_neg (by decide), hn0]
    have HR := hide hfin
    clear he hn0 hfin hx hcell hr
    go_wp2_with fail
    refine bodyPost_ret (results_cell4 rfl _ _ w.heap.size 25 #[.int .i64 0, .bool false, .int .i64 0, .string ⟨#[]⟩, .slice none 0 0, .slice none 0 0] _ rfl (X0 _ _ _) Try.underlying25 rfl (by kernel_rfl)) rfl ?_
    exact RefP_no HR.out (B0 _ _ _) (leaf (by decide) (by decide) (by decide))
  | ok q =>
    obtain ⟨m, k⟩ := q
    rw [hn0] at he
    have he' : e = .returned (.tuple #[.int .u64 (m : Int), .int .i64 ((at_ + 1 + k : Nat) : Int), .int .i64 0]) := he
    subst he'
    have hm64 := (rn_of hn0).1
    have hkn := rn_len hn0
    rw [List.length_drop, hlen] at hkn
    have hRD := HRD.out.below (B0 w nulCells nulCells) (Nat.le_refl _)
    by_cases hb : bs.length - (at_ + 1 + k) < m
    · have hfin : rd bs (d + 1) p at_ = .error 22 := by rw [HQ.out, rdT, if_neg (by decide), if_neg (by decide), hn0]; dsimp only; rw [if_neg (by decide), if_pos (by decide), if_pos hb]
      have HR := hide hfin
      rw [hlen] at hb
      have htx : ∀ W, Calls Try.prog 63 #[.slice (some ⟨b0, o0, none⟩) n c, .int .i64 ((at_ + 1 + k : Nat) : Int), .int .u64 (m : Int)] W fun e w' => e = .returned (.tuple #[.string ⟨#[]⟩, .int .i64 0, .int .i64 22]) ∧ W = w' := fun W => rdtext_no (by omega) hn hb hm64
      have HT := hide htx
      clear he hn0 hfin hx hcell hr htx hRD
      go_wp2_with fail
      refine (HT.out _).mono ?_
      rintro e w6 ⟨rfl, rfl⟩
      go_wp2_with fail
      refine bodyPost_ret (results_cell4 rfl _ _ w.heap.size 25 #[.int .i64 0, .bool false, .int .i64 0, .string ⟨#[]⟩, .slice none 0 0, .slice none 0 0] _ rfl (X0 _ _ _) Try.underlying25 rfl (by kernel_rfl)) rfl ?_
      exact RefP_no HR.out (B0 _ _ _) (leaf (by decide) (by decide) (by decide))
    · have hfin : rd bs (d + 1) p at_ = .ok (.mk 3 false 0 (ofL ((bs.drop (at_ + 1 + k)).take m)) [] [], at_ + 1 + k + m, p + 1) := by rw [HQ.out, rdT, if_neg (by decide), if_neg (by decide), hn0]; dsimp only; rw [if_neg (by decide), if_pos (by decide), if_neg hb]
      have HR := hide hfin
      rw [hlen] at hb
      have hsz : (ofL ((bs.drop (at_ + 1 + k)).take m)).size ≤ 9223372036854775807 := by rw [size_ofL, List.length_take, List.length_drop, hlen]; omega
      have htx := rdtext_ok (at_ := at_ + 1 + k) (m := m) (c := c) hRD (by omega) hc.1 hn (by omega)
      unfold nulCells at htx
      have HT := hide htx
      clear he hn0 hfin hx hcell hr htx hRD
      go_wp2_with fail
      refine HT.out.mono ?_
      rintro e w6 ⟨rfl, rfl⟩
      go_wp2_with fail
      refine bodyPost_ret (results_cell4 rfl _ _ w.heap.size 25 #[.int .i64 3, .bool false, .int .i64 0, .string (ofL ((bs.drop (at_ + 1 + k)).take m)), .slice none 0 0, .slice none 0 0] _ rfl (X0 _ _ _) Try.underlying25 rfl (by kernel_rfl)) rfl ?_
      exact RefP_ok HR.out (B0 _ _ _) (leaf (by decide) (by decide) hsz) (by simp) (by simp)
end
end Go.Proofs.Ytaapbiiiepdopaa

namespace Go.Proofs.Ytaapbiiiepdopaa
open Go.RowKit Mem
set_option linter.unusedVariables false

structure TS (w wr : World) (X Y : Nat) (k : Int) (AL : Option Addr) (nL cL : Nat) (AK : Option Addr) (nK cK : Nat) (vs : List V) (ks : List ByteArray) (xs : List Value) : Prop where
  y : Blk wr Y 25 #[.int .i64 k, .bool false, .int .i64 0, .string ⟨#[]⟩, .slice AL nL cL, .slice AK nK cK]
  x : Blk wr X 25 #[.int .i64 0, .bool false, .int .i64 0, .string ⟨#[]⟩, .slice none 0 0, .slice none 0 0]
  ol : wr.ownsRow w.heap.size 25 6 (.slice AL nL cL) nL xs
  ok : wr.ownsRow w.heap.size 9 1 (.slice AK nK cK) nK (ks.map .string)
  iv : IsVs wr (Kid w.heap.size X Y (.slice AL nL cL) (.slice AK nK cK)) vs xs
  lx : (Value.slice AL nL cL).ownBlock ≠ some X ∧ (Value.slice AL nL cL).ownBlock ≠ some Y ∧ (Value.slice AK nK cK).ownBlock ≠ some X ∧ (Value.slice AK nK cK).ownBlock ≠ some Y ∧ ∀ b, (Value.slice AL nL cL).ownBlock = some b → (Value.slice AK nK cK).ownBlock ≠ some b
  be : Below w.heap.size w wr
  lt : w.heap.size ≤ X ∧ w.heap.size ≤ Y ∧ X ≠ Y
  eL : vs.length = nL
  eK : ks.length = nK
  bS : ∀ x ∈ ks, x.size ≤ 9223372036854775807
section
variable {w wr w' : World} {X Y : Nat} {AL AK : Option Addr} {nL cL nK cK : Nat} {k : Int} {vs : List V} {ks : List ByteArray} {xs : List Value}
/-- memory is made -/
theorem TS.step (h : TS w wr X Y k AL nL cL AK nK cK vs ks xs) (hb : Below wr.heap.size wr w') : TS w w' X Y k AL nL cL AK nK cK vs ks xs :=
  ⟨h.y.below hb h.y.lt, h.x.below hb h.x.lt, own_only h.ol (Only.ofBelow (S := fun _ => False) hb) (fun _ _ h => h), own_only h.ok (Only.ofBelow (S := fun _ => False) hb) (fun _ _ h => h), h.iv.grow hb, h.lx, h.be.trans (hb.mono h.be.size), h.lt, h.eL, h.eK, h.bS⟩
/-- a key is appended and laid -/
theorem TS.key (h : TS w wr X Y k AL nL cL AK nK cK vs ks xs) {w3 : World} {A' : Option Addr} {N' c' : Nat} {kk : ByteArray} (ho : w3.ownsRow w.heap.size 9 1 (.slice A' N' c') N' ((ks ++ [kk]).map .string)) (hg : wr.grownBy w3 (Value.slice AK nK cK).ownBlock)
    (hb : (Value.slice A' N' c').ownBlock = (Value.slice AK nK cK).ownBlock ∨ (Value.slice A' N' c').ownBlock = some wr.heap.size) (hkk : kk.size ≤ 9223372036854775807) :
    TS w (w3.setCell ⟨Y, 5, none⟩ (.slice A' N' c')) X Y k AL nL cL A' N' c' vs (ks ++ [kk]) xs := by
  have hsz := h.be.size
  have hX := h.x.lt
  have hY := h.y.lt
  have o1 : Only (fun b => (Value.slice AK nK cK).ownBlock = some b) wr w3 := Only.ofGrown hg
  have o2 : Only (fun b => b = Y) w3 (w3.setCell ⟨Y, 5, none⟩ (.slice A' N' c')) := (Only.refl (fun b => b = Y) w3).setCell (p := ⟨Y, 5, none⟩) (.inl rfl) _
  have ot : Only (fun b => (Value.slice AK nK cK).ownBlock = some b ∨ b = Y) wr (w3.setCell ⟨Y, 5, none⟩ (.slice A' N' c')) := (o1.mono (fun _ _ h => .inl h)).trans o2 (fun _ _ h => .inr h)
  obtain ⟨lx1, lx2, lx3, lx4, lx5⟩ := h.lx
  have hlen : (ks ++ [kk]).length = N' := by simpa using ho.1
  have newne : ∀ b, b < wr.heap.size → (Value.slice AK nK cK).ownBlock ≠ some b → (Value.slice A' N' c').ownBlock ≠ some b := by
    intro b hb1 hb2 e
    rcases hb with hb | hb
    · rw [hb] at e; exact hb2 e
    · rw [hb] at e; cases e; omega
  refine ⟨?_, ?_, ?_, ?_, ?_, ?_, ?_, h.lt, h.eL, hlen, ?_⟩
  · have := (h.y.grown hg (by intro e; exact lx4 e.symm)).set_ 5 (.slice A' N' c')
    simpa using this
  · exact h.x.only ot (by rintro (e | e); exact lx3 e; exact h.lt.2.2 e)
  · exact own_only h.ol ot (by rintro b hb1 (e | e); exact lx5 b hb1 e; subst e; exact lx2 hb1)
  · exact own_only ho o2 (by rintro b hb1 rfl; exact newne b hY lx4 hb1)
  · exact h.iv.keep (fun b hb1 hb2 => ot.block b hb2 (by rintro (e | e); exact hb1.2.2.2.2 e; exact hb1.2.2.1 e)) (fun b hb1 hb2 => ⟨hb1.1, hb1.2.1, hb1.2.2.1, hb1.2.2.2.1, newne b hb2 hb1.2.2.2.2⟩)
  · exact ⟨lx1, lx2, newne X hX lx3, newne Y hY lx4, fun b hb1 => newne b (own_lt h.ol hb1) (lx5 b hb1)⟩
  · exact h.be.trans (ot.below (B := w.heap.size) (by rintro b _ (e | e); exact own_lo h.ok e; have := h.lt; omega) hsz)
  · intro x hx
    rcases List.mem_append.1 hx with hx | hx
    · exact h.bS x hx
    · rcases List.mem_cons.1 hx with rfl | hx
      · exact hkk
      · cases hx
/-- a value is appended and laid -/
theorem TS.val (h : TS w wr X Y k AL nL cL AK nK cK vs ks xs) {w3 : World} {A' : Option Addr} {N' c' B2 : Nat} {v : V} {cs : Array Value} (hv : IsV wr (fun b => B2 ≤ b) v cs) (hB2 : X < B2 ∧ Y < B2 ∧ w.heap.size ≤ B2 ∧ (∀ b, (Value.slice AL nL cL).ownBlock = some b → b < B2) ∧ (∀ b, (Value.slice AK nK cK).ownBlock = some b → b < B2))
    (ho : w3.ownsRow w.heap.size 25 6 (.slice A' N' c') N' (xs ++ cs.toList)) (hg : wr.grownBy w3 (Value.slice AL nL cL).ownBlock)
    (hb : (Value.slice A' N' c').ownBlock = (Value.slice AL nL cL).ownBlock ∨ (Value.slice A' N' c').ownBlock = some wr.heap.size) :
    TS w (w3.setCell ⟨Y, 4, none⟩ (.slice A' N' c')) X Y k A' N' c' AK nK cK (vs ++ [v]) ks (xs ++ cs.toList) := by
  have hsz := h.be.size
  have hX := h.x.lt
  have hY := h.y.lt
  have o1 : Only (fun b => (Value.slice AL nL cL).ownBlock = some b) wr w3 := Only.ofGrown hg
  have o2 : Only (fun b => b = Y) w3 (w3.setCell ⟨Y, 4, none⟩ (.slice A' N' c')) := (Only.refl (fun b => b = Y) w3).setCell (p := ⟨Y, 4, none⟩) (.inl rfl) _
  have ot : Only (fun b => (Value.slice AL nL cL).ownBlock = some b ∨ b = Y) wr (w3.setCell ⟨Y, 4, none⟩ (.slice A' N' c')) := (o1.mono (fun _ _ h => .inl h)).trans o2 (fun _ _ h => .inr h)
  obtain ⟨lx1, lx2, lx3, lx4, lx5⟩ := h.lx
  have newne : ∀ b, b < wr.heap.size → (Value.slice AL nL cL).ownBlock ≠ some b → (Value.slice A' N' c').ownBlock ≠ some b := by
    intro b hb1 hb2 e
    rcases hb with hb | hb
    · rw [hb] at e; exact hb2 e
    · rw [hb] at e; cases e; omega
  have hvk : IsVs wr (Kid w.heap.size X Y (.slice AL nL cL) (.slice AK nK cK)) [v] cs.toList := IsVs.one (hv.mono (fun b hb1 hb2 => ⟨by omega, by omega, by omega, fun e => by have := hB2.2.2.2.1 b e; omega, fun e => by have := hB2.2.2.2.2 b e; omega⟩))
  have hall := h.iv.app hvk
  have hlen : (vs ++ [v]).length = N' := by
    have h1 := hall.len
    have h2 := ho.1
    omega
  refine ⟨?_, ?_, ?_, ?_, ?_, ?_, ?_, h.lt, hlen, h.eK, h.bS⟩
  · have := (h.y.grown hg (by intro e; exact lx2 e.symm)).set_ 4 (.slice A' N' c')
    simpa using this
  · exact h.x.only ot (by rintro (e | e); exact lx1 e; exact h.lt.2.2 e)
  · exact own_only ho o2 (by rintro b hb1 rfl; exact newne b hY lx2 hb1)
  · exact own_only h.ok ot (by rintro b hb1 (e | e); exact lx5 b e hb1; subst e; exact lx4 hb1)
  · exact hall.keep (fun b hb1 hb2 => ot.block b hb2 (by rintro (e | e); exact hb1.2.2.2.1 e; exact hb1.2.2.1 e)) (fun b hb1 hb2 => ⟨hb1.1, hb1.2.1, hb1.2.2.1, newne b hb2 hb1.2.2.2.1, hb1.2.2.2.2⟩)
  · refine ⟨newne X hX lx1, newne Y hY lx2, lx3, lx4, fun b hb1 hb2 => ?_⟩
    exact newne b (own_lt h.ok hb2) (fun e => lx5 b e hb2) hb1
  · exact h.be.trans (ot.below (B := w.heap.size) (by rintro b _ (e | e); exact own_lo h.ol e; have := h.lt; omega) hsz)
/-- what was read, behind the last store -/
theorem TS.fin (h : TS w wr X Y k AL nL cL AK nK cK vs ks xs) (hk : -9223372036854775808 ≤ k ∧ k ≤ 9223372036854775807) {wE : World} (hO : Only (fun b => b = X) wr wE) :
    IsV wE (fun b => w.heap.size ≤ b) (.mk k false 0 .empty vs ks) #[.int .i64 k, .bool false, .int .i64 0, .string ⟨#[]⟩, .slice AL nL cL, .slice AK nK cK] ∧ Below w.heap.size w wE := by
  obtain ⟨lx1, lx2, lx3, lx4, lx5⟩ := h.lx
  have hlt := h.lt
  have ol := own_only h.ol hO (by rintro b hb rfl; exact lx1 hb)
  have ok := own_only h.ok hO (by rintro b hb rfl; exact lx3 hb)
  have iv := h.iv.only hO (fun b hb e => hb.2.1 e)
  have c1 := own_cap ol
  have c2 := own_cap ok
  refine ⟨?_, h.be.trans (hO.below (B := w.heap.size) (by intro b _ e; have e : b = X := e; omega) h.be.size)⟩
  rw [IsV]
  have eL := h.eL
  have eK := h.eK
  subst eL
  subst eK
  exact ⟨AL, cL, AK, cK, xs, rfl, ⟨c1.1, c1.2, c2.1, c2.2⟩, ⟨by decide, by decide, hk.1, hk.2, by decide, h.bS⟩, RdS.ofOwn ol (fun b hb => own_lo ol hb), iv.keep (fun _ _ _ => rfl) (fun b hb _ => hb.1), RdS.ofOwn ok (fun b hb => own_lo ok hb)⟩
end
end Go.Proofs.Ytaapbiiiepdopaa

namespace Go.Proofs.Ytaapbiiiepdopaa
open Go.RowKit Mem
set_option linter.unusedVariables false

/-- what read does so deep -/
def RefC (A : Option Addr) (n c : Nat) (bs : List UInt8) (d : Nat) : Prop := ∀ {w : World} {at_ p : Nat}, Reads w 0 w.heap.size 1 A n (bs.map B8) → at_ ≤ n → p ≤ 4096 →
  Calls Try.prog 42 #[.slice A n c, .int .i64 (at_ : Int), .int .i64 (d : Int), .int .i64 (p : Int)] w fun e w' => RefP (rd bs d p at_) w e w'
def rowsR (bs : List UInt8) (f : Nat → Nat → Rd) (mm : Bool) (m p at_ : Nat) : Rd := match rows bs f mm m [] [] p at_ with
  | .error e => .error e
  | .ok (vs, ks, at', q) => .ok (.mk (if mm then 5 else 4) false 0 .empty vs ks, at', q)
set_option maxHeartbeats 3000000 in
set_option maxRecDepth 100000 in
theorem rows_l {w : World} {n c at_ p d m : Nat} {A : Option Addr} {bs : List UInt8} (hr : Reads w 0 w.heap.size 1 A n (bs.map B8)) (hat : at_ ≤ n) (hc : n ≤ c ∧ c ≤ 9223372036854775807) (hn : n ≤ 9223372036854775807) (hp : p ≤ 4096) (hd : d + 1 ≤ 32) (hm : m < 18446744073709551616) (ih : RefC A n c bs d) :
    Calls Try.prog 64 #[.slice A n c, .int .i64 (at_ : Int), .int .i64 ((d + 1 : Nat) : Int), .int .i64 (p : Int), .bool false, .int .u64 (m : Int)] w fun e w' => RefP (rowsR bs (rd bs d) false m p at_) w e w' := by
  have HRD := hide hr
  have hlen : bs.length = n := by simpa using hr.1
  clear hr
  have X0 : ∀ (w : World) (cs ds : Array Value), Blk ((w.alloc (.cells cs 25)).alloc (.cells ds 25)) w.heap.size 25 cs := fun w cs ds => (Blk.new w 25 cs).alloc _
  have Y0 : ∀ (w : World) (cs ds : Array Value), Blk ((w.alloc (.cells cs 25)).alloc (.cells ds 25)) (w.heap.size + 1) 25 ds := fun w cs ds => by simpa using Blk.new (w.alloc (.cells cs 25)) 25 ds
  have B0 : ∀ (w : World) (cs ds : Array Value), Below w.heap.size w ((w.alloc (.cells cs 25)).alloc (.cells ds 25)) := fun w cs ds => ((Below.refl w.heap.size w).alloc (Nat.le_refl _) _).alloc (by simp) _
  have T0 : TS w _ w.heap.size (w.heap.size + 1) 4 none 0 0 none 0 0 [] [] [] := ⟨Y0 w nulCells #[.int .i64 4, .bool false, .int .i64 0, .string ⟨#[]⟩, .slice none 0 0, .slice none 0 0], X0 w nulCells _, World.ownsRow_nil _ _ _ _, World.ownsRow_nil _ _ _ _, IsVs.nil, ⟨by simp [Value.ownBlock], by simp [Value.ownBlock], by simp [Value.ownBlock], by simp [Value.ownBlock], by simp [Value.ownBlock]⟩, B0 _ _ _, ⟨Nat.le_refl _, by omega, by omega⟩, rfl, rfl, (by intro x hx; cases hx)⟩
  have HT0 := hide T0
  unfold nulCells at HT0
  clear T0 X0 Y0 B0
  go_enter Try.func64, Try.ntmps64
  go_wp2_with fail
  go_loopg [1, 3, 17] m (fun gj av pv nv wr => ∃ (j at' p' : Nat) (AL : Option Addr) (nL cL : Nat) (AK : Option Addr) (nK cK : Nat) (vs : List V) (ks : List ByteArray) (xs : List Value), gj = m - j ∧ av = .int .i64 (at' : Nat) ∧ pv = .int .i64 (p' : Nat) ∧ nv = .int .u64 (j : Nat) ∧ j ≤ m ∧ at' ≤ n ∧ p' ≤ 4096 ∧ nL ≤ p' ∧ Hid (rows bs (rd bs d) false m [] [] p at_ = rows bs (rd bs d) false (m - j) vs ks p' at') ∧ Hid (TS w wr w.heap.size (w.heap.size + 1) 4 AL nL cL AK nK cK vs ks xs))
  case atStart => exact ⟨0, at_, p, none, 0, 0, none, 0, 0, [], [], [], rfl, rfl, rfl, rfl, Nat.zero_le _, hat, hp, Nat.zero_le _, rfl, HT0⟩
  case round =>
    obtain ⟨j, at', p', AL, nL, cL, AK, nK, cK, vs, ks, xs, rfl, rfl, rfl, rfl, hjm, hat', hp', hnL, hE, hL⟩ := hrel
    have XB := hL.out.x
    have YB := hL.out.y
    have y0 : wr.cell? ⟨w.heap.size, 0, none⟩ = some (.int .i64 0) := blkR XB rfl
    have y1 : wr.cell? ⟨w.heap.size, 1, none⟩ = some (.bool false) := blkR XB rfl
    have y2 : wr.cell? ⟨w.heap.size, 2, none⟩ = some (.int .i64 0) := blkR XB rfl
    have y3 : wr.cell? ⟨w.heap.size, 3, none⟩ = some (.string ⟨#[]⟩) := blkR XB rfl
    have y4 : wr.cell? ⟨w.heap.size, 4, none⟩ = some (.slice none 0 0) := blkR XB rfl
    have y5 : wr.cell? ⟨w.heap.size, 5, none⟩ = some (.slice none 0 0) := blkR XB rfl
    have yf : ∀ i, wr.frozen? ⟨w.heap.size, i, none⟩ = false := fun i => XB.frozen i
    rcases Nat.lt_or_ge j m with hlt | hge
    · have e1 : decide ((j : Int) < (m : Int)) = true := by simp; omega
      have hx1 : (j : Int) < (m : Int) := by omega
      obtain ⟨J, hJ⟩ : ∃ J, m - j = J + 1 := ⟨m - j - 1, by omega⟩
      have hk0 : rkeys false ks (bs.drop at') = .ok (ks, 0) := rfl
      have hcall := ih (w := wr) (p := p') ((HRD.out.below hL.out.be (Nat.le_refl _)).more (Nat.le_refl _) hL.out.be.size) hat' hp'
      have qd : IntKind.i64.wrap ((d : Int) + 1 - 1) = (d : Int) := by rw [show ((d : Int) + 1 - 1) = (d : Int) by omega]; exact IntWalk.i64_in _ (by omega)
      have qj : IntKind.u64.wrap ((j : Int) + 1) = (j : Int) + 1 := by rw [wr64]; omega
      cases hv : rd bs d p' at' with
      | error z =>
        rw [hv] at hcall
        have hfin : rowsR bs (rd bs d) false m p at_ = .error z := by unfold rowsR; rw [hE.out, hJ, rows_val hk0 hv]
        have hz : ¬ z = 0 := by rcases rd_err _ _ _ _ _ hv with h | h <;> omega
        have HR := hide hfin
        have HC := hide hcall
        clear hfin hE hcall hv hJ hk0 XB YB
        go_wp2_with fail
        refine HC.out.mono ?_
        rintro e w7 ⟨hb7, cs, a, q, rfl, hV7⟩
        obtain ⟨k7, b7, n7, s7, AL7, nL7, cL7, AK7, nK7, cK7, rfl⟩ := hV7.shape
        have L7 := hL.out.step hb7
        clear y0 y1 y2 y3 y4 y5 yf
        have L8 := fun o => L7.step ((Below.refl w7.heap.size w7).alloc (Nat.le_refl _) o)
        have y0 : ∀ o, (w7.alloc o).cell? ⟨w.heap.size, 0, none⟩ = some (.int .i64 0) := fun o => blkR (L8 o).x rfl
        have y1 : ∀ o, (w7.alloc o).cell? ⟨w.heap.size, 1, none⟩ = some (.bool false) := fun o => blkR (L8 o).x rfl
        have y2 : ∀ o, (w7.alloc o).cell? ⟨w.heap.size, 2, none⟩ = some (.int .i64 0) := fun o => blkR (L8 o).x rfl
        have y3 : ∀ o, (w7.alloc o).cell? ⟨w.heap.size, 3, none⟩ = some (.string ⟨#[]⟩) := fun o => blkR (L8 o).x rfl
        have y4 : ∀ o, (w7.alloc o).cell? ⟨w.heap.size, 4, none⟩ = some (.slice none 0 0) := fun o => blkR (L8 o).x rfl
        have y5 : ∀ o, (w7.alloc o).cell? ⟨w.heap.size, 5, none⟩ = some (.slice none 0 0) := fun o => blkR (L8 o).x rfl
        have yf : ∀ o i, (w7.alloc o).frozen? ⟨w.heap.size, i, none⟩ = false := fun o i => (L8 o).x.frozen i
        have XE := fun o => set6 (L8 o).x (.int .i64 0) (.bool false) (.int .i64 0) (.string ⟨#[]⟩) (.slice none 0 0) (.slice none 0 0)
        have OE := fun o => (only6 (Only.refl (fun b => b = w.heap.size) (w7.alloc o)) (.inl rfl) (.int .i64 0) (.bool false) (.int .i64 0) (.string ⟨#[]⟩) (.slice none 0 0) (.slice none 0 0))
        have BE := fun o => (L8 o).be.trans ((OE o).below (B := w.heap.size) (by intro b _ e; have e : b = w.heap.size := e; omega) (L8 o).be.size)
        have HXE := hide XE
        have HBE := hide BE
        clear L7 L8 hV7 hb7 HC XE OE BE
        go_wp2
        refine bodyPost_ret (results_cell4 rfl _ _ w.heap.size 25 _ _ rfl (HXE.out _) Try.underlying25 rfl (by kernel_rfl)) rfl ?_
        exact RefP_no HR.out (HBE.out _) (leaf (by decide) (by decide) (by decide))
      | ok q3 =>
        obtain ⟨v, at2, q⟩ := q3
        rw [hv] at hcall
        have hnext : rows bs (rd bs d) false (m - j) vs ks p' at' = rows bs (rd bs d) false (m - (j + 1)) (vs ++ [v]) ks q at2 := by rw [hJ, show m - (j + 1) = J by omega]; exact rows_next hk0 hv
        have hN := hE.out.trans hnext
        have hone := rd_one bs (by rw [hlen]; omega) d p' at' v at2 q hv
        have hge := may_ge _ _ _ _ hone.1
        have hat2 : at2 ≤ n := by
          have e := len_of hone.2.1
          have := hone.2.2.1
          rw [hlen] at e
          omega
        have HN := hide hN
        have HC := hide hcall
        clear hnext hN hone hE hcall hv hJ hk0 XB YB y0 y1 y2 y3 y4 y5 yf
        go_wp2_with fail
        refine HC.out.mono ?_
        rintro e w7 ⟨hb7, cs, rfl, hV7⟩
        obtain ⟨k2, bb2, m2, s2, AL2, nL2, cL2, AK2, nK2, cK2, rfl⟩ := hV7.shape
        have L7 := hL.out.step hb7
        have f4 : ∀ o, (w7.alloc o).cell? ⟨w.heap.size + 1, 4, none⟩ = some (.slice AL nL cL) := fun o => blkR (L7.step ((Below.refl w7.heap.size w7).alloc (Nat.le_refl _) o)).y rfl
        go_wp2_with (at_builtin; refine pause ?_)
        refine unpause ?_
        have L9 := (L7.step ((Below.refl w7.heap.size w7).alloc (Nat.le_refl _) (.cells #[.int .i64 k2, .bool bb2, .int .i64 m2, .string s2, .slice AL2 nL2 cL2, .slice AK2 nK2 cK2] 25))).step ((Below.refl _ _).alloc (Nat.le_refl _) (.cells #[.int .i64 k2, .bool bb2, .int .i64 m2, .string s2, .slice AL2 nL2 cL2, .slice AK2 nK2 cK2] 25))
        have RL := Reads.lit (w7.alloc (.cells #[.int .i64 k2, .bool bb2, .int .i64 m2, .string s2, .slice AL2 nL2 cL2, .slice AK2 nK2 cK2] 25)) #[.int .i64 k2, .bool bb2, .int .i64 m2, .string s2, .slice AL2 nL2 cL2, .slice AK2 nK2 cK2] 25 1 6 rfl
        rw [show (w7.alloc (.cells #[.int .i64 k2, .bool bb2, .int .i64 m2, .string s2, .slice AL2 nL2 cL2, .slice AK2 nK2 cK2] 25)).heap.size = w7.heap.size + 1 by simp] at RL
        refine wpList_app el22 (.tmp 111) (.tmp 113) L9.ol RL hV7.oneCell (N := nL + 1) rfl rfl (by unfold maxLen; omega) (by omega) L9.be.size rfl rfl rfl rfl ?_
        intro A9 c9 w9 ho9 hg9 hb9
        have hX := hL.out.x.lt
        have hY := hL.out.y.lt
        have hsz := hL.out.be.size
        have LV := L9.val ((hV7.alloc _).alloc _) ⟨hX, hY, hsz, fun b hb => own_lt hL.out.ol hb, fun b hb => own_lt hL.out.ok hb⟩ ho9 hg9 hb9
        have G9 := L9.y.grown hg9 (fun e => L9.lx.2.1 e.symm)
        have g9 : w9.cell? ⟨w.heap.size + 1, 4, none⟩ = some (.slice AL nL cL) := blkR G9 rfl
        have q9 : w9.frozen? ⟨w.heap.size + 1, 4, none⟩ = false := G9.frozen 4
        have HLV := hide LV
        clear RL LV L9 L7 hV7 hb7 ho9 hg9 hb9 G9 HC f4
        go_wp2_with fail
        go_roundg (m - (j + 1))
        case measure => omega
        case rel => exact ⟨j + 1, at2, q, A9, nL + 1, c9, AK, nK, cK, vs ++ [v], ks, _, rfl, rfl, rfl, by go_num, by omega, hat2, hge.2, by omega, HN, HLV⟩
    · have e1 : decide ((j : Int) < (m : Int)) = false := by simp; omega
      have e2 : ¬ j < m := by omega
      have e3 : ¬ (j : Int) < (m : Int) := by omega
      have hj0 : m - j = 0 := by omega
      have hfin : rowsR bs (rd bs d) false m p at_ = .ok (.mk 4 false 0 .empty vs ks, at', p') := by unfold rowsR; rw [hE.out, hj0, rows]; rfl
      have HR := hide hfin
      have f0 : wr.cell? ⟨w.heap.size + 1, 0, none⟩ = some (.int .i64 4) := blkR YB rfl
      have f1 : wr.cell? ⟨w.heap.size + 1, 1, none⟩ = some (.bool false) := blkR YB rfl
      have f2 : wr.cell? ⟨w.heap.size + 1, 2, none⟩ = some (.int .i64 0) := blkR YB rfl
      have f3 : wr.cell? ⟨w.heap.size + 1, 3, none⟩ = some (.string ⟨#[]⟩) := blkR YB rfl
      have f4 : wr.cell? ⟨w.heap.size + 1, 4, none⟩ = some (.slice AL nL cL) := blkR YB rfl
      have f5 : wr.cell? ⟨w.heap.size + 1, 5, none⟩ = some (.slice AK nK cK) := blkR YB rfl
      have XE := set6 XB (.int .i64 4) (.bool false) (.int .i64 0) (.string ⟨#[]⟩) (.slice AL nL cL) (.slice AK nK cK)
      have OE := only6 (Only.refl (fun b => b = w.heap.size) wr) (.inl rfl) (.int .i64 4) (.bool false) (.int .i64 0) (.string ⟨#[]⟩) (.slice AL nL cL) (.slice AK nK cK)
      have HLE := hide (hL.out.fin (by decide) OE)
      have HXE := hide XE
      clear hfin OE XB YB XE
      clear hE hjm hge hj0
      go_wp2
      refine bodyPost_ret (results_cell4 rfl _ _ w.heap.size 25 _ _ rfl HXE.out Try.underlying25 rfl (by kernel_rfl)) rfl ?_
      exact RefP_ok HR.out HLE.out.2 HLE.out.1 (by simp) (by simp)
end Go.Proofs.Ytaapbiiiepdopaa
