/- A reader of bytes: a number. -/
import Derived.Test.YtaapbiiiepdopaaRr
import Derived.Laws.BitsAllLaws
import Derived.Laws.BitsLemmas
namespace Go.Proofs.Ytaapbiiiepdopaa
open Go.RowKit Mem
set_option linter.unusedVariables false

def NumP (R : Except Int (Nat × Nat)) (g : Nat) (A : Option Addr) (n c : Nat) (bs : List UInt8) (at_ p : Nat) (w : World) (e : Ending) (w' : World) : Prop := match R with
  | .ok (m, k) => e = .returned (.int .u64 (m : Int)) ∧ RS w' g A n c bs (at_ + k) p ∧ Rt g w w'
  | .error z => e = Pan z ∧ Rt g w w'
/-- a number's reading goes on behind k pieces -/
def cont (k acc : Nat) (r : Except Int (Nat × Nat)) : Except Int (Nat × Nat) := match r with
  | .ok (n, m) => .ok (acc + 128 ^ k * n, m + k)
  | .error e => .error e
theorem drop_some {bs : List UInt8} {j : Nat} {x : UInt8} (h : bs[j]? = some x) : bs.drop j = x :: bs.drop (j + 1) := by
  have hlt := (List.getElem?_eq_some_iff.1 h).1
  rw [List.getElem?_eq_getElem hlt] at h
  cases h
  exact List.drop_eq_getElem_cons hlt
theorem fin_none {R : Except Int (Nat × Nat)} {bs : List UInt8} {at_ k acc : Nat} (hE : R = cont k acc (rn k (bs.drop (at_ + k)))) (hx : bs[at_ + k]? = none) : R = .error 22 := by
  rw [hE, List.drop_eq_nil_iff.2 (List.getElem?_eq_none_iff.1 hx), rn]; rfl
theorem fin_bad {R : Except Int (Nat × Nat)} {bs : List UInt8} {at_ k acc : Nat} {x : UInt8} (hE : R = cont k acc (rn k (bs.drop (at_ + k)))) (hx : bs[at_ + k]? = some x) (hb : (k = 9 ∧ 1 < x.toNat) ∨ (0 < k ∧ x.toNat = 0)) : R = .error 1 := by
  rw [hE, drop_some hx, rn, if_pos hb]; rfl
theorem fin_last {R : Except Int (Nat × Nat)} {bs : List UInt8} {at_ k acc : Nat} {x : UInt8} (hE : R = cont k acc (rn k (bs.drop (at_ + k)))) (hx : bs[at_ + k]? = some x) (hb : ¬ ((k = 9 ∧ 1 < x.toNat) ∨ (0 < k ∧ x.toNat = 0))) (hl : x.toNat < 128) : R = .ok (acc + 128 ^ k * x.toNat, 1 + k) := by
  rw [hE, drop_some hx, rn, if_neg hb, if_pos hl]; rfl
theorem fin_next {R : Except Int (Nat × Nat)} {bs : List UInt8} {at_ k acc : Nat} {x : UInt8} (hE : R = cont k acc (rn k (bs.drop (at_ + k)))) (hx : bs[at_ + k]? = some x) (hb : ¬ ((k = 9 ∧ 1 < x.toNat) ∨ (0 < k ∧ x.toNat = 0))) (hl : ¬ x.toNat < 128) :
    R = cont (k + 1) (acc + 128 ^ k * (x.toNat - 128)) (rn (k + 1) (bs.drop (at_ + (k + 1)))) := by
  rw [hE, drop_some hx, rn, if_neg hb, if_neg hl, Nat.add_assoc]
  cases rn (k + 1) (bs.drop (at_ + (k + 1))) with
  | error e => rfl
  | ok q =>
    obtain ⟨n, m⟩ := q
    unfold cont
    simp only [Except.ok.injEq, Prod.mk.injEq]
    refine ⟨?_, by omega⟩
    rw [Nat.mul_add, Nat.pow_succ, Nat.add_assoc, Nat.mul_assoc]
theorem and127 (x : UInt8) : bits .and .u8 (x.toNat : Int) 127 = ((x.toNat % 128 : Nat) : Int) := by
  have h : ∀ y : Fin 256, bits .and .u8 ((y.val : Nat) : Int) 127 = ((y.val % 128 : Nat) : Int) := by decide +kernel
  exact h ⟨x.toNat, x.toNat_lt⟩
theorem wr64 (z : Int) : IntKind.u64.wrap z = z % 18446744073709551616 := by simp [IntKind.wrap, IntKind.bits, IntKind.signed]
theorem or_piece {k acc : Nat} {x : UInt8} (hk : k ≤ 9) (ha : acc < 128 ^ k) (h9 : k = 9 → x.toNat ≤ 1) {m : Int} (hm : m = ((128 ^ k : Nat) : Int)) :
    bits .or .u64 (acc : Int) (IntKind.u64.wrap (IntKind.u64.wrap (bits .and .u8 (x.toNat : Int) 127) * m)) = ((acc + 128 ^ k * (x.toNat % 128) : Nat) : Int) := by
  subst hm
  have hx : x.toNat < 256 := x.toNat_lt
  have hr : x.toNat % 128 < 128 := Nat.mod_lt _ (by decide)
  have hb : 128 ^ k * (x.toNat % 128) < 18446744073709551616 := by
    by_cases h : k = 9
    · subst h
      have := h9 rfl
      have e : x.toNat % 128 ≤ 1 := by omega
      have : 128 ^ 9 * (x.toNat % 128) ≤ 128 ^ 9 * 1 := Nat.mul_le_mul_left _ e
      omega
    · have h8 : 128 ^ k ≤ 128 ^ 8 := Nat.pow_le_pow_right (by decide) (by omega)
      have : 128 ^ k * (x.toNat % 128) ≤ 128 ^ 8 * 127 := Nat.mul_le_mul h8 (by omega)
      omega
  have ha' : acc < 18446744073709551616 := by
    have : 128 ^ k ≤ 128 ^ 9 := Nat.pow_le_pow_right (by decide) hk
    omega
  rw [and127, wr64, wr64]
  have e1 : ((x.toNat % 128 : Nat) : Int) % 18446744073709551616 = ((x.toNat % 128 : Nat) : Int) := by omega
  rw [e1, ← Int.natCast_mul, Nat.mul_comm]
  have e2 : ((128 ^ k * (x.toNat % 128) : Nat) : Int) % 18446744073709551616 = ((128 ^ k * (x.toNat % 128) : Nat) : Int) := by omega
  rw [e2, u64_or_nat _ _ ha' hb]
  have hp : (128 : Nat) ^ k = 2 ^ (7 * k) := by rw [Nat.pow_mul]
  rw [hp] at ha ⊢
  rw [Nat.or_comm, ← Nat.two_pow_add_eq_or_of_lt ha, Nat.add_comm]
theorem acc_next {k acc x : Nat} (ha : acc < 128 ^ k) (hx : x < 256) : acc + 128 ^ k * (x - 128) < 128 ^ (k + 1) := by
  rw [Nat.pow_succ]
  have : 128 ^ k * (x - 128) ≤ 128 ^ k * 127 := Nat.mul_le_mul_left _ (by omega)
  omega
theorem NumP_ok {R : Except Int (Nat × Nat)} {g : Nat} {A : Option Addr} {n c : Nat} {bs : List UInt8} {at_ p : Nat} {w w' : World} {m k : Nat} (h : R = .ok (m, k)) (hr : RS w' g A n c bs (at_ + k) p) (ht : Rt g w w') : NumP R g A n c bs at_ p w (.returned (.int .u64 (m : Int))) w' := by rw [h]; exact ⟨rfl, hr, ht⟩
theorem NumP_no {R : Except Int (Nat × Nat)} {g : Nat} {A : Option Addr} {n c : Nat} {bs : List UInt8} {at_ p : Nat} {w w' : World} {z : Int} (h : R = .error z) (ht : Rt g w w') : NumP R g A n c bs at_ p w (.panicked [{ v := .iface 28 (.int .i64 z), recovered := false }]) w' := by rw [h]; exact ⟨rfl, ht⟩

set_option maxHeartbeats 8000000 in
set_option maxRecDepth 100000 in
theorem rnum_any {w : World} {g n c at_ p : Nat} {A : Option Addr} {bs : List UInt8} (h : RS w g A n c bs at_ p) :
    Calls Try.prog 59 #[.pointer (some ⟨g, 0, none⟩)] w fun e w' => NumP (rn 0 (bs.drop at_)) g A n c bs at_ p w e w' := by
  have H := hide h
  clear h
  go_enter Try.func59, Try.ntmps59
  go_wp2_with fail
  go_loopg [3, 4] 10 (fun m nv sv wr => ∃ (k acc : Nat), m = 10 - k ∧ nv = .int .u64 (acc : Nat) ∧ sv = .int .u64 ((7 * k : Nat) : Int) ∧ k ≤ 9 ∧ Hid (acc < 128 ^ k) ∧ Hid (rn 0 (bs.drop at_) = cont k acc (rn k (bs.drop (at_ + k)))) ∧ Hid (RS wr g A n c bs (at_ + k) p) ∧ Hid (Rt g w wr))
  case atStart => exact ⟨0, 0, rfl, rfl, rfl, Nat.zero_le _, hide (by decide), hide (by unfold cont; cases rn 0 (bs.drop at_) <;> simp), H, Rt.refl g w⟩
  case round =>
    obtain ⟨k, acc, rfl, rfl, rfl, hk, hacc, hE, hR, hT⟩ := hrel
    cases hx : bs[at_ + k]? with
    | none =>
      have HX := hide hx
      have HF := hide (fin_none hE.out hx)
      clear hx
      go_wp2_with fail
      refine (next_no hR.out HX.out).mono ?_
      rintro e w1 ⟨he, hT1⟩
      have he' : e = .panicked [{ v := .iface 28 (.int .i64 22), recovered := false }] := he
      subst he'
      have HT1 := hide (hT.out.trans hT1)
      clear hT1 he
      exact ⟨rfl, NumP_no HF.out HT1.out⟩
    | some x =>
      have HX := hide hx
      have hx256 : x.toNat < 256 := x.toNat_lt
      have hbad := fin_bad hE.out hx
      have hlast := fin_last hE.out hx
      have hnext := fin_next hE.out hx
      have HF := hide (And.intro hbad (And.intro hlast hnext))
      clear hx hbad hlast hnext
      have hk10 : k = 0 ∨ k = 1 ∨ k = 2 ∨ k = 3 ∨ k = 4 ∨ k = 5 ∨ k = 6 ∨ k = 7 ∨ k = 8 ∨ k = 9 := by omega
      rcases hk10 with rfl | rfl | rfl | rfl | rfl | rfl | rfl | rfl | rfl | rfl
      · by_cases h128 : x.toNat < 128
        · have hl := HF.out.2.1 (by omega) (by omega)
          have hor := or_piece (x := x) (k := 0) (by decide) hacc.out (by omega) (m := 1) (by decide)
          rw [Int.mul_one] at hor
          rw [Nat.mod_eq_of_lt (by omega)] at hor
          have HL := hide hl
          have HO := hide hor
          clear hl hor HF hE hacc
          have e5 : decide ((x.toNat : Int) < 128) = true := by simp; omega
          go_wp2_with fail
          refine (next_ok hR.out HX.out).mono ?_
          rintro e w1 ⟨rfl, hR1, hT1⟩
          have HT1 := hide (hT.out.trans hT1)
          have HR1 := hide hR1
          clear hT1 hR1
          go_wp2_with fail
          refine (must_ok _ _ _).mono ?_
          rintro e w5 ⟨rfl, rfl⟩
          go_wp2_with fail
          refine (must_ok _ _ _).mono ?_
          rintro e w5 ⟨rfl, rfl⟩
          go_wp2_with fail
          go_ret
          exact (congrArg (fun z => NumP (rn 0 (bs.drop at_)) g A n c bs at_ p w (.returned (.int .u64 z)) _) HO.out).mpr (NumP_ok HL.out (by rw [Nat.add_comm 1, ← Nat.add_assoc]; exact HR1.out) HT1.out)
        · have hn := HF.out.2.2 (by omega) (by omega)
          have hor := or_piece (x := x) (k := 0) (by decide) hacc.out (by omega) (m := 1) (by decide)
          rw [Int.mul_one] at hor
          rw [show x.toNat % 128 = x.toNat - 128 by omega] at hor
          have HN := hide hn
          have HO := hide hor
          have HA := hide (acc_next hacc.out hx256)
          clear hn hor HF hE hacc
          have e5 : decide ((x.toNat : Int) < 128) = false := by simp; omega
          go_wp2_with fail
          refine (next_ok hR.out HX.out).mono ?_
          rintro e w1 ⟨rfl, hR1, hT1⟩
          have HT1 := hide (hT.out.trans hT1)
          have HR1 := hide hR1
          clear hT1 hR1
          go_wp2_with fail
          refine (must_ok _ _ _).mono ?_
          rintro e w5 ⟨rfl, rfl⟩
          go_wp2_with fail
          refine (must_ok _ _ _).mono ?_
          rintro e w5 ⟨rfl, rfl⟩
          go_wp2_with fail
          go_roundg (10 - 1)
          case measure => omega
          case rel => exact ⟨1, _, rfl, congrArg (Value.int .u64) HO.out, rfl, by omega, HA, hide HN.out, HR1, HT1⟩
      · by_cases hx0 : x.toNat = 0
        · have HB := hide (HF.out.1 (by omega))
          clear HF hE hacc
          have e3 : ((x.toNat : Int) != 0) = false := by simp [hx0]
          clear hx0
          go_wp2_with fail
          refine (next_ok hR.out HX.out).mono ?_
          rintro e w1 ⟨rfl, hR1, hT1⟩
          have HT1 := hide (hT.out.trans hT1)
          have HR1 := hide hR1
          clear hT1 hR1
          go_wp2_with fail
          refine (must_ok _ _ _).mono ?_
          rintro e w5 ⟨rfl, rfl⟩
          go_wp2_with fail
          refine (must_no _ _ _).mono ?_
          rintro e w5 ⟨rfl, rfl⟩
          exact ⟨rfl, NumP_no HB.out HT1.out⟩
        · have e3 : ((x.toNat : Int) != 0) = true := by simp; omega
          by_cases h128 : x.toNat < 128
          · have hl := HF.out.2.1 (by omega) (by omega)
            have hor := or_piece (x := x) (k := 1) (by decide) hacc.out (by omega) (m := 128) (by decide)
            rw [Nat.mod_eq_of_lt (by omega)] at hor
            have HL := hide hl
            have HO := hide hor
            clear hl hor HF hE hacc
            have e5 : decide ((x.toNat : Int) < 128) = true := by simp; omega
            clear hx0
            go_wp2_with fail
            refine (next_ok hR.out HX.out).mono ?_
            rintro e w1 ⟨rfl, hR1, hT1⟩
            have HT1 := hide (hT.out.trans hT1)
            have HR1 := hide hR1
            clear hT1 hR1
            go_wp2_with fail
            refine (must_ok _ _ _).mono ?_
            rintro e w5 ⟨rfl, rfl⟩
            go_wp2_with fail
            refine (must_ok _ _ _).mono ?_
            rintro e w5 ⟨rfl, rfl⟩
            go_wp2_with fail
            go_ret
            exact (congrArg (fun z => NumP (rn 0 (bs.drop at_)) g A n c bs at_ p w (.returned (.int .u64 z)) _) HO.out).mpr (NumP_ok HL.out (by rw [Nat.add_comm 1, ← Nat.add_assoc]; exact HR1.out) HT1.out)
          · have hn := HF.out.2.2 (by omega) (by omega)
            have hor := or_piece (x := x) (k := 1) (by decide) hacc.out (by omega) (m := 128) (by decide)
            rw [show x.toNat % 128 = x.toNat - 128 by omega] at hor
            have HN := hide hn
            have HO := hide hor
            have HA := hide (acc_next hacc.out hx256)
            clear hn hor HF hE hacc
            have e5 : decide ((x.toNat : Int) < 128) = false := by simp; omega
            clear hx0
            go_wp2_with fail
            refine (next_ok hR.out HX.out).mono ?_
            rintro e w1 ⟨rfl, hR1, hT1⟩
            have HT1 := hide (hT.out.trans hT1)
            have HR1 := hide hR1
            clear hT1 hR1
            go_wp2_with fail
            refine (must_ok _ _ _).mono ?_
            rintro e w5 ⟨rfl, rfl⟩
            go_wp2_with fail
            refine (must_ok _ _ _).mono ?_
            rintro e w5 ⟨rfl, rfl⟩
            go_wp2_with fail
            go_roundg (10 - 2)
            case measure => omega
            case rel => exact ⟨2, _, rfl, congrArg (Value.int .u64) HO.out, rfl, by omega, HA, hide HN.out, HR1, HT1⟩
      · by_cases hx0 : x.toNat = 0
        · have HB := hide (HF.out.1 (by omega))
          clear HF hE hacc
          have e3 : ((x.toNat : Int) != 0) = false := by simp [hx0]
          clear hx0
          go_wp2_with fail
          refine (next_ok hR.out HX.out).mono ?_
          rintro e w1 ⟨rfl, hR1, hT1⟩
          have HT1 := hide (hT.out.trans hT1)
          have HR1 := hide hR1
          clear hT1 hR1
          go_wp2_with fail
          refine (must_ok _ _ _).mono ?_
          rintro e w5 ⟨rfl, rfl⟩
          go_wp2_with fail
          refine (must_no _ _ _).mono ?_
          rintro e w5 ⟨rfl, rfl⟩
          exact ⟨rfl, NumP_no HB.out HT1.out⟩
        · have e3 : ((x.toNat : Int) != 0) = true := by simp; omega
          by_cases h128 : x.toNat < 128
          · have hl := HF.out.2.1 (by omega) (by omega)
            have hor := or_piece (x := x) (k := 2) (by decide) hacc.out (by omega) (m := 16384) (by decide)
            rw [Nat.mod_eq_of_lt (by omega)] at hor
            have HL := hide hl
            have HO := hide hor
            clear hl hor HF hE hacc
            have e5 : decide ((x.toNat : Int) < 128) = true := by simp; omega
            clear hx0
            go_wp2_with fail
            refine (next_ok hR.out HX.out).mono ?_
            rintro e w1 ⟨rfl, hR1, hT1⟩
            have HT1 := hide (hT.out.trans hT1)
            have HR1 := hide hR1
            clear hT1 hR1
            go_wp2_with fail
            refine (must_ok _ _ _).mono ?_
            rintro e w5 ⟨rfl, rfl⟩
            go_wp2_with fail
            refine (must_ok _ _ _).mono ?_
            rintro e w5 ⟨rfl, rfl⟩
            go_wp2_with fail
            go_ret
            exact (congrArg (fun z => NumP (rn 0 (bs.drop at_)) g A n c bs at_ p w (.returned (.int .u64 z)) _) HO.out).mpr (NumP_ok HL.out (by rw [Nat.add_comm 1, ← Nat.add_assoc]; exact HR1.out) HT1.out)
          · have hn := HF.out.2.2 (by omega) (by omega)
            have hor := or_piece (x := x) (k := 2) (by decide) hacc.out (by omega) (m := 16384) (by decide)
            rw [show x.toNat % 128 = x.toNat - 128 by omega] at hor
            have HN := hide hn
            have HO := hide hor
            have HA := hide (acc_next hacc.out hx256)
            clear hn hor HF hE hacc
            have e5 : decide ((x.toNat : Int) < 128) = false := by simp; omega
            clear hx0
            go_wp2_with fail
            refine (next_ok hR.out HX.out).mono ?_
            rintro e w1 ⟨rfl, hR1, hT1⟩
            have HT1 := hide (hT.out.trans hT1)
            have HR1 := hide hR1
            clear hT1 hR1
            go_wp2_with fail
            refine (must_ok _ _ _).mono ?_
            rintro e w5 ⟨rfl, rfl⟩
            go_wp2_with fail
            refine (must_ok _ _ _).mono ?_
            rintro e w5 ⟨rfl, rfl⟩
            go_wp2_with fail
            go_roundg (10 - 3)
            case measure => omega
            case rel => exact ⟨3, _, rfl, congrArg (Value.int .u64) HO.out, rfl, by omega, HA, hide HN.out, HR1, HT1⟩
      · by_cases hx0 : x.toNat = 0
        · have HB := hide (HF.out.1 (by omega))
          clear HF hE hacc
          have e3 : ((x.toNat : Int) != 0) = false := by simp [hx0]
          clear hx0
          go_wp2_with fail
          refine (next_ok hR.out HX.out).mono ?_
          rintro e w1 ⟨rfl, hR1, hT1⟩
          have HT1 := hide (hT.out.trans hT1)
          have HR1 := hide hR1
          clear hT1 hR1
          go_wp2_with fail
          refine (must_ok _ _ _).mono ?_
          rintro e w5 ⟨rfl, rfl⟩
          go_wp2_with fail
          refine (must_no _ _ _).mono ?_
          rintro e w5 ⟨rfl, rfl⟩
          exact ⟨rfl, NumP_no HB.out HT1.out⟩
        · have e3 : ((x.toNat : Int) != 0) = true := by simp; omega
          by_cases h128 : x.toNat < 128
          · have hl := HF.out.2.1 (by omega) (by omega)
            have hor := or_piece (x := x) (k := 3) (by decide) hacc.out (by omega) (m := 2097152) (by decide)
            rw [Nat.mod_eq_of_lt (by omega)] at hor
            have HL := hide hl
            have HO := hide hor
            clear hl hor HF hE hacc
            have e5 : decide ((x.toNat : Int) < 128) = true := by simp; omega
            clear hx0
            go_wp2_with fail
            refine (next_ok hR.out HX.out).mono ?_
            rintro e w1 ⟨rfl, hR1, hT1⟩
            have HT1 := hide (hT.out.trans hT1)
            have HR1 := hide hR1
            clear hT1 hR1
            go_wp2_with fail
            refine (must_ok _ _ _).mono ?_
            rintro e w5 ⟨rfl, rfl⟩
            go_wp2_with fail
            refine (must_ok _ _ _).mono ?_
            rintro e w5 ⟨rfl, rfl⟩
            go_wp2_with fail
            go_ret
            exact (congrArg (fun z => NumP (rn 0 (bs.drop at_)) g A n c bs at_ p w (.returned (.int .u64 z)) _) HO.out).mpr (NumP_ok HL.out (by rw [Nat.add_comm 1, ← Nat.add_assoc]; exact HR1.out) HT1.out)
          · have hn := HF.out.2.2 (by omega) (by omega)
            have hor := or_piece (x := x) (k := 3) (by decide) hacc.out (by omega) (m := 2097152) (by decide)
            rw [show x.toNat % 128 = x.toNat - 128 by omega] at hor
            have HN := hide hn
            have HO := hide hor
            have HA := hide (acc_next hacc.out hx256)
            clear hn hor HF hE hacc
            have e5 : decide ((x.toNat : Int) < 128) = false := by simp; omega
            clear hx0
            go_wp2_with fail
            refine (next_ok hR.out HX.out).mono ?_
            rintro e w1 ⟨rfl, hR1, hT1⟩
            have HT1 := hide (hT.out.trans hT1)
            have HR1 := hide hR1
            clear hT1 hR1
            go_wp2_with fail
            refine (must_ok _ _ _).mono ?_
            rintro e w5 ⟨rfl, rfl⟩
            go_wp2_with fail
            refine (must_ok _ _ _).mono ?_
            rintro e w5 ⟨rfl, rfl⟩
            go_wp2_with fail
            go_roundg (10 - 4)
            case measure => omega
            case rel => exact ⟨4, _, rfl, congrArg (Value.int .u64) HO.out, rfl, by omega, HA, hide HN.out, HR1, HT1⟩
      · by_cases hx0 : x.toNat = 0
        · have HB := hide (HF.out.1 (by omega))
          clear HF hE hacc
          have e3 : ((x.toNat : Int) != 0) = false := by simp [hx0]
          clear hx0
          go_wp2_with fail
          refine (next_ok hR.out HX.out).mono ?_
          rintro e w1 ⟨rfl, hR1, hT1⟩
          have HT1 := hide (hT.out.trans hT1)
          have HR1 := hide hR1
          clear hT1 hR1
          go_wp2_with fail
          refine (must_ok _ _ _).mono ?_
          rintro e w5 ⟨rfl, rfl⟩
          go_wp2_with fail
          refine (must_no _ _ _).mono ?_
          rintro e w5 ⟨rfl, rfl⟩
          exact ⟨rfl, NumP_no HB.out HT1.out⟩
        · have e3 : ((x.toNat : Int) != 0) = true := by simp; omega
          by_cases h128 : x.toNat < 128
          · have hl := HF.out.2.1 (by omega) (by omega)
            have hor := or_piece (x := x) (k := 4) (by decide) hacc.out (by omega) (m := 268435456) (by decide)
            rw [Nat.mod_eq_of_lt (by omega)] at hor
            have HL := hide hl
            have HO := hide hor
            clear hl hor HF hE hacc
            have e5 : decide ((x.toNat : Int) < 128) = true := by simp; omega
            clear hx0
            go_wp2_with fail
            refine (next_ok hR.out HX.out).mono ?_
            rintro e w1 ⟨rfl, hR1, hT1⟩
            have HT1 := hide (hT.out.trans hT1)
            have HR1 := hide hR1
            clear hT1 hR1
            go_wp2_with fail
            refine (must_ok _ _ _).mono ?_
            rintro e w5 ⟨rfl, rfl⟩
            go_wp2_with fail
            refine (must_ok _ _ _).mono ?_
            rintro e w5 ⟨rfl, rfl⟩
            go_wp2_with fail
            go_ret
            exact (congrArg (fun z => NumP (rn 0 (bs.drop at_)) g A n c bs at_ p w (.returned (.int .u64 z)) _) HO.out).mpr (NumP_ok HL.out (by rw [Nat.add_comm 1, ← Nat.add_assoc]; exact HR1.out) HT1.out)
          · have hn := HF.out.2.2 (by omega) (by omega)
            have hor := or_piece (x := x) (k := 4) (by decide) hacc.out (by omega) (m := 268435456) (by decide)
            rw [show x.toNat % 128 = x.toNat - 128 by omega] at hor
            have HN := hide hn
            have HO := hide hor
            have HA := hide (acc_next hacc.out hx256)
            clear hn hor HF hE hacc
            have e5 : decide ((x.toNat : Int) < 128) = false := by simp; omega
            clear hx0
            go_wp2_with fail
            refine (next_ok hR.out HX.out).mono ?_
            rintro e w1 ⟨rfl, hR1, hT1⟩
            have HT1 := hide (hT.out.trans hT1)
            have HR1 := hide hR1
            clear hT1 hR1
            go_wp2_with fail
            refine (must_ok _ _ _).mono ?_
            rintro e w5 ⟨rfl, rfl⟩
            go_wp2_with fail
            refine (must_ok _ _ _).mono ?_
            rintro e w5 ⟨rfl, rfl⟩
            go_wp2_with fail
            go_roundg (10 - 5)
            case measure => omega
            case rel => exact ⟨5, _, rfl, congrArg (Value.int .u64) HO.out, rfl, by omega, HA, hide HN.out, HR1, HT1⟩
      · by_cases hx0 : x.toNat = 0
        · have HB := hide (HF.out.1 (by omega))
          clear HF hE hacc
          have e3 : ((x.toNat : Int) != 0) = false := by simp [hx0]
          clear hx0
          go_wp2_with fail
          refine (next_ok hR.out HX.out).mono ?_
          rintro e w1 ⟨rfl, hR1, hT1⟩
          have HT1 := hide (hT.out.trans hT1)
          have HR1 := hide hR1
          clear hT1 hR1
          go_wp2_with fail
          refine (must_ok _ _ _).mono ?_
          rintro e w5 ⟨rfl, rfl⟩
          go_wp2_with fail
          refine (must_no _ _ _).mono ?_
          rintro e w5 ⟨rfl, rfl⟩
          exact ⟨rfl, NumP_no HB.out HT1.out⟩
        · have e3 : ((x.toNat : Int) != 0) = true := by simp; omega
          by_cases h128 : x.toNat < 128
          · have hl := HF.out.2.1 (by omega) (by omega)
            have hor := or_piece (x := x) (k := 5) (by decide) hacc.out (by omega) (m := 34359738368) (by decide)
            rw [Nat.mod_eq_of_lt (by omega)] at hor
            have HL := hide hl
            have HO := hide hor
            clear hl hor HF hE hacc
            have e5 : decide ((x.toNat : Int) < 128) = true := by simp; omega
            clear hx0
            go_wp2_with fail
            refine (next_ok hR.out HX.out).mono ?_
            rintro e w1 ⟨rfl, hR1, hT1⟩
            have HT1 := hide (hT.out.trans hT1)
            have HR1 := hide hR1
            clear hT1 hR1
            go_wp2_with fail
            refine (must_ok _ _ _).mono ?_
            rintro e w5 ⟨rfl, rfl⟩
            go_wp2_with fail
            refine (must_ok _ _ _).mono ?_
            rintro e w5 ⟨rfl, rfl⟩
            go_wp2_with fail
            go_ret
            exact (congrArg (fun z => NumP (rn 0 (bs.drop at_)) g A n c bs at_ p w (.returned (.int .u64 z)) _) HO.out).mpr (NumP_ok HL.out (by rw [Nat.add_comm 1, ← Nat.add_assoc]; exact HR1.out) HT1.out)
          · have hn := HF.out.2.2 (by omega) (by omega)
            have hor := or_piece (x := x) (k := 5) (by decide) hacc.out (by omega) (m := 34359738368) (by decide)
            rw [show x.toNat % 128 = x.toNat - 128 by omega] at hor
            have HN := hide hn
            have HO := hide hor
            have HA := hide (acc_next hacc.out hx256)
            clear hn hor HF hE hacc
            have e5 : decide ((x.toNat : Int) < 128) = false := by simp; omega
            clear hx0
            go_wp2_with fail
            refine (next_ok hR.out HX.out).mono ?_
            rintro e w1 ⟨rfl, hR1, hT1⟩
            have HT1 := hide (hT.out.trans hT1)
            have HR1 := hide hR1
            clear hT1 hR1
            go_wp2_with fail
            refine (must_ok _ _ _).mono ?_
            rintro e w5 ⟨rfl, rfl⟩
            go_wp2_with fail
            refine (must_ok _ _ _).mono ?_
            rintro e w5 ⟨rfl, rfl⟩
            go_wp2_with fail
            go_roundg (10 - 6)
            case measure => omega
            case rel => exact ⟨6, _, rfl, congrArg (Value.int .u64) HO.out, rfl, by omega, HA, hide HN.out, HR1, HT1⟩
      · by_cases hx0 : x.toNat = 0
        · have HB := hide (HF.out.1 (by omega))
          clear HF hE hacc
          have e3 : ((x.toNat : Int) != 0) = false := by simp [hx0]
          clear hx0
          go_wp2_with fail
          refine (next_ok hR.out HX.out).mono ?_
          rintro e w1 ⟨rfl, hR1, hT1⟩
          have HT1 := hide (hT.out.trans hT1)
          have HR1 := hide hR1
          clear hT1 hR1
          go_wp2_with fail
          refine (must_ok _ _ _).mono ?_
          rintro e w5 ⟨rfl, rfl⟩
          go_wp2_with fail
          refine (must_no _ _ _).mono ?_
          rintro e w5 ⟨rfl, rfl⟩
          exact ⟨rfl, NumP_no HB.out HT1.out⟩
        · have e3 : ((x.toNat : Int) != 0) = true := by simp; omega
          by_cases h128 : x.toNat < 128
          · have hl := HF.out.2.1 (by omega) (by omega)
            have hor := or_piece (x := x) (k := 6) (by decide) hacc.out (by omega) (m := 4398046511104) (by decide)
            rw [Nat.mod_eq_of_lt (by omega)] at hor
            have HL := hide hl
            have HO := hide hor
            clear hl hor HF hE hacc
            have e5 : decide ((x.toNat : Int) < 128) = true := by simp; omega
            clear hx0
            go_wp2_with fail
            refine (next_ok hR.out HX.out).mono ?_
            rintro e w1 ⟨rfl, hR1, hT1⟩
            have HT1 := hide (hT.out.trans hT1)
            have HR1 := hide hR1
            clear hT1 hR1
            go_wp2_with fail
            refine (must_ok _ _ _).mono ?_
            rintro e w5 ⟨rfl, rfl⟩
            go_wp2_with fail
            refine (must_ok _ _ _).mono ?_
            rintro e w5 ⟨rfl, rfl⟩
            go_wp2_with fail
            go_ret
            exact (congrArg (fun z => NumP (rn 0 (bs.drop at_)) g A n c bs at_ p w (.returned (.int .u64 z)) _) HO.out).mpr (NumP_ok HL.out (by rw [Nat.add_comm 1, ← Nat.add_assoc]; exact HR1.out) HT1.out)
          · have hn := HF.out.2.2 (by omega) (by omega)
            have hor := or_piece (x := x) (k := 6) (by decide) hacc.out (by omega) (m := 4398046511104) (by decide)
            rw [show x.toNat % 128 = x.toNat - 128 by omega] at hor
            have HN := hide hn
            have HO := hide hor
            have HA := hide (acc_next hacc.out hx256)
            clear hn hor HF hE hacc
            have e5 : decide ((x.toNat : Int) < 128) = false := by simp; omega
            clear hx0
            go_wp2_with fail
            refine (next_ok hR.out HX.out).mono ?_
            rintro e w1 ⟨rfl, hR1, hT1⟩
            have HT1 := hide (hT.out.trans hT1)
            have HR1 := hide hR1
            clear hT1 hR1
            go_wp2_with fail
            refine (must_ok _ _ _).mono ?_
            rintro e w5 ⟨rfl, rfl⟩
            go_wp2_with fail
            refine (must_ok _ _ _).mono ?_
            rintro e w5 ⟨rfl, rfl⟩
            go_wp2_with fail
            go_roundg (10 - 7)
            case measure => omega
            case rel => exact ⟨7, _, rfl, congrArg (Value.int .u64) HO.out, rfl, by omega, HA, hide HN.out, HR1, HT1⟩
      · by_cases hx0 : x.toNat = 0
        · have HB := hide (HF.out.1 (by omega))
          clear HF hE hacc
          have e3 : ((x.toNat : Int) != 0) = false := by simp [hx0]
          clear hx0
          go_wp2_with fail
          refine (next_ok hR.out HX.out).mono ?_
          rintro e w1 ⟨rfl, hR1, hT1⟩
          have HT1 := hide (hT.out.trans hT1)
          have HR1 := hide hR1
          clear hT1 hR1
          go_wp2_with fail
          refine (must_ok _ _ _).mono ?_
          rintro e w5 ⟨rfl, rfl⟩
          go_wp2_with fail
          refine (must_no _ _ _).mono ?_
          rintro e w5 ⟨rfl, rfl⟩
          exact ⟨rfl, NumP_no HB.out HT1.out⟩
        · have e3 : ((x.toNat : Int) != 0) = true := by simp; omega
          by_cases h128 : x.toNat < 128
          · have hl := HF.out.2.1 (by omega) (by omega)
            have hor := or_piece (x := x) (k := 7) (by decide) hacc.out (by omega) (m := 562949953421312) (by decide)
            rw [Nat.mod_eq_of_lt (by omega)] at hor
            have HL := hide hl
            have HO := hide hor
            clear hl hor HF hE hacc
            have e5 : decide ((x.toNat : Int) < 128) = true := by simp; omega
            clear hx0
            go_wp2_with fail
            refine (next_ok hR.out HX.out).mono ?_
            rintro e w1 ⟨rfl, hR1, hT1⟩
            have HT1 := hide (hT.out.trans hT1)
            have HR1 := hide hR1
            clear hT1 hR1
            go_wp2_with fail
            refine (must_ok _ _ _).mono ?_
            rintro e w5 ⟨rfl, rfl⟩
            go_wp2_with fail
            refine (must_ok _ _ _).mono ?_
            rintro e w5 ⟨rfl, rfl⟩
            go_wp2_with fail
            go_ret
            exact (congrArg (fun z => NumP (rn 0 (bs.drop at_)) g A n c bs at_ p w (.returned (.int .u64 z)) _) HO.out).mpr (NumP_ok HL.out (by rw [Nat.add_comm 1, ← Nat.add_assoc]; exact HR1.out) HT1.out)
          · have hn := HF.out.2.2 (by omega) (by omega)
            have hor := or_piece (x := x) (k := 7) (by decide) hacc.out (by omega) (m := 562949953421312) (by decide)
            rw [show x.toNat % 128 = x.toNat - 128 by omega] at hor
            have HN := hide hn
            have HO := hide hor
            have HA := hide (acc_next hacc.out hx256)
            clear hn hor HF hE hacc
            have e5 : decide ((x.toNat : Int) < 128) = false := by simp; omega
            clear hx0
            go_wp2_with fail
            refine (next_ok hR.out HX.out).mono ?_
            rintro e w1 ⟨rfl, hR1, hT1⟩
            have HT1 := hide (hT.out.trans hT1)
            have HR1 := hide hR1
            clear hT1 hR1
            go_wp2_with fail
            refine (must_ok _ _ _).mono ?_
            rintro e w5 ⟨rfl, rfl⟩
            go_wp2_with fail
            refine (must_ok _ _ _).mono ?_
            rintro e w5 ⟨rfl, rfl⟩
            go_wp2_with fail
            go_roundg (10 - 8)
            case measure => omega
            case rel => exact ⟨8, _, rfl, congrArg (Value.int .u64) HO.out, rfl, by omega, HA, hide HN.out, HR1, HT1⟩
      · by_cases hx0 : x.toNat = 0
        · have HB := hide (HF.out.1 (by omega))
          clear HF hE hacc
          have e3 : ((x.toNat : Int) != 0) = false := by simp [hx0]
          clear hx0
          go_wp2_with fail
          refine (next_ok hR.out HX.out).mono ?_
          rintro e w1 ⟨rfl, hR1, hT1⟩
          have HT1 := hide (hT.out.trans hT1)
          have HR1 := hide hR1
          clear hT1 hR1
          go_wp2_with fail
          refine (must_ok _ _ _).mono ?_
          rintro e w5 ⟨rfl, rfl⟩
          go_wp2_with fail
          refine (must_no _ _ _).mono ?_
          rintro e w5 ⟨rfl, rfl⟩
          exact ⟨rfl, NumP_no HB.out HT1.out⟩
        · have e3 : ((x.toNat : Int) != 0) = true := by simp; omega
          by_cases h128 : x.toNat < 128
          · have hl := HF.out.2.1 (by omega) (by omega)
            have hor := or_piece (x := x) (k := 8) (by decide) hacc.out (by omega) (m := 72057594037927936) (by decide)
            rw [Nat.mod_eq_of_lt (by omega)] at hor
            have HL := hide hl
            have HO := hide hor
            clear hl hor HF hE hacc
            have e5 : decide ((x.toNat : Int) < 128) = true := by simp; omega
            clear hx0
            go_wp2_with fail
            refine (next_ok hR.out HX.out).mono ?_
            rintro e w1 ⟨rfl, hR1, hT1⟩
            have HT1 := hide (hT.out.trans hT1)
            have HR1 := hide hR1
            clear hT1 hR1
            go_wp2_with fail
            refine (must_ok _ _ _).mono ?_
            rintro e w5 ⟨rfl, rfl⟩
            go_wp2_with fail
            refine (must_ok _ _ _).mono ?_
            rintro e w5 ⟨rfl, rfl⟩
            go_wp2_with fail
            go_ret
            exact (congrArg (fun z => NumP (rn 0 (bs.drop at_)) g A n c bs at_ p w (.returned (.int .u64 z)) _) HO.out).mpr (NumP_ok HL.out (by rw [Nat.add_comm 1, ← Nat.add_assoc]; exact HR1.out) HT1.out)
          · have hn := HF.out.2.2 (by omega) (by omega)
            have hor := or_piece (x := x) (k := 8) (by decide) hacc.out (by omega) (m := 72057594037927936) (by decide)
            rw [show x.toNat % 128 = x.toNat - 128 by omega] at hor
            have HN := hide hn
            have HO := hide hor
            have HA := hide (acc_next hacc.out hx256)
            clear hn hor HF hE hacc
            have e5 : decide ((x.toNat : Int) < 128) = false := by simp; omega
            clear hx0
            go_wp2_with fail
            refine (next_ok hR.out HX.out).mono ?_
            rintro e w1 ⟨rfl, hR1, hT1⟩
            have HT1 := hide (hT.out.trans hT1)
            have HR1 := hide hR1
            clear hT1 hR1
            go_wp2_with fail
            refine (must_ok _ _ _).mono ?_
            rintro e w5 ⟨rfl, rfl⟩
            go_wp2_with fail
            refine (must_ok _ _ _).mono ?_
            rintro e w5 ⟨rfl, rfl⟩
            go_wp2_with fail
            go_roundg (10 - 9)
            case measure => omega
            case rel => exact ⟨9, _, rfl, congrArg (Value.int .u64) HO.out, rfl, by omega, HA, hide HN.out, HR1, HT1⟩
      · by_cases hx1 : 1 < x.toNat
        · have HB := hide (HF.out.1 (by omega))
          clear HF hE hacc
          have e4 : decide ((x.toNat : Int) < 2) = false := by simp; omega
          go_wp2_with fail
          refine (next_ok hR.out HX.out).mono ?_
          rintro e w1 ⟨rfl, hR1, hT1⟩
          have HT1 := hide (hT.out.trans hT1)
          have HR1 := hide hR1
          clear hT1 hR1
          go_wp2_with fail
          refine (must_no _ _ _).mono ?_
          rintro e w5 ⟨rfl, rfl⟩
          exact ⟨rfl, NumP_no HB.out HT1.out⟩
        · have e4 : decide ((x.toNat : Int) < 2) = true := by simp; omega
          by_cases hx0 : x.toNat = 0
          · have HB := hide (HF.out.1 (by omega))
            clear HF hE hacc
            have e3 : ((x.toNat : Int) != 0) = false := by simp [hx0]
            clear hx0
            go_wp2_with fail
            refine (next_ok hR.out HX.out).mono ?_
            rintro e w1 ⟨rfl, hR1, hT1⟩
            have HT1 := hide (hT.out.trans hT1)
            have HR1 := hide hR1
            clear hT1 hR1
            go_wp2_with fail
            refine (must_ok _ _ _).mono ?_
            rintro e w5 ⟨rfl, rfl⟩
            go_wp2_with fail
            refine (must_no _ _ _).mono ?_
            rintro e w5 ⟨rfl, rfl⟩
            exact ⟨rfl, NumP_no HB.out HT1.out⟩
          · have e3 : ((x.toNat : Int) != 0) = true := by simp; omega
            have hl := HF.out.2.1 (by omega) (by omega)
            have hor := or_piece (x := x) (k := 9) (by decide) hacc.out (by omega) (m := 9223372036854775808) (by decide)
            rw [Nat.mod_eq_of_lt (by omega)] at hor
            have HL := hide hl
            have HO := hide hor
            clear hl hor HF hE hacc
            have e5 : decide ((x.toNat : Int) < 128) = true := by simp; omega
            clear hx0
            go_wp2_with fail
            refine (next_ok hR.out HX.out).mono ?_
            rintro e w1 ⟨rfl, hR1, hT1⟩
            have HT1 := hide (hT.out.trans hT1)
            have HR1 := hide hR1
            clear hT1 hR1
            go_wp2_with fail
            refine (must_ok _ _ _).mono ?_
            rintro e w5 ⟨rfl, rfl⟩
            go_wp2_with fail
            refine (must_ok _ _ _).mono ?_
            rintro e w5 ⟨rfl, rfl⟩
            go_wp2_with fail
            go_ret
            exact (congrArg (fun z => NumP (rn 0 (bs.drop at_)) g A n c bs at_ p w (.returned (.int .u64 z)) _) HO.out).mpr (NumP_ok HL.out (by rw [Nat.add_comm 1, ← Nat.add_assoc]; exact HR1.out) HT1.out)
end Go.Proofs.Ytaapbiiiepdopaa
