/- A reader of bytes: a key. -/
import Derived.Test.YtaapbiiiepdopaaRt
namespace Go.Proofs.Ytaapbiiiepdopaa
open Go.RowKit Mem
set_option linter.unusedVariables false

def KeyP (R : Except Int (ByteArray × Nat)) (g : Nat) (A : Option Addr) (n c : Nat) (bs : List UInt8) (at_ p : Nat) (w : World) (e : Ending) (w' : World) : Prop := match R with
  | .ok (m, k) => e = .returned (.string m) ∧ RS w' g A n c bs (at_ + k) p ∧ Rt g w w'
  | .error z => e = Pan z ∧ Rt g w w'
theorem KeyP_ok {R : Except Int (ByteArray × Nat)} {g : Nat} {A : Option Addr} {n c : Nat} {bs : List UInt8} {at_ p : Nat} {w w' : World} {m : ByteArray} {k : Nat} (h : R = .ok (m, k)) (hr : RS w' g A n c bs (at_ + k) p) (ht : Rt g w w') : KeyP R g A n c bs at_ p w (.returned (.string m)) w' := by rw [h]; exact ⟨rfl, hr, ht⟩
theorem KeyP_no {R : Except Int (ByteArray × Nat)} {g : Nat} {A : Option Addr} {n c : Nat} {bs : List UInt8} {at_ p : Nat} {w w' : World} {z : Int} (h : R = .error z) (ht : Rt g w w') : KeyP R g A n c bs at_ p w (.panicked [{ v := .iface 28 (.int .i64 z), recovered := false }]) w' := by rw [h]; exact ⟨rfl, ht⟩

set_option maxHeartbeats 8000000 in
set_option maxRecDepth 100000 in
theorem key_any {w : World} {g n c at_ p cK : Nat} {A AK : Option Addr} {bs : List UInt8} {ks : List ByteArray} {S : Nat → Prop} (h : RS w g A n c bs at_ p) (hK : RdS w S 1 AK ks.length (ks.map .string)) (hS : ∀ b, S b → b ≠ g) (lK : ks.length ≤ 9223372036854775807) :
    Calls Try.prog 61 #[.pointer (some ⟨g, 0, none⟩), .slice AK ks.length cK] w fun e w' => KeyP (rkey ks.getLast? (bs.drop at_)) g A n c bs at_ p w e w' := by
  have H := hide h
  have hl := h.len
  have hcm := h.cm
  have hnc := h.nc
  have HL := hide hl
  clear h hl
  cases hr : rn 0 (bs.drop at_) with
  | error z =>
    have hk : rkey ks.getLast? (bs.drop at_) = .error z := by unfold rkey; rw [hr]
    have HK := hide hk
    have HR := hide hr
    clear hk hr
    go_enter Try.func61, Try.ntmps61
    go_wp2_with fail
    refine (rnum_any H.out).mono ?_
    intro e w1 he
    rw [HR.out] at he
    obtain ⟨rfl, ht⟩ := he
    exact ⟨rfl, KeyP_no HK.out ht⟩
  | ok q =>
    obtain ⟨m, c1⟩ := q
    have hrl := rn_len hr
    have hm64 := (rn_of hr).1
    rw [List.length_drop, HL.out] at hrl
    have hk : rkey ks.getLast? (bs.drop at_) = if m < 1 ∨ 64 < m then .error 1 else if n - at_ - c1 < m then .error 22 else if behind ks.getLast? (ofL ((bs.drop (at_ + c1)).take m)) = true then .ok (ofL ((bs.drop (at_ + c1)).take m), c1 + m) else .error 1 := by
      unfold rkey
      rw [hr]
      dsimp only
      rw [List.length_drop, HL.out, List.drop_drop]
    have HR := hide hr
    clear hr
    by_cases b1 : m < 1 ∨ 64 < m
    · rw [if_pos b1] at hk
      have HK := hide hk
      clear hk
      by_cases b2 : m < 1
      · have e1 : decide ((1 : Int) ≤ (m : Int)) = false := by simp; omega
        clear b1 b2
        go_enter Try.func61, Try.ntmps61
        go_wp2_with fail
        refine (rnum_any H.out).mono ?_
        intro e w1 he
        rw [HR.out] at he
        obtain ⟨rfl, hR1, ht⟩ := he
        have HT := hide ht
        clear hR1 ht
        go_wp2_with fail
        refine (must_no _ _ _).mono ?_
        rintro e w5 ⟨rfl, rfl⟩
        exact ⟨rfl, KeyP_no HK.out HT.out⟩
      · have e1 : decide ((1 : Int) ≤ (m : Int)) = true := by simp; omega
        have e2 : decide ((m : Int) ≤ 64) = false := by simp; omega
        clear b1 b2
        go_enter Try.func61, Try.ntmps61
        go_wp2_with fail
        refine (rnum_any H.out).mono ?_
        intro e w1 he
        rw [HR.out] at he
        obtain ⟨rfl, hR1, ht⟩ := he
        have HT := hide ht
        clear hR1 ht
        go_wp2_with fail
        refine (must_no _ _ _).mono ?_
        rintro e w5 ⟨rfl, rfl⟩
        exact ⟨rfl, KeyP_no HK.out HT.out⟩
    · rw [if_neg b1] at hk
      have e1 : decide ((1 : Int) ≤ (m : Int)) = true := by simp; omega
      have e2 : decide ((m : Int) ≤ 64) = true := by simp; omega
      by_cases b3 : n - at_ - c1 < m
      · rw [if_pos b3] at hk
        have HK := hide hk
        clear hk b1
        go_enter Try.func61, Try.ntmps61
        go_wp2_with fail
        refine (rnum_any H.out).mono ?_
        intro e w1 he
        rw [HR.out] at he
        obtain ⟨rfl, hR1, ht⟩ := he
        have HT := hide ht
        have HR1 := hide hR1
        clear hR1 ht
        go_wp2_with fail
        refine (must_ok _ _ _).mono ?_
        rintro e w5 ⟨rfl, rfl⟩
        go_wp2_with fail
        refine (text_no HR1.out (by omega) (by omega)).mono ?_
        rintro e w6 ⟨rfl, ht2⟩
        exact ⟨rfl, KeyP_no HK.out (HT.out.trans ht2)⟩
      · rw [if_neg b3] at hk
        generalize hkk : ofL ((bs.drop (at_ + c1)).take m) = kk at hk
        have HKK := hide hkk
        clear hkk
        by_cases b4 : ks.length = 0
        · have hlast : ks.getLast? = none := by rw [List.eq_nil_of_length_eq_zero b4]; rfl
          rw [hlast] at hk
          have hk' : rkey none (bs.drop at_) = .ok (kk, c1 + m) := by rw [hk]; rfl
          rw [hlast]
          have HK := hide hk'
          have e3 : ((ks.length : Int) == 0) = true := by simp [b4]
          clear hk hk' b1 b4 hlast
          go_enter Try.func61, Try.ntmps61
          go_wp2_with fail
          refine (rnum_any H.out).mono ?_
          intro e w1 he
          rw [HR.out] at he
          obtain ⟨rfl, hR1, ht⟩ := he
          have HT := hide ht
          have HR1 := hide hR1
          clear hR1 ht
          go_wp2_with fail
          refine (must_ok _ _ _).mono ?_
          rintro e w5 ⟨rfl, rfl⟩
          go_wp2_with fail
          refine (text_ok HR1.out (by omega)).mono ?_
          rw [HKK.out]
          rintro e w6 ⟨rfl, hR2, ht2⟩
          have HT2 := hide (HT.out.trans ht2)
          have HR2 := hide hR2
          clear hR2 ht2
          go_wp2_with fail
          refine (must_ok _ _ _).mono ?_
          rintro e w7 ⟨rfl, rfl⟩
          go_wp2
          go_ret
          exact KeyP_ok HK.out (by rw [← Nat.add_assoc]; exact HR2.out) HT2.out
        · have e3 : ((ks.length : Int) == 0) = false := beq_eq_false_iff_ne.2 (by omega)
          obtain ⟨bA, oA, rfl, hSA, hbA, hcA⟩ := hK.plain (by omega) (by omega)
          have hbg := hS bA hSA
          have hlast : ks.getLast? = some (ks[ks.length - 1]'(by omega)) := by rw [List.getLast?_eq_getElem?, List.getElem?_eq_getElem (by omega)]
          have fA : w.cell? ⟨bA, oA + (ks.length - 1), none⟩ = some (.string (ks[ks.length - 1]'(by omega))) := by rw [hcA (ks.length - 1) (by omega)]; simp [show ks.length - 1 < ks.length by omega]
          have hx1 : (ks.length : Int) - 1 < (ks.length : Int) := by omega
          have hx2 : 0 ≤ (ks.length : Int) - 1 := by omega
          have hx3 : ((ks.length : Int) - 1).toNat = ks.length - 1 := by omega
          rw [hlast] at hk ⊢
          generalize (ks[ks.length - 1]'(by omega)) = k0 at fA hk ⊢
          have hk2 : rkey (some k0) (bs.drop at_) = if less k0 kk = true then .ok (kk, c1 + m) else .error 1 := hk
          clear hcA hlast hk b1 hK
          by_cases b5 : less k0 kk = true
          · rw [if_pos b5] at hk2
            have HK := hide hk2
            have e5 : Op.bytesLess k0.toList kk.toList = true := b5
            clear hk2 b5
            go_enter Try.func61, Try.ntmps61
            go_wp2_with fail
            refine (rnum_any H.out).mono ?_
            intro e w1 he
            rw [HR.out] at he
            obtain ⟨rfl, hR1, ht⟩ := he
            have HT := hide ht
            have HR1 := hide hR1
            clear hR1 ht
            go_wp2_with fail
            refine (must_ok _ _ _).mono ?_
            rintro e w5 ⟨rfl, rfl⟩
            go_wp2_with fail
            refine (text_ok HR1.out (by omega)).mono ?_
            rw [HKK.out]
            rintro e w6 ⟨rfl, hR2, ht2⟩
            have HT2 := hide (HT.out.trans ht2)
            have HR2 := hide hR2
            have fB : w6.cell? ⟨bA, oA + (ks.length - 1), none⟩ = some (.string k0) := (Only.cell HT2.out hbA hbg).trans fA
            clear hR2 ht2 fA
            go_wp2_with fail
            refine (must_ok _ _ _).mono ?_
            rintro e w7 ⟨rfl, rfl⟩
            go_wp2
            go_ret
            exact KeyP_ok HK.out (by rw [← Nat.add_assoc]; exact HR2.out) HT2.out
          · rw [if_neg b5] at hk2
            have HK := hide hk2
            have e5 : Op.bytesLess k0.toList kk.toList = false := by simpa [less] using b5
            clear hk2 b5
            go_enter Try.func61, Try.ntmps61
            go_wp2_with fail
            refine (rnum_any H.out).mono ?_
            intro e w1 he
            rw [HR.out] at he
            obtain ⟨rfl, hR1, ht⟩ := he
            have HT := hide ht
            have HR1 := hide hR1
            clear hR1 ht
            go_wp2_with fail
            refine (must_ok _ _ _).mono ?_
            rintro e w5 ⟨rfl, rfl⟩
            go_wp2_with fail
            refine (text_ok HR1.out (by omega)).mono ?_
            rw [HKK.out]
            rintro e w6 ⟨rfl, hR2, ht2⟩
            have HT2 := hide (HT.out.trans ht2)
            have fB : w6.cell? ⟨bA, oA + (ks.length - 1), none⟩ = some (.string k0) := (Only.cell HT2.out hbA hbg).trans fA
            clear hR2 ht2 fA
            go_wp2_with fail
            refine (must_no _ _ _).mono ?_
            rintro e w7 ⟨rfl, rfl⟩
            exact ⟨rfl, KeyP_no HK.out HT2.out⟩
end Go.Proofs.Ytaapbiiiepdopaa
