/- A number in pieces, a number turned zigzag, by the reference. -/
import Derived.Test.YtaapbiiiepdopaaLz
import Derived.Test.YtaapbiiiepdopaaSa
import Derived.Deep.RegionWith
namespace Go.Proofs.Ytaapbiiiepdopaa
open Go.RowKit Mem
set_option linter.unusedVariables false

theorem ofL_app (a b : List UInt8) : ofL a ++ ofL b = ofL (a ++ b) := by
  apply ByteArray.ext
  show (ofL a ++ ofL b).data = (a ++ b).toArray
  rw [ByteArray.data_append]
  simp [ofL]
theorem conv1 (w : World) (g m : Nat) (hm : m < 256) (h : w.cell? ⟨g, 0, none⟩ = some (.int .u8 (m : Int))) : (convert 27 9 (.slice (some ⟨g, 0, none⟩) 1 1)).run Try.prog w = .ok (.string ⟨#[UInt8.ofNat m]⟩) w := by
  have hr : Reads w g (g + 1) 1 (some ⟨g, 0, none⟩) 1 ([UInt8.ofNat m].map B8) := ⟨rfl, fun _ => ⟨_, rfl, Nat.le_refl _, by simp, fun j u hu => by
    have hj : j = 0 := by
      have := (List.getElem?_eq_some_iff.1 hu).1
      simp at this
      exact this
    subst hj
    simp at hu
    subst hu
    rw [add_head, h, B8_ofNat m hm]⟩⟩
  exact hr.str 27 9 5 Try.underlying27 Try.underlying5 Try.underlying9 1

set_option maxHeartbeats 2000000 in
theorem zigzag_any {w : World} {m : Int} (h1 : -9223372036854775808 ≤ m) (h2 : m ≤ 9223372036854775807) : Calls Try.prog 56 #[.int .i64 m] w fun e w' => e = .returned (.int .u64 ((zz m : Nat) : Int)) ∧ w = w' := by
  by_cases h : m < 0
  · have e1 : decide (m < 0) = true := by simp [h]
    have hz : 2 * -(m + 1) + 1 = ((zz m : Nat) : Int) := by unfold zz; rw [if_pos h]; omega
    have HZ := hide hz
    clear hz
    go_enter Try.func56, Try.ntmps56
    go_wp2
    go_ret
    exact ⟨congrArg (fun z => Ending.returned (.int .u64 z)) HZ.out, rfl⟩
  · have e1 : decide (m < 0) = false := by simp; omega
    have hz : 2 * m = ((zz m : Nat) : Int) := by unfold zz; rw [if_neg h]; omega
    have HZ := hide hz
    clear hz
    go_enter Try.func56, Try.ntmps56
    go_wp2
    go_ret
    exact ⟨congrArg (fun z => Ending.returned (.int .u64 z)) HZ.out, rfl⟩

set_option maxHeartbeats 4000000 in
set_option maxRecDepth 100000 in
theorem Number_any (k : Nat) : ∀ {w : World} {n : Nat}, n < 128 ^ (k + 1) → n < 18446744073709551616 → Calls Try.prog 55 #[.int .u64 (n : Int)] w fun e w' => e = .returned (.string (ofL (num n))) ∧ Below w.heap.size w w' := by
  induction k with
  | zero =>
    intro w n hn h64
    have hn' : n < 128 := by simpa using hn
    have hw : (w.alloc (.cells #[.int .u8 (n : Int)] 5)).cell? ⟨w.heap.size, 0, none⟩ = some (.int .u8 (n : Int)) := blkc' (Blk.new w 5 _) rfl
    have hc := conv1 _ _ n (by omega) hw
    have e := num_small hn'
    have H := hide e
    clear hn e
    go_enter Try.func55, Try.ntmps55
    go_wp2
    go_ret
    exact ⟨by rw [H.out]; rfl, (Below.refl _ w).alloc (Nat.le_refl _) _⟩
  | succ k ih =>
    intro w n hn h64
    by_cases hs : n < 128
    · have hw : (w.alloc (.cells #[.int .u8 (n : Int)] 5)).cell? ⟨w.heap.size, 0, none⟩ = some (.int .u8 (n : Int)) := blkc' (Blk.new w 5 _) rfl
      have hc := conv1 _ _ n (by omega) hw
      have e := num_small hs
      have H := hide e
      clear hn e
      go_enter Try.func55, Try.ntmps55
      go_wp2
      go_ret
      exact ⟨by rw [H.out]; rfl, (Below.refl _ w).alloc (Nat.le_refl _) _⟩
    · have e := num_big hs
      have H := hide e
      have hih := fun (W : World) => ih (w := W) (n := n / 128) (by rw [Nat.pow_succ] at hn; omega) (by omega)
      have HI := hide hih
      clear hn e hih ih
      go_enter Try.func55, Try.ntmps55
      have hv : IntKind.u8.wrap (IntKind.u64.wrap ((n : Int).tmod 128 + 128)) = ((n % 128 + 128 : Nat) : Int) := by
        rw [Int.tmod_eq_emod_of_nonneg (by omega), show ((n : Int) % 128 + 128) = ((n % 128 + 128 : Nat) : Int) by omega, u64n (by omega)]
        have e : ∀ z, IntKind.u8.wrap z = z % 256 := by intro z; simp [IntKind.wrap, IntKind.bits, IntKind.signed]
        rw [e]
        omega
      have hq : IntKind.u64.wrap ((n : Int) / 128) = ((n / 128 : Nat) : Int) := by
        rw [show ((n : Int) / 128) = ((n / 128 : Nat) : Int) by omega, u64n (by omega)]
      obtain ⟨c8, hc8⟩ : ∃ c, c = UInt8.ofNat (n % 128 + 128) := ⟨_, rfl⟩
      have HC8 : Hid (ByteArray.mk #[c8] ++ ofL (num (n / 128)) = ofL (num n)) := hide (by rw [H.out, ← hc8]; exact ofL_app [c8] (num (n / 128)))
      have hu : ((n % 128 + 128 : Nat) : Int) = (n : Int) % 128 + 128 := by omega
      have hconv : ∀ (W : World) (g : Nat), W.cell? ⟨g, 0, none⟩ = some (.int .u8 ((n : Int) % 128 + 128)) → (convert 27 9 (.slice (some ⟨g, 0, none⟩) 1 1)).run Try.prog W = .ok (.string ⟨#[c8]⟩) W := fun W g h => by rw [hc8]; exact conv1 W g _ (by omega) (by rw [hu]; exact h)
      have hw1 : ((w.alloc (.cells #[.int .u8 ((n : Int) % 128 + 128)] 5)).drewN 1).cell? ⟨w.heap.size, 0, none⟩ = some (.int .u8 ((n : Int) % 128 + 128)) := blkc' ((Blk.new w 5 _).drewN 1) rfl
      clear hu hc8
      have HW1 := hide hw1
      have hsz : (ofL (num (n / 128))).size ≤ 10 := by rw [size_ofL]; exact num_len10 (by omega)
      clear h64 hw1
      go_wp2_with fail
      go_region_with (first | (go_at_call 55; refine (HI.out _).mono ?_; rintro e w5 ⟨rfl, hb5⟩; first | (have hw5 : w5.cell? ⟨w.heap.size, 0, none⟩ = some (.int .u8 ((n : Int) % 128 + 128)) := (hb5.cell (by show w.heap.size < (w.alloc _).heap.size; simp)).trans HW1.out) | skip))
      all_goals
        go_wp2
        go_ret
        refine ⟨congrArg (fun s => Ending.returned (.string s)) HC8.out, ?_⟩
        first
        | exact (Below.drew ((Below.refl _ w).alloc (Nat.le_refl _) _)).trans (hb5.mono (by show w.heap.size ≤ (w.alloc _).heap.size; simp))
        | exact ((Below.drew (Below.refl _ w)).trans hb5).alloc hb5.size _
end Go.Proofs.Ytaapbiiiepdopaa
