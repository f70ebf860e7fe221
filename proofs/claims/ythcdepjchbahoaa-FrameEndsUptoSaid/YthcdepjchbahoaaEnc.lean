/- A load's frame, as the program makes it: any load. -/
import Derived.Test.YthcdepjchbahoaaMem
import Derived.Test.YthcdepjchbahoaaPla
import Derived.Test.YthcdepjchbahoaaFee
import Derived.Test.YthcdepjchbahoaaProg
import Derived.Outline
import Derived.Handy
namespace Go.Proofs.Ythcdepjchbahoaa
open Go.RowKit Mem



theorem hd4_vals (n : Nat) (h : n ≤ 32768) : [Value.int .u8 ((n : Int) / 16777216), .int .u8 ((n : Int) / 65536), .int .u8 ((n : Int) / 256), .int .u8 ((n : Int) % 256)] = (hd4 n).map B8 := by
  have e0 : (n : Int) / 16777216 = ((0 : Nat) : Int) := by omega
  have e1 : (n : Int) / 65536 = ((0 : Nat) : Int) := by omega
  have e2 : (n : Int) / 256 = ((n / 256 : Nat) : Int) := by omega
  have e3 : (n : Int) % 256 = ((n % 256 : Nat) : Int) := by omega
  rw [e0, e1, e2, e3, B8_ofNat _ (by omega), B8_ofNat _ (by omega), B8_ofNat _ (by omega)]
  rfl

theorem enc_ok (hi n c : Nat) (A : Option Addr) (xs : List UInt8) (w : World) (hr : Reads w 0 hi 1 A n (xs.map B8)) (hn1 : 1 ≤ n) (hn2 : n ≤ 32768) (hhi : hi ≤ w.heap.size) :
    Calls Try.prog 8 #[.slice A n c] w fun e w' => ∃ A' c', e = .returned (.tuple #[.slice A' (4 + n) c', .int .i64 0]) ∧ w'.ownsRow w.heap.size 5 1 (.slice A' (4 + n) c') (4 + n) ((encB xs).map B8) ∧ Below w.heap.size w w' := by
  have hl : xs.length = n := by simpa using hr.1
  have HL := hide hl
  clear hl
  go_enter Try.func8, Try.ntmps8
  go_wp2_with (first
    | (at_make; refine wpList_mk0 el22 _ _ w.heap.size (4 + n) (by omega) (by unfold maxLen; omega) (Nat.le_refl _) rfl rfl rfl rfl (by omega) ?_; intro w1 hown1 hg1)
    | (at_builtin; refine wpList_app el22 (.tmp 17) (.tmp 29) (hown1.alloc _) (Reads.lit _ _ _ 4 1 rfl) (by simp [Value.oneCell']) (N := 4) rfl rfl (by unfold maxLen; omega) (by omega) (by have := hg1.size; simp; omega) rfl rfl rfl rfl ?_; intro A2 c2 w2 hown2 hg2 hb2
       have hb : Below w.heap.size w w2 := (((Below.refl _ _).grown hg1 (Nat.le_refl _) (by simp)).alloc hg1.size _).grown hg2 (by have := hg1.size; simp; omega) (by simp [Value.ownBlock]))
    | (at_builtin; refine wpList_app el22 (.tmp 31) (.tmp 32) hown2 (hr.below hb hhi) (B8_one xs) (N := 4 + n) rfl rfl (by unfold maxLen; omega) (by omega) hb.size rfl rfl rfl rfl ?_; intro A3 c3 w3 hown3 hg3 hb3))
  go_ret2
  refine ⟨_, _, rfl, ?_, hb.grown hg3 hb.size fun k hk => ?_⟩
  · have e := hd4_vals n hn2
    simp only [List.nil_append, e] at hown3
    rw [encB, HL.out, List.map_append]
    exact hown3
  · have := hown2.lt k hk
    exact this.1

theorem enc_no (n c : Nat) (A : Option Addr) (w : World) (hn : n < 1 ∨ 32768 < n) :
    Calls Try.prog 8 #[.slice A n c] w fun e w' => e = .returned (.tuple #[.slice none 0 0, .int .i64 21]) ∧ w = w' := by
  rcases hn with hn | hn
  · go_enter Try.func8, Try.ntmps8
    go_wp2
    go_ret2
    exact ⟨rfl, rfl⟩
  · go_enter Try.func8, Try.ntmps8
    go_wp2
    go_ret2
    exact ⟨rfl, rfl⟩
end Go.Proofs.Ythcdepjchbahoaa
