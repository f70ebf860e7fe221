/- The small functions of frames (New, Held, Broken, Feed of a broken reader, the reference's Encode and Same, the law's piece), each at any argument in reach. -/
import Derived.Test.YthcdepjchbahoaaEnc
import Derived.Test.YthcdepjchbahoaaLoa
namespace Go.Proofs.Ythcdepjchbahoaa
open Go.RowKit Mem
set_option linter.unusedVariables false

theorem new_any (w : World) : Calls Try.prog 11 #[] w fun e w' => e = .returned (.pointer (some ⟨w.heap.size, 0, none⟩)) ∧ w.alloc (.cells #[.slice none 0 0, .bool false] 45) = w' := by
  go_enter Try.func11, Try.ntmps11
  go_wp2
  go_ret
  exact ⟨rfl, rfl⟩

theorem held_any (g n c : Nat) (A : Option Addr) (b : Value) (w : World) (hg : Blk w g 45 #[.slice A n c, b]) : Calls Try.prog 15 #[.pointer (some ⟨g, 0, none⟩)] w fun e w' => e = .returned (.int .i64 n) ∧ w = w' := by
  have h0 : w.cell? ⟨g, 0, none⟩ = some (.slice A n c) := by rw [hg.cell]; rfl
  go_enter Try.func15, Try.ntmps15
  go_wp2
  go_ret
  exact ⟨rfl, rfl⟩

theorem broken_any (g : Nat) (v : Value) (b : Bool) (w : World) (hg : Blk w g 45 #[v, .bool b]) : Calls Try.prog 16 #[.pointer (some ⟨g, 0, none⟩)] w fun e w' => e = .returned (.bool b) ∧ w = w' := by
  have h0 : w.cell? ⟨g, 1, none⟩ = some (.bool b) := by rw [hg.cell]; rfl
  go_enter Try.func16, Try.ntmps16
  go_wp2
  go_ret
  exact ⟨rfl, rfl⟩

theorem feed_no (g m c : Nat) (A : Option Addr) (v : Value) (w : World) (hg : Blk w g 45 #[v, .bool true]) :
    Calls Try.prog 12 #[.pointer (some ⟨g, 0, none⟩), .slice A m c] w fun e w' => e = .returned (.tuple #[.slice none 0 0, .int .i64 9]) ∧ w = w' := by
  have h0 : w.cell? ⟨g, 1, none⟩ = some (.bool true) := by rw [hg.cell]; rfl
  go_enter Try.func12, Try.ntmps12
  go_wp2_with fail
  go_step3
  go_wp2_with fail
  try rw [Exit.noGoto_ret]
  go_ret2
  exact ⟨rfl, rfl⟩

theorem ref_enc_ok (hi n c : Nat) (A : Option Addr) (xs : List UInt8) (w : World) (hr : Reads w 0 hi 1 A n (xs.map B8)) (hn1 : 1 ≤ n) (hn2 : n ≤ 32768) (hhi : hi ≤ w.heap.size) :
    Calls Try.prog 9 #[.slice A n c] w fun e w' => ∃ A' c', e = .returned (.tuple #[.slice A' (4 + n) c', .int .i64 0]) ∧ w'.ownsRow w.heap.size 5 1 (.slice A' (4 + n) c') (4 + n) ((encB xs).map B8) ∧ Below w.heap.size w w' := by
  have hl : xs.length = n := by simpa using hr.1
  have HL := hide hl
  clear hl
  have e1 : [Value.int .u8 0, Value.int .u8 0, Value.int .u8 ((n : Int) / 256), Value.int .u8 ((n : Int) % 256)] = (hd4 n).map B8 := by
    have := hd4_vals n hn2
    rw [show (n : Int) / 16777216 = 0 from by omega, show (n : Int) / 65536 = 0 from by omega] at this
    exact this
  have E1 := hide e1
  clear e1
  have h0 : ((n : Int) == 0) = false := by simp; omega
  go_enter Try.func9, Try.ntmps9
  go_wp2_with (at_builtin; refine pause ?_)
  refine unpause ?_
  refine wpList_app el22 (.tmp 21) (.tmp 22) (World.ownsRow_lit (base := w.heap.size) (e := 5) (size := 1) w #[.int .u8 0, .int .u8 0, .int .u8 ((n : Int) / 256), .int .u8 ((n : Int) % 256)] 4 (Nat.le_refl _) (by decide) rfl) (hr.alloc hhi _) (B8_one xs) (N := 4 + n) (ys := (encB xs).map B8) rfl ?_ (by unfold maxLen; omega) (by omega) (by simp) rfl rfl rfl rfl ?_
  · rw [encB, HL.out, List.map_append, ← E1.out]
  intro A3 c3 w3 hown3 hg3 hb3
  go_wp2
  go_ret2
  refine ⟨_, _, rfl, hown3, ((Below.refl _ w).alloc (Nat.le_refl _) _).grown hg3 (by simp) fun k hk => ?_⟩
  simp [Value.ownBlock] at hk
  omega

theorem ref_enc_no (n c : Nat) (A : Option Addr) (w : World) (hn : n < 1 ∨ 32768 < n) :
    Calls Try.prog 9 #[.slice A n c] w fun e w' => e = .returned (.tuple #[.slice none 0 0, .int .i64 21]) ∧ w = w' := by
  rcases hn with hn | hn
  · have h0 : ((n : Int) == 0) = true := by simp; omega
    go_enter Try.func9, Try.ntmps9
    go_wp2
    go_ret2
    exact ⟨rfl, rfl⟩
  · have h0 : ((n : Int) == 0) = false := by simp; omega
    go_enter Try.func9, Try.ntmps9
    go_wp2
    go_ret2
    exact ⟨rfl, rfl⟩

/-- how long the next piece is -/
def pieceOf (zs : List Int) (at_ left : Nat) : Nat := min (if at_ < zs.length then 1 + (((zs.getD at_ 0) % 18446744073709551616) % 11).toNat else left) left
theorem pieceOf_bounds (zs : List Int) (at_ left : Nat) (h : 0 < left) : 1 ≤ pieceOf zs at_ left ∧ pieceOf zs at_ left ≤ left := by
  unfold pieceOf
  split <;> omega

theorem piece_num (z : Int) : wrap64 (1 + wrap64 ((IntKind.u64.wrap z).tmod 11)) = ((1 + ((z % 18446744073709551616) % 11).toNat : Nat) : Int) := by
  rw [IntKind.wrap_u64, Int.tmod_eq_emod_of_nonneg (by omega)]
  unfold wrap64
  omega
theorem ret_i64 {a b : Int} (h : a = b) : Ending.returned (.int .i64 a) = .returned (.int .i64 b) := by rw [h]
theorem piece_any (lo hi n c at_ left : Nat) (A : Option Addr) (zs : List Int) (w : World) (hr : Reads w lo hi 1 A n (zs.map (Value.int .i64))) (hleft : left ≤ 4294967296) (hat : at_ ≤ 4294967296) :
    Calls Try.prog 17 #[.slice A n c, .int .i64 at_, .int .i64 left] w fun e w' => e = .returned (.int .i64 (pieceOf zs at_ left : Nat)) ∧ w = w' := by
  have hl : zs.length = n := by simpa using hr.1
  by_cases hlt : at_ < n
  · obtain ⟨b, off, rfl, _, _, _, hc⟩ := hr.plain (by omega) (by omega)
    have hc0 : w.cell? ⟨b, off + at_, none⟩ = some (.int .i64 (zs.getD at_ 0)) := by
      rw [hc at_ (by omega)]
      simp [List.getElem?_eq_getElem (show at_ < zs.length by omega), List.getD]
    obtain ⟨z, hz⟩ : ∃ z, z = zs.getD at_ 0 := ⟨_, rfl⟩
    rw [← hz] at hc0
    have e : pieceOf zs at_ left = min (1 + ((z % 18446744073709551616) % 11).toNat) left := by rw [pieceOf, if_pos (by omega), hz]
    rw [e]
    clear e hz hl hc hr
    go_enter Try.func17, Try.ntmps17
    go_wp2
    all_goals
      have e := piece_num z
      rename_i h
      rw [e] at h
      go_ret
      first | exact ⟨ret_i64 (by omega), rfl⟩ | exact ⟨ret_i64 (e.trans (by omega)), rfl⟩
  · have e : pieceOf zs at_ left = left := by rw [pieceOf, if_neg (by omega)]; omega
    rw [e]
    clear e hl hr
    go_enter Try.func17, Try.ntmps17
    go_wp2
    go_ret
    exact ⟨rfl, rfl⟩

end Go.Proofs.Ythcdepjchbahoaa
