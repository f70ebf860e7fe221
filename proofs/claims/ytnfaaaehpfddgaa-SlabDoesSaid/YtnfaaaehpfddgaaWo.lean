/- The small example that each statement asks. -/
import Derived.Test.YtnfaaaehpfddgaaFe
namespace Go.Proofs.Ytnfaaaehpfddgaa
open Go.RowKit Mem
set_option linter.unusedVariables false

theorem KT29 (cs : Array Value) (fr : Nat × Nat) : ¬ KT (.cells cs 29 fr) := by
  rintro ⟨_, _, _, e, ht⟩
  cases e
  rcases ht with h | h | h <;> cases h
theorem blk_fr {T} {w w' : World} {R t : Nat} {cs : Array Value} (h : Blk w R t cs) (hf : Fr T w w') (hT : ∀ cs fr, ¬ T (.cells cs t fr)) : Blk w' R t cs := hf.block _ _ h (hT _ _)
theorem Sl.alloc {w : World} {B g : Nat} {most : Int} {sl : List S3} (h : Sl w B g most sl) (o : Obj) : Sl (w.alloc o) B g most sl := by
  obtain ⟨V, v, fr, h⟩ := h
  exact ⟨V, v, fr, slv_alloc h o⟩
theorem Sl.drewN {w : World} {B g : Nat} {most : Int} {sl : List S3} (h : Sl w B g most sl) (n : Nat) : Sl (w.drewN n) B g most sl := by
  obtain ⟨V, v, fr, h⟩ := h
  exact ⟨V, v, fr, slv_drewN h n⟩
theorem Sl.same {w w' : World} {B g : Nat} {most : Int} {sl : List S3} (h : Sl w B g most sl) (ho : Only (fun _ => False) w w') : Sl w' B g most sl := (left_same h ho).1

set_option maxHeartbeats 2000000 in
set_option maxRecDepth 100000 in
theorem works_any (w : World) : Calls Try.prog 12 #[] w fun e w' => e = .returned (.bool true) ∧ Below w.heap.size w w' := by
  go_enter Try.func12, Try.ntmps12
  go_wp2_with fail
  refine (new_any w 2 (by decide) (by decide)).mono ?_
  rintro e w1 ⟨rfl, h1, b1, s1⟩
  go_wp2_with fail
  have hp : Calls Try.prog 8 #[.pointer (some ⟨w.heap.size, 0, none⟩), .int .i64 7] w1 fun e w' => e = .returned (.tuple #[.agg #[.int .i64 0, .int .i64 1], .int .i64 0]) ∧ Left w1 w.heap.size w.heap.size 2 [(1, 7, true)] w' := put_ok 7 h1 (by decide) (by decide) (by intro s hs; cases hs)
  refine hp.mono ?_
  rintro e w2 ⟨rfl, h2, _, b2⟩
  clear hp
  go_wp2_with fail
  have R2 := Blk.new w2 29 #[.int .i64 0, .int .i64 1]
  have b2' := (b1.trans b2).alloc (Nat.le_trans (Nat.le_of_lt s1) b2.size) (.cells #[.int .i64 0, .int .i64 1] 29)
  have h2' := h2.alloc (.cells #[.int .i64 0, .int .i64 1] 29)
  generalize w2.heap.size = r2 at R2 ⊢
  generalize w2.alloc (.cells #[.int .i64 0, .int .i64 1] 29) = W2 at R2 b2' h2' ⊢
  clear h1 b1 s1 h2 b2
  have hp : Calls Try.prog 9 #[.pointer (some ⟨w.heap.size, 0, none⟩), .agg #[.int .i64 0, .int .i64 1]] W2 fun e w' => e = .returned (.int .i64 0) ∧ Left W2 w.heap.size w.heap.size 2 [(1, 0, false)] w' := free_any 0 1 h2' (by decide)
  refine hp.mono ?_
  rintro e w3 ⟨rfl, h3, f3, b3⟩
  clear hp
  go_wp2_with fail
  have hp : Calls Try.prog 8 #[.pointer (some ⟨w.heap.size, 0, none⟩), .int .i64 8] w3 fun e w' => e = .returned (.tuple #[.agg #[.int .i64 0, .int .i64 2], .int .i64 0]) ∧ Left w3 w.heap.size w.heap.size 2 [(2, 8, true)] w' := put_ok 8 h3 (by decide) (by decide) (by intro s hs; rcases List.mem_cons.1 hs with rfl | hs; decide; cases hs)
  refine hp.mono ?_
  rintro e w4 ⟨rfl, h4, f4, b4⟩
  clear hp
  have R4 := blk_fr (blk_fr R2 f3 KT29) f4 KT29
  have b4' := (b2'.trans b3).trans b4
  clear h2' R2 b2' h3 f3 b3 f4 b4
  have c0 : (w4.alloc (.cells #[.int .i64 0, .int .i64 2] 29)).cell? ⟨r2, 0, none⟩ = some (.int .i64 0) := by rw [(R4.alloc _).cell]; rfl
  have c1 : (w4.alloc (.cells #[.int .i64 0, .int .i64 2] 29)).cell? ⟨r2, 1, none⟩ = some (.int .i64 1) := by rw [(R4.alloc _).cell]; rfl
  go_wp2_with fail
  have R5 := Blk.new w4 29 #[.int .i64 0, .int .i64 2]
  have b5 := b4'.alloc (Nat.le_trans (by exact b4'.size) (Nat.le_refl _)) (.cells #[.int .i64 0, .int .i64 2] 29)
  have h5 := h4.alloc (.cells #[.int .i64 0, .int .i64 2] 29)
  generalize w4.heap.size = r5 at R5 ⊢
  generalize w4.alloc (.cells #[.int .i64 0, .int .i64 2] 29) = W5 at R5 b5 h5 ⊢
  have hp : Calls Try.prog 14 #[.pointer (some ⟨w.heap.size, 0, none⟩), .agg #[.int .i64 0, .int .i64 1]] W5 fun e w' => e = .returned (.tuple #[.int .i64 0, .int .i64 24]) ∧ Only (fun _ => False) W5 w' := get_any 0 1 h5 (by decide)
  refine hp.mono ?_
  rintro e w6 ⟨rfl, o6⟩
  clear hp
  have R6 := R5.only o6 id
  have d0 : w6.cell? ⟨r5, 0, none⟩ = some (.int .i64 0) := by rw [R6.cell]; rfl
  have d1 : w6.cell? ⟨r5, 1, none⟩ = some (.int .i64 2) := by rw [R6.cell]; rfl
  have hb := hide (b5.trans (o6.below (fun _ _ h => h.elim) b5.size))
  clear h4 c0 c1 R4 b4' R5 b5 h5 o6 R6
  go_wp2
  go_ret
  exact ⟨rfl, hb.out⟩
end Go.Proofs.Ytnfaaaehpfddgaa
