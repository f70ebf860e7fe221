/- The law's own small example of frames comes out true, in any memory. -/
import Derived.Test.YthcdepjchbahoaaSam
import Derived.Lib.SlBytesConst
namespace Go.Proofs.Ythcdepjchbahoaa
open Go.RowKit Mem
set_option linter.unusedVariables false

theorem works_parse : parse [0, 0, 0, 1, 120, 0] = ([[120]], some [0]) := by decide +kernel
theorem works_enc : encB [97, 98] = [0, 0, 0, 2, 97, 98] := by decide +kernel

theorem works_any (w : World) : Calls Try.prog 10 #[] w fun e w' => e = .returned (.bool true) ∧ Below w.heap.size w w' := by
  have kc := fun (w : World) (C : Array Value) (n c : Nat) => Lib.run_convert_bytes_const (P := Try.prog) w 22 5 C n c Try.underlying22 Try.underlying5
  go_enter Try.func10, Try.ntmps10
  go_wp2_with fail
  refine (enc_ok (w.heap.size + 1) 2 2 (some ⟨w.heap.size, 0, none⟩) [97, 98] _ ((Reads.litF w #[.int .u8 97, .int .u8 98] 5 (2, 3) 2 1 rfl).more (Nat.zero_le _) (Nat.le_refl _)) (by omega) (by omega) (by simp)).mono ?_
  rintro e w1 ⟨A1, c1, rfl, hown1, hb1⟩
  rw [works_enc] at hown1
  go_wp2_with fail
  refine (new_any w1).mono ?_
  rintro e w2 ⟨rfl, rfl⟩
  have kc2 := Lib.run_convert_bytes_const (P := Try.prog) (w1.alloc (.cells #[.slice none 0 0, .bool false] 45)) 22 5 #[.int .u8 0, .int .u8 0, .int .u8 0, .int .u8 1, .int .u8 120, .int .u8 0] 6 6 Try.underlying22 Try.underlying5
  simp only [World.size_alloc] at kc2
  go_wp2_with fail
  refine (feed_ok w1.heap.size (w1.heap.size + 1) (w1.heap.size + 1) (w1.heap.size + 2) 0 6 6 (.slice none 0 0) (some ⟨w1.heap.size + 1, 0, none⟩) [] [0, 0, 0, 1, 120, 0] _ ?_ (World.ownsRow_nil _ _ _ _) ?_ (by omega) ?_).mono ?_
  · exact (Blk.new w1 45 _).alloc _
  · have h := Reads.litF (w1.alloc (.cells #[.slice none 0 0, .bool false] 45)) #[.int .u8 0, .int .u8 0, .int .u8 0, .int .u8 1, .int .u8 120, .int .u8 0] 5 (6, 7) 6 1 rfl
    simp only [World.size_alloc] at h
    exact h
  · simp
  intro e w3 hf
  unfold FeedOut at hf
  rw [List.nil_append, works_parse] at hf
  obtain ⟨A3, A4, c3, c4, mid, vs, rfl, f1, f2, f3, f4, f5, f6, f7, f8⟩ := hf
  have hs1 := hb1.size
  have hs3 := f8.size
  simp only [World.size_alloc] at hs1 hs3 f1 f3 f5
  have hown3 : w3.ownsRow 0 5 1 (.slice A1 6 c1) 6 ([0, 0, 0, 2, 97, 98].map B8) := by
    have h := ((ownsRow_mono hown1 (Nat.zero_le _)).alloc (.cells #[.slice none 0 0, .bool false] 45)).alloc (.cells #[.int .u8 0, .int .u8 0, .int .u8 0, .int .u8 1, .int .u8 120, .int .u8 0] 5 (6, 7))
    refine own_only h f8 fun k hk hS => ?_
    have h1 := (hown1.lt k hk).2
    rcases hS with rfl | hS
    · omega
    · simp [Value.ownBlock] at hS
  obtain ⟨B1, d1, e1, _, r1⟩ := own_form hown3
  cases e1
  have s1 := r1.str (P := Try.prog) 22 9 5 Try.underlying22 Try.underlying5 Try.underlying9 c1
  have hvl : vs.length = 1 := by simpa using f3.1
  match vs, hvl with
  | [v], _ =>
    obtain ⟨⟨g1, g2⟩, _⟩ := f5
    obtain ⟨B2, d2, rfl, _, r2⟩ := own_form g1
    have s2 : (convert 22 9 (.slice B2 1 d2)).run Try.prog w3 = .ok (.string ⟨[120].toArray⟩) w3 := r2.str (P := Try.prog) 22 9 5 Try.underlying22 Try.underlying5 Try.underlying9 d2
    obtain ⟨g3, cap, e3, _, _⟩ := f3.form (by decide)
    cases e3
    have q0 : w3.cell? ⟨g3, 0, none⟩ = some (.slice B2 1 d2) := f3.cells (g := g3) rfl 0 _ rfl
    have hB : Below w.heap.size w w3 := by
      have h := ((Below.refl w.heap.size w).alloc (Nat.le_refl _) (.cells #[.int .u8 97, .int .u8 98] 5 (2, 3))).trans (hb1.mono (by simp))
      have hw1 := h.size
      have h2 := (h.alloc hw1 (.cells #[.slice none 0 0, .bool false] 45)).alloc (by simp; omega) (.cells #[.int .u8 0, .int .u8 0, .int .u8 0, .int .u8 1, .int .u8 120, .int .u8 0] 5 (6, 7))
      exact h2.trans (f8.below (fun k hk hS => by
        rcases hS with rfl | hS
        · exact hw1
        · simp [Value.ownBlock] at hS) (by simp; omega))
    have H := hide (And.intro f6 hB)
    have e0 : errOf (some [0]) = 0 := rfl
    clear f1 f2 f3 f4 f6 f7 f8 g1 g2 hown1 hb1 hown3 r1 r2 kc kc2 hs1 hs3 hB
    go_wp2_with fail
    refine (held_any _ _ _ _ _ _ H.out.1).mono ?_
    rintro e w4 ⟨rfl, rfl⟩
    go_wp2_with fail
    go_ret
    exact ⟨rfl, H.out.2⟩

end Go.Proofs.Ythcdepjchbahoaa
