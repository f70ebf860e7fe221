/- wattlelaw04.works. -/
import Derived.Test.YtaapbiiiepdopaaEn
namespace Go.Proofs.Ytaapbiiiepdopaa
open Go.RowKit Mem
set_option linter.unusedVariables false

def v3 : V := .mk 2 false (-3) .empty [] []
theorem byt_v3 : byt v3 = [3, 5] := by simp [v3, byt, tagOf, zz, num]
theorem may_v3 : mayB v3 = true := by decide
theorem dec_v3 : ∃ q, dec [3, 5, 9] = .ok (v3, 2, q) := by
  have := dec_back (v := v3) may_v3 (by simp [v3, wf, wfs]) [9]
  rw [byt_v3] at this
  exact this
theorem works_any {w : World} : Calls Try.prog 18 #[] w fun e w' => e = .returned (.bool true) ∧ Below w.heap.size w w' := by
  have hV : IsV w (fun b => b < w.heap.size) v3 #[.int .i64 2, .bool false, .int .i64 (-3), .string ⟨#[]⟩, .slice none 0 0, .slice none 0 0] := leaf (by decide) (by decide) (by decide)
  have H1 := hide (encode_any hV (by intro _; rw [byt_v3]; decide))
  clear hV
  go_enter Try.func18, Try.ntmps18
  go_wp2_with fail
  refine H1.out.mono ?_
  intro e w1 he
  obtain ⟨hb1, A, c, rfl, ho⟩ := EncP_ok he may_v3
  rw [byt_v3] at ho ⊢
  clear he H1
  have hs1 := hb1.size
  go_wp2_with fail
  have hr : Reads (w1.alloc (.cells #[.int .u8 3, .int .u8 5, .int .u8 9] 5)) 0 (w1.alloc (.cells #[.int .u8 3, .int .u8 5, .int .u8 9] 5)).heap.size 1 (some ⟨w1.heap.size, 0, none⟩) 3 (([3, 5, 9] : List UInt8).map B8) :=
    (Reads.lit w1 #[.int .u8 3, .int .u8 5, .int .u8 9] 5 3 1 rfl).more (Nat.zero_le _) (by simp)
  have ho0 := Reads.of_own ho
  have ho1 : Reads (w1.alloc (.cells #[.int .u8 3, .int .u8 5, .int .u8 9] 5)) w.heap.size w1.heap.size 1 A 2 (([3, 5] : List UInt8).map B8) := ho0.alloc (Nat.le_refl _) _
  have hb2 := hb1.alloc hs1 (.cells #[.int .u8 3, .int .u8 5, .int .u8 9] 5)
  have hs2 : (w1.alloc (.cells #[.int .u8 3, .int .u8 5, .int .u8 9] 5)).heap.size = w1.heap.size + 1 := by simp
  generalize w1.alloc (.cells #[.int .u8 3, .int .u8 5, .int .u8 9] 5) = w2 at hr ho1 hb2 hs2 ⊢
  refine (decode_any hr (by decide)).mono ?_
  rintro e w3 ⟨cs, hb3, he⟩
  obtain ⟨q, hq⟩ := dec_v3
  rw [hq] at he
  obtain ⟨rfl, hV⟩ := he
  rw [v3, IsV] at hV
  obtain ⟨AL, cL, AK, cK, xs, rfl, _⟩ := hV
  have ho3 := ho1.below hb3 (by omega)
  have HB := hide (hb2.trans (hb3.mono (by omega)))
  have s1 : ∀ o, (convert 27 9 (.slice A 2 c)).run Try.prog (w3.alloc o) = .ok (.string ⟨#[3, 5]⟩) (w3.alloc o) := fun o => (ho3.alloc (by have := hb3.size; omega) o).str 27 9 5 Try.underlying27 Try.underlying5 Try.underlying9 c
  have HB3 := hide (HB.out.alloc HB.out.size)
  clear hb3 hb2 hr ho3 ho1 ho0 ho hq
  go_wp2_with fail

  go_ret
  exact ⟨rfl, HB3.out _⟩
end Go.Proofs.Ytaapbiiiepdopaa
