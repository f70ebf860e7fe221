/- FrameWrites: for every load the program's frame is the reference's, or both refuse it; every input. -/
import Derived.Test.YthcdepjchbahoaaWor
namespace Go.Proofs.Ythcdepjchbahoaa
open Go.RowKit Mem
set_option linter.unusedVariables false

theorem conv_nil (w : World) : (convert 22 9 (.slice none 0 0)).run Try.prog w = .ok (.string ByteArray.empty) w := run_convert_bytes_nil w 22 5 Try.underlying22 Try.underlying5 0 0 9 Try.underlying9

theorem writes_any (n c : Nat) (A : Option Addr) (xs : List UInt8) (w : World) (hr : Reads w 0 w.heap.size 1 A n (xs.map B8)) :
    Calls Try.prog 3 #[.slice A n c] w fun e w' => e = .returned (.bool true) ∧ Below w.heap.size w w' := by
  by_cases hn : n < 1 ∨ 32768 < n
  · have hcn := conv_nil w
    go_enter Try.func3, Try.ntmps3
    go_wp2_with fail
    refine (enc_no n c A w hn).mono ?_
    rintro e w1 ⟨rfl, rfl⟩
    go_wp2_with fail
    refine (ref_enc_no n c A w hn).mono ?_
    rintro e w1 ⟨rfl, rfl⟩
    go_wp2_with fail
    refine (works_any w).mono ?_
    rintro e w1 ⟨rfl, hb⟩
    go_wp2_with fail
    go_ret
    exact ⟨rfl, hb⟩
  · have hn1 : 1 ≤ n := by omega
    have hn2 : n ≤ 32768 := by omega
    clear hn
    go_enter Try.func3, Try.ntmps3
    go_wp2_with fail
    refine (enc_ok w.heap.size n c A xs w hr hn1 hn2 (Nat.le_refl _)).mono ?_
    rintro e w1 ⟨A1, c1, rfl, hown1, hb1⟩
    go_wp2_with fail
    refine (ref_enc_ok w.heap.size n c A xs w1 (hr.below hb1 (Nat.le_refl _)) hn1 hn2 hb1.size).mono ?_
    rintro e w2 ⟨A2, c2, rfl, hown2, hb2⟩
    have hown1' : w2.ownsRow w.heap.size 5 1 (.slice A1 (4 + n) c1) (4 + n) ((encB xs).map B8) := own_only hown1 (Only.ofBelow (S := fun _ => False) hb2) (by simp)
    obtain ⟨B1, d1, e1, _, r1⟩ := own_form hown1'
    cases e1
    obtain ⟨B2, d2, e2, _, r2⟩ := own_form hown2
    cases e2
    have s1 := r1.str (P := Try.prog) 22 9 5 Try.underlying22 Try.underlying5 Try.underlying9 c1
    have s2 := r2.str (P := Try.prog) 22 9 5 Try.underlying22 Try.underlying5 Try.underlying9 c2
    have hB := hb1.trans (hb2.mono hb1.size)
    clear r1 r2 hown1 hown2 hown1' hb1 hb2 hr
    go_wp2_with fail
    refine (works_any w2).mono ?_
    rintro e w3 ⟨rfl, hb⟩
    go_wp2_with fail
    go_ret
    exact ⟨rfl, hB.trans (hb.mono hB.size)⟩

end Go.Proofs.Ythcdepjchbahoaa
