/- pack.Encode. -/
import Derived.Test.YtaapbiiiepdopaaDe
import Derived.Test.YtaapbiiiepdopaaLo
import Derived.Test.YtaapbiiiepdopaaLz
namespace Go.Proofs.Ytaapbiiiepdopaa
open Go.RowKit Mem
set_option linter.unusedVariables false

/-- what Encode lays down -/
def EncP (v : V) (w : World) (e : Ending) (w' : World) : Prop := Below w.heap.size w w' ∧
  if mayB v = true then ∃ A c, e = .returned (.tuple #[.slice A (byt v).length c, .int .i64 0]) ∧ w'.ownsRow w.heap.size 5 1 (.slice A (byt v).length c) (byt v).length ((byt v).map B8)
  else e = .returned (.tuple #[.slice none 0 0, .int .i64 20])

theorem encode_any {v : V} {w : World} {S : Nat → Prop} {cs : Array Value} (hV : IsV w S v cs) (hn : mayB v = true → (byt v).length ≤ 35184372088832) :
    Calls Try.prog 15 #[.agg cs] w fun e w' => EncP v w e w' := by
  obtain ⟨k, b, n, s, AL, nL, cL, AK, nK, cK, rfl⟩ := hV.shape
  have X0 := Blk.new w 25 #[.int .i64 k, .bool b, .int .i64 n, .string s, .slice AL nL cL, .slice AK nK cK]
  have B0 := (Below.refl w.heap.size w).alloc (Nat.le_refl _) (.cells #[.int .i64 k, .bool b, .int .i64 n, .string s, .slice AL nL cL, .slice AK nK cK] 25)
  have V0 : IsV (w.alloc (.cells #[.int .i64 k, .bool b, .int .i64 n, .string s, .slice AL nL cL, .slice AK nK cK] 25)) (fun b => b < w.heap.size) v _ := (hV.mono (S' := fun b => b < w.heap.size) (fun b _ h => h)).alloc _
  have s0 : (w.alloc (.cells #[.int .i64 k, .bool b, .int .i64 n, .string s, .slice AL nL cL, .slice AK nK cK] 25)).heap.size = w.heap.size + 1 := by simp
  clear hV
  go_enter Try.func15, Try.ntmps15
  go_wp2_with fail
  generalize w.alloc (.cells #[.int .i64 k, .bool b, .int .i64 n, .string s, .slice AL nL cL, .slice AK nK cK] 25) = W at X0 B0 V0 s0 ⊢
  refine (check_any V0).mono ?_
  rintro e w1 ⟨he, hb⟩
  have B1 := B0.trans (hb.mono (by omega))
  have X1 := X0.below hb (by omega)
  have s1 := hb.size
  by_cases hm : mayB v = true
  · rw [if_pos hm] at he
    subst he
    have V1 := V0.below hb (fun b h => by have h : b < w.heap.size := h; omega)
    have hlay := lay_any v (mayB_iff.1 hm |> fun ⟨q, hq⟩ => ⟨32, 0, q, hq⟩) (w := w1) (base := w.heap.size) (n := 0) (c := 0) (A := none) (xs := []) V1 (fun b h => h) (World.ownsRow_nil _ _ _ _) (by omega) (by have := hn hm; omega)
    have x0 : w1.cell? ⟨w.heap.size, 0, none⟩ = some (.int .i64 k) := blkR X1 rfl
    have x1 : w1.cell? ⟨w.heap.size, 1, none⟩ = some (.bool b) := blkR X1 rfl
    have x2 : w1.cell? ⟨w.heap.size, 2, none⟩ = some (.int .i64 n) := blkR X1 rfl
    have x3 : w1.cell? ⟨w.heap.size, 3, none⟩ = some (.string s) := blkR X1 rfl
    have x4 : w1.cell? ⟨w.heap.size, 4, none⟩ = some (.slice AL nL cL) := blkR X1 rfl
    have x5 : w1.cell? ⟨w.heap.size, 5, none⟩ = some (.slice AK nK cK) := blkR X1 rfl
    have HL := hide hlay
    have HB1 := hide B1
    clear hlay B1 V1 V0 B0 X0 X1 hb
    go_wp2_with fail
    refine HL.out.mono ?_
    rintro e w2 ⟨A', c', N, rfl, hL⟩
    have hlen := hL.len
    have HLL := hide hL
    clear hL
    go_wp2_with fail
    refine bodyPost_ret (results_tmp2 rfl _ _ _) rfl ?_
    subst hlen
    refine ⟨HB1.out.trans (HLL.out.bel), ?_⟩
    rw [if_pos hm]
    exact ⟨A', c', rfl, HLL.out.own⟩
  · rw [if_neg hm] at he
    subst he
    have HB1 := hide B1
    clear B1 V0 B0 X0 X1 hb
    go_wp2_with fail
    refine bodyPost_ret (results_tmp2 rfl _ _ _) rfl ?_
    refine ⟨HB1.out, ?_⟩
    rw [if_neg hm]
    rfl
theorem EncP_ok {v : V} {w w' : World} {e : Ending} (h : EncP v w e w') (hm : mayB v = true) : Below w.heap.size w w' ∧ ∃ A c, e = .returned (.tuple #[.slice A (byt v).length c, .int .i64 0]) ∧ w'.ownsRow w.heap.size 5 1 (.slice A (byt v).length c) (byt v).length ((byt v).map B8) := by
  obtain ⟨h1, h2⟩ := h
  rw [if_pos hm] at h2
  exact ⟨h1, h2⟩
theorem EncP_no {v : V} {w w' : World} {e : Ending} (h : EncP v w e w') (hm : ¬ mayB v = true) : Below w.heap.size w w' ∧ e = .returned (.tuple #[.slice none 0 0, .int .i64 20]) := by
  obtain ⟨h1, h2⟩ := h
  rw [if_neg hm] at h2
  exact ⟨h1, h2⟩
end Go.Proofs.Ytaapbiiiepdopaa
