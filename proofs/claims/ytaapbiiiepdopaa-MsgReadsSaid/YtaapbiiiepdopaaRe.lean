/- wattleref04.Encode. -/
import Derived.Test.YtaapbiiiepdopaaEn
import Derived.Test.YtaapbiiiepdopaaRm
import Derived.Test.YtaapbiiiepdopaaBz
import Derived.Lib.ConvBytes
namespace Go.Proofs.Ytaapbiiiepdopaa
open Go.RowKit Mem
set_option linter.unusedVariables false

/-- what the other Encode lays down -/
def EncR (v : V) (w : World) (e : Ending) (w' : World) : Prop := Below w.heap.size w w' ∧
  if mayB v = true then ∃ A c, e = .returned (.tuple #[.slice A (byt v).length c, .int .i64 0]) ∧ Reads w' 0 w'.heap.size 1 A (byt v).length ((byt v).map B8)
  else e = .returned (.tuple #[.slice none 0 0, .int .i64 20])
theorem bytesWorld_below (w : World) (s : ByteArray) : Below w.heap.size w (Lib.bytesWorld w 5 s) :=
  ⟨rfl, rfl, rfl, by rw [Lib.bytesWorld_size]; omega, fun k hk => Lib.bytesWorld_at_old w 5 s k hk⟩
theorem bytesWorld_reads (w : World) (l : List UInt8) : Reads (Lib.bytesWorld w 5 (ofL l)) 0 (Lib.bytesWorld w 5 (ofL l)).heap.size 1 (some ⟨w.heap.size, 0, none⟩) l.length (l.map B8) :=
  ⟨by simp, fun hn => ⟨_, rfl, Nat.zero_le _, by rw [Lib.bytesWorld_size]; show w.heap.size < _; omega, fun j u hu => by
    have hj : j < l.length := by
      have := (List.getElem?_eq_some_iff.1 hu).1
      simpa using this
    rw [add_head, Lib.bytesWorld_cell w 5 (ofL l) j (by rw [size_ofL]; exact hj)]
    rw [List.getElem?_map, List.getElem?_eq_getElem hj] at hu
    simp at hu
    subst hu
    simp [ofL, B8, List.getD, hj]⟩⟩

theorem refenc_any {v : V} {w : World} {S : Nat → Prop} {cs : Array Value} (hV : IsV w S v cs) (hn : mayB v = true → (byt v).length ≤ 35184372088832) :
    Calls Try.prog 16 #[.agg cs] w fun e w' => EncR v w e w' := by
  obtain ⟨k, b, n, s, AL, nL, cL, AK, nK, cK, rfl⟩ := hV.shape
  have X0 := Blk.new w 25 #[.int .i64 k, .bool b, .int .i64 n, .string s, .slice AL nL cL, .slice AK nK cK]
  have B0 := (Below.refl w.heap.size w).alloc (Nat.le_refl _) (.cells #[.int .i64 k, .bool b, .int .i64 n, .string s, .slice AL nL cL, .slice AK nK cK] 25)
  have V0 : IsV (w.alloc (.cells #[.int .i64 k, .bool b, .int .i64 n, .string s, .slice AL nL cL, .slice AK nK cK] 25)) (fun b => b < w.heap.size) v _ := (hV.mono (S' := fun b => b < w.heap.size) (fun b _ h => h)).alloc _
  have s0 : (w.alloc (.cells #[.int .i64 k, .bool b, .int .i64 n, .string s, .slice AL nL cL, .slice AK nK cK] 25)).heap.size = w.heap.size + 1 := by simp
  clear hV
  go_enter Try.func16, Try.ntmps16
  go_wp2_with fail
  generalize w.alloc (.cells #[.int .i64 k, .bool b, .int .i64 n, .string s, .slice AL nL cL, .slice AK nK cK] 25) = W at X0 B0 V0 s0 ⊢
  refine (rMay_any V0).mono ?_
  rintro e w1 ⟨he, hb⟩
  have B1 := B0.trans (hb.mono (by omega))
  have X1 := X0.below hb (by omega)
  have s1 := hb.size
  by_cases hm : mayB v = true
  · rw [hm] at he
    subst he
    have V1 := V0.below hb (fun b h => by have h : b < w.heap.size := h; omega)
    have hby := bytes_any v (mayB_iff.1 hm |> fun ⟨q, hq⟩ => ⟨32, 0, q, hq⟩) V1 (hn hm)
    have x0 : w1.cell? ⟨w.heap.size, 0, none⟩ = some (.int .i64 k) := blkR X1 rfl
    have x1 : w1.cell? ⟨w.heap.size, 1, none⟩ = some (.bool b) := blkR X1 rfl
    have x2 : w1.cell? ⟨w.heap.size, 2, none⟩ = some (.int .i64 n) := blkR X1 rfl
    have x3 : w1.cell? ⟨w.heap.size, 3, none⟩ = some (.string s) := blkR X1 rfl
    have x4 : w1.cell? ⟨w.heap.size, 4, none⟩ = some (.slice AL nL cL) := blkR X1 rfl
    have x5 : w1.cell? ⟨w.heap.size, 5, none⟩ = some (.slice AK nK cK) := blkR X1 rfl
    have HL := hide hby
    have HB1 := hide B1
    clear hby B1 V1 V0 B0 X0 X1 hb
    go_wp2_with fail
    refine HL.out.mono ?_
    rintro e w2 ⟨rfl, hb2⟩
    have hcv := Lib.run_convert_string_bytes (P := Try.prog) w2 9 27 5 (ofL (byt v)) Try.underlying9 Try.underlying27 Try.underlying5
    rw [size_ofL] at hcv
    have HB2 := hide (HB1.out.trans (hb2.mono HB1.out.size))
    have hRd := bytesWorld_reads w2 (byt v)
    have HR := hide hRd
    have HB3 := hide (HB2.out.trans ((bytesWorld_below w2 (ofL (byt v))).mono HB2.out.size))
    clear hRd hb2 HL x0 x1 x2 x3 x4 x5
    go_wp2_with fail
    refine bodyPost_ret (results_tmp2 rfl _ _ _) rfl ?_
    refine ⟨HB3.out, ?_⟩
    rw [if_pos hm]
    exact ⟨_, _, rfl, HR.out⟩
  · have hm' : mayB v = false := by cases h : mayB v <;> simp_all
    rw [hm'] at he
    subst he
    have HB1 := hide B1
    clear B1 V0 B0 X0 X1 hb
    go_wp2_with fail
    refine bodyPost_ret (results_tmp2 rfl _ _ _) rfl ?_
    refine ⟨HB1.out, ?_⟩
    rw [if_neg hm]
    rfl
theorem EncR_ok {v : V} {w w' : World} {e : Ending} (h : EncR v w e w') (hm : mayB v = true) : Below w.heap.size w w' ∧ ∃ A c, e = .returned (.tuple #[.slice A (byt v).length c, .int .i64 0]) ∧ Reads w' 0 w'.heap.size 1 A (byt v).length ((byt v).map B8) := by
  obtain ⟨h1, h2⟩ := h
  rw [if_pos hm] at h2
  exact ⟨h1, h2⟩
theorem EncR_no {v : V} {w w' : World} {e : Ending} (h : EncR v w e w') (hm : ¬ mayB v = true) : Below w.heap.size w w' ∧ e = .returned (.tuple #[.slice none 0 0, .int .i64 20]) := by
  obtain ⟨h1, h2⟩ := h
  rw [if_neg hm] at h2
  exact ⟨h1, h2⟩
end Go.Proofs.Ytaapbiiiepdopaa
