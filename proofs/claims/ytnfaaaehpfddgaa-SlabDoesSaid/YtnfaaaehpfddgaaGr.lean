/- A slab grows by a slot. -/
import Derived.Test.YtnfaaaehpfddgaaSl
namespace Go.Proofs.Ytnfaaaehpfddgaa
open Go.RowKit Mem
set_option linter.unusedVariables false

theorem made3 (a b c : Value) (n : Nat) : (madeCells #[a, b, c] ((n + 1) * 3)).toList.drop (n * 3) = [a, b, c] := by
  apply List.ext_getElem
  · simp [size_madeCells]; omega
  · intro i h1 h2
    simp only [List.length_cons, List.length_nil] at h2
    have e : (n * 3 + i) % 3 = i := by omega
    simp only [List.getElem_drop, madeCells, Array.getElem_toList, Array.getElem_map, Array.getElem_range, List.size_toArray, List.length_cons, List.length_nil]
    rw [show (n * 3 + i) % (0 + 1 + 1 + 1) = i from e]
    match i, h2 with
    | 0, _ => rfl
    | 1, _ => rfl
    | 2, _ => rfl

theorem kt_only {w w' : World} {B g : Nat} {cs : Array Value} {v : Value} {fr : List Nat} (h : FreeR w B g cs v fr) (hlo : B ≤ g) (hsz : B ≤ w.heap.size) (ho : Only (fun k => k = g ∨ v.ownBlock = some k) w w') : Fr KT w w' ∧ Below B w w' := by
  refine ⟨.ofOnly ho ?_, ho.below ?_ hsz⟩
  · rintro k (rfl | hk)
    · exact ⟨_, h.blk, _, _, _, rfl, .inl rfl⟩
    · rcases h.own.2 with ⟨e1, _⟩ | ⟨g', cap, cur, e1, _, hh, _⟩
      · rw [e1] at hk; cases hk
      · rw [e1] at hk
        cases hk
        exact ⟨_, hh, _, _, _, rfl, .inr (.inr rfl)⟩
  · rintro k _ (rfl | hk)
    · exact hlo
    · exact own_lo h.own hk
theorem slots_only {w w' : World} {B g n : Nat} {cs : Array Value} {v V : Value} {fr : List Nat} {xs : List Value} (h : FreeR w B g cs v fr) (hV : w.ownsRow B 63 3 V n xs) (ho : Only (fun k => k = g ∨ v.ownBlock = some k) w w') : w'.ownsRow B 63 3 V n xs :=
  own_only hV ho (fun k hk e => e.elim (fun e => own_far hV h.blk (by decide) k hk e) (fun e => own_own_ne hV h.own (by decide) k hk e))
theorem fr_cnt_app {fr fr' : List Nat} {sl : List S3} (hc : ∀ u, fr.count u = if isFree sl u = true then 1 else 0) (hp : ∀ u, fr'.count u = fr.count u + (if sl.length = u then 1 else 0)) : ∀ u, fr'.count u = if isFree (sl ++ [(0, 0, false)]) u = true then 1 else 0 := by
  intro u
  rw [hp, hc, isFree_app]
  by_cases hu : u = sl.length
  · subst hu
    have : isFree sl sl.length = false := by
      cases hf : isFree sl sl.length with
      | false => rfl
      | true => have := isFree_lt hf; omega
    simp [this]
  · have hu' : ¬ sl.length = u := fun e => hu e.symm
    simp [hu, hu']
theorem lives_app (sl : List S3) (g : Nat) (v : Int) : lives (sl ++ [(g, v, false)]) = lives sl := by unfold lives; simp

theorem grow_any {w : World} {B g : Nat} {most : Int} {sl : List S3} (h : Sl w B g most sl) (hn : sl.length ≤ 65536) :
    Calls Try.prog 23 #[.pointer (some ⟨g, 0, none⟩)] w fun e w' => e = .returned (.tuple #[]) ∧ Left w B g most (sl ++ [(0, 0, false)]) w' := by
  obtain ⟨V, v, fr, h⟩ := h
  have f1 : w.cell? ⟨g, 1, none⟩ = some V := by rw [h.fre.blk.cell]; rfl
  obtain ⟨A, c, rfl, _, hrd⟩ := own_form h.own
  go_enter Try.func23, Try.ntmps23
  go_wp2_with (first | (refine wpList_mkn el54 (.tmp 8) (.tmp 8) B (sl.length + 1) (by omega) (by unfold maxLen; omega) h.sz rfl rfl rfl rfl (by simp) (by simp) ?_; intro w1 hown1 hg1; refine pause ?_) | go_in)
  refine unpause ?_
  have G1 := h.fre.blk.grown hg1 (by simp)
  have oV1 := own_grown h.own hg1 (by simp)
  have oF1 := own_grown h.fre.own hg1 (by simp)
  have f1' : w1.cell? ⟨g, 1, none⟩ = some (.slice A sl.length c) := by rw [G1.cell]; rfl
  obtain ⟨_, _, e1, _, hrd1⟩ := own_form oV1
  cases e1
  go_wp2_with (first | (with_reducible refine wpList_copy_into el54 rfl (.tmp 10) (.tmp 14) 54 rfl hown1 hrd1 (scells_one sl) (Nat.le_succ _) rfl rfl ?_; intro w2 hown2 hg2; refine pause ?_) | go_in)
  refine unpause ?_
  have hgl := h.fre.blk.lt
  have hne : some g ≠ some w.heap.size := by intro e; cases e; omega
  have G2 := G1.grown hg2 hne
  have oF2 := own_grown oF1 hg2 (fun k hk e => by have := own_lt h.fre.own hk; cases e; omega)
  have f2' : w2.cell? ⟨g, 1, none⟩ = some (.slice A sl.length c) := by rw [G2.cell]; rfl
  have p2' : w2.frozen? ⟨g, 1, none⟩ = false := G2.frozen 1
  have hz : scells sl ++ (madeCells (Value.agg #[.int .i64 0, .int .i64 0, .bool false]).cells ((sl.length + 1) * 3)).toList.drop (scells sl).length = scells (sl ++ [(0, 0, false)]) := by
    rw [scells_len, scells_app]
    exact congrArg (scells sl ++ ·) (made3 _ _ _ _)
  rw [hz] at hown2
  have O2 : Only (fun k => k = g) w w2 := ((Only.refl _ w).grown hg1 (fun k hk => by cases hk)).grown hg2 (fun k hk => by cases hk; exact .inr (Nat.le_refl _))
  clear f1 f1' hrd1 hrd oV1 oF1 G1 hown1 hg1 hg2 hz
  go_wp2_with fail
  have G3 := G2.set_ 1 (.slice (some ⟨w.heap.size, 0, none⟩) (sl.length + 1) (sl.length + 1))
  have Os := (Only.refl (fun k => k = g) w2).setCell (p := ⟨g, 1, none⟩) (.inl rfl) (.slice (some ⟨w.heap.size, 0, none⟩) (sl.length + 1) (sl.length + 1))
  have oV3 := own_only hown2 Os (own_far hown2 G2 (by decide))
  have oF3 := own_only oF2 Os (own_far oF2 G2 (by decide))
  have O3 := O2.trans Os (fun _ _ h => h)
  generalize w2.setCell ⟨g, 1, none⟩ (.slice (some ⟨w.heap.size, 0, none⟩) (sl.length + 1) (sl.length + 1)) = w3 at G3 Os oV3 oF3 O3 ⊢
  have F3 : FreeR w3 B g #[.int .i64 most, .slice (some ⟨w.heap.size, 0, none⟩) (sl.length + 1) (sl.length + 1), v, .int .i64 (lives sl : Int)] v fr := ⟨by simpa using G3, rfl, oF3, h.fre.heap⟩
  have hsz3 : B ≤ w3.heap.size := Nat.le_trans h.sz O3.size
  have hlen := h.len
  refine (push_any (x := sl.length) F3 (by have := lives_le sl; omega) hsz3).mono ?_
  rintro e w4 ⟨rfl, v', fr', F4, l4, c4, o4, b4⟩
  have oV4 := slots_only F3 oV3 o4
  have K4 := kt_only F3 h.lo hsz3 o4
  have K3 : Fr KT w w3 := .ofOnly O3 (fun k hk => by subst hk; exact ⟨_, h.fre.blk, _, _, _, rfl, .inl rfl⟩)
  have B3 : Below B w w3 := O3.below (fun k _ hk => by rw [hk]; exact h.lo) h.sz
  go_wp2
  refine bodyPost_end (results_none rfl _ _ _) rfl ?_
  refine ⟨rfl, ⟨_, v', fr', ⟨by rw [lives_app]; simpa using F4, by simpa using oV4, fr_cnt_app h.cnt c4, ?_, h.lo, Nat.le_trans hsz3 o4.size⟩⟩, K3.trans K4.1, B3.trans K4.2⟩
  rw [lives_app, l4, List.length_append]
  simp only [List.length_cons, List.length_nil]
  omega
end Go.Proofs.Ytnfaaaehpfddgaa
