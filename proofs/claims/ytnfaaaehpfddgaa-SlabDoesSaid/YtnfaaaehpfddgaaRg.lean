/- The reference's Get, Set and Free. -/
import Derived.Test.YtnfaaaehpfddgaaRe
namespace Go.Proofs.Ytnfaaaehpfddgaa
open Go.RowKit Mem
set_option linter.unusedVariables false

/-- the reference's Free leaves the number -/
def freeR (rl : List S3) (s h : Int) : List S3 := if fnd rl s h = 0 then rl.set s.toNat (h.toNat, valOf rl s, false) else rl

theorem refget_any {w : World} {B r : Nat} {most : Int} {rl : List S3} (s h : Int) (hR : Rs w B r most rl) (hn : rl.length ≤ 4294967296) :
    Calls Try.prog 18 #[.pointer (some ⟨r, 0, none⟩), .agg #[.int .i64 s, .int .i64 h]] w fun e w' => e = .returned (.tuple #[.int .i64 (getV rl s h), .int .i64 (fnd rl s h)]) ∧ Only (fun _ => False) w w' := by
  have ha := hR.alloc (.cells #[.int .i64 s, .int .i64 h] 29)
  have hb := Blk.new w 29 #[.int .i64 s, .int .i64 h]
  have r0 : (w.alloc (.cells #[.int .i64 s, .int .i64 h] 29)).cell? ⟨w.heap.size, 0, none⟩ = some (.int .i64 s) := by rw [hb.cell]; rfl
  have r1 : (w.alloc (.cells #[.int .i64 s, .int .i64 h] 29)).cell? ⟨w.heap.size, 1, none⟩ = some (.int .i64 h) := by rw [hb.cell]; rfl
  have HO : Hid (Only (fun _ => False) w (w.alloc (.cells #[.int .i64 s, .int .i64 h] 29))) := (Only.refl (fun _ => False) w).alloc _
  go_enter Try.func18, Try.ntmps18
  go_wp2_with fail
  refine (reflook_any s h ha hn).mono ?_
  rintro e w2 ⟨rfl, o2⟩
  have HO2 := hide (HO.out.trans o2 (fun _ _ h => h))
  by_cases hf : fnd rl s h = 0
  · obtain ⟨k, z0, z1, rfl, rfl, hz, hk, hs⟩ := fnd_ok hf
    obtain ⟨vG, vV, vL, hV⟩ := ha
    have h2 := hV.same o2
    obtain ⟨bV, cV, e1⟩ := own_slice h2.oV (by omega)
    cases e1
    have f2 : w2.cell? ⟨r, 2, none⟩ = some (.slice (some ⟨bV, 0, none⟩) rl.length cV) := by rw [h2.blk.cell]; rfl
    have hc := own_at h2.oV (vaC_at hs)
    have R2 := hb.only o2 id
    have q0 : w2.cell? ⟨w.heap.size, 0, none⟩ = some (.int .i64 (k : Int)) := by rw [R2.cell]; rfl
    have e1 : getV rl k z0 = z1 := by unfold getV valOf; rw [if_pos hf, Int.toNat_natCast, hs]
    have HE1 := hide e1
    have HF := hide hf
    rw [hf]
    dsimp only at hc
    clear e1 hf hs h2 HO o2 r0 r1 hb R2 hV hR
    go_wp2
    go_quiet (fail)
    go_wp2
    go_ret2
    refine ⟨?_, HO2.out.drewN _⟩
    rw [HE1.out, HF.out]
    rfl
  · have e1 : getV rl s h = 0 := by unfold getV; rw [if_neg hf]
    have HE1 := hide e1
    generalize hF : fnd rl s h = F at hf ⊢
    have HF := hide hF
    clear e1 hF ha HO o2 r0 r1 hb hR
    go_wp2
    go_ret2
    refine ⟨?_, HO2.out⟩
    rw [HE1.out, HF.out]
    rfl

theorem refset_any {w : World} {B r : Nat} {most : Int} {rl : List S3} (s h x : Int) (hR : Rs w B r most rl) (hn : rl.length ≤ 4294967296) :
    Calls Try.prog 20 #[.pointer (some ⟨r, 0, none⟩), .agg #[.int .i64 s, .int .i64 h], .int .i64 x] w fun e w' => e = .returned (.int .i64 (fnd rl s h)) ∧ RLeft w B r most (setS rl s h x) w' := by
  have HS := hide hR
  have ha := hR.alloc (.cells #[.int .i64 s, .int .i64 h] 29)
  have hb := Blk.new w 29 #[.int .i64 s, .int .i64 h]
  have r0 : (w.alloc (.cells #[.int .i64 s, .int .i64 h] 29)).cell? ⟨w.heap.size, 0, none⟩ = some (.int .i64 s) := by rw [hb.cell]; rfl
  have r1 : (w.alloc (.cells #[.int .i64 s, .int .i64 h] 29)).cell? ⟨w.heap.size, 1, none⟩ = some (.int .i64 h) := by rw [hb.cell]; rfl
  have HO : Hid (Only (fun _ => False) w (w.alloc (.cells #[.int .i64 s, .int .i64 h] 29))) := (Only.refl (fun _ => False) w).alloc _
  go_enter Try.func20, Try.ntmps20
  go_wp2_with fail
  refine (reflook_any s h ha hn).mono ?_
  rintro e w2 ⟨rfl, o2⟩
  have O2 := HO.out.trans o2 (fun _ _ h => h)
  by_cases hf : fnd rl s h = 0
  · obtain ⟨k, z0, z1, rfl, rfl, hz, hk, hs⟩ := fnd_ok hf
    obtain ⟨vG, vV, vL, hV⟩ := hR
    have h2 := hV.same O2
    obtain ⟨bV, cV, e1⟩ := own_slice h2.oV (by omega)
    cases e1
    have f2 : w2.cell? ⟨r, 2, none⟩ = some (.slice (some ⟨bV, 0, none⟩) rl.length cV) := by rw [h2.blk.cell]; rfl
    have hc := own_at h2.oV (vaC_at hs)
    have hp := h2.oV.frozenAt k
    have R2 := hb.only o2 id
    have q0 : w2.cell? ⟨w.heap.size, 0, none⟩ = some (.int .i64 (k : Int)) := by rw [R2.cell]; rfl
    have e1 : setS rl k z0 x = rl.set k (z0, x, true) := by unfold setS; rw [if_pos hf, Int.toNat_natCast, Int.toNat_natCast]
    have st := (h2.oV.stored k (.int .i64 x)).1
    have eG : gnC (rl.set k (z0, x, true)) = gnC rl := by
      unfold gnC; rw [List.map_set]; apply List.ext_getElem?; intro j; rw [List.getElem?_set]
      by_cases hj : k = j
      · subst hj; obtain ⟨a, e⟩ := List.getElem?_eq_some_iff.1 hs; simp [a, e]
      · rw [if_neg hj]
    have eL : liC (rl.set k (z0, x, true)) = liC rl := by
      unfold liC; rw [List.map_set]; apply List.ext_getElem?; intro j; rw [List.getElem?_set]
      by_cases hj : k = j
      · subst hj; obtain ⟨a, e⟩ := List.getElem?_eq_some_iff.1 hs; simp [a, e]
      · rw [if_neg hj]
    have eV : (vaC rl).set k (.int .i64 x) = vaC (rl.set k (z0, x, true)) := by unfold vaC; rw [List.map_set]
    rw [eV] at st
    have Os := (Only.refl (fun y => y = bV) w2).setCell (p := ⟨bV, k, none⟩) (.inl rfl) (.int .i64 x)
    have hbk : ∃ o, w2.heap[bV]? = some o ∧ RT o := by
      rcases h2.oV.2 with ⟨e, _⟩ | ⟨g', cap, cur, e, _, hh, _⟩
      · cases e
      · cases e
        exact ⟨_, hh, _, _, _, rfl, .inr (.inl rfl)⟩
    have hEnd : Hid (∀ n, RLeft w B r most (rl.set k (z0, x, true)) ((w2.setCell ⟨bV, k, none⟩ (.int .i64 x)).drewN n)) := by
      intro n
      have Od := Os.drewN n
      refine ⟨⟨vG, _, vL, ⟨h2.blk.only Od (fun e => own_far h2.oV h2.blk (by decide) bV rfl e.symm), ?_, ?_, ?_, h2.sep, h2.lo, Nat.le_trans h2.sz Od.size⟩⟩, (Fr.ofOnly O2 (fun _ hk => hk.elim)).trans (.ofOnly Od (fun y hy => by subst hy; exact hbk)), (O2.below (B := B) (fun _ _ hk => hk.elim) hV.sz).trans (Od.below (fun y _ hy => by rw [hy]; exact own_lo h2.oV (k := bV) rfl) h2.sz)⟩
      · rw [eG, List.length_set]
        exact own_only h2.oG Od (fun y hy e => h2.sep y hy (by rw [e]; rfl))
      · rw [List.length_set]; exact own_drewN st n
      · rw [eL, List.length_set]
        exact own_only h2.oL Od (fun y hy e => own_own_ne h2.oL h2.oV (by decide) y hy (by rw [e]; rfl))
    have HE1 := hide e1
    have HF := hide hf
    rw [hf]
    dsimp only at hc
    clear e1 hf hs ha HO o2 r0 r1 h2 st Os eG eL eV hbk O2 hV hb R2
    go_wp2
    go_region
    all_goals (try rename_i K hK; try refine hK _ _ ?_)
    all_goals go_wp2
    all_goals go_ret
    all_goals
      refine ⟨?_, ?_⟩
      · rw [HF.out]; rfl
      · rw [HE1.out]; exact hEnd.out 1
  · have e1 : setS rl s h x = rl := by unfold setS; rw [if_neg hf]
    have hEnd := hide (rleft_same HS.out O2)
    have HE1 := hide e1
    generalize hF : fnd rl s h = F at hf ⊢
    have HF := hide hF
    clear e1 hF ha HO o2 r0 r1 O2 hb
    go_wp2
    go_ret
    refine ⟨?_, ?_⟩
    · rw [HF.out]; rfl
    · rw [HE1.out]; exact hEnd.out

theorem reffree_any {w : World} {B r : Nat} {most : Int} {rl : List S3} (s h : Int) (hR : Rs w B r most rl) (hn : rl.length ≤ 4294967296) :
    Calls Try.prog 21 #[.pointer (some ⟨r, 0, none⟩), .agg #[.int .i64 s, .int .i64 h]] w fun e w' => e = .returned (.int .i64 (fnd rl s h)) ∧ RLeft w B r most (freeR rl s h) w' := by
  have HS := hide hR
  have ha := hR.alloc (.cells #[.int .i64 s, .int .i64 h] 29)
  have hb := Blk.new w 29 #[.int .i64 s, .int .i64 h]
  have r0 : (w.alloc (.cells #[.int .i64 s, .int .i64 h] 29)).cell? ⟨w.heap.size, 0, none⟩ = some (.int .i64 s) := by rw [hb.cell]; rfl
  have r1 : (w.alloc (.cells #[.int .i64 s, .int .i64 h] 29)).cell? ⟨w.heap.size, 1, none⟩ = some (.int .i64 h) := by rw [hb.cell]; rfl
  have HO : Hid (Only (fun _ => False) w (w.alloc (.cells #[.int .i64 s, .int .i64 h] 29))) := (Only.refl (fun _ => False) w).alloc _
  go_enter Try.func21, Try.ntmps21
  go_wp2_with fail
  refine (reflook_any s h ha hn).mono ?_
  rintro e w2 ⟨rfl, o2⟩
  have O2 := HO.out.trans o2 (fun _ _ h => h)
  by_cases hf : fnd rl s h = 0
  · obtain ⟨k, z0, z1, rfl, rfl, hz, hk, hs⟩ := fnd_ok hf
    obtain ⟨vG, vV, vL, hV⟩ := hR
    have h2 := hV.same O2
    obtain ⟨bV, cV, e1⟩ := own_slice h2.oL (by omega)
    cases e1
    have f2 : w2.cell? ⟨r, 3, none⟩ = some (.slice (some ⟨bV, 0, none⟩) rl.length cV) := by rw [h2.blk.cell]; rfl
    have hc := own_at h2.oL (liC_at hs)
    have hp := h2.oL.frozenAt k
    have R2 := hb.only o2 id
    have q0 : w2.cell? ⟨w.heap.size, 0, none⟩ = some (.int .i64 (k : Int)) := by rw [R2.cell]; rfl
    have e1 : freeR rl k z0 = rl.set k (z0, z1, false) := by unfold freeR valOf; rw [if_pos hf, Int.toNat_natCast, Int.toNat_natCast, hs]
    have st := (h2.oL.stored k (.bool false)).1
    have eG : gnC (rl.set k (z0, z1, false)) = gnC rl := by
      unfold gnC; rw [List.map_set]; apply List.ext_getElem?; intro j; rw [List.getElem?_set]
      by_cases hj : k = j
      · subst hj; obtain ⟨a, e⟩ := List.getElem?_eq_some_iff.1 hs; simp [a, e]
      · rw [if_neg hj]
    have eL : vaC (rl.set k (z0, z1, false)) = vaC rl := by
      unfold vaC; rw [List.map_set]; apply List.ext_getElem?; intro j; rw [List.getElem?_set]
      by_cases hj : k = j
      · subst hj; obtain ⟨a, e⟩ := List.getElem?_eq_some_iff.1 hs; simp [a, e]
      · rw [if_neg hj]
    have eV : (liC rl).set k (.bool false) = liC (rl.set k (z0, z1, false)) := by unfold liC; rw [List.map_set]
    rw [eV] at st
    have Os := (Only.refl (fun y => y = bV) w2).setCell (p := ⟨bV, k, none⟩) (.inl rfl) (.bool false)
    have hbk : ∃ o, w2.heap[bV]? = some o ∧ RT o := by
      rcases h2.oL.2 with ⟨e, _⟩ | ⟨g', cap, cur, e, _, hh, _⟩
      · cases e
      · cases e
        exact ⟨_, hh, _, _, _, rfl, .inr (.inr rfl)⟩
    have hEnd : Hid (∀ n, RLeft w B r most (rl.set k (z0, z1, false)) ((w2.setCell ⟨bV, k, none⟩ (.bool false)).drewN n)) := by
      intro n
      have Od := Os.drewN n
      refine ⟨⟨vG, vV, _, ⟨h2.blk.only Od (fun e => own_far h2.oL h2.blk (by decide) bV rfl e.symm), ?_, ?_, ?_, h2.sep, h2.lo, Nat.le_trans h2.sz Od.size⟩⟩, (Fr.ofOnly O2 (fun _ hk => hk.elim)).trans (.ofOnly Od (fun y hy => by subst hy; exact hbk)), (O2.below (B := B) (fun _ _ hk => hk.elim) hV.sz).trans (Od.below (fun y _ hy => by rw [hy]; exact own_lo h2.oL (k := bV) rfl) h2.sz)⟩
      · rw [eG, List.length_set]
        exact own_only h2.oG Od (fun y hy e => own_own_ne h2.oG h2.oL (by decide) y hy (by rw [e]; rfl))
      · rw [eL, List.length_set]
        exact own_only h2.oV Od (fun y hy e => own_own_ne h2.oV h2.oL (by decide) y hy (by rw [e]; rfl))
      · rw [List.length_set]; exact own_drewN st n
    have HE1 := hide e1
    have HF := hide hf
    rw [hf]
    dsimp only at hc
    clear e1 hf hs ha HO o2 r0 r1 h2 st Os eG eL eV hbk O2 hV hb R2
    go_wp2
    go_region
    all_goals (try rename_i K hK; try refine hK _ _ ?_)
    all_goals go_wp2
    all_goals go_ret
    all_goals
      refine ⟨?_, ?_⟩
      · rw [HF.out]; rfl
      · rw [HE1.out]; exact hEnd.out 1
  · have e1 : freeR rl s h = rl := by unfold freeR; rw [if_neg hf]
    have hEnd := hide (rleft_same HS.out O2)
    have HE1 := hide e1
    generalize hF : fnd rl s h = F at hf ⊢
    have HF := hide hF
    clear e1 hF ha HO o2 r0 r1 O2 hb
    go_wp2
    go_ret
    refine ⟨?_, ?_⟩
    · rw [HF.out]; rfl
    · rw [HE1.out]; exact hEnd.out
end Go.Proofs.Ytnfaaaehpfddgaa
