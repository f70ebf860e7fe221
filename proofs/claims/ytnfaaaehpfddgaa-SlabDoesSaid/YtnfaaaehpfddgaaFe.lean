/- Free of a slab. -/
import Derived.Test.YtnfaaaehpfddgaaGs
namespace Go.Proofs.Ytnfaaaehpfddgaa
open Go.RowKit Mem
set_option linter.unusedVariables false

set_option maxHeartbeats 2000000 in
set_option maxRecDepth 100000 in
theorem free_any {w : World} {B g : Nat} {most : Int} {sl : List S3} (s h : Int) (hS : Sl w B g most sl) (hn : sl.length ≤ 65537) :
    Calls Try.prog 9 #[.pointer (some ⟨g, 0, none⟩), .agg #[.int .i64 s, .int .i64 h]] w fun e w' => e = .returned (.int .i64 (fnd sl s h)) ∧ Left w B g most (freeS sl s h) w' := by
  have HS := hide hS
  obtain ⟨V, v, fr, hV⟩ := hS
  obtain ⟨A, c, rfl, _⟩ := own_form hV.own
  obtain ⟨b, hA⟩ := slot_row hV.own
  have ha := slv_alloc hV (.cells #[.int .i64 s, .int .i64 h] 29)
  have hb := Blk.new w 29 #[.int .i64 s, .int .i64 h]
  have r0 : (w.alloc (.cells #[.int .i64 s, .int .i64 h] 29)).cell? ⟨w.heap.size, 0, none⟩ = some (.int .i64 s) := by rw [hb.cell]; rfl
  have r1 : (w.alloc (.cells #[.int .i64 s, .int .i64 h] 29)).cell? ⟨w.heap.size, 1, none⟩ = some (.int .i64 h) := by rw [hb.cell]; rfl
  have HO : Hid (Only (fun _ => False) w (w.alloc (.cells #[.int .i64 s, .int .i64 h] 29))) := (Only.refl (fun _ => False) w).alloc _
  go_enter Try.func9, Try.ntmps9
  go_wp2_with fail
  refine (find_any s h ha hA (by omega)).mono ?_
  rintro e w2 ⟨rfl, o2⟩
  have O2 := HO.out.trans o2 (fun _ _ h => h)
  have h2 := slv_same hV O2
  by_cases hf : fnd sl s h = 0
  · obtain ⟨k, z0, z1, rfl, rfl, hz, hk, hs⟩ := fnd_ok hf
    obtain rfl := hA (by omega)
    have e1 : freeS sl k z0 = sl.set k (z0, 0, false) := by unfold freeS; rw [if_pos hf, Int.toNat_natCast, Int.toNat_natCast]
    have R2 := hb.only o2 id
    generalize hRe : w.heap.size = R at hb r0 r1 R2 ⊢
    have hbg : g ≠ b := fun e => own_far h2.own h2.fre.blk (by decide) b rfl e.symm
    have hRb : R ≠ b := fun e => own_blk_ne h2.own R2 (by decide) (by rw [e]; rfl)
    have hRg : R ≠ g := fun e => by rw [e] at R2; exact Blk.ne_ R2 h2.fre.blk (by decide) rfl
    obtain ⟨a0, a1, a2⟩ := scells_at hs
    dsimp only at a0 a1 a2
    have c2 := own_at h2.own a2
    have p2 := h2.own.frozenAt (k * 3 + 2)
    have oV3 := (h2.own.stored (k * 3 + 2) (.bool false)).1
    have c1 := own_at oV3 (j := k * 3 + 1) (u := .int .i64 z1) (by rw [List.getElem?_set_ne (by omega)]; exact a1)
    have p1 := oV3.frozenAt (k * 3 + 1)
    have oV4 := (oV3.stored (k * 3 + 1) (.int .i64 0)).1
    have hsc : ((scells sl).set (k * 3 + 2) (.bool false)).set (k * 3 + 1) (.int .i64 0) = scells (sl.set k (z0, 0, false)) := by
      rw [← scells_set]
      apply List.ext_getElem?
      intro j
      simp only [List.getElem?_set]
      by_cases j0 : k * 3 = j
      · subst j0
        simp
        rw [a0]
        have := (List.getElem?_eq_some_iff.1 a0).1
        simp [this]
      · by_cases j1 : k * 3 + 1 = j
        · subst j1
          simp
        · by_cases j2 : k * 3 + 2 = j
          · subst j2
            simp
          · simp [j0, j1, j2]
    rw [hsc] at oV4
    have O4 := ((Only.refl (fun y => y = b) w2).setCell (p := ⟨b, k * 3 + 2, none⟩) (.inl rfl) (.bool false)).setCell (p := ⟨b, k * 3 + 1, none⟩) (.inl rfl) (.int .i64 0)
    have g4 := (h2.fre.blk.far (p := ⟨b, k * 3 + 2, none⟩) hbg (.bool false)).far (p := ⟨b, k * 3 + 1, none⟩) hbg (.int .i64 0)
    have R4 := (R2.far (p := ⟨b, k * 3 + 2, none⟩) hRb (.bool false)).far (p := ⟨b, k * 3 + 1, none⟩) hRb (.int .i64 0)
    have oF4 := own_only h2.fre.own O4 (fun y hy e => own_own_ne h2.fre.own h2.own (by decide) y hy (by rw [e]; rfl))
    have c3 : ((w2.setCell ⟨b, k * 3 + 2, none⟩ (.bool false)).setCell ⟨b, k * 3 + 1, none⟩ (.int .i64 0)).cell? ⟨g, 3, none⟩ = some (.int .i64 (lives sl : Int)) := by rw [g4.cell]; rfl
    have p3 := g4.frozen 3
    have hlv : lives (sl.set k (z0, 0, false)) + 1 = lives sl := by have := lives_set (z0, 0, false) hs; simpa using this
    have hlvl := lives_le sl
    have hl1 : (lives sl : Int) - 1 = (lives (sl.set k (z0, 0, false)) : Int) := by omega
    have g5 := g4.set_ 3 (.int .i64 ((lives sl : Int) - 1))
    have Os5 := (Only.refl (fun y => y = g) _).setCell (w' := (w2.setCell ⟨b, k * 3 + 2, none⟩ (.bool false)).setCell ⟨b, k * 3 + 1, none⟩ (.int .i64 0)) (p := ⟨g, 3, none⟩) (.inl rfl) (.int .i64 ((lives sl : Int) - 1))
    have oV5 := own_only oV4 Os5 (own_far oV4 g4 (by decide))
    have oF5 := own_only oF4 Os5 (own_far oF4 g4 (by decide))
    have R5 := R4.far (p := ⟨g, 3, none⟩) hRg (.int .i64 ((lives sl : Int) - 1))
    have q0 : (((w2.setCell ⟨b, k * 3 + 2, none⟩ (.bool false)).setCell ⟨b, k * 3 + 1, none⟩ (.int .i64 0)).setCell ⟨g, 3, none⟩ (.int .i64 ((lives sl : Int) - 1))).cell? ⟨R, 0, none⟩ = some (.int .i64 (k : Int)) := by rw [R5.cell]; rfl
    have O5 : Only (fun y => y = b ∨ y = g) w2 _ := (O4.mono (fun y _ hy => .inl hy)).trans Os5 (fun y _ hy => .inr hy)
    have HF := hide (And.intro hf e1)
    unfold ptrOf
    rw [hf, if_pos rfl, Int.toNat_natCast]
    have HH := hide (And.intro oV5 (And.intro oF5 (And.intro g5 (And.intro O5 (And.intro h2 (And.intro O2 (And.intro hV (And.intro hs (And.intro hlv hl1)))))))))
    clear hf e1 ha HO o2 r0 r1 hb h2 oV3 oV4 oV5 oF4 oF5 g4 g5 R2 R4 R5 O4 O5 Os5 hsc O2 hV hs a0 a1 a2 hlv hl1 hRe
    go_wp2
    generalize hW : ((w2.setCell ⟨b, k * 3 + 2, none⟩ (.bool false)).setCell ⟨b, k * 3 + 1, none⟩ (.int .i64 0)).setCell ⟨g, 3, none⟩ (.int .i64 ((lives sl : Int) - 1)) = W4 at q0 HH ⊢
    clear hW c1 c2 c3 p1 p2 p3
    go_still_tail 7, (by kernel_rfl)
    obtain ⟨oV5, oF5, g5, O5, h2, O2, hV, hs, hlv, hl1⟩ := HH.out
    have F5 : FreeR (W4.drewN 1) B g #[.int .i64 most, .slice (some ⟨b, 0, none⟩) sl.length c, v, .int .i64 (lives (sl.set k (z0, 0, false)) : Int)] v fr := ⟨by rw [← hl1]; simpa using g5.drewN 1, rfl, oF5, h2.fre.heap⟩
    have hsz : B ≤ (W4.drewN 1).heap.size := Nat.le_trans h2.sz O5.size
    have hlen := h2.len
    have oV5' := own_drewN oV5 1
    have O5' := O5.drewN 1
    have HC := hide h2.cnt
    have hlo := h2.lo
    have KB : Hid (Fr KT w (W4.drewN 1) ∧ Below B w (W4.drewN 1)) := by
      refine ⟨(Fr.ofOnly O2 (fun _ hk => hk.elim)).trans (.ofOnly O5' ?_), (O2.below (fun _ _ hk => hk.elim) hV.sz).trans (O5'.below ?_ h2.sz)⟩
      · rintro y (rfl | rfl)
        · rcases h2.own.2 with ⟨e1, _⟩ | ⟨g', cap, cur, e1, _, hh, _⟩
          · cases e1
          · cases e1
            exact ⟨_, hh, _, _, _, rfl, .inr (.inl rfl)⟩
        · exact ⟨_, h2.fre.blk, _, _, _, rfl, .inl rfl⟩
      · rintro y _ (rfl | rfl)
        · exact own_lo h2.own (k := y) rfl
        · exact hlo
    clear oV5 oF5 g5 O5 h2 O2 hV HH
    change wpList _ _ _ _ _ (W4.drewN 1)
    generalize W4.drewN 1 = W5 at F5 oV5' O5' hsz KB ⊢
    go_wp2_with fail
    refine (push_any (x := k) F5 (by omega) hsz).mono ?_
    rintro e W6 ⟨rfl, v6, fr6, F6, l6, c6, o6, b6⟩
    have oV6 := slots_only F5 oV5' o6
    have K6 := kt_only F5 hlo hsz o6
    have hEnd : Hid (Left w B g most (sl.set k (z0, 0, false)) W6) := by
      refine ⟨⟨.slice (some ⟨b, 0, none⟩) sl.length c, v6, fr6, ⟨by simpa using F6, by rw [List.length_set]; exact oV6, ?_, by rw [List.length_set]; omega, hlo, Nat.le_trans hsz o6.size⟩⟩, KB.out.1.trans K6.1, KB.out.2.trans K6.2⟩
      intro u
      rw [c6, isFree_set _ hk, HC.out]
      by_cases hu : u = k
      · subst hu
        have : isFree sl u = false := by simp [isFree, hs]
        simp [this]
      · have hu' : ¬ k = u := fun e => hu e.symm
        simp [hu, hu']
    clear F5 F6 oV5' O5' oV6 K6 o6 c6 hs hlv hl1
    go_wp2
    go_ret
    refine ⟨?_, ?_⟩
    · rw [HF.out.1]; rfl
    · rw [HF.out.2]; exact hEnd.out
  · have e1 : freeS sl s h = sl := by unfold freeS; rw [if_neg hf]
    have hEnd := hide (left_same HS.out O2)
    have HE1 := hide e1
    unfold ptrOf
    rw [if_neg hf]
    generalize hF : fnd sl s h = F at hf ⊢
    have HF := hide hF
    clear e1 hF ha HO o2 r0 r1 h2 hV O2 hb
    go_wp2
    go_ret
    refine ⟨?_, ?_⟩
    · rw [HF.out]; rfl
    · rw [HE1.out]; exact hEnd.out
end Go.Proofs.Ytnfaaaehpfddgaa
