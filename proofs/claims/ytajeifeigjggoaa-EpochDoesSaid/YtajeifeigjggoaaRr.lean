/- The reference's Retire. -/
import Derived.Test.YtajeifeigjggoaaRp
namespace Go.Proofs.Ytajeifeigjggoaa
open Go.RowKit Go.Maps Mem
set_option linter.unusedVariables false

/-- the reference's block with its four rows, of any values -/
structure RV (w : World) (B r : Nat) (now : Int) (vp vi vn vg : Value) (xp xi xn xg : List Value) : Prop where
  blk : Blk w r 49 #[.int .i64 now, vp, vi, vn, vg]
  op : w.ownsRow B 2 1 vp xp.length xp
  oi : w.ownsRow B 2 1 vi xi.length xi
  on : w.ownsRow B 2 1 vn xn.length xn
  og : w.ownsRow B 4 1 vg xg.length xg
  pi : ∀ k, vp.ownBlock = some k → ¬ vi.ownBlock = some k
  pn : ∀ k, vp.ownBlock = some k → ¬ vn.ownBlock = some k
  in_ : ∀ k, vi.ownBlock = some k → ¬ vn.ownBlock = some k
  lo : B ≤ r
  sz : B ≤ w.heap.size

section
variable {w w' : World} {B r n : Nat} {now : Int} {vp vi vn vg v : Value} {xp xi xn xg ys : List Value}
theorem RV.alloc (h : RV w B r now vp vi vn vg xp xi xn xg) (o : Obj) : RV (w.alloc o) B r now vp vi vn vg xp xi xn xg :=
  ⟨h.blk.alloc o, h.op.alloc o, h.oi.alloc o, h.on.alloc o, h.og.alloc o, h.pi, h.pn, h.in_, h.lo, Nat.le_trans h.sz (by simp)⟩
theorem RV.drewN (h : RV w B r now vp vi vn vg xp xi xn xg) (k : Nat) : RV (w.drewN k) B r now vp vi vn vg xp xi xn xg :=
  ⟨h.blk.drewN k, own_drewN h.op k, own_drewN h.oi k, own_drewN h.on k, own_drewN h.og k, h.pi, h.pn, h.in_, h.lo, h.sz⟩

/-- what an append and its store leave, seen from the world ahead of the literal -/
theorem app_fr {w0 : World} {e s n0 : Nat} {xs : List Value} {cs : Array Value} {c : Nat} (h0 : Fr IT w0 w) (hb0 : Below B w0 w) (hb : Blk w r 49 cs) (hB : B ≤ w.heap.size) (hr : B ≤ r) (ho : w.ownsRow B e s v n0 xs) (he : e = 2 ∨ e = 4) (hg : w.grownBy w' v.ownBlock) (hne : ¬ some r = v.ownBlock) (u : Value) :
    Fr IT w0 (w'.setCell ⟨r, c, none⟩ u) ∧ Below B w0 (w'.setCell ⟨r, c, none⟩ u) := by
  have F1 : Fr IT w0 w' := fr_grown h0 ho hg (fun cs fr => ⟨_, _, _, rfl, by rcases he with rfl | rfl; exact .inl rfl; exact .inr (.inl rfl)⟩)
  have G2 := hb.grown hg hne
  have Os := (Only.refl (fun k => k = r) w').setCell (p := ⟨r, c, none⟩) (.inl rfl) u
  refine ⟨F1.trans (.ofOnly Os (fun k hk => ⟨.cells cs 49 (0, 0), by rw [hk]; exact G2, _, _, _, rfl, .inr (.inr rfl)⟩)), ?_⟩
  have b1 := below_grown hb0 hB ho hg
  have hB' : B ≤ w'.heap.size := Nat.le_trans hB hg.size
  exact ⟨Os.os.trans b1.os, Os.tape.trans b1.tape, Os.output.trans b1.output, Nat.le_trans b1.size Os.size, fun k hk => (Os.block k (by omega) (fun e => by have : k = r := e; omega)).trans (b1.block k hk)⟩

theorem new_ne {u : Value} (hu : ∀ k, u.ownBlock = some k → k < w.heap.size) (hd : ∀ k, u.ownBlock = some k → ¬ v.ownBlock = some k) {v' : Value} (hb : v'.ownBlock = v.ownBlock ∨ v'.ownBlock = some w.heap.size) : ∀ k, u.ownBlock = some k → ¬ v'.ownBlock = some k := by
  intro k hk e
  rcases hb with h | h
  · rw [h] at e; exact hd k hk e
  · rw [h] at e; cases e; exact absurd (hu _ hk) (by omega)

theorem RV.app_i (h : RV w B r now vp vi vn vg xp xi xn xg) (hg : w.grownBy w' vi.ownBlock) (hn : n = ys.length) (ho : w'.ownsRow B 2 1 v n ys) (hb : v.ownBlock = vi.ownBlock ∨ v.ownBlock = some w.heap.size) : RV (w'.setCell ⟨r, 2, none⟩ v) B r now vp v vn vg xp ys xn xg := by
  subst hn
  have G2 := h.blk.grown hg (fun e => own_far h.oi h.blk (by decide) r e.symm rfl)
  have G3 := G2.set_ 2 v
  have Os := (Only.refl (fun k => k = r) w').setCell (p := ⟨r, 2, none⟩) (.inl rfl) v
  have q1 := own_grown h.op hg h.pi
  have q3 := own_grown h.on hg (fun k hk e => h.in_ k e hk)
  have q4 := own_grown h.og hg (fun k hk e => own_own_ne h.og h.oi (by decide) k hk e)
  refine ⟨by simpa using G3, own_only q1 Os (own_far q1 G2 (by decide)), own_only ho Os (own_far ho G2 (by decide)), own_only q3 Os (own_far q3 G2 (by decide)), own_only q4 Os (own_far q4 G2 (by decide)), new_ne (fun k => own_lt h.op) h.pi hb, h.pn, fun k hk hk' => new_ne (fun k => own_lt h.on) (fun k hk e => h.in_ k e hk) hb k hk' hk, h.lo, Nat.le_trans h.sz (Nat.le_trans hg.size Os.size)⟩
theorem RV.app_n (h : RV w B r now vp vi vn vg xp xi xn xg) (hg : w.grownBy w' vn.ownBlock) (hn : n = ys.length) (ho : w'.ownsRow B 2 1 v n ys) (hb : v.ownBlock = vn.ownBlock ∨ v.ownBlock = some w.heap.size) : RV (w'.setCell ⟨r, 3, none⟩ v) B r now vp vi v vg xp xi ys xg := by
  subst hn
  have G2 := h.blk.grown hg (fun e => own_far h.on h.blk (by decide) r e.symm rfl)
  have G3 := G2.set_ 3 v
  have Os := (Only.refl (fun k => k = r) w').setCell (p := ⟨r, 3, none⟩) (.inl rfl) v
  have q1 := own_grown h.op hg h.pn
  have q2 := own_grown h.oi hg h.in_
  have q4 := own_grown h.og hg (fun k hk e => own_own_ne h.og h.on (by decide) k hk e)
  refine ⟨by simpa using G3, own_only q1 Os (own_far q1 G2 (by decide)), own_only q2 Os (own_far q2 G2 (by decide)), own_only ho Os (own_far ho G2 (by decide)), own_only q4 Os (own_far q4 G2 (by decide)), h.pi, new_ne (fun k => own_lt h.op) h.pn hb, new_ne (fun k => own_lt h.oi) h.in_ hb, h.lo, Nat.le_trans h.sz (Nat.le_trans hg.size Os.size)⟩
theorem RV.app_g (h : RV w B r now vp vi vn vg xp xi xn xg) (hg : w.grownBy w' vg.ownBlock) (hn : n = ys.length) (ho : w'.ownsRow B 4 1 v n ys) : RV (w'.setCell ⟨r, 4, none⟩ v) B r now vp vi vn v xp xi xn ys := by
  subst hn
  have G2 := h.blk.grown hg (fun e => own_far h.og h.blk (by decide) r e.symm rfl)
  have G3 := G2.set_ 4 v
  have Os := (Only.refl (fun k => k = r) w').setCell (p := ⟨r, 4, none⟩) (.inl rfl) v
  have q1 := own_grown h.op hg (fun k hk e => own_own_ne h.op h.og (by decide) k hk e)
  have q2 := own_grown h.oi hg (fun k hk e => own_own_ne h.oi h.og (by decide) k hk e)
  have q3 := own_grown h.on hg (fun k hk e => own_own_ne h.on h.og (by decide) k hk e)
  refine ⟨by simpa using G3, own_only q1 Os (own_far q1 G2 (by decide)), own_only q2 Os (own_far q2 G2 (by decide)), own_only q3 Os (own_far q3 G2 (by decide)), own_only ho Os (own_far ho G2 (by decide)), h.pi, h.pn, h.in_, h.lo, Nat.le_trans h.sz (Nat.le_trans hg.size Os.size)⟩
end
theorem el47 : Elem Try.prog 47 4 (.bool false) 1 1 := ⟨Try.underlying47, by kernel_rfl, rfl, by decide⟩

theorem retire_ref {w : World} {B r : Nat} {now : Int} {vp vi vn vg : Value} {xp xi xn xg : List Value} (x : Int) (h : RV w B r now vp vi vn vg xp xi xn xg) (li : xi.length ≤ 2000000) (ln : xn.length ≤ 2000000) (lg : xg.length ≤ 2000000) :
    Calls Try.prog 21 #[.pointer (some ⟨r, 0, none⟩), .int .i64 x] w fun e w' => e = .returned (.tuple #[]) ∧ (∃ vi' vn' vg', RV w' B r now vp vi' vn' vg' xp (xi ++ [.int .i64 x]) (xn ++ [.int .i64 now]) (xg ++ [.bool false])) ∧ Fr IT w w' ∧ Below B w w' := by
  have f2 : w.cell? ⟨r, 2, none⟩ = some vi := by rw [h.blk.cell]; rfl
  obtain ⟨Ai, ci, rfl, _⟩ := own_form h.oi
  obtain ⟨An, cn, rfl, _⟩ := own_form h.on
  obtain ⟨Ag, cg, rfl, _⟩ := own_form h.og
  go_enter Try.func21, Try.ntmps21
  go_wp2_with (first | (at_builtin; refine pause ?_) | go_in)
  have ha := h.alloc (.cells #[.int .i64 x] 2)
  refine unpause (wpList_app el33 (.tmp 8) (.tmp 10) ha.oi (Reads.lit w #[.int .i64 x] 2 1 1 rfl) (by intro u hu; rcases List.mem_cons.1 hu with rfl | hu; rfl; cases hu) (N := xi.length + 1) (ys := xi ++ [.int .i64 x]) rfl rfl (by unfold maxLen; omega) (by omega) ha.sz rfl rfl rfl rfl ?_)
  intro A1 c1 w1 hown1 hg1 hb1
  have hne1 : ¬ some r = (Value.slice Ai xi.length ci).ownBlock := fun e => own_far ha.oi ha.blk (by decide) r e.symm rfl
  have G1 := ha.blk.grown hg1 hne1
  have p2 : w1.frozen? ⟨r, 2, none⟩ = false := G1.frozen 2
  have k2 : w1.cell? ⟨r, 2, none⟩ = some (.slice Ai xi.length ci) := by rw [G1.cell]; rfl
  have R1 := ha.app_i hg1 (by simp) hown1 hb1
  have FB1 := app_fr (c := 2) (u := .slice A1 (xi.length + 1) c1) ((Fr.refl IT w).alloc (.cells #[.int .i64 x] 2)) ((Below.refl B w).alloc h.sz _) ha.blk ha.sz h.lo ha.oi (.inl rfl) hg1 hne1
  go_wp2
  have hfr1 := hide FB1
  clear FB1 k2 p2 G1 hne1 hb1 hg1 hown1 ha f2 h
  generalize hL1 : xi ++ [Value.int .i64 x] = ys1 at R1 ⊢
  generalize hV1 : Value.slice A1 (xi.length + 1) c1 = v1 at R1 hfr1 ⊢
  generalize w1.setCell ⟨r, 2, none⟩ v1 = W1 at R1 hfr1 ⊢
  have f3 : W1.cell? ⟨r, 3, none⟩ = some (.slice An xn.length cn) := by rw [R1.blk.cell]; rfl
  have f0 : W1.cell? ⟨r, 0, none⟩ = some (.int .i64 now) := by rw [R1.blk.cell]; rfl
  have a2 := R1.alloc (.cells #[.int .i64 now] 2)
  have f3a : (W1.alloc (.cells #[.int .i64 now] 2)).cell? ⟨r, 3, none⟩ = some (.slice An xn.length cn) := by rw [a2.blk.cell]; rfl
  have f3b : (W1.alloc (.cells #[.int .i64 now] 2)).drew.cell? ⟨r, 3, none⟩ = some (.slice An xn.length cn) := by rw [a2.blk.drew.cell]; rfl
  go_region_law (refine step_app el33 (.tmp 18) (.tmp 23) (own_drewN a2.on 1) (lo := W1.heap.size) (hh := W1.heap.size + 1) (A := some ⟨W1.heap.size, 0, none⟩) (m := 1) (c := 1) (Reads.lit W1.drew #[.int .i64 now] 2 1 1 rfl) (fun u hu => by rcases List.mem_cons.1 hu with rfl | hu; rfl; cases hu) (N := xn.length + 1) (ys := xn ++ [.int .i64 now]) rfl rfl (by unfold maxLen; omega) (by omega) (a2.drewN 1).sz rfl rfl rfl rfl ?_; intro A2 c2 w2 hown2 hg2 hb2; have G2 := (a2.blk.drewN 1).grown hg2 (fun e => own_far a2.on a2.blk (by decide) r e.symm rfl); have p3 := G2.frozen 3; have k3 : w2.cell? ⟨r, 3, none⟩ = some (.slice An xn.length cn) := (by rw [G2.cell]; rfl))
  all_goals
    have R2 := (a2.drewN 1).app_n hg2 (by simp) hown2 hb2
    have Bd : Below B W1 ((W1.alloc (.cells #[.int .i64 now] 2)).drewN 1) := (by have b := (Below.refl B W1).alloc R1.sz (.cells #[.int .i64 now] 2); exact ⟨b.os, b.tape, b.output, b.size, b.block⟩)
    have FB2 := app_fr (c := 3) (w := (W1.alloc (.cells #[.int .i64 now] 2)).drewN 1) (u := .slice A2 (xn.length + 1) c2) (((Fr.refl IT W1).alloc (.cells #[.int .i64 now] 2)).drewN 1) Bd (a2.blk.drewN 1) (a2.drewN 1).sz R1.lo (a2.drewN 1).on (.inl rfl) hg2 (fun e => own_far a2.on a2.blk (by decide) r e.symm rfl)
    rename_i K hK
    refine hK _ _ ?_
    have hfr2 := hide FB2
    clear FB2 Bd k3 p3 G2 hb2 hg2 hown2 a2 f3 f0 f3a f3b R1 hK
    generalize hL2 : xn ++ [Value.int .i64 now] = ys2 at R2 ⊢
    generalize hV2 : Value.slice A2 (xn.length + 1) c2 = v2 at R2 hfr2 ⊢
    generalize w2.setCell ⟨r, 3, none⟩ v2 = W2 at R2 hfr2 ⊢
    have f4 : W2.cell? ⟨r, 4, none⟩ = some (.slice Ag xg.length cg) := by rw [R2.blk.cell]; rfl
    go_wp2_with (first | (at_builtin; refine pause ?_) | go_in)
    have ha := R2.alloc (.cells #[.bool false] 4)
    refine unpause (wpList_app el47 (.tmp 31) (.tmp 32) ha.og (Reads.lit W2 #[.bool false] 4 1 1 rfl) (by intro u hu; rcases List.mem_cons.1 hu with rfl | hu; rfl; cases hu) (N := xg.length + 1) (ys := xg ++ [.bool false]) rfl rfl (by unfold maxLen; omega) (by omega) ha.sz rfl rfl rfl rfl ?_)
    intro A3 c3 w3 hown3 hg3 hb3
    have hne3 : ¬ some r = (Value.slice Ag xg.length cg).ownBlock := fun e => own_far ha.og ha.blk (by decide) r e.symm rfl
    have G3 := ha.blk.grown hg3 hne3
    have p4 : w3.frozen? ⟨r, 4, none⟩ = false := G3.frozen 4
    have k4 : w3.cell? ⟨r, 4, none⟩ = some (.slice Ag xg.length cg) := by rw [G3.cell]; rfl
    have R3 := ha.app_g hg3 (by simp) hown3
    have FB3 := app_fr (c := 4) (u := .slice A3 (xg.length + 1) c3) ((Fr.refl IT W2).alloc (.cells #[.bool false] 4)) ((Below.refl B W2).alloc R2.sz _) ha.blk ha.sz R2.lo ha.og (.inr rfl) hg3 hne3
    go_wp2
    refine bodyPost_end (results_none rfl _ _ _) rfl ?_
    subst hL1
    subst hL2
    exact ⟨rfl, ⟨v1, v2, _, R3⟩, (hfr1.out.1.trans hfr2.out.1).trans FB3.1, (hfr1.out.2.trans hfr2.out.2).trans FB3.2⟩
end Go.Proofs.Ytajeifeigjggoaa
