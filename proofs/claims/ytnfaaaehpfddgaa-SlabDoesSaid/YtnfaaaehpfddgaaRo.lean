/- The reference's Put. -/
import Derived.Test.YtnfaaaehpfddgaaRg
namespace Go.Proofs.Ytnfaaaehpfddgaa
open Go.RowKit Mem
set_option linter.unusedVariables false

theorem refput_full {w : World} {B r : Nat} {most : Int} {rl : List S3} (x : Int) (h : Rs w B r most rl) (hf : most ≤ lives rl) (hn : rl.length ≤ 4294967296) :
    Calls Try.prog 17 #[.pointer (some ⟨r, 0, none⟩), .int .i64 x] w fun e w' => e = .returned (.tuple #[.agg #[.int .i64 0, .int .i64 0], .int .i64 8]) ∧ RLeft w B r most rl w' := by
  have HS := hide h
  have ha := h.alloc (.cells #[.int .i64 0, .int .i64 0] 29)
  have f0 : (w.alloc (.cells #[.int .i64 0, .int .i64 0] 29)).cell? ⟨r, 0, none⟩ = some (.int .i64 most) := by
    obtain ⟨a, b, c, hv⟩ := ha
    rw [hv.blk.cell]; rfl
  have C22 : Hid (∀ n, Calls Try.prog 22 #[.pointer (some ⟨r, 0, none⟩)] ((w.alloc (.cells #[.int .i64 0, .int .i64 0] 29)).drewN n) fun e w'' => e = .returned (.int .i64 (lives rl : Int)) ∧ ∃ m, w'' = (w.alloc (.cells #[.int .i64 0, .int .i64 0] 29)).drewN m) := by
    intro n
    refine (refcount_any (ha.drewN n) hn).mono ?_
    rintro e w' ⟨rfl, rfl⟩
    exact ⟨rfl, n, rfl⟩
  clear ha h
  go_enter Try.func17, Try.ntmps17
  go_wp2
  go_quiet ((go_at_call 22; exact C22.out _))
  go_wp2
  have hb := ((((Blk.new w 29 #[.int .i64 0, .int .i64 0]).drewN nq).set_ 0 (.int .i64 0)).set_ 1 (.int .i64 0))
  refine bodyPost_ret (results_row_tmp rfl _ _ w.heap.size 29 #[.int .i64 0, .int .i64 0] _ rfl (by simpa using hb) Try.underlying29 rfl (by kernel_rfl)) rfl ?_
  refine ⟨rfl, rleft_same HS.out ?_⟩
  exact ((((Only.refl (fun _ => False) w).alloc _).drewN nq).setCell (.inr (Nat.le_refl _)) _).setCell (.inr (Nat.le_refl _)) _

/-- the reference with its result's cell, behind w0 -/
structure RsR (w0 w : World) (B r R : Nat) (most : Int) (nG nV nL : Nat) (vG vV vL : Value) (xG xV xL : List Value) (cR : Array Value) : Prop where
  blk : Blk w r 53 #[.int .i64 most, vG, vV, vL]
  oG : w.ownsRow B 2 1 vG nG xG
  oV : w.ownsRow B 2 1 vV nV xV
  oL : w.ownsRow B 4 1 vL nL xL
  sep : ∀ k, vG.ownBlock = some k → ¬ vV.ownBlock = some k
  lo : B ≤ r
  sz : B ≤ w.heap.size
  rb : Blk w R 29 cR
  f : Fr RT w0 w
  b : Below B w0 w
section
variable {w0 w w' : World} {B r R n m nG nV nL : Nat} {most : Int} {vG vV vL v : Value} {xG xV xL ys : List Value} {cR : Array Value}
theorem RsR.alloc (h : RsR w0 w B r R most nG nV nL vG vV vL xG xV xL cR) (o : Obj) : RsR w0 (w.alloc o) B r R most nG nV nL vG vV vL xG xV xL cR :=
  ⟨h.blk.alloc o, h.oG.alloc o, h.oV.alloc o, h.oL.alloc o, h.sep, h.lo, Nat.le_trans h.sz (by simp), h.rb.alloc o, h.f.alloc o, h.b.alloc h.sz o⟩
theorem rsr_frame {e : Nat} {u : Value} {xs : List Value} {k : Nat} (h : RsR w0 w B r R most nG nV nL vG vV vL xG xV xL cR) (ho : w.ownsRow B e 1 u k xs) (he : e = 2 ∨ e = 4) (hg : w.grownBy w' u.ownBlock) (c : Nat) (y : Value) :
    Blk (w'.setCell ⟨r, c, none⟩ y) R 29 cR ∧ Fr RT w0 (w'.setCell ⟨r, c, none⟩ y) ∧ Below B w0 (w'.setCell ⟨r, c, none⟩ y) ∧ B ≤ (w'.setCell ⟨r, c, none⟩ y).heap.size ∧ Blk w' r 53 #[.int .i64 most, vG, vV, vL] ∧ Only (fun k => k = r) w' (w'.setCell ⟨r, c, none⟩ y) := by
  have G1 := h.blk.grown hg (fun e1 => own_blk_ne ho h.blk (by rcases he with rfl | rfl <;> decide) e1.symm)
  have R1 := h.rb.grown hg (fun e1 => own_blk_ne ho h.rb (by rcases he with rfl | rfl <;> decide) e1.symm)
  have Os := (Only.refl (fun k => k = r) w').setCell (p := ⟨r, c, none⟩) (.inl rfl) y
  have F1 : Fr RT w0 w' := fr_grown h.f ho hg (fun cs fr => ⟨_, _, _, rfl, by rcases he with rfl | rfl; exact .inr (.inl rfl); exact .inr (.inr rfl)⟩)
  have B1 := below_grown h.b h.sz ho hg
  have s1 := Nat.le_trans h.sz hg.size
  exact ⟨R1.only Os (fun e => Blk.ne_ R1 G1 (by decide) e), F1.trans (.ofOnly Os (fun y hy => by rw [hy]; exact ⟨_, G1, _, _, _, rfl, .inl rfl⟩)), B1.trans (Os.below (fun y _ hy => by rw [hy]; exact h.lo) s1), Nat.le_trans s1 Os.size, G1, Os⟩
theorem RsR.appG (h : RsR w0 w B r R most nG nV nL vG vV vL xG xV xL cR) (hg : w.grownBy w' vG.ownBlock) (ho : w'.ownsRow B 2 1 v m ys) (hb : v.ownBlock = vG.ownBlock ∨ v.ownBlock = some w.heap.size) : RsR w0 (w'.setCell ⟨r, 1, none⟩ v) B r R most m nV nL v vV vL ys xV xL cR := by
  obtain ⟨a1, a2, a3, a4, G1, Os⟩ := rsr_frame h h.oG (.inl rfl) hg 1 v
  have G2 := G1.set_ 1 v
  have q2 := own_grown h.oV hg (fun k hk e => h.sep k e hk)
  have q3 := own_grown h.oL hg (own_own_ne h.oL h.oG (by decide))
  exact ⟨by simpa using G2, own_only ho Os (own_far ho G1 (by decide)), own_only q2 Os (own_far q2 G1 (by decide)), own_only q3 Os (own_far q3 G1 (by decide)), fun k hk hk' => new_ne (fun k => own_lt h.oV) (fun k hk e => h.sep k e hk) hb k hk' hk, h.lo, a4, a1, a2, a3⟩
theorem RsR.appV (h : RsR w0 w B r R most nG nV nL vG vV vL xG xV xL cR) (hg : w.grownBy w' vV.ownBlock) (ho : w'.ownsRow B 2 1 v m ys) (hb : v.ownBlock = vV.ownBlock ∨ v.ownBlock = some w.heap.size) : RsR w0 (w'.setCell ⟨r, 2, none⟩ v) B r R most nG m nL vG v vL xG ys xL cR := by
  obtain ⟨a1, a2, a3, a4, G1, Os⟩ := rsr_frame h h.oV (.inl rfl) hg 2 v
  have G2 := G1.set_ 2 v
  have q2 := own_grown h.oG hg h.sep
  have q3 := own_grown h.oL hg (own_own_ne h.oL h.oV (by decide))
  exact ⟨by simpa using G2, own_only q2 Os (own_far q2 G1 (by decide)), own_only ho Os (own_far ho G1 (by decide)), own_only q3 Os (own_far q3 G1 (by decide)), new_ne (fun k => own_lt h.oG) h.sep hb, h.lo, a4, a1, a2, a3⟩
theorem RsR.appL (h : RsR w0 w B r R most nG nV nL vG vV vL xG xV xL cR) (hg : w.grownBy w' vL.ownBlock) (ho : w'.ownsRow B 4 1 v m ys) : RsR w0 (w'.setCell ⟨r, 3, none⟩ v) B r R most nG nV m vG vV v xG xV ys cR := by
  obtain ⟨a1, a2, a3, a4, G1, Os⟩ := rsr_frame h h.oL (.inr rfl) hg 3 v
  have G2 := G1.set_ 3 v
  have q2 := own_grown h.oG hg (own_own_ne h.oG h.oL (by decide))
  have q3 := own_grown h.oV hg (own_own_ne h.oV h.oL (by decide))
  exact ⟨by simpa using G2, own_only q2 Os (own_far q2 G1 (by decide)), own_only q3 Os (own_far q3 G1 (by decide)), own_only ho Os (own_far ho G1 (by decide)), h.sep, h.lo, a4, a1, a2, a3⟩
theorem rsr_set {e b c k : Nat} {u : Value} {xs : List Value} (h : RsR w0 w B r R most nG nV nL vG vV vL xG xV xL cR) (ho : w.ownsRow B e 1 (.slice (some ⟨b, 0, none⟩) n c) n xs) (he : e = 2 ∨ e = 4) (y : Value) :
    Blk (w.setCell ⟨b, k, none⟩ y) r 53 #[.int .i64 most, vG, vV, vL] ∧ Blk (w.setCell ⟨b, k, none⟩ y) R 29 cR ∧ Fr RT w0 (w.setCell ⟨b, k, none⟩ y) ∧ Below B w0 (w.setCell ⟨b, k, none⟩ y) ∧ B ≤ (w.setCell ⟨b, k, none⟩ y).heap.size ∧ Only (fun z => z = b) w (w.setCell ⟨b, k, none⟩ y) := by
  have Os := (Only.refl (fun z => z = b) w).setCell (p := ⟨b, k, none⟩) (.inl rfl) y
  have hbk : ∃ o, w.heap[b]? = some o ∧ RT o := by
    rcases ho.2 with ⟨e1, _⟩ | ⟨g', cap, cur, e1, _, hh, _⟩
    · cases e1
    · cases e1
      exact ⟨_, hh, _, _, _, rfl, .inr he⟩
  exact ⟨h.blk.only Os (fun e1 => own_far ho h.blk (by rcases he with rfl | rfl <;> decide) b rfl e1.symm), h.rb.only Os (fun e1 => own_far ho h.rb (by rcases he with rfl | rfl <;> decide) b rfl e1.symm), h.f.trans (.ofOnly Os (fun z hz => by rw [hz]; exact hbk)), h.b.trans (Os.below (fun z _ hz => by rw [hz]; exact own_lo ho (k := b) rfl) h.sz), Nat.le_trans h.sz Os.size, Os⟩
theorem RsR.setG {b c k : Nat} (h : RsR w0 w B r R most nG nV nL (.slice (some ⟨b, 0, none⟩) nG c) vV vL xG xV xL cR) (y : Value) : RsR w0 (w.setCell ⟨b, k, none⟩ y) B r R most nG nV nL (.slice (some ⟨b, 0, none⟩) nG c) vV vL (xG.set k y) xV xL cR := by
  obtain ⟨a1, a2, a3, a4, a5, Os⟩ := rsr_set (k := k) (u := y) h h.oG (.inl rfl) y
  exact ⟨a1, (h.oG.stored k y).1, own_only h.oV Os (fun z hz e => h.sep b rfl (by rw [← e]; exact hz)), own_only h.oL Os (fun z hz e => own_own_ne h.oL h.oG (by decide) z hz (by rw [e]; rfl)), h.sep, h.lo, a5, a2, a3, a4⟩
theorem RsR.setV {b c k : Nat} (h : RsR w0 w B r R most nG nV nL vG (.slice (some ⟨b, 0, none⟩) nV c) vL xG xV xL cR) (y : Value) : RsR w0 (w.setCell ⟨b, k, none⟩ y) B r R most nG nV nL vG (.slice (some ⟨b, 0, none⟩) nV c) vL xG (xV.set k y) xL cR := by
  obtain ⟨a1, a2, a3, a4, a5, Os⟩ := rsr_set (k := k) (u := y) h h.oV (.inl rfl) y
  exact ⟨a1, own_only h.oG Os (fun z hz e => h.sep z hz (by rw [e]; rfl)), (h.oV.stored k y).1, own_only h.oL Os (fun z hz e => own_own_ne h.oL h.oV (by decide) z hz (by rw [e]; rfl)), h.sep, h.lo, a5, a2, a3, a4⟩
theorem RsR.setL {b c k : Nat} (h : RsR w0 w B r R most nG nV nL vG vV (.slice (some ⟨b, 0, none⟩) nL c) xG xV xL cR) (y : Value) : RsR w0 (w.setCell ⟨b, k, none⟩ y) B r R most nG nV nL vG vV (.slice (some ⟨b, 0, none⟩) nL c) xG xV (xL.set k y) cR := by
  obtain ⟨a1, a2, a3, a4, a5, Os⟩ := rsr_set (k := k) (u := y) h h.oL (.inr rfl) y
  exact ⟨a1, own_only h.oG Os (fun z hz e => own_own_ne h.oG h.oL (by decide) z hz (by rw [e]; rfl)), own_only h.oV Os (fun z hz e => own_own_ne h.oV h.oL (by decide) z hz (by rw [e]; rfl)), (h.oL.stored k y).1, h.sep, h.lo, a5, a2, a3, a4⟩
end
theorem ff_before {rl : List S3} {u : Nat} {s : S3} (h : u < ff rl) (hs : rl[u]? = some s) : s.2.2 = true := by
  induction rl generalizing u with
  | nil => simp at hs
  | cons y t ih =>
    unfold ff at h
    by_cases hy : y.2.2 = true
    · rw [if_pos hy] at h
      cases u with
      | zero => simp at hs; subst hs; exact hy
      | succ u => exact ih (u := u) (by omega) (by simpa using hs)
    · rw [if_neg hy] at h
      omega
end Go.Proofs.Ytnfaaaehpfddgaa
