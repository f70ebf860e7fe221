/- Get, Set and Free of a slab. -/
import Derived.Test.YtnfaaaehpfddgaaFi
namespace Go.Proofs.Ytnfaaaehpfddgaa
open Go.RowKit Mem
set_option linter.unusedVariables false

theorem fnd_ok {sl : List S3} {s h : Int} (e : fnd sl s h = 0) : ∃ (k z0 : Nat) (z1 : Int), s = (k : Int) ∧ h = (z0 : Int) ∧ 1 ≤ z0 ∧ k < sl.length ∧ sl[k]? = some (z0, z1, true) := by
  by_cases h1 : s < 0
  · unfold fnd at e
    rw [if_pos h1] at e
    cases e
  · obtain ⟨k, rfl⟩ : ∃ k : Nat, s = k := ⟨s.toNat, by omega⟩
    unfold fnd at e
    rw [if_neg h1, Int.toNat_natCast] at e
    cases hs : sl[k]? with
    | none => rw [hs] at e; cases e
    | some x =>
      obtain ⟨z0, z1, z2⟩ := x
      rw [hs] at e
      dsimp only at e
      by_cases h2 : h < 1 ∨ (z0 : Int) < h
      · rw [if_pos h2] at e; cases e
      · rw [if_neg h2] at e
        by_cases h3 : z2 = false ∨ (z0 : Int) ≠ h
        · rw [if_pos h3] at e; cases e
        · obtain ⟨h4, h5⟩ := not_or.1 h3
          have hz : z2 = true := by simpa using h4
          subst hz
          have hh : (z0 : Int) = h := by simpa using h5
          exact ⟨k, z0, z1, rfl, hh.symm, by omega, (List.getElem?_eq_some_iff.1 hs).1, hs⟩
theorem fnd_at {sl : List S3} {k z0 : Nat} {z1 : Int} (hs : sl[k]? = some (z0, z1, true)) (h1 : 1 ≤ z0) : fnd sl k z0 = 0 := by
  unfold fnd
  rw [if_neg (by omega), Int.toNat_natCast, hs]
  simp
  omega
def valOf (sl : List S3) (s : Int) : Int := match sl[s.toNat]? with
  | some x => x.2.1
  | none => 0
def getV (sl : List S3) (s h : Int) : Int := if fnd sl s h = 0 then valOf sl s else 0
def setS (sl : List S3) (s h x : Int) : List S3 := if fnd sl s h = 0 then sl.set s.toNat (h.toNat, x, true) else sl
def freeS (sl : List S3) (s h : Int) : List S3 := if fnd sl s h = 0 then sl.set s.toNat (h.toNat, 0, false) else sl

theorem slot_row {w : World} {B n c : Nat} {A : Option Addr} {xs : List Value} (h : w.ownsRow B 63 3 (.slice A n c) n xs) : ∃ b, 0 < n → A = some ⟨b, 0, none⟩ := by
  rcases h.2 with ⟨_, e2⟩ | ⟨g', cap, cur, e1, _⟩
  · exact ⟨0, fun hn => absurd e2 (by omega)⟩
  · cases e1
    exact ⟨g', fun _ => rfl⟩

theorem get_any {w : World} {B g : Nat} {most : Int} {sl : List S3} (s h : Int) (hS : Sl w B g most sl) (hn : sl.length ≤ 4294967296) :
    Calls Try.prog 14 #[.pointer (some ⟨g, 0, none⟩), .agg #[.int .i64 s, .int .i64 h]] w fun e w' => e = .returned (.tuple #[.int .i64 (getV sl s h), .int .i64 (fnd sl s h)]) ∧ Only (fun _ => False) w w' := by
  obtain ⟨V, v, fr, hV⟩ := hS
  obtain ⟨A, c, rfl, _⟩ := own_form hV.own
  obtain ⟨b, hA⟩ := slot_row hV.own
  have ha := slv_alloc hV (.cells #[.int .i64 s, .int .i64 h] 29)
  have hb := Blk.new w 29 #[.int .i64 s, .int .i64 h]
  have r0 : (w.alloc (.cells #[.int .i64 s, .int .i64 h] 29)).cell? ⟨w.heap.size, 0, none⟩ = some (.int .i64 s) := by rw [hb.cell]; rfl
  have r1 : (w.alloc (.cells #[.int .i64 s, .int .i64 h] 29)).cell? ⟨w.heap.size, 1, none⟩ = some (.int .i64 h) := by rw [hb.cell]; rfl
  have HO : Hid (Only (fun _ => False) w (w.alloc (.cells #[.int .i64 s, .int .i64 h] 29))) := (Only.refl (fun _ => False) w).alloc _
  clear hb hV
  go_enter Try.func14, Try.ntmps14
  go_wp2_with fail
  refine (find_any s h ha hA hn).mono ?_
  rintro e w2 ⟨rfl, o2⟩
  have hoV := own_only ha.own o2 (fun _ _ => id)
  have HO2 := hide (HO.out.trans o2 (fun _ _ h => h))
  by_cases hf : fnd sl s h = 0
  · obtain ⟨k, z0, z1, rfl, rfl, hz, hk, hs⟩ := fnd_ok hf
    obtain rfl := hA (by omega)
    have hc := own_at hoV (scells_at hs).2.1
    have e1 : getV sl k z0 = z1 := by unfold getV valOf; rw [if_pos hf, Int.toNat_natCast, hs]
    have HE1 := hide e1
    have HF := hide hf
    unfold ptrOf
    rw [hf, if_pos rfl, Int.toNat_natCast]
    dsimp only at hc
    clear e1 hf hs ha hoV HO o2 r0 r1
    go_wp2
    go_ret2
    refine ⟨?_, HO2.out⟩
    rw [HE1.out, HF.out]
    rfl
  · have e1 : getV sl s h = 0 := by unfold getV; rw [if_neg hf]
    have HE1 := hide e1
    unfold ptrOf
    rw [if_neg hf]
    generalize hF : fnd sl s h = F at hf ⊢
    have HF := hide hF
    clear e1 hF ha hoV HO o2 r0 r1
    go_wp2
    go_ret2
    refine ⟨?_, HO2.out⟩
    rw [HE1.out, HF.out]
    rfl

theorem set_any {w : World} {B g : Nat} {most : Int} {sl : List S3} (s h x : Int) (hS : Sl w B g most sl) (hn : sl.length ≤ 4294967296) :
    Calls Try.prog 19 #[.pointer (some ⟨g, 0, none⟩), .agg #[.int .i64 s, .int .i64 h], .int .i64 x] w fun e w' => e = .returned (.int .i64 (fnd sl s h)) ∧ Left w B g most (setS sl s h x) w' := by
  have HS := hide hS
  obtain ⟨V, v, fr, hV⟩ := hS
  obtain ⟨A, c, rfl, _⟩ := own_form hV.own
  obtain ⟨b, hA⟩ := slot_row hV.own
  have ha := slv_alloc hV (.cells #[.int .i64 s, .int .i64 h] 29)
  have hb := Blk.new w 29 #[.int .i64 s, .int .i64 h]
  have r0 : (w.alloc (.cells #[.int .i64 s, .int .i64 h] 29)).cell? ⟨w.heap.size, 0, none⟩ = some (.int .i64 s) := by rw [hb.cell]; rfl
  have r1 : (w.alloc (.cells #[.int .i64 s, .int .i64 h] 29)).cell? ⟨w.heap.size, 1, none⟩ = some (.int .i64 h) := by rw [hb.cell]; rfl
  have HO : Hid (Only (fun _ => False) w (w.alloc (.cells #[.int .i64 s, .int .i64 h] 29))) := (Only.refl (fun _ => False) w).alloc _
  clear hb
  go_enter Try.func19, Try.ntmps19
  go_wp2_with fail
  refine (find_any s h ha hA hn).mono ?_
  rintro e w2 ⟨rfl, o2⟩
  have O2 := HO.out.trans o2 (fun _ _ h => h)
  have h2 := slv_same hV O2
  by_cases hf : fnd sl s h = 0
  · obtain ⟨k, z0, z1, rfl, rfl, hz, hk, hs⟩ := fnd_ok hf
    obtain rfl := hA (by omega)
    have hc := own_at h2.own (scells_at hs).2.1
    have hp := h2.own.frozenAt (k * 3 + 1)
    have e1 : setS sl k z0 x = sl.set k (z0, x, true) := by unfold setS; rw [if_pos hf, Int.toNat_natCast, Int.toNat_natCast]
    have oV := (h2.own.stored (k * 3 + 1) (.int .i64 x)).1
    have hsc : (scells sl).set (k * 3 + 1) (.int .i64 x) = scells (sl.set k (z0, x, true)) := by
      rw [← scells_set]
      obtain ⟨a0, _, a2⟩ := scells_at hs
      dsimp only at a0 a2
      apply List.ext_getElem?
      intro j
      simp only [List.getElem?_set]
      by_cases j0 : k * 3 = j
      · subst j0
        simp
        rw [a0]
        have := (List.getElem?_eq_some_iff.1 a0).1
        simp [this]
      · by_cases j2 : k * 3 + 2 = j
        · subst j2
          simp
          rw [a2]
          have := (List.getElem?_eq_some_iff.1 a2).1
          simp [this]
        · simp [j0, j2]
    rw [hsc] at oV
    have Os := (Only.refl (fun y => y = b) w2).setCell (p := ⟨b, k * 3 + 1, none⟩) (.inl rfl) (.int .i64 x)
    have hlv : lives (sl.set k (z0, x, true)) = lives sl := by have := lives_set (z0, x, true) hs; simpa using this
    have hEnd : Hid (Left w B g most (sl.set k (z0, x, true)) (w2.setCell ⟨b, k * 3 + 1, none⟩ (.int .i64 x))) := by
      refine ⟨⟨.slice (some ⟨b, 0, none⟩) sl.length c, v, fr, ⟨⟨?_, h2.fre.fld, own_only h2.fre.own Os (fun y hy e => own_own_ne h2.fre.own h2.own (by decide) y hy (by rw [e]; rfl)), h2.fre.heap⟩, by rw [List.length_set]; exact oV, ?_, by rw [hlv, List.length_set]; exact h2.len, h2.lo, Nat.le_trans h2.sz Os.size⟩⟩, ?_, ?_⟩
      · rw [hlv]; exact h2.fre.blk.only Os (fun e => own_far h2.own h2.fre.blk (by decide) b rfl e.symm)
      · intro u
        rw [isFree_set _ hk, h2.cnt]
        by_cases hu : u = k
        · subst hu
          have : isFree sl u = false := by simp [isFree, hs]
          simp [this]
        · simp [hu]
      · refine (Fr.ofOnly O2 (fun k hk => hk.elim)).trans (.ofOnly Os ?_)
        rintro y rfl
        rcases h2.own.2 with ⟨e1, _⟩ | ⟨g', cap, cur, e1, _, hh, _⟩
        · cases e1
        · cases e1
          exact ⟨_, hh, _, _, _, rfl, .inr (.inl rfl)⟩
      · exact (O2.below (fun _ _ hk => hk.elim) hV.sz).trans (Os.below (fun y _ hy => by rw [hy]; exact own_lo h2.own (k := b) rfl) h2.sz)
    have HE1 := hide e1
    have HF := hide hf
    unfold ptrOf
    rw [hf, if_pos rfl, Int.toNat_natCast]
    dsimp only at hc
    clear e1 hf hs ha HO o2 r0 r1 h2 oV Os hlv hsc O2 hV
    go_wp2
    go_ret
    refine ⟨?_, ?_⟩
    · rw [HF.out]; rfl
    · rw [HE1.out]; exact hEnd.out
  · have e1 : setS sl s h x = sl := by unfold setS; rw [if_neg hf]
    have hEnd := hide (left_same HS.out O2)
    have HE1 := hide e1
    unfold ptrOf
    rw [if_neg hf]
    generalize hF : fnd sl s h = F at hf ⊢
    have HF := hide hF
    clear e1 hF ha HO o2 r0 r1 h2 hV O2
    go_wp2
    go_ret
    refine ⟨?_, ?_⟩
    · rw [HF.out]; rfl
    · rw [HE1.out]; exact hEnd.out
end Go.Proofs.Ytnfaaaehpfddgaa
