/- The reference's functions, each for any state of it, beside the keeper's. -/
import Derived.Test.YtajeifeigjggoaaRa
namespace Go.Proofs.Ytajeifeigjggoaa
open Go.RowKit Go.Maps Mem
set_option linter.unusedVariables false

theorem rf_rv {w : World} {B r now d : Nat} {p : List Nat} {its : List (Int × Nat)} (h : Rf w B r now p its d) : (∃ vp vi vn vg, RV w B r (now : Int) vp vi vn vg (nums p) (its.map fun x => Value.int .i64 x.1) (its.map fun x => Value.int .i64 (x.2 : Int)) (goneRow d its.length)) ∧ d ≤ its.length := by
  obtain ⟨P1, c1, I2, c2, N3, c3, G4, c4, hb, h1, h2, h3, h4, n1, n2, hd, hr, hB⟩ := h
  refine ⟨⟨_, _, _, _, hb, ?_, ?_, ?_, ?_, fun k hk => (n1 k hk).1, fun k hk => (n1 k hk).2, n2, hr, hB⟩, hd⟩
  · simpa [nums] using h1
  · simpa using h2
  · simpa using h3
  · rw [gone_len hd]; exact h4
theorem rv_rf {w : World} {B r now d : Nat} {p : List Nat} {its : List (Int × Nat)} {vp vi vn vg : Value} (h : RV w B r (now : Int) vp vi vn vg (nums p) (its.map fun x => Value.int .i64 x.1) (its.map fun x => Value.int .i64 (x.2 : Int)) (goneRow d its.length)) (hd : d ≤ its.length) : Rf w B r now p its d := by
  have h1 := h.op
  have h2 := h.oi
  have h3 := h.on
  have h4 := h.og
  rw [show (nums p).length = p.length by simp [nums]] at h1
  rw [List.length_map] at h2 h3
  rw [gone_len hd] at h4
  obtain ⟨P1, c1, rfl, _⟩ := own_form h1
  obtain ⟨I2, c2, rfl, _⟩ := own_form h2
  obtain ⟨N3, c3, rfl, _⟩ := own_form h3
  obtain ⟨G4, c4, rfl, _⟩ := own_form h4
  exact ⟨P1, c1, I2, c2, N3, c3, G4, c4, h.blk, h1, h2, h3, h4, fun k hk => ⟨h.pi k hk, h.pn k hk⟩, h.in_, hd, h.lo, h.sz⟩

theorem rf_fr {T} {w w' : World} {B r now d : Nat} {p : List Nat} {its : List (Int × Nat)} (h : Rf w B r now p its d) (hf : Fr T w w') (hT : ∀ o, IT o → ¬ T o) : Rf w' B r now p its d := by
  obtain ⟨P1, c1, I2, c2, N3, c3, G4, c4, hb, h1, h2, h3, h4, n1, n2, hd, hr, hB⟩ := h
  exact ⟨P1, c1, I2, c2, N3, c3, G4, c4, hf.block _ _ hb (hT _ ⟨_, _, _, rfl, .inr (.inr rfl)⟩), own_fr h1 hf (fun cs fr => hT _ ⟨_, _, _, rfl, .inl rfl⟩), own_fr h2 hf (fun cs fr => hT _ ⟨_, _, _, rfl, .inl rfl⟩), own_fr h3 hf (fun cs fr => hT _ ⟨_, _, _, rfl, .inl rfl⟩), own_fr h4 hf (fun cs fr => hT _ ⟨_, _, _, rfl, .inr (.inl rfl)⟩), n1, n2, hd, hr, Nat.le_trans hB hf.size⟩

/-- what a call of the reference leaves -/
def RLeft (w : World) (B r now : Nat) (p : List Nat) (its : List (Int × Nat)) (d : Nat) (w' : World) : Prop := Rf w' B r now p its d ∧ Fr IT w w' ∧ Below B w w'

variable {w : World} {B r now d : Nat} {p : List Nat} {its : List (Int × Nat)}
theorem rf_lo (h : Rf w B r now p its d) : B ≤ w.heap.size := by
  obtain ⟨_, _, _, _, _, _, _, _, _, _, _, _, _, _, _, _, _, hB⟩ := h
  exact hB
theorem rleft_refl (h : Rf w B r now p its d) : RLeft w B r now p its d w := ⟨h, Fr.refl _ _, Below.refl _ _⟩

theorem refpin_all (h : Rf w B r now p its d) (hn : p.length ≤ 4294967) : Calls Try.prog 19 #[.pointer (some ⟨r, 0, none⟩)] w fun e w' => e = .returned (.tuple #[.int .i64 (pinT p), .int .i64 (pinE p)]) ∧ RLeft w B r now (pinS now p) its d w' := by
  unfold pinT pinE pinS
  by_cases hc : 64 ≤ cnt p
  · rw [if_pos hc, if_pos hc, if_pos hc]
    refine (refpin_full h (by omega) hc).mono ?_
    rintro e w' ⟨rfl, rfl⟩
    exact ⟨rfl, rleft_refl h⟩
  · rw [if_neg hc, if_neg hc, if_neg hc]
    exact refpin_ok h hn (by omega)

theorem refunpin_all (t : Int) (h : Rf w B r now p its d) (hn : p.length ≤ 4294967) (hp : ∀ y ∈ p, y ≤ 4294967296) : Calls Try.prog 20 #[.pointer (some ⟨r, 0, none⟩), .int .i64 t] w fun e w' => e = .returned (.int .i64 (unpE p t)) ∧ RLeft w B r now (unpS p t) its d w' := by
  by_cases hc : t < 1 ∨ (p.length : Int) < t
  · have hl : look p t = none := by unfold look; rw [if_neg (by omega)]
    rw [unpE, unpS, if_pos hc, hl]
    refine (refunpin_bad t h (by omega) hc).mono ?_
    rintro e w' ⟨rfl, rfl⟩
    exact ⟨rfl, rleft_refl h⟩
  · obtain ⟨n, rfl⟩ : ∃ n : Nat, t = n := ⟨t.toNat, by omega⟩
    rw [unpE, unpS, if_neg hc]
    by_cases hz : p.getD (n - 1) 0 = 0
    · have hl : look p n = none := by
        unfold look
        rw [if_neg (by rw [Int.toNat_natCast, hz]; omega)]
      rw [hl]
      refine (refunpin_gone n h (by omega) (by omega) (by omega) hz).mono ?_
      rintro e w' ⟨rfl, rfl⟩
      exact ⟨rfl, rleft_refl h⟩
    · have hlt : n - 1 < p.length := by omega
      have hg : p[n - 1]? = some (p.getD (n - 1) 0) := by rw [List.getD, List.getElem?_eq_getElem hlt]; rfl
      have hl : look p n = some (p.getD (n - 1) 0) := by
        unfold look
        rw [Int.toNat_natCast, if_pos ⟨by omega, by omega, by omega⟩]
      rw [hl]
      exact refunpin_ok n h (by omega) (by omega) (by omega) hg (by omega) (hp _ (List.mem_of_getElem? hg))

theorem refretire_all (x : Int) (h : Rf w B r now p its d) (hn : its.length ≤ 2000000) : Calls Try.prog 21 #[.pointer (some ⟨r, 0, none⟩), .int .i64 x] w fun e w' => e = .returned (.tuple #[]) ∧ RLeft w B r now p (its ++ [(x, now)]) d w' := by
  obtain ⟨⟨vp, vi, vn, vg, hv⟩, hd⟩ := rf_rv h
  refine (retire_ref x hv (by simpa using hn) (by simpa using hn) (by rw [gone_len hd]; exact hn)).mono ?_
  rintro e w' ⟨rfl, ⟨vi', vn', vg', h'⟩, hf, hb⟩
  refine ⟨rfl, rv_rf (vp := vp) (vi := vi') (vn := vn') (vg := vg') ?_ (by simp; omega), hf, hb⟩
  have e1 : goneRow d its.length ++ [Value.bool false] = goneRow d (its ++ [(x, now)]).length := by
    unfold goneRow
    rw [List.length_append, show (its.length + [(x, now)].length) - d = (its.length - d) + 1 by simp; omega, List.append_assoc, List.replicate_succ']
  rw [← e1]
  simpa using h'

theorem takeWhile_at {α} (f : α → Bool) : ∀ (l : List α) (i : Nat) (x : α), l[i]? = some x → i < (l.takeWhile f).length → f x = true
  | [], i, x, h, _ => by simp at h
  | y :: r, i, x, h, hl => by
    rw [List.takeWhile_cons] at hl
    split at hl
    · next hy =>
      cases i with
      | zero => simp at h; subst h; exact hy
      | succ i => exact takeWhile_at f r i x (by simpa using h) (by simpa using hl)
    · simp at hl
theorem takeWhile_stop {α} (f : α → Bool) : ∀ (l : List α) (x : α), l[(l.takeWhile f).length]? = some x → f x = false
  | [], x, h => by simp at h
  | y :: r, x, h => by
    rw [List.takeWhile_cons] at h
    split at h
    · exact takeWhile_stop f r x (by simpa using h)
    · next hy => simp at h; subst h; simpa using hy

/-- kinds that Advance turns -/
def JT (o : Obj) : Prop := ∃ cs t fr, o = .cells cs t fr ∧ (t = 4 ∨ t = 49)
theorem JT2 (cs : Array Value) (fr : Nat × Nat) : ¬ JT (.cells cs 2 fr) := by
  rintro ⟨_, _, _, e, ht⟩
  cases e
  rcases ht with h | h <;> cases h
def Sorted (its : List (Int × Nat)) : Prop := ∀ (i j : Nat) (x y : Int × Nat), its[i]? = some x → its[j]? = some y → i ≤ j → x.2 ≤ y.2

theorem refadvance_all (h : Rf w B r now p its d) (hs : Sorted its) (hn : now ≤ 4294967296) (hp0 : p.length ≤ 4294967) (hi0 : its.length ≤ 2000000) (hp1 : ∀ y ∈ p, y ≤ 4294967296) (hi1 : ∀ x ∈ its, x.2 ≤ 4294967296) :
    Calls Try.prog 22 #[.pointer (some ⟨r, 0, none⟩)] w fun e w' => ∃ A c, e = .returned (.tuple #[.slice A (advO now p (its.drop d)).length c, .int .i64 (advE now p)]) ∧
      w'.ownsRow w.heap.size 2 1 (.slice A (advO now p (its.drop d)).length c) (advO now p (its.drop d)).length (outs (advO now p (its.drop d))) ∧ RLeft w B r (advN now p) p its (d + (advO now p (its.drop d)).length) w' ∧ Fr JT w w' := by
  obtain ⟨⟨vp, vi, vn, vg, hv⟩, hd⟩ := rf_rv h
  have hdl : (due now (its.drop d)).length ≤ its.length - d := by
    have := (List.takeWhile_prefix (l := its.drop d) (fun x : Int × Nat => decide (x.2 + 1 ≤ now))).length_le
    unfold due
    rw [List.length_drop] at this
    exact this
  refine (adv_ref (e := d + (due now (its.drop d)).length) hv (by omega) (by omega) ?_ ?_ hn (by omega) hi0 hp1 hi1).mono ?_
  · intro i x hx hdi hie
    have hx' : (its.drop d)[i - d]? = some x := by rw [List.getElem?_drop, show d + (i - d) = i by omega]; exact hx
    have := takeWhile_at _ _ _ _ hx' (show i - d < (due now (its.drop d)).length by omega)
    simpa using this
  · intro i x hx hie
    have hil : i < its.length := (List.getElem?_eq_some_iff.1 hx).1
    have hy : its[d + (due now (its.drop d)).length]? = some its[d + (due now (its.drop d)).length] := List.getElem?_eq_getElem (by omega)
    have hst := takeWhile_stop (fun x : Int × Nat => decide (x.2 + 1 ≤ now)) (its.drop d) its[d + (due now (its.drop d)).length] (by rw [List.getElem?_drop]; exact hy)
    have := hs _ _ _ _ hy hx hie
    simp at hst
    omega
  · have htk : (its.drop d).take (due now (its.drop d)).length = due now (its.drop d) := by
      have := List.prefix_iff_eq_take.1 (List.takeWhile_prefix (l := its.drop d) (fun x : Int × Nat => decide (x.2 + 1 ≤ now)))
      exact this.symm
    rintro e w' (⟨hb, rfl, ho⟩ | ⟨hb, A, c, rfl, hA, hv', ho⟩)
    · rw [advO, advE, advN, if_pos hb, if_pos hb, if_pos hb]
      exact ⟨none, 0, rfl, World.ownsRow_nil _ _ _ _, ⟨rv_rf (hv.same ho) hd, Fr.ofOnly ho (fun k hk => hk.elim), ho.below (fun k _ hk => hk.elim) hv.sz⟩, Fr.ofOnly ho (fun k hk => hk.elim)⟩
    · have hb' : ¬ busy now p = true := by rw [hb]; simp
      rw [advO, advE, advN, if_neg hb', if_neg hb', if_neg hb']
      rw [show d + (due now (its.drop d)).length - d = (due now (its.drop d)).length by omega] at hA
      rw [htk] at hA
      refine ⟨A, c, by rw [show d + (due now (its.drop d)).length - d = (due now (its.drop d)).length by omega], hA, ⟨rv_rf (by simpa using hv') (by omega), Fr.ofOnly ho ?_, ho.below ?_ hv.sz⟩, Fr.ofOnly ho ?_⟩
      · rintro k (rfl | hk)
        · exact ⟨_, hv.blk, _, _, _, rfl, .inr (.inr rfl)⟩
        · rcases hv.og.2 with ⟨e1, e2⟩ | ⟨g', cap, cur, e1, _, hh, _⟩
          · rw [e1] at hk; cases hk
          · rw [e1] at hk
            cases hk
            exact ⟨_, hh, _, _, _, rfl, .inr (.inl rfl)⟩
      · rintro k _ (rfl | hk)
        · exact hv.lo
        · exact own_lo hv.og hk
      · rintro k (rfl | hk)
        · exact ⟨_, hv.blk, _, _, _, rfl, .inr rfl⟩
        · rcases hv.og.2 with ⟨e1, e2⟩ | ⟨g', cap, cur, e1, _, hh, _⟩
          · rw [e1] at hk; cases hk
          · rw [e1] at hk
            cases hk
            exact ⟨_, hh, _, _, _, rfl, .inl rfl⟩
end Go.Proofs.Ytajeifeigjggoaa
