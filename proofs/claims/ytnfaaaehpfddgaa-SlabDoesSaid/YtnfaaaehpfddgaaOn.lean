/- Handles given, in plain Lean: which live, what they lead to. -/
import Derived.Test.YtnfaaaehpfddgaaLaw2
namespace Go.Proofs.Ytnfaaaehpfddgaa
open Go.RowKit Mem
set_option linter.unusedVariables false

/-- a handle that was given: slot, generation, does it live, what was laid there last -/
abbrev Pd := Nat × Nat × Bool × Int
structure PInv (sl : List S3) (ps : List Pd) : Prop where
  at_ : ∀ (i : Nat) (s g : Nat) (lv : Bool) (v : Int), ps[i]? = some (s, g, lv, v) → ∃ z0 z1 z2, sl[s]? = some (z0, z1, z2) ∧ 1 ≤ g ∧ g ≤ z0 ∧ (lv = true → z0 = g ∧ z2 = true ∧ z1 = v) ∧ (lv = false → z0 = g → z2 = false)
  inj : ∀ (i j s g : Nat) (l1 l2 : Bool) (v1 v2 : Int), ps[i]? = some (s, g, l1, v1) → ps[j]? = some (s, g, l2, v2) → i = j
  cnt : lives sl = ps.countP (·.2.2.1)

theorem pinv_nil : PInv [] [] := ⟨fun i s g lv v h => by simp at h, fun i j s g l1 l2 v1 v2 h => by simp at h, rfl⟩

theorem pinv_get {sl : List S3} {ps : List Pd} (h : PInv sl ps) {i s g : Nat} {lv : Bool} {v : Int} (hi : ps[i]? = some (s, g, lv, v)) :
    (lv = true → fnd sl s g = 0 ∧ getV sl s g = v) ∧ (lv = false → fnd sl s g = 24 ∧ getV sl s g = 0) := by
  obtain ⟨z0, z1, z2, hs, h1, h2, h3, h4⟩ := h.at_ i s g lv v hi
  constructor
  · intro e
    obtain ⟨rfl, rfl, rfl⟩ := h3 e
    have hf := fnd_at hs h1
    refine ⟨hf, ?_⟩
    unfold getV valOf
    rw [if_pos hf, Int.toNat_natCast, hs]
  · intro e
    have hf : fnd sl s g = 24 := by
      unfold fnd
      rw [if_neg (by omega), Int.toNat_natCast, hs]
      dsimp only
      rw [if_neg (by omega), if_pos]
      by_cases hz : z0 = g
      · exact .inl (h4 e hz)
      · exact .inr (by omega)
    refine ⟨hf, ?_⟩
    unfold getV
    rw [if_neg (by rw [hf]; decide)]

theorem pinv_new {sl sl' : List S3} {ps : List Pd} {m z : Nat} {x : Int} (h : PInv sl ps) (hm : sl'[m]? = some (z + 1, x, true)) (ho : ∀ u, u ≠ m → sl'[u]? = sl[u]?) (hz : ∀ z0 z1 z2, sl[m]? = some (z0, z1, z2) → z0 = z ∧ z2 = false) (hl : lives sl' = lives sl + 1) :
    PInv sl' (ps ++ [(m, z + 1, true, x)]) := by
  have old : ∀ (i : Nat) (s g : Nat) (lv : Bool) (v : Int), ps[i]? = some (s, g, lv, v) → s = m → g ≤ z := by
    intro i s g lv v hi hs
    obtain ⟨z0, z1, z2, h0, _, h2, _⟩ := h.at_ i s g lv v hi
    rw [hs] at h0
    have := (hz _ _ _ h0).1
    omega
  refine ⟨?_, ?_, ?_⟩
  · intro i s g lv v hi
    by_cases hil : i < ps.length
    · rw [List.getElem?_append_left hil] at hi
      obtain ⟨z0, z1, z2, h0, h1, h2, h3, h4⟩ := h.at_ i s g lv v hi
      by_cases hs : s = m
      · subst hs
        obtain ⟨rfl, rfl⟩ := hz _ _ _ h0
        refine ⟨_, _, _, hm, h1, by omega, fun e => ?_, fun _ e => by omega⟩
        have := (h3 e).2.1
        cases this
      · exact ⟨z0, z1, z2, by rw [ho s hs]; exact h0, h1, h2, h3, h4⟩
    · have hlt := (List.getElem?_eq_some_iff.1 hi).1
      rw [List.length_append] at hlt
      simp only [List.length_cons, List.length_nil] at hlt
      have : i = ps.length := by omega
      subst this
      rw [List.getElem?_append_right (Nat.le_refl _)] at hi
      simp at hi
      obtain ⟨rfl, rfl, rfl, rfl⟩ := hi
      exact ⟨_, _, _, hm, by omega, Nat.le_refl _, fun _ => ⟨rfl, rfl, rfl⟩, fun e => by cases e⟩
  · have last : ∀ (i : Nat) (s g : Nat) (lv : Bool) (v : Int), (ps ++ [(m, z + 1, true, x)])[i]? = some (s, g, lv, v) → (i < ps.length ∧ ps[i]? = some (s, g, lv, v)) ∨ (i = ps.length ∧ s = m ∧ g = z + 1) := by
      intro i s g lv v hi
      by_cases hil : i < ps.length
      · rw [List.getElem?_append_left hil] at hi
        exact .inl ⟨hil, hi⟩
      · have hlt := (List.getElem?_eq_some_iff.1 hi).1
        rw [List.length_append] at hlt
        simp only [List.length_cons, List.length_nil] at hlt
        have : i = ps.length := by omega
        subst this
        rw [List.getElem?_append_right (Nat.le_refl _)] at hi
        simp at hi
        exact .inr ⟨rfl, hi.1.symm, hi.2.1.symm⟩
    intro i j s g l1 l2 v1 v2 hi hj
    rcases last _ _ _ _ _ hi with ⟨_, a⟩ | ⟨a1, a2, a3⟩ <;> rcases last _ _ _ _ _ hj with ⟨_, b⟩ | ⟨b1, b2, b3⟩
    · exact h.inj i j s g l1 l2 v1 v2 a b
    · have := old i s g l1 v1 a b2
      omega
    · have := old j s g l2 v2 b a2
      omega
    · omega
  · rw [hl, h.cnt, List.countP_append]
    simp

theorem pinv_put {sl : List S3} {ps : List Pd} (h : PInv sl ps) (x : Int) : PInv (putS sl x) (ps ++ [(ff (grown sl), genOf (grown sl) (ff (grown sl)) + 1, true, x)]) := by
  have hle := lives_le sl
  by_cases hl : lives sl = sl.length
  · obtain ⟨_, e2, e3, e4⟩ := put_full_spec hl x
    have h1 := (putS_spec sl x).1
    rw [e3, e2]
    rw [e4] at h1 ⊢
    refine pinv_new h (by simp) (fun u hu => ?_) (fun z0 z1 z2 e => by simp at e) h1
    by_cases hlt : u < sl.length
    · rw [List.getElem?_append_left hlt]
    · rw [List.getElem?_eq_none (by simp; omega), List.getElem?_eq_none (by omega)]
  · obtain ⟨z0, z1, hs, e1, e2, e3⟩ := putS_hole (sl := sl) (by omega) x
    have h1 := (putS_spec sl x).1
    rw [e1, e2]
    rw [e3] at h1 ⊢
    have hlt := (List.getElem?_eq_some_iff.1 hs).1
    refine pinv_new h (by rw [List.getElem?_set_self hlt]) (fun u hu => by rw [List.getElem?_set_ne (fun e => hu e.symm)]) (fun a b c e => ?_) h1
    rw [hs] at e
    cases e
    exact ⟨rfl, rfl⟩

theorem countP_set' {ps : List Pd} {k : Nat} {p : Pd} (p' : Pd) (h : ps[k]? = some p) : (ps.set k p').countP (·.2.2.1) + (if p.2.2.1 then 1 else 0) = ps.countP (·.2.2.1) + (if p'.2.2.1 then 1 else 0) := by
  induction ps generalizing k with
  | nil => simp at h
  | cons y r ih =>
    cases k with
    | zero =>
      simp at h
      subst h
      rw [List.set_cons_zero, List.countP_cons, List.countP_cons]
      omega
    | succ k =>
      have := ih (k := k) (by simpa using h)
      rw [List.set_cons_succ, List.countP_cons, List.countP_cons]
      omega

theorem pinv_mod {sl : List S3} {ps : List Pd} (h : PInv sl ps) {k s g : Nat} {v : Int} (hk : ps[k]? = some (s, g, true, v)) (b : Bool) (x y : Int) (hxy : b = true → y = x) : PInv (sl.set s (g, x, b)) (ps.set k (s, g, b, y)) := by
  obtain ⟨z0, z1, z2, hs, h1, h2, h3, h4⟩ := h.at_ k s g true v hk
  obtain ⟨rfl, rfl, rfl⟩ := h3 rfl
  have hsl := (List.getElem?_eq_some_iff.1 hs).1
  have hkl := (List.getElem?_eq_some_iff.1 hk).1
  refine ⟨?_, ?_, ?_⟩
  · intro i s' g' lv v' hi
    by_cases hik : k = i
    · subst hik
      rw [List.getElem?_set_self hkl] at hi
      cases hi
      refine ⟨_, _, _, List.getElem?_set_self hsl, h1, Nat.le_refl _, fun e => ⟨rfl, e, (hxy e).symm⟩, fun e _ => e⟩
    · rw [List.getElem?_set_ne hik] at hi
      obtain ⟨a0, a1, a2, q0, q1, q2, q3, q4⟩ := h.at_ i s' g' lv v' hi
      by_cases hss : s = s'
      · subst hss
        rw [hs] at q0
        cases q0
        have hgg : z0 ≠ g' := fun e => hik (h.inj k i s z0 true lv z1 v' hk (by rw [hi, e]))
        refine ⟨_, _, _, List.getElem?_set_self hsl, q1, q2, fun e => absurd (q3 e).1 hgg, fun _ e => absurd e hgg⟩
      · exact ⟨a0, a1, a2, by rw [List.getElem?_set_ne hss]; exact q0, q1, q2, q3, q4⟩
  · have same : ∀ (i s' g' : Nat) (lv : Bool) (v' : Int), (ps.set k (s, z0, b, y))[i]? = some (s', g', lv, v') → ∃ lv2 v2, ps[i]? = some (s', g', lv2, v2) := by
      intro i s' g' lv v' hi
      by_cases hik : k = i
      · subst hik
        rw [List.getElem?_set_self hkl] at hi
        cases hi
        exact ⟨_, _, hk⟩
      · rw [List.getElem?_set_ne hik] at hi
        exact ⟨_, _, hi⟩
    intro i j s' g' l1 l2 v1 v2 hi hj
    obtain ⟨a1, a2, ha⟩ := same _ _ _ _ _ hi
    obtain ⟨b1, b2, hb⟩ := same _ _ _ _ _ hj
    exact h.inj i j s' g' a1 b1 a2 b2 ha hb
  · have e1 := lives_set (z0, x, b) hs
    have e2 := countP_set' (s, z0, b, y) hk
    have e3 := h.cnt
    simp only [if_true] at e1 e2
    omega
end Go.Proofs.Ytnfaaaehpfddgaa
