/- The keeper stands while blocks of other kinds turn. -/
import Derived.Test.YtajeifeigjggoaaLw1
namespace Go.Proofs.Ytajeifeigjggoaa
open Go.RowKit Go.Maps Mem
set_option linter.unusedVariables false

/-- the reference's kinds, and rows of numbers -/
def IT (o : Obj) : Prop := ∃ cs t fr, o = .cells cs t fr ∧ (t = 2 ∨ t = 4 ∨ t = 49)
theorem IT_KT {o : Obj} (h : KT o) : ¬ IT o := by
  rintro ⟨cs, t, fr, rfl, ht⟩
  rcases h with ⟨_, _, _, e, ht'⟩ | ⟨_, _, e⟩
  · cases e
    rcases ht with rfl | rfl | rfl <;> rcases ht' with h | h <;> cases h
  · cases e
theorem KT_IT {o : Obj} (h : IT o) : ¬ KT o := fun hk => IT_KT hk h

theorem Fr.alloc {T} {w w' : World} (h : Fr T w w') (o : Obj) : Fr T w (w'.alloc o) :=
  ⟨h.os, h.tape, h.output, Nat.le_trans h.size (by simp), fun k o' hk hn => (Below.heap_alloc _ _ _ (by have := (Array.getElem?_eq_some_iff.1 (h.block k o' hk hn)).1; exact this)).trans (h.block k o' hk hn)⟩
theorem Fr.drewN {T} {w w' : World} (h : Fr T w w') (n : Nat) : Fr T w (w'.drewN n) := ⟨h.os, h.tape, h.output, h.size, h.block⟩
theorem Fr.ofBelow {T} {w w' : World} (h : Below w.heap.size w w') : Fr T w w' := ⟨h.os, h.tape, h.output, h.size, fun k o hk _ => (h.block k (Array.getElem?_eq_some_iff.1 hk).1).trans hk⟩

theorem own_fr {T} {w w' : World} {base e size n : Nat} {v : Value} {xs : List Value} (h : w.ownsRow base e size v n xs) (hf : Fr T w w') (hT : ∀ cs fr, ¬ T (.cells cs e fr)) : w'.ownsRow base e size v n xs := by
  refine ⟨h.1, ?_⟩
  rcases h.2 with h0 | ⟨g, cap, cur, rfl, hb, hh, r⟩
  · exact .inl h0
  · exact .inr ⟨g, cap, cur, rfl, hb, hf.block _ _ hh (hT _ _), r⟩

theorem keep_fr {T} {w w' : World} {base g b now : Nat} {p : List Nat} {q : List (Int × Nat)} (h : Keep w base g b now p q) (hf : Fr T w w') (hT : ∀ o, KT o → ¬ T o) : Keep w' base g b now p q := by
  obtain ⟨V, ⟨QA, qc, D, rfl, hg, hm, hp, hq⟩, h1, h2, h3⟩ := h
  refine ⟨_, ⟨QA, qc, D, rfl, hf.block _ _ hg (hT _ (.inl ⟨_, _, _, rfl, .inl rfl⟩)), ?_, hp, own_fr hq hf (fun cs fr => hT _ (.inl ⟨_, _, _, rfl, .inr rfl⟩))⟩, h1, h2, Nat.le_trans h3 hf.size⟩
  obtain ⟨es, cl, hb, r⟩ := hm
  exact ⟨es, cl, hf.block _ _ hb (hT _ (.inr ⟨_, _, rfl⟩)), r⟩

theorem fr_grown {T} {w0 w w' : World} {base e size n : Nat} {v : Value} {xs : List Value} (h0 : Fr T w0 w) (h : w.ownsRow base e size v n xs) (hg : w.grownBy w' v.ownBlock) (hT : ∀ cs fr, T (.cells cs e fr)) : Fr T w0 w' := by
  refine h0.trans ⟨hg.os, hg.tape, hg.output, hg.size, fun k o hk hn => (hg.block k (Array.getElem?_eq_some_iff.1 hk).1 (fun he => ?_)).trans hk⟩
  rcases h.2 with ⟨rfl, _⟩ | ⟨g, cap, cur, rfl, hb, hh, r⟩
  · cases he
  · have : k = g := by cases he; rfl
    subst this
    rw [hh] at hk
    cases hk
    exact hn (hT _ _)
theorem below_grown {B : Nat} {w0 w w' : World} {e size n : Nat} {v : Value} {xs : List Value} (h0 : Below B w0 w) (hB : B ≤ w.heap.size) (h : w.ownsRow B e size v n xs) (hg : w.grownBy w' v.ownBlock) : Below B w0 w' :=
  h0.grown hg hB (fun k hk => own_lo h hk)
end Go.Proofs.Ytajeifeigjggoaa
