/- Memory lemmas, second part: rows' cells, steps of append in a region that draws, blocks of a kind that have turned; the condition of each stands in its statement. -/
import Derived.Test.YtaapbiiiepdopaaMem
import Derived.Deep.RegionLaw
import Derived.Laws.OwnMore
namespace Go.Proofs.Ytaapbiiiepdopaa.Mem
open Go.RowKit
set_option linter.unusedVariables false

theorem own_far {w : World} {B e size m t : Nat} {v : Value} {xs : List Value} {g : Nat} {cs : Array Value} (hq : w.ownsRow B e size v m xs) (hg : Blk w g t cs) (hne : e ≠ t) : ∀ k, v.ownBlock = some k → k ≠ g :=
  fun k hk e' => own_blk_ne hq hg hne (e' ▸ hk)
theorem own_cell {w : World} {base e n c : Nat} {ab ao i : Nat} {xs : List Value} (h : w.ownsRow base e 1 (.slice (some ⟨ab, ao, none⟩) n c) n xs) (hi : i < n) : w.cell? ⟨ab, ao + i, none⟩ = xs[i]? := by
  obtain ⟨_, _, e1, _, hr⟩ := own_form h
  cases e1
  obtain ⟨b, o, e2, _, _, _, hc⟩ := hr.plain (by omega) (by omega)
  cases e2
  exact hc i (by omega)
theorem own_some {w : World} {base e n c : Nat} {A : Option Addr} {xs : List Value} (h : w.ownsRow base e 1 (.slice A n c) n xs) (hn : 0 < n) : ∃ ab ao, A = some ⟨ab, ao, none⟩ := by
  obtain ⟨_, _, e1, _, hr⟩ := own_form h
  cases e1
  obtain ⟨b, o, e2, _, _, _, hc⟩ := hr.plain hn (by omega)
  exact ⟨b, o, e2⟩
theorem own_lo {w : World} {base e size n : Nat} {v : Value} {xs : List Value} (h : w.ownsRow base e size v n xs) {k : Nat} (hk : v.ownBlock = some k) : base ≤ k := by
  rcases h.2 with ⟨rfl, _⟩ | ⟨g, cap, cur, rfl, hb, _⟩
  · cases hk
  · cases hk
    exact hb
theorem own_lt {w : World} {base e size n : Nat} {v : Value} {xs : List Value} (h : w.ownsRow base e size v n xs) {k : Nat} (hk : v.ownBlock = some k) : k < w.heap.size := by
  rcases h.2 with ⟨rfl, _⟩ | ⟨g, cap, cur, rfl, _, hh, _⟩
  · cases hk
  · cases hk
    exact (Array.getElem?_eq_some_iff.1 hh).1
/-- append, at a step of a region that draws -/
theorem step_app {P : Program} {t e size bytes : Nat} {z : Value} (hE : Elem P t e z size bytes) (s x : Operand) {w : World} {ops : Array Oper} {o : Oper} {a : Act} {K : Act → World → Prop} {Q : Exit → Act → World → Prop} {E : Prop} {base : Nat} {v : Value} {n : Nat} {xs : List Value} (hown : w.ownsRow base e size v n xs)
    {lo hh : Nat} {A : Option Addr} {m c : Nat} {news : List Value} (hr : Reads w lo hh size A m news) (h1 : ∀ u ∈ news, u.oneCell' = true)
    {N : Nat} {ys : List Value} (hN : n + m = N) (hys : xs ++ news = ys)
    (h63 : N ≤ maxLen) (hbytes : N * bytes ≤ 140737488355328) (hbase : base ≤ w.heap.size)
    (hgd : o.guard = none) (ho : o.op = .call { callee := .builtin .append, args := #[s, x], argTypes := #[t, t] }) (hs : a.eval s = v) (hx : a.eval x = .slice A m c)
    (h : ∀ A' c' w', w'.ownsRow base e size (.slice A' N c') N ys → w.grownBy w' v.ownBlock → ((Value.slice A' N c').ownBlock = v.ownBlock ∨ (Value.slice A' N c').ownBlock = some w.heap.size) → K (a.put o.dst (.slice A' N c')) w') :
    if Region.wanted o (yielded ops a.tmps) = true then Oper.wp P o a w K Q else E := by
  have hw : Region.wanted o (yielded ops a.tmps) = true := by simp [Region.wanted, hgd]
  rw [if_pos hw]
  obtain ⟨i, hi, hz, hsz, hby⟩ := info_parts hE.info
  subst hN
  subst hys
  refine wp_append_any w s x t ho base e i z size bytes hE.slice hi hz hsz hby hE.cells hE.pos v n xs hs hown lo hh A m c news hx hr h1 h63 hbytes hbase ?_
  intro v' w' h2 h3 h4
  obtain ⟨A', c', rfl, _, _⟩ := own_form h2
  exact h A' c' w' h2 h3 h4
/-- blocks of a kind alone have turned -/
structure Fr (T : Obj → Prop) (w w' : World) : Prop where
  os : w'.os = w.os
  tape : w'.tape = w.tape
  output : w'.output = w.output
  size : w.heap.size ≤ w'.heap.size
  block : ∀ (k : Nat) (o : Obj), w.heap[k]? = some o → ¬ T o → w'.heap[k]? = some o
theorem Fr.refl (T) (w : World) : Fr T w w := ⟨rfl, rfl, rfl, Nat.le_refl _, fun _ _ h _ => h⟩
theorem Fr.trans {T} {w w' w'' : World} (h : Fr T w w') (h' : Fr T w' w'') : Fr T w w'' :=
  ⟨h'.os.trans h.os, h'.tape.trans h.tape, h'.output.trans h.output, Nat.le_trans h.size h'.size, fun k o hk hn => h'.block k o (h.block k o hk hn) hn⟩
theorem Fr.ofOnly {T} {S : Nat → Prop} {w w' : World} (h : Only S w w') (hS : ∀ k, S k → ∃ o, w.heap[k]? = some o ∧ T o) : Fr T w w' :=
  ⟨h.os, h.tape, h.output, h.size, fun k o hk hn => (h.block k (Array.getElem?_eq_some_iff.1 hk).1 (fun hs => by
    obtain ⟨o', h1, h2⟩ := hS k hs
    rw [hk] at h1
    cases h1
    exact hn h2)).trans hk⟩
theorem Fr.alloc {T} {w w' : World} (h : Fr T w w') (o : Obj) : Fr T w (w'.alloc o) :=
  ⟨h.os, h.tape, h.output, Nat.le_trans h.size (by simp), fun k o' hk hn => (Below.heap_alloc _ _ _ (by have := (Array.getElem?_eq_some_iff.1 (h.block k o' hk hn)).1; exact this)).trans (h.block k o' hk hn)⟩
theorem Fr.drewN {T} {w w' : World} (h : Fr T w w') (n : Nat) : Fr T w (w'.drewN n) := ⟨h.os, h.tape, h.output, h.size, h.block⟩
theorem Fr.ofBelow {T} {w w' : World} (h : Below w.heap.size w w') : Fr T w w' := ⟨h.os, h.tape, h.output, h.size, fun k o hk _ => (h.block k (Array.getElem?_eq_some_iff.1 hk).1).trans hk⟩
theorem own_fr {T} {w w' : World} {base e size n : Nat} {v : Value} {xs : List Value} (h : w.ownsRow base e size v n xs) (hf : Fr T w w') (hT : ∀ cs fr, ¬ T (.cells cs e fr)) : w'.ownsRow base e size v n xs := by
  refine ⟨h.1, ?_⟩
  rcases h.2 with h0 | ⟨g, cap, cur, rfl, hb, hh, r⟩
  · exact .inl h0
  · exact .inr ⟨g, cap, cur, rfl, hb, hf.block _ _ hh (hT _ _), r⟩
theorem fr_grown {T} {w0 w w' : World} {base e size n : Nat} {v : Value} {xs : List Value} (h0 : Fr T w0 w) (h : w.ownsRow base e size v n xs) (hg : w.grownBy w' v.ownBlock) (hT : ∀ cs fr, T (.cells cs e fr)) : Fr T w0 w' := by
  refine h0.trans ⟨hg.os, hg.tape, hg.output, hg.size, fun k o hk hn => (hg.block k (Array.getElem?_eq_some_iff.1 hk).1 (fun he => ?_)).trans hk⟩
  rcases h.2 with ⟨rfl, _⟩ | ⟨g, cap, cur, rfl, hb, hh, r⟩
  · cases he
  · have : k = g := by cases he; rfl
    subst this
    rw [hh] at hk
    cases hk
    exact hn (hT _ _)
theorem below_grown {B : Nat} {w0 w w' : World} {e size n : Nat} {v : Value} {xs : List Value} (h0 : Below B w0 w) (hB : B ≤ w.heap.size) (h : w.ownsRow B e size v n xs) (hg : w.grownBy w' v.ownBlock) : Below B w0 w' :=
  h0.grown hg hB (fun k hk => own_lo h hk)
theorem new_ne {w : World} {v u : Value} (hu : ∀ k, u.ownBlock = some k → k < w.heap.size) (hd : ∀ k, u.ownBlock = some k → ¬ v.ownBlock = some k) {v' : Value} (hb : v'.ownBlock = v.ownBlock ∨ v'.ownBlock = some w.heap.size) : ∀ k, u.ownBlock = some k → ¬ v'.ownBlock = some k := by
  intro k hk e
  rcases hb with h | h
  · rw [h] at e; exact hd k hk e
  · rw [h] at e; cases e; exact absurd (hu _ hk) (by omega)
end Go.Proofs.Ytaapbiiiepdopaa.Mem
