/- The keeper's functions, each for any state of it; numbers far below 2^63 are asked. -/
import Derived.Test.YtajeifeigjggoaaAdv
import Derived.Test.YtajeifeigjggoaaUnp
namespace Go.Proofs.Ytajeifeigjggoaa
open Go.RowKit Go.Maps Mem
set_option linter.unusedVariables false

/-- blocks of a kind alone have turned -/
structure Fr (T : Obj → Prop) (w w' : World) : Prop where
  os : w'.os = w.os
  tape : w'.tape = w.tape
  output : w'.output = w.output
  size : w.heap.size ≤ w'.heap.size
  block : ∀ (k : Nat) (o : Obj), w.heap[k]? = some o → ¬ T o → w'.heap[k]? = some o
theorem Fr.refl (T) (w : World) : Fr T w w := ⟨rfl, rfl, rfl, Nat.le_refl _, fun _ _ h _ => h⟩
theorem Fr.trans {T} {w w' w'' : World} (h : Fr T w w') (h' : Fr T w' w'') : Fr T w w'' :=
  ⟨h'.os.trans h.os, h'.tape.trans h.tape, h'.output.trans h.output, Nat.le_trans h.size h'.size, fun k o hk hn => h'.block k o (h.block k o hk hn) hn⟩
theorem Fr.ofOnly {T} {S : Nat → Prop} {w w' : World} (h : Only S w w') (hS : ∀ k, S k → ∃ o, w.heap[k]? = some o ∧ T o) : Fr T w w' :=
  ⟨h.os, h.tape, h.output, h.size, fun k o hk hn => (h.block k (Array.getElem?_eq_some_iff.1 hk).1 (fun hs => by
    obtain ⟨o', h1, h2⟩ := hS k hs
    rw [hk] at h1
    cases h1
    exact hn h2)).trans hk⟩
/-- the keeper's own kinds -/
def KT (o : Obj) : Prop := (∃ cs t fr, o = .cells cs t fr ∧ (t = 54 ∨ t = 56)) ∨ ∃ es cl, o = .map es cl

/-- the keeper, all its blocks from base on -/
def Keep (w : World) (base g b now : Nat) (p : List Nat) (q : List (Int × Nat)) : Prop :=
  ∃ V, Ep w g b base now p q V ∧ base ≤ g ∧ base ≤ b ∧ base ≤ w.heap.size

theorem keep_kinds {w : World} {g b B now : Nat} {p : List Nat} {q : List (Int × Nat)} {V : Value} (h : Ep w g b B now p q V) : ∀ k, (k = g ∨ k = b ∨ V.ownBlock = some k) → ∃ o, w.heap[k]? = some o ∧ KT o := by
  obtain ⟨QA, qc, D, rfl, hg, hm, hp, hq⟩ := h
  rintro k (rfl | rfl | hk)
  · exact ⟨_, hg, .inl ⟨_, _, _, rfl, .inl rfl⟩⟩
  · obtain ⟨es, cl, hb, _⟩ := hm
    exact ⟨_, hb, .inr ⟨_, _, rfl⟩⟩
  · rcases hq.2 with ⟨e1, e2⟩ | ⟨g', cap, cur, e1, _, hh, _⟩
    · rw [e1] at hk; cases hk
    · rw [e1] at hk
      cases hk
      exact ⟨_, hh, .inl ⟨_, _, _, rfl, .inr rfl⟩⟩
theorem keep_low {w w' : World} {base g b now : Nat} {p : List Nat} {q : List (Int × Nat)} {V : Value} (h : Ep w g b base now p q V) (hg : base ≤ g) (hb : base ≤ b) (hB : base ≤ w.heap.size)
    (ho : Only (fun k => k = g ∨ k = b ∨ V.ownBlock = some k) w w') : Below base w w' := by
  obtain ⟨QA, qc, D, rfl, _, _, _, hq⟩ := h
  refine ho.below (fun k _ hk => ?_) hB
  rcases hk with rfl | rfl | hk
  · exact hg
  · exact hb
  · exact own_lo hq hk

/-- what a call leaves: the keeper's new state, all else as it was -/
def Left (w : World) (base g b now : Nat) (p : List Nat) (q : List (Int × Nat)) (w' : World) : Prop := Keep w' base g b now p q ∧ Fr KT w w' ∧ Below base w w'

theorem left_of {w w' : World} {base g b now now' : Nat} {p p' : List Nat} {q q' : List (Int × Nat)} {V V' : Value} {S : Nat → Prop} (h : Ep w g b base now p q V) (hg : base ≤ g) (hb : base ≤ b) (hB : base ≤ w.heap.size)
    (h' : Ep w' g b base now' p' q' V') (ho : Only S w w') (hS : ∀ k, S k → k = g ∨ k = b ∨ V.ownBlock = some k) : Left w base g b now' p' q' w' := by
  have ho' := ho.mono (S' := fun k => k = g ∨ k = b ∨ V.ownBlock = some k) (fun k _ hk => hS k hk)
  exact ⟨⟨V', h', hg, hb, Nat.le_trans hB ho.size⟩, .ofOnly ho' (keep_kinds h), keep_low h hg hb hB ho'⟩

variable {w : World} {base g b now : Nat} {p : List Nat} {q : List (Int × Nat)}

def pinS (now : Nat) (p : List Nat) : List Nat := if 64 ≤ cnt p then p else p ++ [now]
def pinT (p : List Nat) : Int := if 64 ≤ cnt p then 0 else (p.length : Int) + 1
def pinE (p : List Nat) : Int := if 64 ≤ cnt p then 8 else 0
def unpS (p : List Nat) (t : Int) : List Nat := if (look p t).isSome then p.set (t.toNat - 1) 0 else p
def unpE (p : List Nat) (t : Int) : Int := if t < 1 ∨ (p.length : Int) < t then 23 else if (look p t).isSome then 0 else 24

theorem pin_all (h : Keep w base g b now p q) (hp0 : p.length ≤ 4294967296) (hn : now ≤ 4294967296) (hn1 : 1 ≤ now) :
    Calls Try.prog 9 #[.pointer (some ⟨g, 0, none⟩)] w fun e w' => e = .returned (.tuple #[.int .i64 (pinT p), .int .i64 (pinE p)]) ∧ Left w base g b now (pinS now p) q w' := by
  obtain ⟨V, h, h1, h2, h3⟩ := h
  by_cases hc : 64 ≤ cnt p
  · refine (pin_full w h hc).mono ?_
    rintro e w' ⟨rfl, rfl⟩
    rw [pinT, pinE, pinS, if_pos hc, if_pos hc, if_pos hc]
    exact ⟨rfl, left_of h h1 h2 h3 h (Only.refl (fun _ => False) _) (fun k hk => hk.elim)⟩
  · refine (pin_ok w h (by omega) hp0 hn hn1).mono ?_
    rintro e w' ⟨rfl, h', ho⟩
    rw [pinT, pinE, pinS, if_neg hc, if_neg hc, if_neg hc]
    exact ⟨rfl, left_of h h1 h2 h3 h' ho (fun k hk => by rcases hk with hk | hk; exact .inl hk; exact .inr (.inl hk))⟩

theorem unpin_all (t : Int) (h : Keep w base g b now p q) (hp0 : p.length ≤ 4294967296) :
    Calls Try.prog 12 #[.pointer (some ⟨g, 0, none⟩), .int .i64 t] w fun e w' => e = .returned (.int .i64 (unpE p t)) ∧ Left w base g b now (unpS p t) q w' := by
  obtain ⟨V, h, h1, h2, h3⟩ := h
  by_cases hc : t < 1 ∨ (p.length : Int) < t
  · refine (unpin_bad t w h hc).mono ?_
    rintro e w' ⟨rfl, rfl⟩
    have hl : look p t = none := by unfold look; rw [if_neg (by omega)]
    rw [unpE, unpS, if_pos hc, hl]
    exact ⟨rfl, left_of h h1 h2 h3 h (Only.refl (fun _ => False) _) (fun k hk => hk.elim)⟩
  · obtain ⟨n, rfl⟩ : ∃ n : Nat, t = n := ⟨t.toNat, by omega⟩
    cases hl : look p n with
    | none =>
      refine (unpin_gone n w h (by omega) (by omega) hl hp0).mono ?_
      rintro e w' ⟨rfl, rfl⟩
      rw [unpE, unpS, if_neg hc, hl]
      exact ⟨rfl, left_of h h1 h2 h3 h (Only.refl (fun _ => False) _) (fun k hk => hk.elim)⟩
    | some v =>
      refine (unpin_ok n v w h (by omega) (by omega) hl hp0).mono ?_
      rintro e w' ⟨rfl, h', ho⟩
      rw [unpE, unpS, if_neg hc, hl]
      exact ⟨rfl, left_of h h1 h2 h3 h' ho (fun k hk => by rcases hk with hk | hk; exact .inl hk; exact .inr (.inl hk))⟩

theorem retire_all (x : Int) (h : Keep w base g b now p q) (hn : q.length ≤ 2000000) :
    Calls Try.prog 11 #[.pointer (some ⟨g, 0, none⟩), .int .i64 x] w fun e w' => e = .returned (.tuple #[]) ∧ Left w base g b now p (q ++ [(x, now)]) w' := by
  obtain ⟨V, h, h1, h2, h3⟩ := h
  refine (retire_any x w h hn h3).mono ?_
  rintro e w' ⟨rfl, V', h', ho, _⟩
  exact ⟨rfl, left_of h h1 h2 h3 h' ho (fun k hk => by rcases hk with hk | hk; exact .inl hk; exact .inr (.inr hk))⟩

def advN (now : Nat) (p : List Nat) : Nat := if busy now p then now else now + 1
def advQ (now : Nat) (p : List Nat) (q : List (Int × Nat)) : List (Int × Nat) := if busy now p then q else q.drop (due now q).length
def advO (now : Nat) (p : List Nat) (q : List (Int × Nat)) : List (Int × Nat) := if busy now p then [] else due now q
def advE (now : Nat) (p : List Nat) : Int := if busy now p then 25 else 0

theorem advance_all (h : Keep w base g b now p q) (hn : now ≤ 4294967296) (hq0 : q.length ≤ 2000000) :
    Calls Try.prog 13 #[.pointer (some ⟨g, 0, none⟩)] w fun e w' => ∃ A c, e = .returned (.tuple #[.slice A (advO now p q).length c, .int .i64 (advE now p)]) ∧
      w'.ownsRow w.heap.size 2 1 (.slice A (advO now p q).length c) (advO now p q).length (outs (advO now p q)) ∧ Left w base g b (advN now p) p (advQ now p q) w' := by
  obtain ⟨V, h, h1, h2, h3⟩ := h
  refine (advance_any w h hn hq0 h3).mono ?_
  rintro e w' (⟨hb, rfl, h', ho⟩ | ⟨hb, A, c, V', rfl, hA, h', ho⟩)
  · rw [advO, advE, advN, advQ, if_pos hb, if_pos hb, if_pos hb, if_pos hb]
    exact ⟨none, 0, rfl, World.ownsRow_nil _ _ _ _, left_of h h1 h2 h3 h' ho (fun k hk => hk.elim)⟩
  · have hb' : ¬ busy now p = true := by rw [hb]; simp
    rw [advO, advE, advN, advQ, if_neg hb', if_neg hb', if_neg hb', if_neg hb']
    exact ⟨A, c, rfl, hA, left_of h h1 h2 h3 h' ho (fun k hk => .inl hk)⟩

theorem new_all (w : World) : Calls Try.prog 7 #[] w fun e w' => e = .returned (.pointer (some ⟨w.heap.size + 1, 0, none⟩)) ∧ Keep w' w.heap.size (w.heap.size + 1) w.heap.size 1 [] [] ∧ Below w.heap.size w w' ∧ w'.heap.size = w.heap.size + 2 := by
  refine (new_any w).mono ?_
  rintro e w' ⟨rfl, h, hb, hs⟩
  exact ⟨rfl, ⟨_, h, by omega, Nat.le_refl _, by omega⟩, hb, hs⟩
theorem now_all (h : Keep w base g b now p q) : Calls Try.prog 16 #[.pointer (some ⟨g, 0, none⟩)] w fun e w' => e = .returned (.int .i64 (now : Int)) ∧ w = w' := by
  obtain ⟨V, h, _⟩ := h
  exact now_any w h
theorem waiting_all (h : Keep w base g b now p q) : Calls Try.prog 15 #[.pointer (some ⟨g, 0, none⟩)] w fun e w' => e = .returned (.int .i64 (q.length : Int)) ∧ w = w' := by
  obtain ⟨V, h, _⟩ := h
  exact waiting_any w h
theorem pinned_all (h : Keep w base g b now p q) : Calls Try.prog 17 #[.pointer (some ⟨g, 0, none⟩)] w fun e w' => e = .returned (.int .i64 (cnt p : Int)) ∧ w = w' := by
  obtain ⟨V, h, _⟩ := h
  exact pinned_any w h
end Go.Proofs.Ytajeifeigjggoaa
