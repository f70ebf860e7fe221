/- A stream in pieces: what the program's Reader has told and holds, piece by piece; no condition of its own. -/
import Derived.Test.YthcdepjchbahoaaLaw2
namespace Go.Proofs.Ythcdepjchbahoaa
open Go.RowKit Go.WideShapes Mem
set_option linter.unusedVariables false

/-- what a reader at block g holds, and what was told of the bytes pre; B: the world in which the stream began -/
def StInv (g : Nat) (B : World) (pre : List UInt8) (told : Value) (wr : World) : Prop :=
  ∃ (HA TA : Option Addr) (hc tc M : Nat) (ts : List Value), told = .slice TA (parse pre).1.length tc ∧ Blk wr g 45 #[.slice HA ((parse pre).2.getD []).length hc, .bool (parse pre).2.isNone] ∧
    wr.ownsRow M 5 1 (.slice HA ((parse pre).2.getD []).length hc) ((parse pre).2.getD []).length (((parse pre).2.getD []).map B8) ∧ wr.ownsRow B.heap.size 22 1 (.slice TA (parse pre).1.length tc) (parse pre).1.length ts ∧
    Own2 wr 5 B.heap.size M ts (parse pre).1 ∧ B.heap.size ≤ M ∧ M ≤ wr.heap.size ∧ Only (fun k => k = g) B wr ∧ g < B.heap.size

theorem st_start {g : Nat} {B : World} {V : Value} (hV : V = .slice none 0 0) (hg : Blk B g 45 #[.slice none 0 0, .bool false]) : StInv g B [] V B := by
  have e : parse [] = ([], some []) := rfl
  subst hV
  refine ⟨none, none, 0, 0, B.heap.size, [], ?_⟩
  rw [e]
  exact ⟨rfl, hg, World.ownsRow_nil _ _ _ _, World.ownsRow_nil _ _ _ _, trivial, Nat.le_refl _, Nat.le_refl _, Only.refl _ _, hg.lt⟩

theorem st_no {g : Nat} {B wr w2 : World} {pre p : List UInt8} {HA TA TA' : Option Addr} {hc tc tc' M : Nat} {ts : List Value} (hb : (parse pre).2 = none)
    (h1 : Blk wr g 45 #[.slice HA ((parse pre).2.getD []).length hc, .bool (parse pre).2.isNone]) (h2 : wr.ownsRow M 5 1 (.slice HA ((parse pre).2.getD []).length hc) ((parse pre).2.getD []).length (((parse pre).2.getD []).map B8))
    (h3 : wr.ownsRow B.heap.size 22 1 (.slice TA (parse pre).1.length tc) (parse pre).1.length ts) (h4 : Own2 wr 5 B.heap.size M ts (parse pre).1) (h5 : B.heap.size ≤ M) (h6 : M ≤ wr.heap.size) (h7 : Only (fun k => k = g) B wr) (h8 : g < B.heap.size)
    (ho : w2.ownsRow B.heap.size 22 1 (.slice TA' (parse pre).1.length tc') (parse pre).1.length ts) (hg2 : wr.grownBy w2 (Value.slice TA (parse pre).1.length tc).ownBlock) :
    StInv g B (pre ++ p) (.slice TA' (parse pre).1.length tc') w2 := by
  have e := (parse_append _ pre p (Nat.le_refl _)).2 hb
  refine ⟨HA, TA', hc, tc', M, ts, ?_⟩
  rw [e]
  exact ⟨rfl, h1.grown hg2 (fun h => own_ne_blk h3 h1 (by decide) g h.symm rfl), own_grown h2 hg2 (own_own_ne h2 h3 (by decide)), ho, own2_grown h3 (by decide) hg2 h4, h5, Nat.le_trans h6 hg2.size,
    h7.grown hg2 (fun k hk => .inr (h3.lt k hk).1), h8⟩

theorem st_step {g N : Nat} {B wr w1 w2 : World} {pre p rest : List UInt8} {fs : List (List UInt8)} {r : Option (List UInt8)} {HA TA TA' A' : Option Addr} {hc tc tc' c' M mid : Nat} {ts us : List Value} (hb : (parse pre).2 = some rest) (hp : (fs, r) = parse (rest ++ p))
    (h1 : Blk wr g 45 #[.slice HA rest.length hc, .bool false]) (h2 : wr.ownsRow M 5 1 (.slice HA rest.length hc) rest.length (rest.map B8))
    (h3 : wr.ownsRow B.heap.size 22 1 (.slice TA (parse pre).1.length tc) (parse pre).1.length ts) (h4 : Own2 wr 5 B.heap.size M ts (parse pre).1) (h5 : B.heap.size ≤ M) (h6 : M ≤ wr.heap.size) (h7 : Only (fun k => k = g) B wr) (h8 : g < B.heap.size)
    (f1 : wr.heap.size ≤ mid) (f2 : mid ≤ w1.heap.size) (f5 : Own2 w1 5 wr.heap.size mid us fs)
    (f6 : Blk w1 g 45 #[.slice A' (r.getD []).length c', .bool r.isNone]) (f7 : w1.ownsRow mid 5 1 (.slice A' (r.getD []).length c') (r.getD []).length ((r.getD []).map B8)) (f8 : Only (fun k => k = g ∨ (Value.slice HA rest.length hc).ownBlock = some k) wr w1)
    (hN : (parse pre).1.length + fs.length = N)
    (ho : w2.ownsRow B.heap.size 22 1 (.slice TA' N tc') N (ts ++ us)) (hg2 : w1.grownBy w2 (Value.slice TA (parse pre).1.length tc).ownBlock) :
    StInv g B (pre ++ p) (.slice TA' N tc') w2 := by
  have e := (parse_append _ pre p (Nat.le_refl _)).1 rest hb
  rw [← hp] at e
  have h31 : w1.ownsRow B.heap.size 22 1 (.slice TA (parse pre).1.length tc) (parse pre).1.length ts := own_only h3 f8 (fun k hk h => by
    rcases h with rfl | h
    · exact own_ne_blk h3 h1 (by decide) _ hk rfl
    · exact own_own_ne h3 h2 (by decide) k hk h)
  have h41 : Own2 w1 5 B.heap.size M ts (parse pre).1 := h4.only f8 (fun k hk1 hk2 h => by
    rcases h with rfl | h
    · omega
    · have := (h2.lt k h).1; omega) h6
  have hsz := f8.size
  have hN' : N = ((parse pre).1 ++ fs).length := by rw [List.length_append]; exact hN.symm
  subst hN'
  have h51 : Own2 w1 5 B.heap.size mid (ts ++ us) ((parse pre).1 ++ fs) := by
    have a1 := h41.more (lo' := B.heap.size) (hi' := mid) (Nat.le_refl _) (by omega)
    have a2 := f5.more (lo' := B.heap.size) (hi' := mid) (by omega) (Nat.le_refl _)
    have key : ∀ {vs us : List Value} {xs ys : List (List UInt8)}, Own2 w1 5 B.heap.size mid vs xs → Own2 w1 5 B.heap.size mid us ys → Own2 w1 5 B.heap.size mid (vs ++ us) (xs ++ ys) := by
      intro vs
      induction vs with
      | nil =>
        intro us xs ys h h'
        match xs, h with
        | [], _ => exact h'
      | cons v vs ih =>
        intro us xs ys h h'
        match xs, h with
        | x :: xs, h => exact ⟨h.1, ih h.2 h'⟩
    exact key a1 a2
  refine ⟨A', TA', c', tc', mid, ts ++ us, ?_⟩
  rw [e]
  refine ⟨rfl, f6.grown hg2 (fun h => own_ne_blk h31 f6 (by decide) g h.symm rfl), own_grown f7 hg2 (own_own_ne f7 h31 (by decide)), ho, own2_grown h31 (by decide) hg2 h51, by omega, Nat.le_trans f2 hg2.size, ?_, h8⟩
  exact (h7.trans f8 (fun k hk h => by
    rcases h with h | h
    · exact h
    · have := (h2.lt k h).1; omega)).grown hg2 (fun k hk => .inr (h3.lt k hk).1)

/-- what FeedOut says, opened -/
theorem feed_open {g : Nat} {hv : Value} {all : List UInt8} {w w' : World} {e : Ending} (h : FeedOut g hv all w w' e) : ∃ (fs : List (List UInt8)) (r : Option (List UInt8)) (A A' : Option Addr) (c c' mid : Nat) (vs : List Value), (fs, r) = parse all ∧ e = .returned (.tuple #[.slice A fs.length c, .int .i64 (errOf r)]) ∧
    w.heap.size ≤ mid ∧ mid ≤ w'.heap.size ∧ w'.ownsRow w.heap.size 22 1 (.slice A fs.length c) fs.length vs ∧ (∀ k, (Value.slice A fs.length c).ownBlock = some k → k < mid) ∧
    Own2 w' 5 w.heap.size mid vs fs ∧ Blk w' g 45 #[.slice A' (r.getD []).length c', .bool r.isNone] ∧
    w'.ownsRow mid 5 1 (.slice A' (r.getD []).length c') (r.getD []).length ((r.getD []).map B8) ∧ Only (fun k => k = g ∨ hv.ownBlock = some k) w w' ∧ fs.length ≤ all.length ∧ (r.getD []).length ≤ 32771 := by
  obtain ⟨A, A', c, c', mid, vs, h⟩ := h
  obtain ⟨h1, h2, h3, h4, h5, h6, h7, h8, h9⟩ := h
  exact ⟨_, _, A, A', c, c', mid, vs, rfl, h1, h2, h3, h4, h5, h6, h7, h8, h9, parse_count _ all (Nat.le_refl _), parse_rest _ all (Nat.le_refl _)⟩

end Go.Proofs.Ythcdepjchbahoaa
