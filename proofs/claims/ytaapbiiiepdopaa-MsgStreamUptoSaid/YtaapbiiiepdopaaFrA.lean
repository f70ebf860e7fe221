/- The plain law of frames: what a stream of bytes tells, on lists of bytes alone; no condition. The number in a frame's first four bytes, as the program and as the reference reads it: at least four bytes are asked. What the program's Reader tells of bytes that come: any reader that is not broken. A load's frame, as the program makes it: any load. A stream in pieces: what the program's Reader has told and holds, piece by piece; no condition of its own. -/
import Derived.Test.YtaapbiiiepdopaaMem
import Derived.Test.YtaapbiiiepdopaaProg
import Derived.Outline
import Derived.Handy
import Derived.Deep.QuietTactic
import Derived.BigQuiet
import Derived.Deep.LoopGhost
import Derived.WalkMore
namespace Go.Proofs.Ytaapbiiiepdopaa.Fr

/-- the number in the first four bytes -/
def nat4 : List UInt8 → Nat
  | a :: b :: c :: d :: _ => a.toNat * 16777216 + b.toNat * 65536 + c.toNat * 256 + d.toNat
  | _ => 0

theorem nat4_lt (h : List UInt8) : nat4 h < 4294967296 := by
  unfold nat4
  split
  · rename_i a b c d _
    have h0 := a.toNat_lt
    have h1 := b.toNat_lt
    have h2 := c.toNat_lt
    have h3 := d.toNat_lt
    omega
  · omega

/-- what so many rounds tell of bytes: the loads, and what waits; none: a frame that may not be -/
def rounds : Nat → List UInt8 → List (List UInt8) × Option (List UInt8)
  | 0, h => ([], some h)
  | k + 1, h =>
    if h.length < 4 then ([], some h)
    else if nat4 h < 1 ∨ 32768 < nat4 h then ([], none)
    else if h.length < 4 + nat4 h then ([], some h)
    else
      let r := rounds k (h.drop (4 + nat4 h))
      ((h.drop 4).take (nat4 h) :: r.1, r.2)

theorem rounds_enough : ∀ (k j : Nat) (h : List UInt8), h.length ≤ k → h.length ≤ j → rounds k h = rounds j h := by
  intro k
  induction k with
  | zero =>
    intro j h hk hj
    cases j with
    | zero => rfl
    | succ j => simp only [rounds]; rw [if_pos (by omega)]
  | succ k ih =>
    intro j h hk hj
    cases j with
    | zero => simp only [rounds]; rw [if_pos (by omega)]
    | succ j =>
      simp only [rounds]
      split
      · rfl
      · split
        · rfl
        · split
          · rfl
          · rw [ih j _ (by simp; omega) (by simp; omega)]

/-- what bytes tell -/
def parse (h : List UInt8) : List (List UInt8) × Option (List UInt8) := rounds h.length h

theorem parse_short {h : List UInt8} (h4 : h.length < 4) : parse h = ([], some h) := by
  unfold parse
  cases hl : h.length with
  | zero => rfl
  | succ k => simp only [rounds]; rw [if_pos h4]
theorem parse_bad {h : List UInt8} (h4 : 4 ≤ h.length) (hb : nat4 h < 1 ∨ 32768 < nat4 h) : parse h = ([], none) := by
  unfold parse
  cases hl : h.length with
  | zero => omega
  | succ k => simp only [rounds]; rw [if_neg (by omega), if_pos hb]
theorem parse_wait {h : List UInt8} (h4 : 4 ≤ h.length) (h1 : 1 ≤ nat4 h) (h2 : nat4 h ≤ 32768) (hw : h.length < 4 + nat4 h) : parse h = ([], some h) := by
  unfold parse
  cases hl : h.length with
  | zero => omega
  | succ k => simp only [rounds]; rw [if_neg (by omega), if_neg (by omega), if_pos hw]
theorem parse_more {h : List UInt8} (h4 : 4 ≤ h.length) (h1 : 1 ≤ nat4 h) (h2 : nat4 h ≤ 32768) (hw : 4 + nat4 h ≤ h.length) :
    parse h = ((h.drop 4).take (nat4 h) :: (parse (h.drop (4 + nat4 h))).1, (parse (h.drop (4 + nat4 h))).2) := by
  unfold parse
  cases hl : h.length with
  | zero => omega
  | succ k =>
    simp only [rounds]
    rw [if_neg (by omega), if_neg (by omega), if_neg (by omega), rounds_enough k (h.drop (4 + nat4 h)).length _ (by simp; omega) (Nat.le_refl _)]

theorem nat4_append {h : List UInt8} (h4 : 4 ≤ h.length) (t : List UInt8) : nat4 (h ++ t) = nat4 h := by
  match h, h4 with
  | a :: b :: c :: d :: r, _ => rfl

/-- bytes behind bytes -/
theorem parse_append : ∀ (k : Nat) (h t : List UInt8), h.length ≤ k →
    (∀ r, (parse h).2 = some r → parse (h ++ t) = ((parse h).1 ++ (parse (r ++ t)).1, (parse (r ++ t)).2)) ∧
    ((parse h).2 = none → parse (h ++ t) = parse h) := by
  intro k
  induction k with
  | zero =>
    intro h t hk
    have : h = [] := List.eq_nil_of_length_eq_zero (by omega)
    subst this
    refine ⟨fun r hr => ?_, fun hr => ?_⟩
    · cases hr
      rfl
    · cases hr
  | succ k ih =>
    intro h t hk
    by_cases h4 : h.length < 4
    · rw [parse_short h4]
      exact ⟨fun r hr => by cases hr; rfl, fun hr => by cases hr⟩
    · by_cases hb : nat4 h < 1 ∨ 32768 < nat4 h
      · rw [parse_bad (by omega) hb]
        refine ⟨fun r hr => (by cases hr), fun _ => ?_⟩
        rw [parse_bad (by simp; omega) (by rw [nat4_append (by omega)]; exact hb)]
      · by_cases hw : h.length < 4 + nat4 h
        · rw [parse_wait (by omega) (by omega) (by omega) hw]
          exact ⟨fun r hr => by cases hr; rfl, fun hr => by cases hr⟩
        · have e := parse_more (h := h) (by omega) (by omega) (by omega) (by omega)
          have e' := parse_more (h := h ++ t) (by simp; omega) (by rw [nat4_append (by omega)]; omega) (by rw [nat4_append (by omega)]; omega) (by rw [nat4_append (by omega)]; simp; omega)
          rw [nat4_append (by omega)] at e'
          have hd : (h ++ t).drop (4 + nat4 h) = h.drop (4 + nat4 h) ++ t := List.drop_append_of_le_length (by omega)
          have ht : ((h ++ t).drop 4).take (nat4 h) = (h.drop 4).take (nat4 h) := by
            rw [List.drop_append_of_le_length (by omega), List.take_append_of_le_length (by simp; omega)]
          rw [hd, ht] at e'
          obtain ⟨i1, i2⟩ := ih (h.drop (4 + nat4 h)) t (by simp; omega)
          refine ⟨fun r hr => ?_, fun hr => ?_⟩
          · rw [e] at hr
            rw [e', e, i1 r hr]
            rfl
          · rw [e] at hr
            rw [e', e, i2 hr]

/-- what waits is short -/
theorem parse_rest : ∀ (k : Nat) (h : List UInt8), h.length ≤ k → ((parse h).2.getD []).length ≤ 32771 := by
  intro k
  induction k with
  | zero =>
    intro h hk
    rw [parse_short (by omega)]
    show h.length ≤ _
    omega
  | succ k ih =>
    intro h hk
    by_cases h4 : h.length < 4
    · rw [parse_short h4]
      show h.length ≤ _
      omega
    · by_cases hb : nat4 h < 1 ∨ 32768 < nat4 h
      · rw [parse_bad (by omega) hb]
        show (0 : Nat) ≤ _
        omega
      · by_cases hw : h.length < 4 + nat4 h
        · rw [parse_wait (by omega) (by omega) (by omega) hw]
          show h.length ≤ _
          omega
        · rw [parse_more (by omega) (by omega) (by omega) (by omega)]
          exact ih _ (by simp; omega)

/-- the four bytes ahead of a load of n bytes, n at most 32768 -/
def hd4 (n : Nat) : List UInt8 := [0, 0, UInt8.ofNat (n / 256), UInt8.ofNat (n % 256)]
/-- a load's frame -/
def encB (xs : List UInt8) : List UInt8 := hd4 xs.length ++ xs
theorem nat4_enc (xs t : List UInt8) (h : xs.length ≤ 32768) : nat4 (encB xs ++ t) = xs.length := by
  simp [encB, hd4, nat4]
  omega
theorem encB_len (xs : List UInt8) : (encB xs).length = 4 + xs.length := by simp [encB, hd4]; omega
/-- a load's frame at the front -/
theorem parse_enc (xs t : List UInt8) (h1 : 1 ≤ xs.length) (h2 : xs.length ≤ 32768) : parse (encB xs ++ t) = (xs :: (parse t).1, (parse t).2) := by
  have hn := nat4_enc xs t h2
  have hl : (encB xs ++ t).length = 4 + xs.length + t.length := by rw [List.length_append, encB_len]
  rw [parse_more (by omega) (by omega) (by omega) (by omega), hn]
  have hd : (encB xs ++ t).drop (4 + xs.length) = t := by
    rw [← encB_len]
    exact List.drop_left
  have ht : ((encB xs ++ t).drop 4).take xs.length = xs := by
    have : (encB xs ++ t).drop 4 = xs ++ t := rfl
    rw [this]
    exact List.take_left
  rw [hd, ht]

/-- each load takes five bytes at least -/
theorem parse_count : ∀ (k : Nat) (h : List UInt8), h.length ≤ k → (parse h).1.length ≤ h.length := by
  intro k
  induction k with
  | zero =>
    intro h hk
    rw [parse_short (by omega)]
    exact Nat.zero_le _
  | succ k ih =>
    intro h hk
    by_cases h4 : h.length < 4
    · rw [parse_short h4]
      exact Nat.zero_le _
    · by_cases hb : nat4 h < 1 ∨ 32768 < nat4 h
      · rw [parse_bad (by omega) hb]
        exact Nat.zero_le _
      · by_cases hw : h.length < 4 + nat4 h
        · rw [parse_wait (by omega) (by omega) (by omega) hw]
          exact Nat.zero_le _
        · rw [parse_more (by omega) (by omega) (by omega) (by omega)]
          have := ih (h.drop (4 + nat4 h)) (by simp; omega)
          simp only [List.length_cons, List.length_drop] at this ⊢
          omega

end Go.Proofs.Ytaapbiiiepdopaa.Fr

namespace Go.Proofs.Ytaapbiiiepdopaa.Fr
open Go.RowKit Mem

theorem mul1 (a b : Nat) : (a * 256 + b) * 65536 = a * 16777216 + b * 65536 := by omega
theorem mul2 (a b c : Nat) : (a * 65536 + b * 256 + c) * 256 = a * 16777216 + b * 65536 + c * 256 := by omega
theorem or4 (b0 b1 b2 b3 : UInt8) : bits BinOp.or IntKind.u32 (bits BinOp.or IntKind.u32 (bits BinOp.or IntKind.u32 ((b0.toNat : Int) % 4294967296 * 16777216 % 4294967296)
      ((b1.toNat : Int) % 4294967296 * 65536 % 4294967296)) ((b2.toNat : Int) % 4294967296 * 256 % 4294967296)) ((b3.toNat : Int) % 4294967296) =
      ((b0.toNat * 16777216 + b1.toNat * 65536 + b2.toNat * 256 + b3.toNat : Nat) : Int) := by
  have h0 := b0.toNat_lt
  have h1 := b1.toNat_lt
  have h2 := b2.toNat_lt
  have h3 := b3.toNat_lt
  have e0 : (b0.toNat : Int) % 4294967296 * 16777216 % 4294967296 = ((b0.toNat * 16777216 : Nat) : Int) := by omega
  have e1 : (b1.toNat : Int) % 4294967296 * 65536 % 4294967296 = ((b1.toNat * 65536 : Nat) : Int) := by omega
  have e2 : (b2.toNat : Int) % 4294967296 * 256 % 4294967296 = ((b2.toNat * 256 : Nat) : Int) := by omega
  have e3 : (b3.toNat : Int) % 4294967296 = ((b3.toNat : Nat) : Int) := by omega
  have o1 : b0.toNat * 16777216 ||| b1.toNat * 65536 = b0.toNat * 16777216 + b1.toNat * 65536 := by
    have := Nat.shiftLeft_add_eq_or_of_lt (i := 24) (b := b1.toNat * 65536) (by omega) b0.toNat
    rw [Nat.shiftLeft_eq] at this
    exact this.symm
  have o2 : (b0.toNat * 16777216 + b1.toNat * 65536) ||| b2.toNat * 256 = b0.toNat * 16777216 + b1.toNat * 65536 + b2.toNat * 256 := by
    have := Nat.shiftLeft_add_eq_or_of_lt (i := 16) (b := b2.toNat * 256) (by omega) (b0.toNat * 256 + b1.toNat)
    simp only [Nat.shiftLeft_eq, Nat.reducePow] at this
    rw [mul1] at this
    exact this.symm
  have o3 : (b0.toNat * 16777216 + b1.toNat * 65536 + b2.toNat * 256) ||| b3.toNat = b0.toNat * 16777216 + b1.toNat * 65536 + b2.toNat * 256 + b3.toNat := by
    have := Nat.shiftLeft_add_eq_or_of_lt (i := 8) (b := b3.toNat) (by omega) (b0.toNat * 65536 + b1.toNat * 256 + b2.toNat)
    simp only [Nat.shiftLeft_eq, Nat.reducePow] at this
    rw [mul2] at this
    exact this.symm
  rw [e0, e1, e2, e3, u32_or_nat _ _ (by omega) (by omega), o1, u32_or_nat _ _ (by omega) (by omega), o2, u32_or_nat _ _ (by omega) (by omega), o3]

theorem len_at (b off n c : Nat) (b0 b1 b2 b3 : UInt8) (w : World) (h4 : 4 ≤ n)
   (h0 : w.cell? ⟨b, off, none⟩ = some (.int .u8 b0.toNat)) (h1 : w.cell? ⟨b, off + 1, none⟩ = some (.int .u8 b1.toNat)) (h2 : w.cell? ⟨b, off + 2, none⟩ = some (.int .u8 b2.toNat)) (h3 : w.cell? ⟨b, off + 3, none⟩ = some (.int .u8 b3.toNat)) :
    Calls Try.prog 51 #[.slice (some ⟨b, off, none⟩) n c] w fun e w' => e = .returned (.int .u32 ((b0.toNat * 16777216 + b1.toNat * 65536 + b2.toNat * 256 + b3.toNat : Nat) : Int)) ∧ ∃ k, w.drewN k = w' := by
  go_enter Try.func51, Try.ntmps51
  go_wp2
  go_quiet (fail)
  go_wp2
  go_ret
  exact ⟨congrArg (fun x => Ending.returned (.int .u32 x)) (or4 b0 b1 b2 b3), _, rfl⟩

/-- the first four cells -/
theorem four {w : World} {lo hi n : Nat} {A : Option Addr} {xs : List UInt8} (hr : Reads w lo hi 1 A n (xs.map B8)) (h4 : 4 ≤ n) : ∃ b off b0 b1 b2 b3, A = some ⟨b, off, none⟩ ∧ w.cell? ⟨b, off, none⟩ = some (.int .u8 (b0 : UInt8).toNat) ∧
    w.cell? ⟨b, off + 1, none⟩ = some (.int .u8 (b1 : UInt8).toNat) ∧ w.cell? ⟨b, off + 2, none⟩ = some (.int .u8 (b2 : UInt8).toNat) ∧ w.cell? ⟨b, off + 3, none⟩ = some (.int .u8 (b3 : UInt8).toNat) ∧
    nat4 xs = b0.toNat * 16777216 + b1.toNat * 65536 + b2.toNat * 256 + b3.toNat ∧ ∃ t, xs = b0 :: b1 :: b2 :: b3 :: t := by
  obtain ⟨b, off, hA, _, _, _, hc⟩ := hr.plain (by omega) (by omega)
  have hl : xs.length = n := by simpa using hr.1
  match xs, hl with
  | b0 :: b1 :: b2 :: b3 :: t, hl =>
    exact ⟨b, off, b0, b1, b2, b3, hA, hc 0 (by omega), hc 1 (by omega), hc 2 (by omega), hc 3 (by omega), rfl, t, rfl⟩
  | [], hl => simp at hl; omega
  | [_], hl => simp at hl; omega
  | [_, _], hl => simp at hl; omega
  | [_, _, _], hl => simp at hl; omega

theorem len_any (lo hi n c : Nat) (A : Option Addr) (xs : List UInt8) (w : World) (hr : Reads w lo hi 1 A n (xs.map B8)) (h4 : 4 ≤ n) :
    Calls Try.prog 51 #[.slice A n c] w fun e w' => e = .returned (.int .u32 (nat4 xs : Int)) ∧ ∃ k, w.drewN k = w' := by
  obtain ⟨b, off, b0, b1, b2, b3, rfl, h0, h1, h2, h3, hn, _⟩ := four hr h4
  rw [hn]
  exact len_at b off n c b0 b1 b2 b3 w h4 h0 h1 h2 h3

end Go.Proofs.Ytaapbiiiepdopaa.Fr

namespace Go.Proofs.Ytaapbiiiepdopaa.Fr
open Go.RowKit Mem
set_option linter.unusedVariables false

theorem el27 : Elem Try.prog 27 5 (.int .u8 0) 1 1 := ⟨Try.underlying27, by kernel_rfl, rfl, by decide⟩
theorem el54 : Elem Try.prog 54 27 (.slice none 0 0) 1 24 := ⟨Try.underlying54, by kernel_rfl, rfl, by decide⟩

/-- what a frame that may not be is told by -/
def errOf (r : Option (List UInt8)) : Int := if r.isNone then 9 else 0

/-- what a call of Feed leaves -/
def FeedOut (g : Nat) (hv : Value) (all : List UInt8) (w w' : World) (e : Ending) : Prop :=
  ∃ (A A' : Option Addr) (c c' mid : Nat) (vs : List Value), e = .returned (.tuple #[.slice A (parse all).1.length c, .int .i64 (errOf (parse all).2)]) ∧
    w.heap.size ≤ mid ∧ mid ≤ w'.heap.size ∧ w'.ownsRow w.heap.size 27 1 (.slice A (parse all).1.length c) (parse all).1.length vs ∧ (∀ k, (Value.slice A (parse all).1.length c).ownBlock = some k → k < mid) ∧
    Own2 w' 5 w.heap.size mid vs (parse all).1 ∧ Blk w' g 81 #[.slice A' ((parse all).2.getD []).length c', .bool (parse all).2.isNone] ∧
    w'.ownsRow mid 5 1 (.slice A' ((parse all).2.getD []).length c') ((parse all).2.getD []).length (((parse all).2.getD []).map B8) ∧ Only (fun k => k = g ∨ hv.ownBlock = some k) w w'

/-- what holds at each round's head; B: where the round's own memory begins -/
def FeedInv (g : Nat) (all : List UInt8) (w1 : World) (k : Nat) (v : Value) (wr : World) : Prop :=
  ∃ (fs : List (List UInt8)) (vs : List Value) (rest : List UInt8) (A A' : Option Addr) (c c' : Nat), v = .slice A' fs.length c' ∧ rest.length = k ∧
    Blk wr g 81 #[.slice A rest.length c, .bool false] ∧ rest.length ≤ c ∧ Reads wr 0 w1.heap.size 1 A rest.length (rest.map B8) ∧ (∀ ad, A = some ad → ad.block ≠ g) ∧
    wr.ownsRow w1.heap.size 27 1 (.slice A' fs.length c') fs.length vs ∧ Own2 wr 5 w1.heap.size wr.heap.size vs fs ∧
    parse all = (fs ++ (parse rest).1, (parse rest).2) ∧ fs.length + rest.length ≤ all.length ∧ Only (fun k => k = g) w1 wr

theorem own_ne_blk {w : World} {base e t g size n : Nat} {v : Value} {xs : List Value} {cs : Array Value} (h : w.ownsRow base e size v n xs) (hg : Blk w g t cs) (hne : e ≠ t) : ∀ k, v.ownBlock = some k → ¬ k = g :=
  fun _ hk e => own_blk_ne h hg hne (e ▸ hk)
theorem own2_ne_blk {w : World} {e lo hi t g : Nat} {cs : Array Value} (hg : Blk w g t cs) (hne : e ≠ t) (u : Value) (i : Nat) : ∀ {vs : List Value} {xs : List (List UInt8)}, Own2 w e lo hi vs xs → Own2 (w.setCell ⟨g, i, none⟩ u) e lo hi vs xs
  | [], [], _ => trivial
  | v :: _, x :: _, ⟨⟨ho, hb⟩, h⟩ => ⟨⟨own_only ho ((Only.refl (fun k => k = g) w).setCell (.inl rfl) u) (own_ne_blk ho hg hne), hb⟩, own2_ne_blk hg hne u i h⟩
  | [], _ :: _, h => h.elim
  | _ :: _, [], h => h.elim

theorem feed_start {g base n c0 m : Nat} {A0 A1 : Option Addr} {c1 : Nat} {all : List UInt8} {w w1 : World} (hg : Blk w g 81 #[.slice A0 n c0, .bool false]) (hgw : Blk w1 g 81 #[.slice A0 n c0, .bool false])
    (hown1 : w1.ownsRow base 5 1 (.slice A1 (n + m) c1) (n + m) (all.map B8)) : FeedInv g all (w1.setCell ⟨g, 0, none⟩ (.slice A1 (n + m) c1)) (n + m) (.slice none 0 0) (w1.setCell ⟨g, 0, none⟩ (.slice A1 (n + m) c1)) := by
  have hl : all.length = n + m := by simpa using hown1.1
  have hown2 := own_only hown1 ((Only.refl (fun k => k = g) w1).setCell (p := ⟨g, 0, none⟩) (.inl rfl) (.slice A1 (n + m) c1)) (own_ne_blk hown1 hgw (by decide))
  obtain ⟨A', c', e, hc, hr⟩ := own_form hown2
  cases e
  refine ⟨[], [], all, A1, none, c1, 0, rfl, hl, ?_, by omega, ?_, fun ad h => own_ne_blk hown1 hgw (by decide) _ (by rw [h]; rfl), World.ownsRow_nil _ _ _ _, trivial, rfl, by simp, Only.refl _ _⟩
  · rw [hl]; exact hgw.set_ 0 _
  · rw [hl]; exact hr.more (Nat.zero_le _) (Nat.le_refl _)

theorem feed_shut {g : Nat} {hv : Value} {all rest : List UInt8} {fs : List (List UInt8)} {vs : List Value} {A A' A2 : Option Addr} {c c' c2 : Nat} {w W1 wr w2 : World}
    (hw : Only (fun k => k = g ∨ hv.ownBlock = some k) w W1) (hgr : Blk wr g 81 #[.slice A rest.length c, .bool false]) (hor : wr.ownsRow W1.heap.size 27 1 (.slice A' fs.length c') fs.length vs) (hro : Own2 wr 5 W1.heap.size wr.heap.size vs fs)
    (hpar : parse all = (fs, some rest)) (honly : Only (fun k => k = g) W1 wr) (hown2 : w2.ownsRow wr.heap.size 5 1 (.slice A2 rest.length c2) rest.length (rest.map B8)) (hg2 : wr.grownBy w2 none) :
    FeedOut g hv all w (w2.setCell ⟨g, 0, none⟩ (.slice A2 rest.length c2)) (.returned (.tuple #[.slice A' fs.length c', .int .i64 0])) := by
  have hs1 := hw.size
  have hs2 := honly.size
  have hs3 := hg2.size
  have hgw2 := hgr.grown hg2 (by simp)
  have hon2 : Only (fun _ => False) wr w2 := Only.ofGrown hg2 |>.mono (by simp)
  have hst := (Only.refl (fun k => k = g) w2).setCell (p := ⟨g, 0, none⟩) (.inl rfl) (.slice A2 rest.length c2)
  unfold FeedOut
  rw [hpar]
  refine ⟨A', A2, c', c2, wr.heap.size, vs, rfl, by omega, by simpa using hs3, ?_, ?_, ?_, hgw2.set_ 0 _, ?_, ?_⟩
  · have h1 := own_only hor hon2 (by simp)
    exact ownsRow_mono (own_only h1 hst (own_ne_blk h1 hgw2 (by decide))) hs1
  · exact fun k hk => (hor.lt k hk).2
  · exact own2_ne_blk hgw2 (by decide) _ 0 ((hro.only hon2 (by simp) (Nat.le_refl _)).more hs1 (Nat.le_refl _))
  · exact own_only hown2 hst (own_ne_blk hown2 hgw2 (by decide))
  · exact ((hw.trans honly (fun k _ h => .inl h)).trans hon2 (by simp)).setCell (.inl (.inl rfl)) _

theorem feed_broke {g : Nat} {hv : Value} {all rest : List UInt8} {fs : List (List UInt8)} {vs : List Value} {A A' : Option Addr} {c c' k : Nat} {w W1 wr : World}
    (hw : Only (fun k => k = g ∨ hv.ownBlock = some k) w W1) (hgr : Blk wr g 81 #[.slice A rest.length c, .bool false]) (hor : wr.ownsRow W1.heap.size 27 1 (.slice A' fs.length c') fs.length vs) (hro : Own2 wr 5 W1.heap.size wr.heap.size vs fs)
    (hpar : parse all = (fs, none)) (honly : Only (fun k => k = g) W1 wr) :
    FeedOut g hv all w (((wr.drewN k).setCell ⟨g, 1, none⟩ (.bool true)).setCell ⟨g, 0, none⟩ (.slice none 0 0)) (.returned (.tuple #[.slice A' fs.length c', .int .i64 9])) := by
  have hs1 := hw.size
  have hs2 := honly.size
  have hb1 := (hgr.drewN k).set_ 1 (.bool true)
  have hst1 := (Only.refl (fun k => k = g) (wr.drewN k)).setCell (p := ⟨g, 1, none⟩) (.inl rfl) (.bool true)
  have hst := hst1.setCell (p := ⟨g, 0, none⟩) (.inl rfl) (.slice none 0 0)
  have hor' : (wr.drewN k).ownsRow W1.heap.size 27 1 (.slice A' fs.length c') fs.length vs := hor
  have hro' : Own2 (wr.drewN k) 5 W1.heap.size wr.heap.size vs fs := hro.drewN k
  unfold FeedOut
  rw [hpar]
  refine ⟨A', none, c', 0, wr.heap.size, vs, rfl, by omega, by simp, ?_, ?_, ?_, hb1.set_ 0 _, World.ownsRow_nil _ _ _ _, ?_⟩
  · exact ownsRow_mono (own_only hor' hst (own_ne_blk hor' (hgr.drewN k) (by decide))) hs1
  · exact fun k hk => (hor.lt k hk).2
  · exact own2_ne_blk hb1 (by decide) _ 0 (own2_ne_blk (hgr.drewN k) (by decide) _ 1 (hro'.more hs1 (Nat.le_refl _)))
  · exact ((((hw.trans honly (fun k _ h => .inl h)).drewN k).setCell (.inl (.inl rfl)) _).setCell (.inl (.inl rfl)) _)

theorem feed_step {g kq : Nat} {all rest : List UInt8} {fs : List (List UInt8)} {vs : List Value} {A A' A2 A3 An : Option Addr} {c c' c2 c3 : Nat} {W1 wr w2 w3 : World}
    (hgr : Blk wr g 81 #[.slice A rest.length c, .bool false]) (hcn : rest.length ≤ c) (hor : wr.ownsRow W1.heap.size 27 1 (.slice A' fs.length c') fs.length vs) (hro : Own2 wr 5 W1.heap.size wr.heap.size vs fs)
    (hpar : parse all = (fs ++ (parse rest).1, (parse rest).2)) (hlen : fs.length + rest.length ≤ all.length) (honly : Only (fun k => k = g) W1 wr)
    (h5 : 4 ≤ rest.length) (hb1 : 1 ≤ nat4 rest) (hb2 : nat4 rest ≤ 32768) (hw : 4 + nat4 rest ≤ rest.length)
    (hown2 : w2.ownsRow W1.heap.size 5 1 (.slice A2 (nat4 rest) c2) (nat4 rest) (((rest.drop 4).take (nat4 rest)).map B8)) (hg2 : (wr.drewN kq).grownBy w2 none)
    (hown3 : w3.ownsRow W1.heap.size 27 1 (.slice A3 (fs.length + 1) c3) (fs.length + 1) (vs ++ [.slice A2 (nat4 rest) c2]))
    (hg3 : (w2.alloc (.cells #[.slice A2 (nat4 rest) c2] 27)).grownBy w3 (Value.slice A' fs.length c').ownBlock)
    {cn : Nat} (hcn' : rest.length - (4 + nat4 rest) ≤ cn) (hAg : ∀ ad, An = some ad → ad.block ≠ g) (hAn : Reads wr 0 W1.heap.size 1 An (rest.length - (4 + nat4 rest)) ((rest.drop (4 + nat4 rest)).map B8)) :
    FeedInv g all W1 (rest.length - (4 + nat4 rest)) (.slice A3 (fs.length + 1) c3) (w3.setCell ⟨g, 0, none⟩ (.slice An (rest.length - (4 + nat4 rest)) cn)) := by
  have hs1 := honly.size
  have hs2 : wr.heap.size ≤ w2.heap.size := hg2.size
  have hs3 : w2.heap.size + 1 ≤ w3.heap.size := by simpa using hg3.size
  have hl : ((rest.drop 4).take (nat4 rest)).length = nat4 rest := by simp; omega
  have hl2 : (rest.drop (4 + nat4 rest)).length = rest.length - (4 + nat4 rest) := by simp
  have hon2 : Only (fun _ => False) wr w2 := ⟨hg2.os, hg2.tape, hg2.output, hg2.size, fun k hk _ => hg2.block k hk (by simp)⟩
  have hor2 := (own_only hor hon2 (by simp)).alloc (.cells #[.slice A2 (nat4 rest) c2] 27)
  have hro2 : Own2 w2 5 W1.heap.size w2.heap.size (vs ++ [.slice A2 (nat4 rest) c2]) (fs ++ [(rest.drop 4).take (nat4 rest)]) :=
    ((hro.only hon2 (by simp) (Nat.le_refl _)).more (Nat.le_refl _) hs2).snoc (by rw [hl]; exact hown2) (fun k hk => (hown2.lt k hk).2)
  have hro3 := own2_grown (e := 5) hor2 (by decide) hg3 (hro2.only ((Only.refl (fun _ => False) w2).alloc _) (by simp) (Nat.le_refl _))
  have hgw3 := ((hgr.only hon2 (by simp)).alloc (.cells #[.slice A2 (nat4 rest) c2] 27)).grown hg3 (fun h => own_ne_blk hor hgr (by decide) g h.symm rfl)
  have hon3 : Only (fun k => k = g) W1 w3 := ((honly.trans hon2 (by simp)).alloc _).grown hg3 (fun k hk => .inr (hor.lt k hk).1)
  have hst := (Only.refl (fun k => k = g) w3).setCell (p := ⟨g, 0, none⟩) (.inl rfl) (.slice An (rest.length - (4 + nat4 rest)) cn)
  refine ⟨fs ++ [(rest.drop 4).take (nat4 rest)], vs ++ [.slice A2 (nat4 rest) c2], rest.drop (4 + nat4 rest), An, A3, cn, c3, by simp, hl2, ?_, by omega, ?_, hAg, ?_, ?_, ?_, ?_, hon3.setCell (.inl rfl) _⟩
  · rw [hl2]; exact hgw3.set_ 0 _
  · rw [hl2]
    have hf := hon3.setCell (p := ⟨g, 0, none⟩) (.inl rfl) (.slice An (rest.length - (4 + nat4 rest)) cn)
    refine hAn.keepA fun ad k hA _ hlt => ?_
    have hne := hAg ad hA
    rw [hf.cell (by rw [block_of_add]; exact hlt) (by rw [block_of_add]; exact hne), honly.cell (by rw [block_of_add]; exact hlt) (by rw [block_of_add]; exact hne)]
  · have := own_only hown3 hst (own_ne_blk hown3 hgw3 (by decide))
    simpa using this
  · refine (own2_ne_blk hgw3 (by decide) _ 0 hro3).more (Nat.le_refl _) (by simp; omega)
  · rw [hpar, parse_more h5 hb1 hb2 hw]
    simp
  · simp; omega

set_option maxHeartbeats 1600000 in
theorem feed_ok (g base lo hi n m c : Nat) (hv : Value) (A : Option Addr) (hs bs : List UInt8) (w : World) (hg : Blk w g 81 #[hv, .bool false]) (hown : w.ownsRow base 5 1 hv n (hs.map B8))
    (hr : Reads w lo hi 1 A m (bs.map B8)) (hsz : n + m ≤ 4294967296) (hbase : base ≤ w.heap.size) :
    Calls Try.prog 32 #[.pointer (some ⟨g, 0, none⟩), .slice A m c] w fun e w' => FeedOut g hv (hs ++ bs) w w' e := by
  obtain ⟨A0, c0, rfl, hc0, hr0⟩ := own_form hown
  have hl0 : hs.length = n := by simpa using hown.1
  have hl1 : bs.length = m := by simpa using hr.1
  have q0 : w.cell? ⟨g, 0, none⟩ = some (.slice A0 n c0) := by rw [hg.cell]; rfl
  have q1 : w.cell? ⟨g, 1, none⟩ = some (.bool false) := by rw [hg.cell]; rfl
  have HL := hide (And.intro hl0 hl1)
  clear hl0 hl1
  go_enter Try.func32, Try.ntmps32
  go_wp2_with fail
  go_step3
  go_wp2_with (first
    | (at_builtin; refine wpList_app el27 (.tmp 16) (.tmp 17) hown hr (B8_one bs) (N := n + m) (ys := (hs ++ bs).map B8) rfl (by simp) (by unfold maxLen; omega) (by omega) hbase rfl rfl rfl rfl ?_
       intro A1 c1 w1 hown1 hg1 hb1
       have hgw := hg.grown hg1 (by intro h; exact (own_blk_ne hown hg (by decide) h.symm).elim)
       have q2 : w1.cell? ⟨g, 0, none⟩ = some (.slice A0 n c0) := by rw [hgw.cell]; rfl
       have q3 := hgw.frozen 0))
  go_step3
  have hW1 := (hgw.set_ 0 (.slice A1 (n + m) c1))
  go_wp2_with fail
  obtain ⟨W1, eW1⟩ : ∃ W1, W1 = w1.setCell ⟨g, 0, none⟩ (.slice A1 (n + m) c1) := ⟨_, rfl⟩
  have HW := hide eW1
  have hw : Only (fun k => k = g ∨ (Value.slice A0 n c0).ownBlock = some k) w W1 := by
    rw [eW1]
    exact (((Only.refl _ w).grown hg1 (fun k hk => .inl (.inr hk))).setCell (.inl (.inl rfl)) _)
  clear eW1
  go_loopg [6] (n + m) (fun k v wr => FeedInv g (hs ++ bs) W1 k v wr)
  case atStart => exact HW.out ▸ feed_start hg hgw hown1
  case round =>
    obtain ⟨fs, vs, rest, A, A', c, c', rfl, rfl, hgr, hcn, hrr, hAg, hor, hro, hpar, hlen, honly⟩ := hrel
    have hrl : fs.length + rest.length ≤ 4294967296 := by
      have := HL.out
      rw [List.length_append] at hlen
      omega
    have HP := hide hpar
    clear hpar
    by_cases h4 : rest.length < 4
    · have r0 : wr.cell? ⟨g, 0, none⟩ = some (.slice A rest.length c) := by rw [hgr.cell]; rfl
      have r1 := hgr.frozen 0
      clear q0 q1 q2 q3
      have hB := honly.size
      go_wp2_with (at_builtin; refine wpList_app el27 (.const (.slice none 0 0)) (.tmp 83) (World.ownsRow_nil wr wr.heap.size 5 1) hrr (B8_one rest) (N := rest.length) (ys := rest.map B8) (by simp) rfl (by unfold maxLen; omega) (by omega) (Nat.le_refl _) rfl rfl rfl rfl ?_
                   intro A2 c2 w2 hown2 hg2 hbk
                   have hgw2 := hgr.grown hg2 (by simp [Value.ownBlock])
                   have q2 : w2.cell? ⟨g, 0, none⟩ = some (.slice A rest.length c) := by rw [hgw2.cell]; rfl
                   have q3 := hgw2.frozen 0)
      try rw [Exit.noGoto_ret]
      go_ret2
      exact feed_shut hw hgr hor hro (by rw [HP.out, parse_short h4, List.append_nil]) honly hown2 hg2
    · have h5 : 4 ≤ rest.length := by omega
      have hlt := nat4_lt rest
      have r0 : wr.cell? ⟨g, 0, none⟩ = some (.slice A rest.length c) := by rw [hgr.cell]; rfl
      have r2 : wr.cell? ⟨g, 1, none⟩ = some (.bool false) := by rw [hgr.cell]; rfl
      have r1 := hgr.frozen 0
      have r3 := hgr.frozen 1
      have hB := honly.size
      clear q0 q1 q2 q3 h4
      by_cases hb : nat4 rest < 1 ∨ 32768 < nat4 rest
      · rcases hb with hb | hb
        · go_wp2_with (go_at_call 51; refine (len_any _ _ _ _ _ _ _ hrr h5).mono ?_; rintro e w' ⟨rfl, kq, rfl⟩)
          try rw [Exit.noGoto_ret]
          go_ret2
          exact feed_broke hw hgr hor hro (by rw [HP.out, parse_bad h5 (.inl hb), List.append_nil]) honly
        · have hb1 : 1 ≤ nat4 rest := by omega
          go_wp2_with (go_at_call 51; refine (len_any _ _ _ _ _ _ _ hrr h5).mono ?_; rintro e w' ⟨rfl, kq, rfl⟩)
          try rw [Exit.noGoto_ret]
          go_ret2
          exact feed_broke hw hgr hor hro (by rw [HP.out, parse_bad h5 (.inr hb), List.append_nil]) honly
      · have hb1 : 1 ≤ nat4 rest := by omega
        have hb2 : nat4 rest ≤ 32768 := by omega
        clear hb
        by_cases hwt : rest.length < 4 + nat4 rest
        · go_wp2_with (first
            | (go_at_call 51; refine (len_any _ _ _ _ _ _ _ hrr h5).mono ?_; rintro e w' ⟨rfl, kq, rfl⟩)
            | (at_builtin; refine wpList_app el27 (.const (.slice none 0 0)) (.tmp 83) (World.ownsRow_nil _ wr.heap.size 5 1) (hrr.drewN kq) (B8_one rest) (N := rest.length) (ys := rest.map B8) (by simp) rfl (by unfold maxLen; omega) (by omega) (Nat.le_refl _) rfl rfl rfl rfl ?_
               intro A2 c2 w2 hown2 hg2 hbk
               have hgw2 := (hgr.drewN kq).grown hg2 (by simp [Value.ownBlock])
               have q2 : w2.cell? ⟨g, 0, none⟩ = some (.slice A rest.length c) := by rw [hgw2.cell]; rfl
               have q3 := hgw2.frozen 0))
          try rw [Exit.noGoto_ret]
          go_ret2
          exact feed_shut hw (hgr.drewN kq) hor (hro.drewN kq) (by rw [HP.out, parse_wait h5 hb1 hb2 hwt, List.append_nil]) (honly.drewN kq) hown2 hg2
        · have hwt' : 4 + nat4 rest ≤ rest.length := by omega
          clear hwt
          go_wp2_with (first
            | (go_at_call 51; refine (len_any _ _ _ _ _ _ _ hrr h5).mono ?_; rintro e w' ⟨rfl, kq, rfl⟩)
            | (at_builtin; refine pause ?_))
          refine unpause ?_
          refine wpList_app el27 (.const (.slice none 0 0)) (.tmp 64) (World.ownsRow_nil _ W1.heap.size 5 1) (((hrr.drewN kq).cut_ (k := 4) (by omega)).take (k := 4 + nat4 rest - 4) (by omega)) ?_ (N := nat4 rest) (ys := ((rest.drop 4).take (nat4 rest)).map B8) (by omega) ?_ (by unfold maxLen; omega) (by omega) hB rfl rfl rfl rfl ?_
          · rw [Nat.add_sub_cancel_left]; simp only [Nat.mul_one, ← List.map_drop, ← List.map_take]; exact B8_one _
          · rw [Nat.add_sub_cancel_left]; simp only [Nat.mul_one, ← List.map_drop, ← List.map_take, List.nil_append]
          intro A2 c2 w2 hown2 hg2 hbk
          have hs2 : wr.heap.size ≤ w2.heap.size := hg2.size
          have hor2 := ((own_grown (own_drewN hor kq) hg2 (by simp [Value.ownBlock]))).alloc (.cells #[.slice A2 (nat4 rest) c2] 27)
          go_wp2_with (at_builtin; refine pause ?_)
          refine unpause ?_
          refine wpList_app el54 (.tmp 56) (.tmp 66) hor2 (Reads.lit _ _ _ 1 1 rfl) (by simp [Value.oneCell']) (N := fs.length + 1) (ys := vs ++ [.slice A2 (nat4 rest) c2]) rfl rfl (by unfold maxLen; omega) (by omega) (by simp; omega) rfl rfl rfl rfl ?_
          intro A3 c3 w3 hown3 hg3 hbk3
          have hgw3 := (((hgr.drewN kq).grown hg2 (by simp [Value.ownBlock])).alloc (.cells #[.slice A2 (nat4 rest) c2] 27)).grown hg3 (fun h => own_ne_blk hor hgr (by decide) g h.symm rfl)
          have q2 : w3.cell? ⟨g, 0, none⟩ = some (.slice A rest.length c) := by rw [hgw3.cell]; rfl
          have q3 := hgw3.frozen 0
          go_wp2_with fail
          all_goals go_roundg (rest.length - (4 + nat4 rest))
          all_goals first
            | (case measure => omega)
            | (case rel => exact feed_step hgr hcn hor hro HP.out hlen honly h5 hb1 hb2 hwt' hown2 hg2 hown3 hg3 (An := A) (cn := 0) (by omega) hAg (Reads.zero (by omega) (by simp; omega)))
            | (case rel => exact feed_step hgr hcn hor hro HP.out hlen honly h5 hb1 hb2 hwt' hown2 hg2 hown3 hg3 (by omega) (by intro ad h; cases A with
                | none => cases h
                | some a => cases h; simpa [block_of_add] using hAg a rfl) (by have := hrr.cut_ (k := 4 + nat4 rest) hwt'; rw [Nat.mul_one, ← List.map_drop] at this; exact this))

end Go.Proofs.Ytaapbiiiepdopaa.Fr

namespace Go.Proofs.Ytaapbiiiepdopaa.Fr
open Go.RowKit Mem



theorem hd4_vals (n : Nat) (h : n ≤ 32768) : [Value.int .u8 ((n : Int) / 16777216), .int .u8 ((n : Int) / 65536), .int .u8 ((n : Int) / 256), .int .u8 ((n : Int) % 256)] = (hd4 n).map B8 := by
  have e0 : (n : Int) / 16777216 = ((0 : Nat) : Int) := by omega
  have e1 : (n : Int) / 65536 = ((0 : Nat) : Int) := by omega
  have e2 : (n : Int) / 256 = ((n / 256 : Nat) : Int) := by omega
  have e3 : (n : Int) % 256 = ((n % 256 : Nat) : Int) := by omega
  rw [e0, e1, e2, e3, B8_ofNat _ (by omega), B8_ofNat _ (by omega), B8_ofNat _ (by omega)]
  rfl

theorem enc_ok (hi n c : Nat) (A : Option Addr) (xs : List UInt8) (w : World) (hr : Reads w 0 hi 1 A n (xs.map B8)) (hn1 : 1 ≤ n) (hn2 : n ≤ 32768) (hhi : hi ≤ w.heap.size) :
    Calls Try.prog 30 #[.slice A n c] w fun e w' => ∃ A' c', e = .returned (.tuple #[.slice A' (4 + n) c', .int .i64 0]) ∧ w'.ownsRow w.heap.size 5 1 (.slice A' (4 + n) c') (4 + n) ((encB xs).map B8) ∧ Below w.heap.size w w' := by
  have hl : xs.length = n := by simpa using hr.1
  have HL := hide hl
  clear hl
  go_enter Try.func30, Try.ntmps30
  go_wp2_with (first
    | (at_make; refine wpList_mk0 el27 _ _ w.heap.size (4 + n) (by omega) (by unfold maxLen; omega) (Nat.le_refl _) rfl rfl rfl rfl (by omega) ?_; intro w1 hown1 hg1)
    | (at_builtin; refine wpList_app el27 (.tmp 17) (.tmp 29) (hown1.alloc _) (Reads.lit _ _ _ 4 1 rfl) (by simp [Value.oneCell']) (N := 4) rfl rfl (by unfold maxLen; omega) (by omega) (by have := hg1.size; simp; omega) rfl rfl rfl rfl ?_; intro A2 c2 w2 hown2 hg2 hb2
       have hb : Below w.heap.size w w2 := (((Below.refl _ _).grown hg1 (Nat.le_refl _) (by simp)).alloc hg1.size _).grown hg2 (by have := hg1.size; simp; omega) (by simp [Value.ownBlock]))
    | (at_builtin; refine wpList_app el27 (.tmp 31) (.tmp 32) hown2 (hr.below hb hhi) (B8_one xs) (N := 4 + n) rfl rfl (by unfold maxLen; omega) (by omega) hb.size rfl rfl rfl rfl ?_; intro A3 c3 w3 hown3 hg3 hb3))
  go_ret2
  refine ⟨_, _, rfl, ?_, hb.grown hg3 hb.size fun k hk => ?_⟩
  · have e := hd4_vals n hn2
    simp only [List.nil_append, e] at hown3
    rw [encB, HL.out, List.map_append]
    exact hown3
  · have := hown2.lt k hk
    exact this.1

theorem enc_no (n c : Nat) (A : Option Addr) (w : World) (hn : n < 1 ∨ 32768 < n) :
    Calls Try.prog 30 #[.slice A n c] w fun e w' => e = .returned (.tuple #[.slice none 0 0, .int .i64 21]) ∧ w = w' := by
  rcases hn with hn | hn
  · go_enter Try.func30, Try.ntmps30
    go_wp2
    go_ret2
    exact ⟨rfl, rfl⟩
  · go_enter Try.func30, Try.ntmps30
    go_wp2
    go_ret2
    exact ⟨rfl, rfl⟩
end Go.Proofs.Ytaapbiiiepdopaa.Fr

namespace Go.Proofs.Ytaapbiiiepdopaa.Fr
open Go.RowKit Go.WideShapes Mem
set_option linter.unusedVariables false

theorem new_any (w : World) : Calls Try.prog 31 #[] w fun e w' => e = .returned (.pointer (some ⟨w.heap.size, 0, none⟩)) ∧ w.alloc (.cells #[.slice none 0 0, .bool false] 81) = w' := by
  go_enter Try.func31, Try.ntmps31
  go_wp2
  go_ret
  exact ⟨rfl, rfl⟩

/-- what a reader at block g holds, and what was told of the bytes pre; B: the world in which the stream began -/
def StInv (g : Nat) (B : World) (pre : List UInt8) (told : Value) (wr : World) : Prop :=
  ∃ (HA TA : Option Addr) (hc tc M : Nat) (ts : List Value), told = .slice TA (parse pre).1.length tc ∧ Blk wr g 81 #[.slice HA ((parse pre).2.getD []).length hc, .bool (parse pre).2.isNone] ∧
    wr.ownsRow M 5 1 (.slice HA ((parse pre).2.getD []).length hc) ((parse pre).2.getD []).length (((parse pre).2.getD []).map B8) ∧ wr.ownsRow B.heap.size 27 1 (.slice TA (parse pre).1.length tc) (parse pre).1.length ts ∧
    Own2 wr 5 B.heap.size M ts (parse pre).1 ∧ B.heap.size ≤ M ∧ M ≤ wr.heap.size ∧ Only (fun k => k = g) B wr ∧ g < B.heap.size

theorem st_start {g : Nat} {B : World} {V : Value} (hV : V = .slice none 0 0) (hg : Blk B g 81 #[.slice none 0 0, .bool false]) : StInv g B [] V B := by
  have e : parse [] = ([], some []) := rfl
  subst hV
  refine ⟨none, none, 0, 0, B.heap.size, [], ?_⟩
  rw [e]
  exact ⟨rfl, hg, World.ownsRow_nil _ _ _ _, World.ownsRow_nil _ _ _ _, trivial, Nat.le_refl _, Nat.le_refl _, Only.refl _ _, hg.lt⟩

theorem st_no {g : Nat} {B wr w2 : World} {pre p : List UInt8} {HA TA TA' : Option Addr} {hc tc tc' M : Nat} {ts : List Value} (hb : (parse pre).2 = none)
    (h1 : Blk wr g 81 #[.slice HA ((parse pre).2.getD []).length hc, .bool (parse pre).2.isNone]) (h2 : wr.ownsRow M 5 1 (.slice HA ((parse pre).2.getD []).length hc) ((parse pre).2.getD []).length (((parse pre).2.getD []).map B8))
    (h3 : wr.ownsRow B.heap.size 27 1 (.slice TA (parse pre).1.length tc) (parse pre).1.length ts) (h4 : Own2 wr 5 B.heap.size M ts (parse pre).1) (h5 : B.heap.size ≤ M) (h6 : M ≤ wr.heap.size) (h7 : Only (fun k => k = g) B wr) (h8 : g < B.heap.size)
    (ho : w2.ownsRow B.heap.size 27 1 (.slice TA' (parse pre).1.length tc') (parse pre).1.length ts) (hg2 : wr.grownBy w2 (Value.slice TA (parse pre).1.length tc).ownBlock) :
    StInv g B (pre ++ p) (.slice TA' (parse pre).1.length tc') w2 := by
  have e := (parse_append _ pre p (Nat.le_refl _)).2 hb
  refine ⟨HA, TA', hc, tc', M, ts, ?_⟩
  rw [e]
  exact ⟨rfl, h1.grown hg2 (fun h => own_ne_blk h3 h1 (by decide) g h.symm rfl), own_grown h2 hg2 (own_own_ne h2 h3 (by decide)), ho, own2_grown h3 (by decide) hg2 h4, h5, Nat.le_trans h6 hg2.size,
    h7.grown hg2 (fun k hk => .inr (h3.lt k hk).1), h8⟩

theorem st_step {g N : Nat} {B wr w1 w2 : World} {pre p rest : List UInt8} {fs : List (List UInt8)} {r : Option (List UInt8)} {HA TA TA' A' : Option Addr} {hc tc tc' c' M mid : Nat} {ts us : List Value} (hb : (parse pre).2 = some rest) (hp : (fs, r) = parse (rest ++ p))
    (h1 : Blk wr g 81 #[.slice HA rest.length hc, .bool false]) (h2 : wr.ownsRow M 5 1 (.slice HA rest.length hc) rest.length (rest.map B8))
    (h3 : wr.ownsRow B.heap.size 27 1 (.slice TA (parse pre).1.length tc) (parse pre).1.length ts) (h4 : Own2 wr 5 B.heap.size M ts (parse pre).1) (h5 : B.heap.size ≤ M) (h6 : M ≤ wr.heap.size) (h7 : Only (fun k => k = g) B wr) (h8 : g < B.heap.size)
    (f1 : wr.heap.size ≤ mid) (f2 : mid ≤ w1.heap.size) (f5 : Own2 w1 5 wr.heap.size mid us fs)
    (f6 : Blk w1 g 81 #[.slice A' (r.getD []).length c', .bool r.isNone]) (f7 : w1.ownsRow mid 5 1 (.slice A' (r.getD []).length c') (r.getD []).length ((r.getD []).map B8)) (f8 : Only (fun k => k = g ∨ (Value.slice HA rest.length hc).ownBlock = some k) wr w1)
    (hN : (parse pre).1.length + fs.length = N)
    (ho : w2.ownsRow B.heap.size 27 1 (.slice TA' N tc') N (ts ++ us)) (hg2 : w1.grownBy w2 (Value.slice TA (parse pre).1.length tc).ownBlock) :
    StInv g B (pre ++ p) (.slice TA' N tc') w2 := by
  have e := (parse_append _ pre p (Nat.le_refl _)).1 rest hb
  rw [← hp] at e
  have h31 : w1.ownsRow B.heap.size 27 1 (.slice TA (parse pre).1.length tc) (parse pre).1.length ts := own_only h3 f8 (fun k hk h => by
    rcases h with rfl | h
    · exact own_ne_blk h3 h1 (by decide) _ hk rfl
    · exact own_own_ne h3 h2 (by decide) k hk h)
  have h41 : Own2 w1 5 B.heap.size M ts (parse pre).1 := h4.only f8 (fun k hk1 hk2 h => by
    rcases h with rfl | h
    · omega
    · have := (h2.lt k h).1; omega) h6
  have hsz := f8.size
  have hN' : N = ((parse pre).1 ++ fs).length := by rw [List.length_append]; exact hN.symm
  subst hN'
  have h51 : Own2 w1 5 B.heap.size mid (ts ++ us) ((parse pre).1 ++ fs) := by
    have a1 := h41.more (lo' := B.heap.size) (hi' := mid) (Nat.le_refl _) (by omega)
    have a2 := f5.more (lo' := B.heap.size) (hi' := mid) (by omega) (Nat.le_refl _)
    have key : ∀ {vs us : List Value} {xs ys : List (List UInt8)}, Own2 w1 5 B.heap.size mid vs xs → Own2 w1 5 B.heap.size mid us ys → Own2 w1 5 B.heap.size mid (vs ++ us) (xs ++ ys) := by
      intro vs
      induction vs with
      | nil =>
        intro us xs ys h h'
        match xs, h with
        | [], _ => exact h'
      | cons v vs ih =>
        intro us xs ys h h'
        match xs, h with
        | x :: xs, h => exact ⟨h.1, ih h.2 h'⟩
    exact key a1 a2
  refine ⟨A', TA', c', tc', mid, ts ++ us, ?_⟩
  rw [e]
  refine ⟨rfl, f6.grown hg2 (fun h => own_ne_blk h31 f6 (by decide) g h.symm rfl), own_grown f7 hg2 (own_own_ne f7 h31 (by decide)), ho, own2_grown h31 (by decide) hg2 h51, by omega, Nat.le_trans f2 hg2.size, ?_, h8⟩
  exact (h7.trans f8 (fun k hk h => by
    rcases h with h | h
    · exact h
    · have := (h2.lt k h).1; omega)).grown hg2 (fun k hk => .inr (h3.lt k hk).1)

/-- what FeedOut says, opened -/
theorem feed_open {g : Nat} {hv : Value} {all : List UInt8} {w w' : World} {e : Ending} (h : FeedOut g hv all w w' e) : ∃ (fs : List (List UInt8)) (r : Option (List UInt8)) (A A' : Option Addr) (c c' mid : Nat) (vs : List Value), (fs, r) = parse all ∧ e = .returned (.tuple #[.slice A fs.length c, .int .i64 (errOf r)]) ∧
    w.heap.size ≤ mid ∧ mid ≤ w'.heap.size ∧ w'.ownsRow w.heap.size 27 1 (.slice A fs.length c) fs.length vs ∧ (∀ k, (Value.slice A fs.length c).ownBlock = some k → k < mid) ∧
    Own2 w' 5 w.heap.size mid vs fs ∧ Blk w' g 81 #[.slice A' (r.getD []).length c', .bool r.isNone] ∧
    w'.ownsRow mid 5 1 (.slice A' (r.getD []).length c') (r.getD []).length ((r.getD []).map B8) ∧ Only (fun k => k = g ∨ hv.ownBlock = some k) w w' ∧ fs.length ≤ all.length ∧ (r.getD []).length ≤ 32771 := by
  obtain ⟨A, A', c, c', mid, vs, h⟩ := h
  obtain ⟨h1, h2, h3, h4, h5, h6, h7, h8, h9⟩ := h
  exact ⟨_, _, A, A', c, c', mid, vs, rfl, h1, h2, h3, h4, h5, h6, h7, h8, h9, parse_count _ all (Nat.le_refl _), parse_rest _ all (Nat.le_refl _)⟩

end Go.Proofs.Ytaapbiiiepdopaa.Fr
