/- The plain law of frames: what a stream of bytes tells, on lists of bytes alone; no condition. -/
namespace Go.Proofs.Ythcdepjchbahoaa

/-- the number in the first four bytes -/
def nat4 : List UInt8 → Nat
  | a :: b :: c :: d :: _ => a.toNat * 16777216 + b.toNat * 65536 + c.toNat * 256 + d.toNat
  | _ => 0

theorem nat4_lt (h : List UInt8) : nat4 h < 4294967296 := by
  unfold nat4
  split
  · rename_i a b c d _
    have h0 := a.toNat_lt
    have h1 := b.toNat_lt
    have h2 := c.toNat_lt
    have h3 := d.toNat_lt
    omega
  · omega

/-- what so many rounds tell of bytes: the loads, and what waits; none: a frame that may not be -/
def rounds : Nat → List UInt8 → List (List UInt8) × Option (List UInt8)
  | 0, h => ([], some h)
  | k + 1, h =>
    if h.length < 4 then ([], some h)
    else if nat4 h < 1 ∨ 32768 < nat4 h then ([], none)
    else if h.length < 4 + nat4 h then ([], some h)
    else
      let r := rounds k (h.drop (4 + nat4 h))
      ((h.drop 4).take (nat4 h) :: r.1, r.2)

theorem rounds_enough : ∀ (k j : Nat) (h : List UInt8), h.length ≤ k → h.length ≤ j → rounds k h = rounds j h := by
  intro k
  induction k with
  | zero =>
    intro j h hk hj
    cases j with
    | zero => rfl
    | succ j => simp only [rounds]; rw [if_pos (by omega)]
  | succ k ih =>
    intro j h hk hj
    cases j with
    | zero => simp only [rounds]; rw [if_pos (by omega)]
    | succ j =>
      simp only [rounds]
      split
      · rfl
      · split
        · rfl
        · split
          · rfl
          · rw [ih j _ (by simp; omega) (by simp; omega)]

/-- what bytes tell -/
def parse (h : List UInt8) : List (List UInt8) × Option (List UInt8) := rounds h.length h

theorem parse_short {h : List UInt8} (h4 : h.length < 4) : parse h = ([], some h) := by
  unfold parse
  cases hl : h.length with
  | zero => rfl
  | succ k => simp only [rounds]; rw [if_pos h4]
theorem parse_bad {h : List UInt8} (h4 : 4 ≤ h.length) (hb : nat4 h < 1 ∨ 32768 < nat4 h) : parse h = ([], none) := by
  unfold parse
  cases hl : h.length with
  | zero => omega
  | succ k => simp only [rounds]; rw [if_neg (by omega), if_pos hb]
theorem parse_wait {h : List UInt8} (h4 : 4 ≤ h.length) (h1 : 1 ≤ nat4 h) (h2 : nat4 h ≤ 32768) (hw : h.length < 4 + nat4 h) : parse h = ([], some h) := by
  unfold parse
  cases hl : h.length with
  | zero => omega
  | succ k => simp only [rounds]; rw [if_neg (by omega), if_neg (by omega), if_pos hw]
theorem parse_more {h : List UInt8} (h4 : 4 ≤ h.length) (h1 : 1 ≤ nat4 h) (h2 : nat4 h ≤ 32768) (hw : 4 + nat4 h ≤ h.length) :
    parse h = ((h.drop 4).take (nat4 h) :: (parse (h.drop (4 + nat4 h))).1, (parse (h.drop (4 + nat4 h))).2) := by
  unfold parse
  cases hl : h.length with
  | zero => omega
  | succ k =>
    simp only [rounds]
    rw [if_neg (by omega), if_neg (by omega), if_neg (by omega), rounds_enough k (h.drop (4 + nat4 h)).length _ (by simp; omega) (Nat.le_refl _)]

theorem nat4_append {h : List UInt8} (h4 : 4 ≤ h.length) (t : List UInt8) : nat4 (h ++ t) = nat4 h := by
  match h, h4 with
  | a :: b :: c :: d :: r, _ => rfl

/-- bytes behind bytes -/
theorem parse_append : ∀ (k : Nat) (h t : List UInt8), h.length ≤ k →
    (∀ r, (parse h).2 = some r → parse (h ++ t) = ((parse h).1 ++ (parse (r ++ t)).1, (parse (r ++ t)).2)) ∧
    ((parse h).2 = none → parse (h ++ t) = parse h) := by
  intro k
  induction k with
  | zero =>
    intro h t hk
    have : h = [] := List.eq_nil_of_length_eq_zero (by omega)
    subst this
    refine ⟨fun r hr => ?_, fun hr => ?_⟩
    · cases hr
      rfl
    · cases hr
  | succ k ih =>
    intro h t hk
    by_cases h4 : h.length < 4
    · rw [parse_short h4]
      exact ⟨fun r hr => by cases hr; rfl, fun hr => by cases hr⟩
    · by_cases hb : nat4 h < 1 ∨ 32768 < nat4 h
      · rw [parse_bad (by omega) hb]
        refine ⟨fun r hr => (by cases hr), fun _ => ?_⟩
        rw [parse_bad (by simp; omega) (by rw [nat4_append (by omega)]; exact hb)]
      · by_cases hw : h.length < 4 + nat4 h
        · rw [parse_wait (by omega) (by omega) (by omega) hw]
          exact ⟨fun r hr => by cases hr; rfl, fun hr => by cases hr⟩
        · have e := parse_more (h := h) (by omega) (by omega) (by omega) (by omega)
          have e' := parse_more (h := h ++ t) (by simp; omega) (by rw [nat4_append (by omega)]; omega) (by rw [nat4_append (by omega)]; omega) (by rw [nat4_append (by omega)]; simp; omega)
          rw [nat4_append (by omega)] at e'
          have hd : (h ++ t).drop (4 + nat4 h) = h.drop (4 + nat4 h) ++ t := List.drop_append_of_le_length (by omega)
          have ht : ((h ++ t).drop 4).take (nat4 h) = (h.drop 4).take (nat4 h) := by
            rw [List.drop_append_of_le_length (by omega), List.take_append_of_le_length (by simp; omega)]
          rw [hd, ht] at e'
          obtain ⟨i1, i2⟩ := ih (h.drop (4 + nat4 h)) t (by simp; omega)
          refine ⟨fun r hr => ?_, fun hr => ?_⟩
          · rw [e] at hr
            rw [e', e, i1 r hr]
            rfl
          · rw [e] at hr
            rw [e', e, i2 hr]

/-- what waits is short -/
theorem parse_rest : ∀ (k : Nat) (h : List UInt8), h.length ≤ k → ((parse h).2.getD []).length ≤ 32771 := by
  intro k
  induction k with
  | zero =>
    intro h hk
    rw [parse_short (by omega)]
    show h.length ≤ _
    omega
  | succ k ih =>
    intro h hk
    by_cases h4 : h.length < 4
    · rw [parse_short h4]
      show h.length ≤ _
      omega
    · by_cases hb : nat4 h < 1 ∨ 32768 < nat4 h
      · rw [parse_bad (by omega) hb]
        show (0 : Nat) ≤ _
        omega
      · by_cases hw : h.length < 4 + nat4 h
        · rw [parse_wait (by omega) (by omega) (by omega) hw]
          show h.length ≤ _
          omega
        · rw [parse_more (by omega) (by omega) (by omega) (by omega)]
          exact ih _ (by simp; omega)

/-- the four bytes ahead of a load of n bytes, n at most 32768 -/
def hd4 (n : Nat) : List UInt8 := [0, 0, UInt8.ofNat (n / 256), UInt8.ofNat (n % 256)]
/-- a load's frame -/
def encB (xs : List UInt8) : List UInt8 := hd4 xs.length ++ xs
theorem nat4_enc (xs t : List UInt8) (h : xs.length ≤ 32768) : nat4 (encB xs ++ t) = xs.length := by
  simp [encB, hd4, nat4]
  omega
theorem encB_len (xs : List UInt8) : (encB xs).length = 4 + xs.length := by simp [encB, hd4]; omega
/-- a load's frame at the front -/
theorem parse_enc (xs t : List UInt8) (h1 : 1 ≤ xs.length) (h2 : xs.length ≤ 32768) : parse (encB xs ++ t) = (xs :: (parse t).1, (parse t).2) := by
  have hn := nat4_enc xs t h2
  have hl : (encB xs ++ t).length = 4 + xs.length + t.length := by rw [List.length_append, encB_len]
  rw [parse_more (by omega) (by omega) (by omega) (by omega), hn]
  have hd : (encB xs ++ t).drop (4 + xs.length) = t := by
    rw [← encB_len]
    exact List.drop_left
  have ht : ((encB xs ++ t).drop 4).take xs.length = xs := by
    have : (encB xs ++ t).drop 4 = xs ++ t := rfl
    rw [this]
    exact List.take_left
  rw [hd, ht]

/-- each load takes five bytes at least -/
theorem parse_count : ∀ (k : Nat) (h : List UInt8), h.length ≤ k → (parse h).1.length ≤ h.length := by
  intro k
  induction k with
  | zero =>
    intro h hk
    rw [parse_short (by omega)]
    exact Nat.zero_le _
  | succ k ih =>
    intro h hk
    by_cases h4 : h.length < 4
    · rw [parse_short h4]
      exact Nat.zero_le _
    · by_cases hb : nat4 h < 1 ∨ 32768 < nat4 h
      · rw [parse_bad (by omega) hb]
        exact Nat.zero_le _
      · by_cases hw : h.length < 4 + nat4 h
        · rw [parse_wait (by omega) (by omega) (by omega) hw]
          exact Nat.zero_le _
        · rw [parse_more (by omega) (by omega) (by omega) (by omega)]
          have := ih (h.drop (4 + nat4 h)) (by simp; omega)
          simp only [List.length_cons, List.length_drop] at this ⊢
          omega

end Go.Proofs.Ythcdepjchbahoaa
