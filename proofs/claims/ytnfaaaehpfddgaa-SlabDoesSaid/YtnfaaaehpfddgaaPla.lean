/- Heaps in plain Lean: what up and down make of a list; no program in sight. -/
import Derived.ProofKit
namespace Go.Proofs.Ytnfaaaehpfddgaa
set_option linter.unusedVariables false

def at_ (xs : List Nat) (i : Nat) : Nat := xs.getD i 0
def sw (xs : List Nat) (i j : Nat) : List Nat := (xs.set i (at_ xs j)).set j (at_ xs i)
theorem sw_len (xs : List Nat) (i j : Nat) : (sw xs i j).length = xs.length := by simp [sw]
theorem at_set {xs : List Nat} {i v k : Nat} (hi : i < xs.length) : at_ (xs.set i v) k = if k = i then v else at_ xs k := by
  unfold at_
  simp only [List.getD, List.getElem?_set]
  by_cases h : i = k
  · subst h
    simp [hi]
  · rw [if_neg h, if_neg (fun e => h e.symm)]
theorem sw_at {xs : List Nat} {i j k : Nat} (hi : i < xs.length) (hj : j < xs.length) : at_ (sw xs i j) k = if k = j then at_ xs i else if k = i then at_ xs j else at_ xs k := by
  unfold sw
  rw [at_set (by simpa using hj), at_set hi]
theorem at_get {xs : List Nat} {i : Nat} (hi : i < xs.length) : xs[i]? = some (at_ xs i) := by
  unfold at_
  rw [List.getD, List.getElem?_eq_getElem hi]
  rfl
theorem count_set {xs : List Nat} {i : Nat} (v a : Nat) (hi : i < xs.length) : (xs.set i a).count v + (if at_ xs i = v then 1 else 0) = xs.count v + (if a = v then 1 else 0) := by
  induction xs generalizing i with
  | nil => simp at hi
  | cons y r ih =>
    cases i with
    | zero =>
      simp only [List.set_cons_zero, List.count_cons, at_, List.getD, List.getElem?_cons_zero, Option.getD_some, beq_iff_eq]
      by_cases h1 : y = v <;> by_cases h2 : a = v <;> simp [h1, h2]
    | succ i =>
      have := ih (i := i) (by simpa using hi)
      have e : at_ (y :: r) (i + 1) = at_ r i := by simp [at_, List.getD]
      rw [List.set_cons_succ, List.count_cons, List.count_cons, e]
      omega
theorem sw_count {xs : List Nat} {i j : Nat} (hi : i < xs.length) (hj : j < xs.length) (v : Nat) : (sw xs i j).count v = xs.count v := by
  unfold sw
  have h1 := count_set (xs := xs.set i (at_ xs j)) v (at_ xs i) (i := j) (by simpa using hj)
  have h2 := count_set (xs := xs) v (at_ xs j) hi
  rw [at_set hi] at h1
  by_cases h : j = i
  · subst h
    simp only [if_true] at h1
    omega
  · rw [if_neg h] at h1
    omega

/-- the first n stand as a heap -/
def IsHeap (xs : List Nat) (n : Nat) : Prop := ∀ i, 0 < i → i < n → at_ xs ((i - 1) / 2) ≤ at_ xs i
structure UpInv (xs : List Nat) (n j : Nat) : Prop where
  a : ∀ i, 0 < i → i < n → i ≠ j → at_ xs ((i - 1) / 2) ≤ at_ xs i
  b : 0 < j → ∀ i, 0 < i → i < n → (i - 1) / 2 = j → at_ xs ((j - 1) / 2) ≤ at_ xs i
theorem up_done {xs : List Nat} {n j : Nat} (h : UpInv xs n j) (hd : j = 0 ∨ at_ xs ((j - 1) / 2) ≤ at_ xs j) : IsHeap xs n := by
  intro i h0 hn
  by_cases hij : i = j
  · subst hij
    rcases hd with rfl | hd
    · omega
    · exact hd
  · exact h.a i h0 hn hij
theorem up_step {xs : List Nat} {n j p : Nat} (hp : p = (j - 1) / 2) (h : UpInv xs n j) (h0 : 0 < j) (hj : j < n) (hn : n ≤ xs.length) (hlt : at_ xs j < at_ xs p) : UpInv (sw xs p j) n p := by
  have key := fun k => sw_at (xs := xs) (i := p) (j := j) (k := k) (by omega) (by omega)
  have kj : at_ (sw xs p j) j = at_ xs p := by rw [key, if_pos rfl]
  have kp : at_ (sw xs p j) p = at_ xs j := by rw [key, if_neg (by omega), if_pos rfl]
  have ko : ∀ k, k ≠ j → k ≠ p → at_ (sw xs p j) k = at_ xs k := fun k h1 h2 => by rw [key, if_neg h1, if_neg h2]
  constructor
  · intro i hi0 hin hip
    by_cases hij : i = j
    · subst hij
      rw [← hp, kp, kj]
      omega
    · rw [ko i hij hip]
      by_cases h1 : (i - 1) / 2 = j
      · rw [h1, kj, hp]
        exact h.b h0 i hi0 hin h1
      · by_cases h2 : (i - 1) / 2 = p
        · rw [h2, kp]
          have := h.a i hi0 hin hij
          rw [h2] at this
          omega
        · rw [ko _ h1 h2]
          exact h.a i hi0 hin hij
  · intro hp0 i hi0 hin hpi
    have hpp : at_ xs ((p - 1) / 2) ≤ at_ xs p := h.a p hp0 (by omega) (by omega)
    rw [ko ((p - 1) / 2) (by omega) (by omega)]
    by_cases hij : i = j
    · subst hij
      rw [kj]
      exact hpp
    · rw [ko i hij (by omega)]
      have := h.a i hi0 hin hij
      rw [hpi] at this
      omega
theorem up_start {xs : List Nat} {n : Nat} (h : IsHeap xs n) : UpInv xs (n + 1) n := by
  constructor
  · intro i h0 hn hij
    exact h i h0 (by omega)
  · intro h0 i hi0 hin hpi
    omega

structure DnInv (xs : List Nat) (n i : Nat) : Prop where
  a : ∀ k, 0 < k → k < n → (k - 1) / 2 ≠ i → at_ xs ((k - 1) / 2) ≤ at_ xs k
  b : 0 < i → ∀ k, 0 < k → k < n → (k - 1) / 2 = i → at_ xs ((i - 1) / 2) ≤ at_ xs k
/-- which child down looks at -/
def kid (xs : List Nat) (n i : Nat) : Nat := if 2 * i + 2 < n ∧ at_ xs (2 * i + 2) < at_ xs (2 * i + 1) then 2 * i + 2 else 2 * i + 1
theorem kid_min (xs : List Nat) (n i k : Nat) (h0 : 0 < k) (hk : k < n) (hp : (k - 1) / 2 = i) : at_ xs (kid xs n i) ≤ at_ xs k := by
  have : k = 2 * i + 1 ∨ k = 2 * i + 2 := by omega
  unfold kid
  rcases this with rfl | rfl <;> split <;> omega
theorem kid_par (xs : List Nat) (n i : Nat) : (kid xs n i - 1) / 2 = i ∧ i < kid xs n i := by
  unfold kid; split <;> omega
theorem kid_lt (xs : List Nat) (n i : Nat) (h : 2 * i + 1 < n) : kid xs n i < n := by
  unfold kid; split <;> omega
theorem dn_end {xs : List Nat} {n i : Nat} (h : DnInv xs n i) (hn : n ≤ 2 * i + 1) : IsHeap xs n := fun k h0 hk => h.a k h0 hk (by omega)
theorem dn_done {xs : List Nat} {n i : Nat} (h : DnInv xs n i) (hle : at_ xs i ≤ at_ xs (kid xs n i)) : IsHeap xs n := by
  intro k h0 hk
  by_cases hp : (k - 1) / 2 = i
  · rw [hp]
    exact Nat.le_trans hle (kid_min xs n i k h0 hk hp)
  · exact h.a k h0 hk hp
theorem dn_step {xs : List Nat} {n i j : Nat} (hj : j = kid xs n i) (h : DnInv xs n i) (h1 : 2 * i + 1 < n) (hn : n ≤ xs.length) (hlt : at_ xs j < at_ xs i) : DnInv (sw xs i j) n j := by
  obtain ⟨hpj, hij⟩ := kid_par xs n i
  have hjn := kid_lt xs n i h1
  have hmin := fun k h0 hk hp => kid_min xs n i k h0 hk hp
  rw [← hj] at hpj hij hjn hmin
  have key := fun k => sw_at (xs := xs) (i := i) (j := j) (k := k) (by omega) (by omega)
  have kj : at_ (sw xs i j) j = at_ xs i := by rw [key, if_pos rfl]
  have ki : at_ (sw xs i j) i = at_ xs j := by rw [key, if_neg (by omega), if_pos rfl]
  have ko : ∀ k, k ≠ j → k ≠ i → at_ (sw xs i j) k = at_ xs k := fun k h1 h2 => by rw [key, if_neg h1, if_neg h2]
  constructor
  · intro k h0 hk hp
    by_cases hkj : k = j
    · subst hkj
      rw [kj, hpj, ki]
      omega
    · by_cases hki : k = i
      · subst hki
        rw [ki, ko _ hp (by omega)]
        exact h.b h0 j (by omega) hjn hpj
      · rw [ko k hkj hki]
        by_cases hpi : (k - 1) / 2 = i
        · rw [hpi, ki]
          exact hmin k h0 hk hpi
        · rw [ko _ hp hpi]
          exact h.a k h0 hk hpi
  · intro h0 k hk0 hk hp
    rw [hpj, ki, ko k (by omega) (by omega)]
    have := h.a k hk0 hk (by omega)
    rw [hp] at this
    exact this
theorem heap_min {xs : List Nat} {n : Nat} (h : IsHeap xs n) : ∀ i, i < n → at_ xs 0 ≤ at_ xs i := by
  intro i
  induction i using Nat.strongRecOn with
  | _ i ih =>
    intro hi
    by_cases h0 : i = 0
    · subst h0; exact Nat.le_refl _
    · exact Nat.le_trans (ih ((i - 1) / 2) (by omega) (by omega)) (h i (by omega) hi)
/-- what Pop begins with -/
theorem pop_start {xs : List Nat} {n : Nat} (hl : xs.length = n + 1) (h : IsHeap xs (n + 1)) : DnInv (sw xs 0 n) n 0 := by
  have key := fun k => sw_at (xs := xs) (i := 0) (j := n) (k := k) (by omega) (by omega)
  constructor
  · intro k h0 hk hp
    rw [key, key, if_neg (by omega), if_neg (by omega), if_neg (by omega), if_neg (by omega)]
    exact h k h0 (by omega)
  · intro h0; omega
theorem heap_take {xs : List Nat} {n : Nat} (h : IsHeap xs n) : IsHeap (xs.take n) n := by
  have e : ∀ k, k < n → at_ (xs.take n) k = at_ xs k := fun k hk => by
    unfold at_
    simp only [List.getD, List.getElem?_take]
    rw [if_pos hk]
  intro i h0 hn
  rw [e _ (by omega), e _ hn]
  exact h i h0 hn
theorem count_take {xs : List Nat} {n : Nat} (hl : xs.length = n + 1) (v : Nat) : xs.count v = (xs.take n).count v + (if at_ xs n = v then 1 else 0) := by
  have hs : xs = xs.take n ++ [at_ xs n] := by
    have := List.take_append_drop n xs
    rw [List.drop_eq_getElem_cons (by omega), List.drop_of_length_le (by omega)] at this
    have hg := at_get (xs := xs) (i := n) (by omega)
    rw [List.getElem?_eq_getElem (by omega)] at hg
    injection hg with hg
    rw [hg] at this
    exact this.symm
  have h2 : xs.count v = (xs.take n ++ [at_ xs n]).count v := by rw [← hs]
  rw [h2, List.count_append, List.count_cons, List.count_nil]
  simp
end Go.Proofs.Ytnfaaaehpfddgaa
