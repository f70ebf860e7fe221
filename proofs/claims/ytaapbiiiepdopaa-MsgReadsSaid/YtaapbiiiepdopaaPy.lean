/- Values' bytes in plain Lean, third part: what is cut off ends too early; two values have the same bytes just if they are the same; how long bytes are. -/
import Derived.Test.YtaapbiiiepdopaaPx
namespace Go.Proofs.Ytaapbiiiepdopaa
set_option linter.unusedVariables false

theorem rkey_take (prev : Option ByteArray) (j : Nat) (l : List UInt8) : rkey prev (l.take j) = .error 22 ∨ rkey prev (l.take j) = rkey prev l := by
  unfold rkey
  rcases rn_take j 0 l with h | h
  · left; rw [h]
  · cases hr : rn 0 l with
    | error e => right; rw [h, hr]
    | ok q =>
      obtain ⟨n, c⟩ := q
      rw [h, hr]
      dsimp only
      by_cases h1 : n < 1 ∨ 64 < n
      · right; rw [if_pos h1, if_pos h1]
      · rw [if_neg h1, if_neg h1]
        by_cases h2 : (l.take j).length - c < n
        · left; rw [if_pos h2]
        · right
          rw [List.length_take] at h2
          have hc := rn_len hr
          have e : ((l.take j).drop c).take n = (l.drop c).take n := by
            rw [List.drop_take, List.take_take]
            congr 1
            omega
          rw [if_neg (by rw [List.length_take]; exact h2), if_neg (show ¬ l.length - c < n by omega), e]
theorem rkeys_take (m : Bool) (ks : List ByteArray) (j : Nat) (l : List UInt8) : rkeys m ks (l.take j) = .error 22 ∨ rkeys m ks (l.take j) = rkeys m ks l := by
  unfold rkeys
  cases m with
  | false => right; rfl
  | true =>
    rw [if_pos rfl, if_pos rfl]
    rcases rkey_take ks.getLast? j l with h | h
    · left; rw [h]
    · right; rw [h]
theorem rows_take (bs : List UInt8) (j : Nat) (f g : Nat → Nat → Rd) (m : Bool) (hf : ∀ p at_, f p at_ = .error 22 ∨ f p at_ = g p at_) : ∀ (n : Nat) (vs : List V) (ks : List ByteArray) (p at_ : Nat),
    rows (bs.take j) f m n vs ks p at_ = .error 22 ∨ rows (bs.take j) f m n vs ks p at_ = rows bs g m n vs ks p at_ := by
  intro n
  induction n with
  | zero => intros; right; rfl
  | succ n ih =>
    intro vs ks p at_
    rw [rows, rows, List.drop_take]
    rcases rkeys_take m ks (j - at_) (bs.drop at_) with h | h
    · left; rw [h]
    · rw [h]
      cases rkeys m ks (bs.drop at_) with
      | error e => right; rfl
      | ok q =>
        obtain ⟨ks', c⟩ := q
        dsimp only
        rcases hf p (at_ + c) with h | h
        · left; rw [h]
        · rw [h]
          cases g p (at_ + c) with
          | error e => right; rfl
          | ok q => exact ih _ _ _ _
theorem rd_take (bs : List UInt8) (j : Nat) : ∀ (d p at_ : Nat), rd (bs.take j) d p at_ = .error 22 ∨ rd (bs.take j) d p at_ = rd bs d p at_ := by
  intro d
  induction d with
  | zero =>
    intro p at_
    rw [rd, rd, List.getElem?_take]
    by_cases h : at_ < j
    · right; rw [if_pos h]
    · left; rw [if_neg h]
  | succ d ih =>
    intro p at_
    rw [rd, rd, List.getElem?_take]
    by_cases h : at_ < j
    · rw [if_pos h]
      cases bs[at_]? with
      | none => right; rfl
      | some t =>
        dsimp only
        by_cases h1 : 8 < t.toNat ∨ 4096 < p + 1
        · right; rw [if_pos h1, if_pos h1]
        · rw [if_neg h1, if_neg h1, rdT, rdT]
          generalize t.toNat = T
          by_cases t0 : T = 0
          · right; rw [if_pos t0, if_pos t0]
          · rw [if_neg t0, if_neg t0]
            by_cases t1 : T = 1 ∨ T = 2
            · right; rw [if_pos t1, if_pos t1]
            · rw [if_neg t1, if_neg t1, List.drop_take]
              rcases rn_take (j - (at_ + 1)) 0 (bs.drop (at_ + 1)) with h2 | h2
              · left; rw [h2]
              · rw [h2]
                cases rn 0 (bs.drop (at_ + 1)) with
                | error e => right; rfl
                | ok q =>
                  obtain ⟨n, c⟩ := q
                  dsimp only
                  by_cases t3 : T = 3
                  · right; rw [if_pos t3, if_pos t3]
                  · rw [if_neg t3, if_neg t3]
                    by_cases t4 : T = 4
                    · rw [if_pos t4, if_pos t4]
                      by_cases h3 : (bs.take j).length - (at_ + 1 + c) < n
                      · left; rw [if_pos h3]
                      · right
                        rw [List.length_take] at h3
                        rw [if_neg (by rw [List.length_take]; exact h3), if_neg (by omega), List.drop_take, List.take_take]
                        congr 5
                        omega
                    · rw [if_neg t4, if_neg t4]
                      by_cases t7 : T = 7 ∨ T = 8
                      · right; rw [if_pos t7, if_pos t7]
                      · rw [if_neg t7, if_neg t7]
                        rcases rows_take bs j (rd (bs.take j) d) (rd bs d) (decide (T = 6)) ih n [] [] (p + 1) (at_ + 1 + c) with h4 | h4
                        · left; rw [h4]
                        · right; rw [h4]
    · left; rw [if_neg h]

/-- what stands at the front of bytes -/
def dec (bs : List UInt8) : Rd := rd bs 32 0 0
def mayB (v : V) : Bool := (may 32 0 v).isSome
theorem mayB_iff {v : V} : mayB v = true ↔ ∃ q, may 32 0 v = some q := by unfold mayB; rw [Option.isSome_iff_exists]
theorem dec_back {v : V} (h : mayB v = true) (hw : wf v) (more : List UInt8) : ∃ q, dec (byt v ++ more) = .ok (v, (byt v).length, q) := by
  obtain ⟨q, hq⟩ := mayB_iff.1 h
  have := rd_back v hw (byt v ++ more) 32 0 q 0 more hq rfl
  rw [Nat.zero_add] at this
  exact ⟨q, this⟩
theorem dec_one {bs : List UInt8} (hbs : bs.length ≤ 9223372036854775807) {v : V} {n q : Nat} (h : dec bs = .ok (v, n, q)) : mayB v = true ∧ wf v ∧ n = (byt v).length ∧ bs = byt v ++ bs.drop n ∧ bs.take n = byt v ∧ n ≤ bs.length ∧ 1 ≤ n := by
  obtain ⟨h1, h2, h3, h4⟩ := rd_one bs hbs 32 0 0 v n q h
  rw [Nat.zero_add] at h3
  rw [List.drop_zero] at h2
  have h5 : bs.take n = byt v := by rw [h2, h3]; exact List.take_left
  have h6 : n ≤ bs.length := by
    have := congrArg List.length h2
    rw [List.length_append] at this
    omega
  refine ⟨mayB_iff.2 ⟨q, h1⟩, h4, h3, h2, h5, h6, ?_⟩
  rw [h3]
  obtain ⟨k, b, m, s, l, ks⟩ := v
  rw [byt]
  simp
theorem byt_inj {v u : V} (h : mayB v = true) (hw : wf v) (h' : mayB u = true) (hw' : wf u) (e : byt v = byt u) : v = u := by
  obtain ⟨q, h1⟩ := dec_back h hw []
  obtain ⟨q', h2⟩ := dec_back h' hw' []
  rw [e, h2] at h1
  simp only [Except.ok.injEq, Prod.mk.injEq] at h1
  exact h1.1.symm
theorem dec_cut {v : V} (h : mayB v = true) (hw : wf v) {j : Nat} (hj : j < (byt v).length) (hl : (byt v).length ≤ 9223372036854775807) : dec ((byt v).take j) = .error 22 := by
  obtain ⟨q, h1⟩ := dec_back h hw []
  rw [List.append_nil] at h1
  rcases rd_take (byt v) j 32 0 0 with h2 | h2
  · exact h2
  · exfalso
    have h3 : dec ((byt v).take j) = .ok (v, (byt v).length, q) := by rw [← h1]; exact h2
    have := dec_one (by rw [List.length_take]; omega) h3
    have h4 := this.2.2.2.2.2.1
    rw [List.length_take] at h4
    omega

/-! ## How long bytes are -/
mutual
/-- texts, numbers, parts of a value -/
def bulk : V → Nat
  | .mk k b n s l ks => 1 + s.size + (ks.map fun k => k.size + 1).sum + bulks l
def bulks : List V → Nat
  | [] => 0
  | v :: l => bulk v + bulks l
end
theorem bulks_mem : ∀ {l : List V} {v : V}, v ∈ l → bulk v ≤ bulks l
  | [], v, h => by cases h
  | x :: l, v, h => by
    rw [bulks]
    cases h with
    | head => omega
    | tail _ h => have := bulks_mem h; omega
theorem bulks_len : ∀ (l : List V), l.length ≤ bulks l
  | [] => by simp
  | .mk k b n s l' ks :: l => by
    have := bulks_len l
    rw [bulks, bulk, List.length_cons]
    omega
theorem byts_len (m : Bool) : ∀ (l : List V) (ks : List ByteArray), (∀ v ∈ l, (byt v).length ≤ 11 * bulk v) → (∀ k ∈ ks, k.size < 18446744073709551616) → (byts m l ks).length ≤ 11 * bulks l + 10 * (ks.map fun k => k.size + 1).sum
  | [], ks, _, _ => by rw [byts]; simp
  | v :: l, ks, h, hk => by
    rw [byts, bulks, List.length_append, List.length_append]
    have h1 := h v List.mem_cons_self
    have h2 := byts_len m l ks.tail (fun u hu => h u (List.mem_cons_of_mem _ hu)) (fun k hk' => hk k (List.mem_of_mem_tail hk'))
    have h3 : (key1 m ks).length + 10 * (ks.tail.map fun k => k.size + 1).sum ≤ 10 * (ks.map fun k => k.size + 1).sum := by
      unfold key1
      cases ks with
      | nil => cases m <;> simp
      | cons k ks =>
        have := num_len10 (hk k List.mem_cons_self)
        cases m with
        | false => simp; omega
        | true => simp [str_len]; omega
    omega
theorem mays_mem : ∀ (l : List V) {d p q : Nat}, mays d p l = some q → ∀ v ∈ l, ∃ d p q, may d p v = some q
  | [], _, _, _, _, v, hv => by cases hv
  | x :: l, d, p, q, hm, v, hv => by
    rw [mays] at hm
    cases hx : may d p x with
    | none => rw [hx] at hm; cases hm
    | some r =>
      rw [hx] at hm
      cases hv with
      | head => exact ⟨_, _, _, hx⟩
      | tail _ hv => exact mays_mem l hm v hv
theorem byt_len (v : V) : wf v → (∀ d p q, may d p v = some q → (byt v).length ≤ 11 * bulk v) := by
  refine V.ind (P := fun v => wf v → (∀ d p q, may d p v = some q → (byt v).length ≤ 11 * bulk v)) ?_ v
  intro k b n s l ks ih hw d p q hm
  rw [wf] at hw
  obtain ⟨⟨hn1, hn2⟩, hs, hl⟩ := hw
  rw [may] at hm
  by_cases hc : p + 1 ≤ 4096 ∧ 1 ≤ d ∧ headB k b n s l.length ks = true
  · rw [if_pos hc] at hm
    obtain ⟨hp, hd, hh⟩ := hc
    obtain ⟨h0, h7, hB, hN, hS, hL, hK, hn, hks⟩ := headB_iff.1 hh
    have hml := mays_le hm
    rw [byt, bulk, List.length_cons]
    by_cases k0 : k = 0 ∨ k = 1
    · rw [if_pos k0]; simp; omega
    · rw [if_neg k0]
      by_cases k2 : k = 2
      · rw [if_pos k2]; have := num_len10 (zz_lt hn1 hn2); omega
      · rw [if_neg k2]
        by_cases k3 : k = 3
        · rw [if_pos k3, List.length_append, str_len]; have := num_len10 (n := s.size) (by omega); omega
        · rw [if_neg k3]
          by_cases k6 : k = 6 ∨ k = 7
          · rw [if_pos k6]; have := num_len10 (n := n.toNat) (by omega); omega
          · rw [if_neg k6, List.length_append]
            have h1 := num_len10 (n := l.length) (by omega)
            have hkk : ∀ k' ∈ ks, k'.size < 18446744073709551616 := by
              intro k' hk'
              rcases hK with h | h
              · have h4 := (hks h).2
                clear hks ih hm hml
                have : ∀ (p : Option ByteArray) (ks : List ByteArray), ksOk p ks = true → k' ∈ ks → k'.size ≤ 64 := by
                  intro p ks
                  induction ks generalizing p with
                  | nil => intro _ h; cases h
                  | cons x r ihr =>
                    intro h hm
                    rw [ksOk, Bool.and_eq_true, Bool.and_eq_true] at h
                    cases hm with
                    | head => have := h.1.1; unfold kOk at this; simp at this; omega
                    | tail _ hm => exact ihr _ h.2 hm
                have := this none ks h4 hk'
                omega
              · have := List.eq_nil_of_length_eq_zero h
                subst this
                cases hk'
            have hmem : ∀ v ∈ l, ∃ d p q, may d p v = some q := by
              clear ih hkk hks hh hL hml
              generalize d - 1 = d' at hm
              generalize p + 1 = p' at hm
              clear hl
              intro v hv
              exact mays_mem l hm v hv
            have h2 := byts_len (decide (k = 5)) l ks (fun v hv => by
              obtain ⟨d', p', q', h⟩ := hmem v hv
              exact ih v hv (wfs_mem hl v hv) d' p' q' h) hkk
            omega
  · rw [if_neg hc] at hm; cases hm
theorem mayB_len {v : V} (h : mayB v = true) (hw : wf v) : (byt v).length ≤ 11 * bulk v := by
  obtain ⟨q, hq⟩ := mayB_iff.1 h
  exact byt_len v hw _ _ _ hq
end Go.Proofs.Ytaapbiiiepdopaa
