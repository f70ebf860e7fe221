/- Values' bytes and their reading, in plain Lean, second part: reading is the inverse of writing; each law's condition stands in its statement. -/
import Derived.Test.YtaapbiiiepdopaaPw
namespace Go.Proofs.Ytaapbiiiepdopaa
set_option linter.unusedVariables false

theorem headB_iff {k : Int} {b : Bool} {n : Int} {s : ByteArray} {l : Nat} {ks : List ByteArray} : headB k b n s l ks = true ↔
    0 ≤ k ∧ k ≤ 7 ∧ (k = 1 ∨ b = false) ∧ (k = 2 ∨ 6 ≤ k ∨ n = 0) ∧ (k = 3 ∨ s.size = 0) ∧ (k = 4 ∨ k = 5 ∨ l = 0) ∧ (k = 5 ∨ ks.length = 0) ∧ (k < 6 ∨ 1 ≤ n) ∧ (k = 5 → ks.length = l ∧ ksOk none ks = true) := by
  unfold headB
  simp only [Bool.and_eq_true, Bool.or_eq_true, decide_eq_true_eq, Bool.not_eq_eq_eq_not, decide_eq_false_iff_not, and_assoc, or_assoc, Bool.not_true]
  by_cases hk : k = 5 <;> simp [hk]
theorem empty_of {s : ByteArray} (h : s.size = 0) : s = .empty := by
  rw [← ofL_str s]
  have : str s = [] := List.eq_nil_of_length_eq_zero h
  rw [this]
  rfl
theorem tag_lt {k : Int} (b : Bool) (h0 : 0 ≤ k) (h7 : k ≤ 7) : (tagOf k b).toNat = if k = 0 then 0 else if k = 1 then (if b then 2 else 1) else (k + 1).toNat := by
  unfold tagOf
  by_cases h : k = 0
  · rw [if_pos h, if_pos h]; rfl
  · rw [if_neg h, if_neg h]
    by_cases h1 : k = 1
    · rw [if_pos h1, if_pos h1]; cases b <;> rfl
    · rw [if_neg h1, if_neg h1]
      exact toNat_of (by omega)
theorem head_at {bs more : List UInt8} {at_ : Nat} {t : UInt8} (h : bs.drop at_ = t :: more) : bs[at_]? = some t ∧ bs.drop (at_ + 1) = more := by
  constructor
  · have := congrArg (·[0]?) h
    simpa using this
  · rw [← List.drop_drop, h]; rfl

theorem wfs_mem : ∀ {l : List V}, wfs l → ∀ v ∈ l, wf v
  | [], _, v, hv => by cases hv
  | x :: l, h, v, hv => by
    rw [wfs] at h
    cases hv with
    | head => exact h.1
    | tail _ hv => exact wfs_mem h.2 v hv

theorem rd_back (v : V) : wf v → ∀ (bs : List UInt8) (d p q at_ : Nat) (more : List UInt8), may d p v = some q → bs.drop at_ = byt v ++ more → rd bs d p at_ = .ok (v, at_ + (byt v).length, q) := by
  refine V.ind (P := fun v => wf v → ∀ (bs : List UInt8) (d p q at_ : Nat) (more : List UInt8), may d p v = some q → bs.drop at_ = byt v ++ more → rd bs d p at_ = .ok (v, at_ + (byt v).length, q)) ?_ v
  intro k b n s l ks ih hw bs d p q at_ more hm h
  rw [wf] at hw
  obtain ⟨⟨hn1, hn2⟩, hs, hl⟩ := hw
  have hb : ∀ v ∈ l, ∀ p q at_ more, may (d - 1) p v = some q → bs.drop at_ = byt v ++ more → rd bs (d - 1) p at_ = .ok (v, at_ + (byt v).length, q) :=
    fun v hv p q at_ more => ih v hv (wfs_mem hl v hv) bs (d - 1) p q at_ more
  rw [may] at hm
  by_cases hc : p + 1 ≤ 4096 ∧ 1 ≤ d ∧ headB k b n s l.length ks = true
  · rw [if_pos hc] at hm
    obtain ⟨hp, hd, hh⟩ := hc
    obtain ⟨d, rfl⟩ : ∃ e, d = e + 1 := ⟨d - 1, by omega⟩
    rw [Nat.add_sub_cancel] at hm hb
    obtain ⟨h0, h7, hB, hN, hS, hL, hK, hn, hks⟩ := headB_iff.1 hh
    rw [byt] at h ⊢
    rw [List.cons_append] at h
    obtain ⟨ht, hr⟩ := head_at h
    have hbl := len_of (a := [tagOf k b]) (b := _) h
    have htl := tag_lt b h0 h7
    rw [rd, ht]
    dsimp only
    generalize hT : (tagOf k b).toNat = T at htl ⊢
    have hml := mays_le hm
    by_cases k0 : k = 0
    · subst k0
      rw [if_pos rfl] at htl
      subst htl
      rw [if_neg (by omega)]
      have e1 : s = .empty := empty_of (by omega)
      have e2 : l = [] := List.eq_nil_of_length_eq_zero (by omega)
      have e3 : ks = [] := List.eq_nil_of_length_eq_zero (by omega)
      have e4 : b = false := by rcases hB with h | h; cases h; exact h
      have e5 : n = 0 := by omega
      subst e1 e2 e3 e4 e5
      rw [mays] at hm
      cases hm
      simp [rdT, nul]
    · rw [if_neg k0] at htl
      by_cases k1 : k = 1
      · subst k1
        rw [if_pos rfl] at htl
        have e1 : s = .empty := empty_of (by omega)
        have e2 : l = [] := List.eq_nil_of_length_eq_zero (by omega)
        have e3 : ks = [] := List.eq_nil_of_length_eq_zero (by omega)
        have e5 : n = 0 := by omega
        subst e1 e2 e3 e5
        rw [mays] at hm
        cases hm
        cases b
        · have : T = 1 := htl
          subst this
          simp [rdT, show ¬ (4096 < p + 1) by omega]
        · have : T = 2 := htl
          subst this
          simp [rdT, show ¬ (4096 < p + 1) by omega]
      · rw [if_neg k1] at htl
        have e4 : b = false := by rcases hB with h | h; exact absurd h k1; exact h
        subst e4
        have hTk : (T : Int) = k + 1 := by omega
        rw [if_neg (show ¬ (k = 0 ∨ k = 1) by omega)] at hr ⊢
        rw [if_neg (show ¬ (8 < T ∨ 4096 < p + 1) by omega), rdT, if_neg (show ¬ T = 0 by omega), if_neg (show ¬ (T = 1 ∨ T = 2) by omega)]
        by_cases k2 : k = 2
        · subst k2
          rw [if_pos rfl] at hr ⊢
          have e1 : s = .empty := empty_of (by omega)
          have e2 : l = [] := List.eq_nil_of_length_eq_zero (by omega)
          have e3 : ks = [] := List.eq_nil_of_length_eq_zero (by omega)
          subst e1 e2 e3
          rw [mays] at hm
          cases hm
          rw [rn_at (zz_lt hn1 hn2) hr]
          dsimp only
          rw [if_pos (show T = 3 by omega), uz_zz]
          simp [Nat.add_assoc, Nat.add_comm]
        · rw [if_neg k2] at hr ⊢
          by_cases k3 : k = 3
          · subst k3
            rw [if_pos rfl] at hr ⊢
            have e2 : l = [] := List.eq_nil_of_length_eq_zero (by omega)
            have e3 : ks = [] := List.eq_nil_of_length_eq_zero (by omega)
            have e5 : n = 0 := by omega
            subst e2 e3 e5
            rw [mays] at hm
            cases hm
            rw [List.append_assoc] at hr
            have hln := len_of (drop_of hr)
            rw [str_len] at hln
            rw [rn_at (by omega) hr]
            dsimp only
            rw [if_neg (show ¬ T = 3 by omega), if_pos (show T = 4 by omega), if_neg (by omega)]
            have e : (bs.drop (at_ + 1 + (num s.size).length)).take s.size = str s := by rw [drop_of hr, ← str_len]; exact List.take_left
            rw [e, ofL_str]
            simp [Nat.add_assoc, Nat.add_comm, str_len]
            omega
          · rw [if_neg k3] at hr ⊢
            have e1 : s = .empty := empty_of (by omega)
            subst e1
            by_cases k6 : k = 6 ∨ k = 7
            · rw [if_pos k6] at hr ⊢
              have e2 : l = [] := List.eq_nil_of_length_eq_zero (by omega)
              have e3 : ks = [] := List.eq_nil_of_length_eq_zero (by omega)
              subst e2 e3
              rw [mays] at hm
              cases hm
              rw [rn_at (by omega) hr]
              dsimp only
              rw [if_neg (show ¬ T = 3 by omega), if_neg (show ¬ T = 4 by omega), if_pos (show T = 7 ∨ T = 8 by omega), if_neg (by omega), hTk, Int.add_sub_cancel, show ((n.toNat : Nat) : Int) = n by omega]
              simp [Nat.add_assoc, Nat.add_comm]
            · rw [if_neg k6] at hr ⊢
              have e5 : n = 0 := by omega
              subst e5
              rw [List.append_assoc] at hr
              rw [rn_at (by omega) hr]
              dsimp only
              have hkT : decide (T = 6) = decide (k = 5) := by rw [decide_eq_decide]; omega
              rw [if_neg (show ¬ T = 3 by omega), if_neg (show ¬ T = 4 by omega), if_neg (show ¬ (T = 7 ∨ T = 8) by omega), hkT,
                rows_back bs (rd bs d) (decide (k = 5)) d l ks [] [] (p + 1) q (at_ + 1 + (num l.length).length) more hb hm
                  (fun hk => ⟨(hks (of_decide_eq_true hk)).1, (hks (of_decide_eq_true hk)).2⟩)
                  (fun hk => List.eq_nil_of_length_eq_zero (hK.resolve_left (of_decide_eq_false hk)))
                  (drop_of hr)]
              simp [Nat.add_assoc, Nat.add_comm, hTk, Int.add_sub_cancel]
              omega
  · rw [if_neg hc] at hm; cases hm

/-! ## What is read is written so -/
theorem rkey_one {prev : Option ByteArray} {l : List UInt8} {k : ByteArray} {c : Nat} (h : rkey prev l = .ok (k, c)) : kOk k = true ∧ behind prev k = true ∧ c = (num k.size ++ str k).length ∧ l = (num k.size ++ str k) ++ l.drop c := by
  unfold rkey at h
  cases hr : rn 0 l with
  | error e => rw [hr] at h; cases h
  | ok q =>
    obtain ⟨n, c0⟩ := q
    rw [hr] at h
    dsimp only at h
    by_cases h1 : n < 1 ∨ 64 < n
    · rw [if_pos h1] at h; cases h
    · rw [if_neg h1] at h
      by_cases h2 : l.length - c0 < n
      · rw [if_pos h2] at h; cases h
      · rw [if_neg h2] at h
        by_cases h3 : behind prev (ofL ((l.drop c0).take n)) = true
        · rw [if_pos h3] at h
          simp only [Except.ok.injEq, Prod.mk.injEq] at h
          obtain ⟨rfl, rfl⟩ := h
          obtain ⟨h4, h5, h6⟩ := rn_of hr
          have hsz : (ofL ((l.drop c0).take n)).size = n := by rw [size_ofL, List.length_take, List.length_drop]; omega
          refine ⟨by unfold kOk; rw [hsz]; simp; omega, h3, ?_, ?_⟩
          · rw [hsz, List.length_append, str_len, hsz, ← h5]
          · rw [hsz, str_ofL]
            conv => lhs; rw [h6]
            rw [List.append_assoc, ← List.drop_drop]
            exact congrArg _ (List.take_append_drop n (l.drop c0)).symm
        · rw [if_neg h3] at h; cases h
theorem drop_eq_iff {bs a : List UInt8} {at_ c : Nat} (h : bs.drop at_ = a ++ (bs.drop at_).drop c) (hc : c = a.length) : bs.drop at_ = a ++ bs.drop (at_ + c) := by rw [← List.drop_drop]; exact h

theorem rows_one (bs : List UInt8) (f : Nat → Nat → Rd) (m : Bool) (d : Nat)
    (hf : ∀ p at_ v at' q, f p at_ = .ok (v, at', q) → may d p v = some q ∧ bs.drop at_ = byt v ++ bs.drop at' ∧ at' = at_ + (byt v).length ∧ wf v) : ∀ (n : Nat) (vs : List V) (ks : List ByteArray) (p at_ : Nat) (vs' : List V) (ks' : List ByteArray) (at' q : Nat),
    rows bs f m n vs ks p at_ = .ok (vs', ks', at', q) →
    ∃ l kk, vs' = vs ++ l ∧ ks' = ks ++ kk ∧ l.length = n ∧ (m = true → kk.length = n ∧ ksOk ks.getLast? kk = true) ∧ (m = false → kk = []) ∧ mays d p l = some q ∧ wfs l ∧ bs.drop at_ = byts m l kk ++ bs.drop at' ∧ at' = at_ + (byts m l kk).length := by
  intro n
  induction n with
  | zero =>
    intro vs ks p at_ vs' ks' at' q h
    rw [rows] at h
    simp only [Except.ok.injEq, Prod.mk.injEq] at h
    obtain ⟨rfl, rfl, rfl, rfl⟩ := h
    exact ⟨[], [], by simp, by simp, rfl, fun _ => ⟨rfl, by simp [ksOk]⟩, fun _ => rfl, by rw [mays], by rw [wfs]; trivial, by simp [byts], by simp [byts]⟩
  | succ n ih =>
    intro vs ks p at_ vs' ks' at' q h
    rw [rows] at h
    cases hk : rkeys m ks (bs.drop at_) with
    | error e => rw [hk] at h; cases h
    | ok r =>
      obtain ⟨ks1, c⟩ := r
      rw [hk] at h
      dsimp only at h
      cases hv : f p (at_ + c) with
      | error e => rw [hv] at h; cases h
      | ok r =>
        obtain ⟨v, at1, q1⟩ := r
        rw [hv] at h
        dsimp only at h
        obtain ⟨l, kk, rfl, rfl, h3, h4, h5, h6, h7, h8, h9⟩ := ih (vs ++ [v]) ks1 q1 at1 vs' ks' at' q h
        obtain ⟨g1, g2, g3, g4⟩ := hf _ _ _ _ _ hv
        have hmays : mays d p (v :: l) = some q := by rw [mays, g1]; exact h6
        have hwfs : wfs (v :: l) := by rw [wfs]; exact ⟨g4, h7⟩
        cases m with
        | false =>
          have e : ks1 = ks ∧ c = 0 := by
            unfold rkeys at hk
            rw [if_neg (by decide)] at hk
            simp only [Except.ok.injEq, Prod.mk.injEq] at hk
            exact ⟨hk.1.symm, hk.2.symm⟩
          obtain ⟨rfl, rfl⟩ := e
          have := h5 rfl
          subst this
          rw [Nat.add_zero] at g2 g3
          refine ⟨v :: l, [], by simp, by simp, by simp [h3], by simp, fun _ => rfl, hmays, hwfs, ?_, ?_⟩
          · rw [byts, g2, h8]; simp [key1]
          · rw [byts, h9, g3]; simp [key1, Nat.add_assoc]
        | true =>
          unfold rkeys at hk
          rw [if_pos rfl] at hk
          cases hq : rkey ks.getLast? (bs.drop at_) with
          | error e => rw [hq] at hk; cases hk
          | ok r =>
            obtain ⟨k, c'⟩ := r
            rw [hq] at hk
            simp only [Except.ok.injEq, Prod.mk.injEq] at hk
            obtain ⟨rfl, rfl⟩ := hk
            obtain ⟨j1, j2, j3, j4⟩ := rkey_one hq
            obtain ⟨h41, h42⟩ := h4 rfl
            have j5 := drop_eq_iff j4 j3
            refine ⟨v :: l, k :: kk, by simp, by simp, by simp [h3], fun _ => ⟨by simp [h41], ?_⟩, by simp, hmays, hwfs, ?_, ?_⟩
            · rw [ksOk, j1, j2]
              simpa using h42
            · rw [byts, j5, g2, h8]; simp [key1]
            · rw [byts, h9, g3, j3]; simp [key1, Nat.add_assoc]

theorem may_mk {d p q : Nat} {k : Int} {b : Bool} {n : Int} {s : ByteArray} {l : List V} {ks : List ByteArray} (hp : p + 1 ≤ 4096) (hd : 1 ≤ d) (hh : headB k b n s l.length ks = true) (hm : mays (d - 1) (p + 1) l = some q) : may d p (.mk k b n s l ks) = some q := by rw [may, if_pos ⟨hp, hd, hh⟩]; exact hm

theorem rd_one (bs : List UInt8) (hbs : bs.length ≤ 9223372036854775807) : ∀ (d p at_ : Nat) (v : V) (at' q : Nat), rd bs d p at_ = .ok (v, at', q) → may d p v = some q ∧ bs.drop at_ = byt v ++ bs.drop at' ∧ at' = at_ + (byt v).length ∧ wf v
  | 0, p, at_, v, at', q, h => by
    rw [rd] at h
    split at h <;> cases h
  | d + 1, p, at_, v, at', q, h => by
    rw [rd] at h
    cases ht : bs[at_]? with
    | none => rw [ht] at h; cases h
    | some t =>
      rw [ht] at h
      dsimp only at h
      have hlt := (List.getElem?_eq_some_iff.1 ht).1
      have hdr : bs.drop at_ = t :: bs.drop (at_ + 1) := by
        rw [List.drop_eq_getElem_cons hlt]
        rw [List.getElem?_eq_getElem hlt] at ht
        cases ht
        rfl
      by_cases h1 : 8 < t.toNat ∨ 4096 < p + 1
      · rw [if_pos h1] at h; cases h
      · rw [if_neg h1, rdT] at h
        have hT : t = UInt8.ofNat t.toNat := by simp
        generalize t.toNat = T at h h1 hT
        subst hT
        by_cases t0 : T = 0
        · subst t0
          rw [if_pos rfl] at h
          simp only [Except.ok.injEq, Prod.mk.injEq] at h
          obtain ⟨rfl, rfl, rfl⟩ := h
          refine ⟨may_mk (by omega) (by omega) (by decide) (by rw [mays]), ?_, by simp [nul, byt], by simp [nul, wf, wfs]⟩
          rw [hdr]; simp [nul, byt, tagOf]
        · rw [if_neg t0] at h
          by_cases t1 : T = 1 ∨ T = 2
          · rw [if_pos t1] at h
            simp only [Except.ok.injEq, Prod.mk.injEq] at h
            obtain ⟨rfl, rfl, rfl⟩ := h
            rcases t1 with rfl | rfl
            · refine ⟨may_mk (by omega) (by omega) (by decide) (by rw [mays]), ?_, by simp [byt], by simp [wf, wfs]⟩
              rw [hdr]; simp [byt, tagOf]
            · refine ⟨may_mk (by omega) (by omega) (by decide) (by rw [mays]), ?_, by simp [byt], by simp [wf, wfs]⟩
              rw [hdr]; simp [byt, tagOf]
          · rw [if_neg t1] at h
            have htag : ∀ b, tagOf ((T : Int) - 1) b = UInt8.ofNat T := by
              intro b
              unfold tagOf
              rw [if_neg (by omega), if_neg (by omega)]
              congr 1
              omega
            cases hr : rn 0 (bs.drop (at_ + 1)) with
            | error e => rw [hr] at h; cases h
            | ok r =>
              obtain ⟨n, c⟩ := r
              rw [hr] at h
              dsimp only at h
              obtain ⟨r1, r2, r3⟩ := rn_of hr
              have r4 := drop_eq_iff r3 r2
              by_cases t3 : T = 3
              · subst t3
                rw [if_pos rfl] at h
                simp only [Except.ok.injEq, Prod.mk.injEq] at h
                obtain ⟨rfl, rfl, rfl⟩ := h
                have hu := uz_in r1
                refine ⟨may_mk (by omega) (by omega) rfl (by rw [mays]), ?_, by simp [byt, zz_uz, r2]; omega, by rw [wf, wfs]; exact ⟨hu, by decide, trivial⟩⟩
                rw [hdr, r4]; simp [byt, tagOf, zz_uz]
              · rw [if_neg t3] at h
                by_cases t4 : T = 4
                · subst t4
                  rw [if_pos rfl] at h
                  by_cases h2 : bs.length - (at_ + 1 + c) < n
                  · rw [if_pos h2] at h; cases h
                  · rw [if_neg h2] at h
                    simp only [Except.ok.injEq, Prod.mk.injEq] at h
                    obtain ⟨rfl, rfl, rfl⟩ := h
                    have hsz : (ofL ((bs.drop (at_ + 1 + c)).take n)).size = n := by rw [size_ofL, List.length_take, List.length_drop]; omega
                    refine ⟨may_mk (by omega) (by omega) rfl (by rw [mays]), ?_, ?_, ?_⟩
                    · rw [hdr, r4, byt]
                      simp only [hsz, str_ofL, tagOf]
                      rw [if_neg (by omega), if_neg (by omega), if_neg (by omega), if_neg (by omega), if_pos trivial]
                      rw [show at_ + 1 + c + n = (at_ + 1 + c) + n from rfl, ← List.drop_drop (i := n)]
                      simp only [List.cons_append, List.append_assoc, List.take_append_drop]
                      rfl
                    · rw [byt, if_neg (by omega), if_neg (by omega), if_pos rfl, List.length_cons, List.length_append, str_len, hsz, ← r2]
                      omega
                    · rw [wf, wfs, hsz]
                      exact ⟨by omega, by omega, trivial⟩
                · rw [if_neg t4] at h
                  by_cases t7 : T = 7 ∨ T = 8
                  · rw [if_pos t7] at h
                    by_cases h2 : n < 1 ∨ 9223372036854775808 ≤ n
                    · rw [if_pos h2] at h; cases h
                    · rw [if_neg h2] at h
                      simp only [Except.ok.injEq, Prod.mk.injEq] at h
                      obtain ⟨rfl, rfl, rfl⟩ := h
                      refine ⟨may_mk (by omega) (by omega) (headB_iff.2 ⟨by omega, by omega, .inr rfl, by omega, .inr rfl, .inr (.inr rfl), .inr rfl, by omega, by omega⟩) (by rw [mays]), ?_, ?_, ?_⟩
                      · rw [hdr, r4, byt, htag, if_neg (by omega), if_neg (by omega), if_neg (by omega), if_pos (by omega), Int.toNat_natCast]
                        rfl
                      · rw [byt, if_neg (by omega), if_neg (by omega), if_neg (by omega), if_pos (by omega), Int.toNat_natCast, List.length_cons, ← r2]
                        omega
                      · rw [wf, wfs]
                        exact ⟨by omega, by decide, trivial⟩
                  · rw [if_neg t7] at h
                    cases hro : rows bs (rd bs d) (decide (T = 6)) n [] [] (p + 1) (at_ + 1 + c) with
                    | error e => rw [hro] at h; cases h
                    | ok r =>
                      obtain ⟨vs, ks, at1, q1⟩ := r
                      rw [hro] at h
                      simp only [Except.ok.injEq, Prod.mk.injEq] at h
                      obtain ⟨rfl, rfl, rfl⟩ := h
                      obtain ⟨l, kk, e1, e2, h3, h4, h5, h6, h7, h8, h9⟩ := rows_one bs (rd bs d) (decide (T = 6)) d (fun p at_ v at' q => rd_one bs hbs d p at_ v at' q) n [] [] (p + 1) (at_ + 1 + c) vs ks at1 q1 hro
                      rw [List.nil_append] at e1 e2
                      subst e1 e2
                      have hk5 : decide ((T : Int) - 1 = 5) = decide (T = 6) := by rw [decide_eq_decide]; omega
                      have hkl : (T : Int) - 1 = 5 ∨ ks.length = 0 := by
                        by_cases h : T = 6
                        · left; omega
                        · right; rw [h5 (by simp [h])]; rfl
                      refine ⟨may_mk (by omega) (by omega) (headB_iff.2 ⟨by omega, by omega, .inr rfl, .inr (.inr rfl), .inr rfl, by omega, hkl, by omega, fun h => ?_⟩) h6, ?_, ?_, ?_⟩
                      · have := h4 (by simp; omega)
                        exact ⟨by omega, by simpa using this.2⟩
                      · rw [hdr, r4, byt, htag, if_neg (by omega), if_neg (by omega), if_neg (by omega), if_neg (by omega), hk5, h8, h3]
                        simp
                      · rw [byt, if_neg (by omega), if_neg (by omega), if_neg (by omega), if_neg (by omega), hk5, h9, h3, r2]
                        simp only [List.length_cons, List.length_append]
                        omega
                      · rw [wf]
                        exact ⟨by omega, by decide, h7⟩
end Go.Proofs.Ytaapbiiiepdopaa
