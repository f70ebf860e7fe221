/- Messages, their loads and the reading of loads, in plain Lean; each law's condition stands in its statement. -/
import Derived.Test.YtaapbiiiepdopaaPz
import Derived.Test.YtaapbiiiepdopaaSa
namespace Go.Proofs.Ytaapbiiiepdopaa
set_option linter.unusedVariables false
set_option linter.unusedSimpArgs false

/-- a message: kind, name, text, number, value -/
structure M where
  k : Int
  s : ByteArray
  t : ByteArray
  n : Int
  v : V
def wfM (m : M) : Prop := (-9223372036854775808 ≤ m.k ∧ m.k ≤ 9223372036854775807) ∧ (-9223372036854775808 ≤ m.n ∧ m.n ≤ 9223372036854775807) ∧ m.s.size ≤ 9223372036854775807 ∧ m.t.size ≤ 9223372036854775807 ∧ wf m.v
def nulM : M := ⟨0, .empty, .empty, 0, nul⟩

/-! ## Values without a node or an edge -/
mutual
def plV : V → Bool
  | .mk k b n s l ks => decide (k < 6) && plVs l
def plVs : List V → Bool
  | [] => true
  | v :: l => plV v && plVs l
end
mutual
def plR : V → Bool
  | .mk k b n s l ks => !(decide (k = 6) || decide (k = 7)) && plRs l
def plRs : List V → Bool
  | [] => true
  | v :: l => plR v && plRs l
end
theorem plVs_iff : ∀ (l : List V), plVs l = true ↔ ∀ v ∈ l, plV v = true
  | [] => by simp [plVs]
  | v :: l => by simp [plVs, plVs_iff l]
theorem plRs_iff : ∀ (l : List V), plRs l = true ↔ ∀ v ∈ l, plR v = true
  | [] => by simp [plRs]
  | v :: l => by simp [plRs, plRs_iff l]
theorem may_head {d p q : Nat} {k : Int} {b : Bool} {n : Int} {s : ByteArray} {l : List V} {ks : List ByteArray} (h : may d p (.mk k b n s l ks) = some q) : headB k b n s l.length ks = true ∧ mays (d - 1) (p + 1) l = some q := by
  rw [may] at h
  by_cases hc : p + 1 ≤ 4096 ∧ 1 ≤ d ∧ headB k b n s l.length ks = true
  · rw [if_pos hc] at h; exact ⟨hc.2.2, h⟩
  · rw [if_neg hc] at h; cases h
theorem pl_eq (v : V) : ∀ d p q, may d p v = some q → plR v = plV v := by
  refine V.ind (P := fun v => ∀ d p q, may d p v = some q → plR v = plV v) ?_ v
  intro k b n s l ks ih d p q h
  obtain ⟨hh, hm⟩ := may_head h
  obtain ⟨h0, h7, _⟩ := headB_iff.1 hh
  have hl : plRs l = plVs l := by
    rw [Bool.eq_iff_iff, plRs_iff, plVs_iff]
    have each : ∀ v ∈ l, plR v = plV v := fun v hv => by
      obtain ⟨d, p, q, e⟩ := mays_mem l hm v hv
      exact ih v hv d p q e
    exact ⟨fun g v hv => by rw [← each v hv]; exact g v hv, fun g v hv => by rw [each v hv]; exact g v hv⟩
  rw [plR, plV, hl]
  congr 1
  rw [Bool.eq_iff_iff]
  simp
  omega
theorem mayB_pl {v : V} (h : mayB v = true) : plR v = plV v := by obtain ⟨q, hq⟩ := mayB_iff.1 h; exact pl_eq v _ _ _ hq

/-! ## Which messages may be -/
def partK (k : Int) : Nat := if k = 1 then 1 else if k = 3 then 2 else if k = 4 then 3 else if k = 16 then 4 else if k = 17 then 5 else if k = 18 then 6 else 0
def knownK (k : Int) : Bool := decide ((1 ≤ k ∧ k ≤ 8) ∨ (16 ≤ k ∧ k ≤ 19))
noncomputable def bareM (m : M) (a b c d : Bool) : Bool := (a || decide (m.s.size = 0)) && (b || decide (m.t.size = 0)) && (c || decide (m.n = 0)) && (d || eqV m.v nul)
def plainB (v : V) (k : Int) : Bool := decide (v.k = k) && mayB v && plV v
noncomputable def okM (m : M) : Bool :=
  if m.k = 1 then bareM m true false false false && decide (1 ≤ m.s.size) && decide (m.s.size ≤ 64)
  else if m.k = 3 then bareM m false true false true && decide (m.t.size ≤ 16384) && plainB m.v 5
  else if m.k = 4 then bareM m false false true false && decide (1 ≤ m.n) && decide (m.n ≤ 4096)
  else if m.k = 16 then bareM m false false false true && plainB m.v 5
  else if m.k = 17 then bareM m false false false true && plainB m.v 4
  else if m.k = 18 then bareM m false false true false && decide (1 ≤ m.n) && decide (m.n ≤ 9)
  else knownK m.k && bareM m false false false false
/-- what a message's kind uses of it -/
def ownM (m : M) : M :=
  if m.k = 1 then ⟨m.k, m.s, .empty, 0, nul⟩
  else if m.k = 3 then ⟨m.k, .empty, m.t, 0, m.v⟩
  else if m.k = 4 ∨ m.k = 18 then ⟨m.k, .empty, .empty, m.n, nul⟩
  else if m.k = 16 ∨ m.k = 17 then ⟨m.k, .empty, .empty, 0, m.v⟩
  else ⟨m.k, .empty, .empty, 0, nul⟩
noncomputable def eqM (a b : M) : Bool := @decide (a = b) (Classical.propDecidable _)
theorem eqM_iff {a b : M} : eqM a b = true ↔ a = b := by unfold eqM; simp
theorem eqM_no {a b : M} (h : ¬ a = b) : eqM a b = false := by
  cases e : eqM a b with
  | false => rfl
  | true => exact absurd (eqM_iff.1 e) h
theorem size0 {s : ByteArray} : s.size = 0 ↔ .empty = s := ⟨fun h => (empty_of h).symm, fun h => by rw [← h]; rfl⟩
/-- which of the parts are used -/
def usM (k : Int) : Bool × Bool × Bool × Bool := (decide (k = 1), decide (k = 3), decide (k = 4 ∨ k = 18), decide (k = 3 ∨ k = 16 ∨ k = 17))
theorem own_bare (m : M) : eqM (ownM m) m = bareM m (usM m.k).1 (usM m.k).2.1 (usM m.k).2.2.1 (usM m.k).2.2.2 := by
  obtain ⟨k, s, t, n, v⟩ := m
  rw [Bool.eq_iff_iff, eqM_iff]
  unfold bareM usM ownM
  simp only [Bool.and_eq_true, Bool.or_eq_true, decide_eq_true_eq, eqV_iff, size0]
  by_cases h1 : k = 1
  · subst h1; simp [eq_comm, and_assoc]
  by_cases h3 : k = 3
  · subst h3; simp [eq_comm, and_assoc]
  by_cases h4 : k = 4 ∨ k = 18
  · have : ¬ k = 16 ∧ ¬ k = 17 := by omega
    simp [h1, h3, h4, this, eq_comm, and_assoc]
  by_cases h16 : k = 16 ∨ k = 17
  · simp [h1, h3, h4, h16, eq_comm, and_assoc]
  · have : ¬ k = 16 ∧ ¬ k = 17 := by omega
    simp [h1, h3, h4, h16, this, eq_comm, and_assoc]

/-! ## Loads -/
def vI (n : Int) : V := .mk 2 false n .empty [] []
def vS (s : ByteArray) : V := .mk 3 false 0 s [] []
def restM (m : M) : List V := if m.k = 1 then [vS m.s] else if m.k = 3 then [vS m.t, m.v] else if m.k = 4 ∨ m.k = 18 then [vI m.n] else if m.k = 16 ∨ m.k = 17 then [m.v] else []
def listM (m : M) : V := .mk 4 false 0 .empty (vI m.k :: restM m) []
theorem restM_len (m : M) : (restM m).length ≤ 2 := by unfold restM; split; simp; split; simp; split; simp; split <;> simp
theorem wf_vI {n : Int} (h : -9223372036854775808 ≤ n ∧ n ≤ 9223372036854775807) : wf (vI n) := by unfold vI; rw [wf, wfs]; exact ⟨h, by decide, trivial⟩
theorem wf_vS {s : ByteArray} (h : s.size ≤ 9223372036854775807) : wf (vS s) := by unfold vS; rw [wf, wfs]; exact ⟨by decide, h, trivial⟩
theorem wf_list {m : M} (h : wfM m) : wf (listM m) := by
  obtain ⟨hk, hn, hs, ht, hv⟩ := h
  unfold listM restM
  rw [wf, wfs]
  refine ⟨by decide, by decide, wf_vI hk, ?_⟩
  split
  · rw [wfs, wfs]; exact ⟨wf_vS hs, trivial⟩
  split
  · rw [wfs, wfs, wfs]; exact ⟨wf_vS ht, hv, trivial⟩
  split
  · rw [wfs, wfs]; exact ⟨wf_vI hn, trivial⟩
  split
  · rw [wfs, wfs]; exact ⟨hv, trivial⟩
  · rw [wfs]; trivial
/-- a load, or the error -/
noncomputable def encM (m : M) : Except Int (List UInt8) := if okM m = true then (if mayB (listM m) = true ∧ (byt (listM m)).length ≤ 32768 then .ok (byt (listM m)) else .error 21) else .error 9
/-- the message of a list's values -/
def ofT (k : Int) (r : List V) : Option M :=
  if partK k = 0 then (if r.length = 0 then some ⟨k, .empty, .empty, 0, nul⟩ else none)
  else if partK k = 2 then (match r with
    | [a, b] => if a.k = 3 then some ⟨k, .empty, a.s, 0, b⟩ else none
    | _ => none)
  else match r with
    | [a] => if partK k = 1 then (if a.k = 3 then some ⟨k, a.s, .empty, 0, nul⟩ else none) else if partK k = 3 ∨ partK k = 6 then (if a.k = 2 then some ⟨k, .empty, .empty, a.n, nul⟩ else none) else some ⟨k, .empty, .empty, 0, a⟩
    | _ => none
def ofM : List V → Option M
  | [] => none
  | x :: r => if x.k = 2 ∧ knownK x.n = true then ofT x.n r else none
noncomputable def decM (bs : List UInt8) : Option M := match dec bs with
  | .error _ => none
  | .ok (v, n, _) => if n = bs.length ∧ bs.length ≤ 32768 ∧ v.k = 4 then (match ofM v.l with
    | none => none
    | some m => if okM m = true then some m else none) else none
/-- the same, as the reference reads -/
def rofM : List V → M
  | [] => nulM
  | x :: r => let k := if 1 ≤ x.n ∧ x.n ≤ 19 then x.n else -1
    match r with
    | [] => ⟨k, .empty, .empty, 0, nul⟩
    | a :: r' => if k = 1 then ⟨k, a.s, .empty, 0, nul⟩ else if k = 3 then ⟨k, .empty, a.s, 0, (a :: r').getLast (by simp)⟩ else if k = 4 ∨ k = 18 then ⟨k, .empty, .empty, a.n, nul⟩ else ⟨k, .empty, .empty, 0, a⟩
open Classical in
noncomputable def rdecM (bs : List UInt8) : Option M := match dec bs with
  | .error _ => none
  | .ok (v, n, _) => if n = bs.length ∧ 1 ≤ v.l.length ∧ v.l.length ≤ 3 then (if okM (rofM v.l) = true ∧ bs.length ≤ 32768 ∧ listM (rofM v.l) = v then some (rofM v.l) else none) else none

theorem okM_known {m : M} (h : okM m = true) : knownK m.k = true := by
  unfold okM at h
  unfold knownK
  rw [decide_eq_true_eq]
  by_cases h1 : m.k = 1; omega
  by_cases h3 : m.k = 3; omega
  by_cases h4 : m.k = 4; omega
  by_cases h16 : m.k = 16; omega
  by_cases h17 : m.k = 17; omega
  by_cases h18 : m.k = 18; omega
  rw [if_neg h1, if_neg h3, if_neg h4, if_neg h16, if_neg h17, if_neg h18, Bool.and_eq_true] at h
  simpa [knownK] using h.1
theorem okM_own {m : M} (h : okM m = true) : ownM m = m := by
  rw [← eqM_iff, own_bare]
  unfold okM at h
  unfold usM
  by_cases h1 : m.k = 1
  · rw [if_pos h1] at h; simp only [Bool.and_eq_true] at h; rw [h1]; exact h.1.1
  by_cases h3 : m.k = 3
  · rw [if_neg h1, if_pos h3] at h; simp only [Bool.and_eq_true] at h; rw [h3]; exact h.1.1
  by_cases h4 : m.k = 4
  · rw [if_neg h1, if_neg h3, if_pos h4] at h; simp only [Bool.and_eq_true] at h; rw [h4]; exact h.1.1
  by_cases h16 : m.k = 16
  · rw [if_neg h1, if_neg h3, if_neg h4, if_pos h16] at h; simp only [Bool.and_eq_true] at h; rw [h16]; exact h.1
  by_cases h17 : m.k = 17
  · rw [if_neg h1, if_neg h3, if_neg h4, if_neg h16, if_pos h17] at h; simp only [Bool.and_eq_true] at h; rw [h17]; exact h.1
  by_cases h18 : m.k = 18
  · rw [if_neg h1, if_neg h3, if_neg h4, if_neg h16, if_neg h17, if_pos h18] at h; simp only [Bool.and_eq_true] at h; rw [h18]; exact h.1.1
  · rw [if_neg h1, if_neg h3, if_neg h4, if_neg h16, if_neg h17, if_neg h18] at h; simp only [Bool.and_eq_true] at h
    simpa [h1, h3, h4, h16, h17, h18] using h.2
theorem ofM_cons {k : Int} {r : List V} (h : knownK k = true) : ofM (vI k :: r) = ofT k r := by rw [ofM, if_pos ⟨rfl, h⟩]; rfl
theorem kind_cases (k : Int) : k = 1 ∨ k = 3 ∨ k = 4 ∨ k = 18 ∨ k = 16 ∨ k = 17 ∨ (¬ k = 1 ∧ ¬ k = 3 ∧ ¬ k = 4 ∧ ¬ k = 18 ∧ ¬ k = 16 ∧ ¬ k = 17) := by omega
theorem rest_0 {m : M} (h : ¬ m.k = 1 ∧ ¬ m.k = 3 ∧ ¬ m.k = 4 ∧ ¬ m.k = 18 ∧ ¬ m.k = 16 ∧ ¬ m.k = 17) : restM m = [] := by unfold restM; simp [h]
theorem own_0 {m : M} (h : ¬ m.k = 1 ∧ ¬ m.k = 3 ∧ ¬ m.k = 4 ∧ ¬ m.k = 18 ∧ ¬ m.k = 16 ∧ ¬ m.k = 17) : ownM m = ⟨m.k, .empty, .empty, 0, nul⟩ := by unfold ownM; simp [h]
theorem part_0 {k : Int} (h : ¬ k = 1 ∧ ¬ k = 3 ∧ ¬ k = 4 ∧ ¬ k = 18 ∧ ¬ k = 16 ∧ ¬ k = 17) : partK k = 0 := by unfold partK; simp [h]
theorem ofT_0 {k : Int} {r : List V} (h : partK k = 0) : ofT k r = if r.length = 0 then some ⟨k, .empty, .empty, 0, nul⟩ else none := by unfold ofT; rw [if_pos h]
theorem of_list {m : M} (h : okM m = true) : ofM (listM m).l = some m := by
  have hk := okM_known h
  have ho := okM_own h
  obtain ⟨k, s, t, n, v⟩ := m
  show ofM (vI k :: restM ⟨k, s, t, n, v⟩) = _
  rw [ofM_cons hk]
  rcases kind_cases k with rfl | rfl | rfl | rfl | rfl | rfl | h0
  · exact congrArg some ho
  · exact congrArg some ho
  · exact congrArg some ho
  · exact congrArg some ho
  · exact congrArg some ho
  · exact congrArg some ho
  · rw [rest_0 h0, ofT_0 (part_0 h0)]
    rw [own_0 h0] at ho
    exact congrArg some ho
theorem rof_list {m : M} (h : okM m = true) : rofM (listM m).l = m := by
  have hk := okM_known h
  have ho := okM_own h
  obtain ⟨k, s, t, n, v⟩ := m
  unfold knownK at hk
  rw [decide_eq_true_eq] at hk
  show rofM (vI k :: restM ⟨k, s, t, n, v⟩) = _
  rcases kind_cases k with rfl | rfl | rfl | rfl | rfl | rfl | h0
  · exact ho
  · exact ho
  · exact ho
  · exact ho
  · exact ho
  · exact ho
  · rw [rest_0 h0]
    rw [own_0 h0] at ho
    have e : rofM [vI k] = ⟨if 1 ≤ k ∧ k ≤ 19 then k else -1, .empty, .empty, 0, nul⟩ := rfl
    rw [e, if_pos (by dsimp only at hk; omega)]
    exact ho
/-- a value that may be and is a number, a text -/
theorem may_2 {x : V} {d p q : Nat} (h : may d p x = some q) (hk : x.k = 2) : x = vI x.n := by
  obtain ⟨k, b, n, s, l, ks⟩ := x
  obtain ⟨hh, _⟩ := may_head h
  dsimp only [V.k] at hk
  subst hk
  obtain ⟨_, _, hB, _, hS, hL, hK, _⟩ := headB_iff.1 hh
  have e1 : s = .empty := empty_of (by omega)
  have e2 : l = [] := List.eq_nil_of_length_eq_zero (by omega)
  have e3 : ks = [] := List.eq_nil_of_length_eq_zero (by omega)
  have e4 : b = false := by rcases hB with h | h; exact absurd h (by decide); exact h
  subst e1 e2 e3 e4
  rfl
theorem may_3 {x : V} {d p q : Nat} (h : may d p x = some q) (hk : x.k = 3) : x = vS x.s := by
  obtain ⟨k, b, n, s, l, ks⟩ := x
  obtain ⟨hh, _⟩ := may_head h
  dsimp only [V.k] at hk
  subst hk
  obtain ⟨_, _, hB, hN, _, hL, hK, _⟩ := headB_iff.1 hh
  have e1 : n = 0 := by omega
  have e2 : l = [] := List.eq_nil_of_length_eq_zero (by omega)
  have e3 : ks = [] := List.eq_nil_of_length_eq_zero (by omega)
  have e4 : b = false := by rcases hB with h | h; exact absurd h (by decide); exact h
  subst e1 e2 e3 e4
  rfl
theorem may_4 {x : V} {d p q : Nat} (h : may d p x = some q) (hk : x.k = 4) : x = .mk 4 false 0 .empty x.l [] ∧ ∀ y ∈ x.l, ∃ d p q, may d p y = some q := by
  obtain ⟨k, b, n, s, l, ks⟩ := x
  obtain ⟨hh, hm⟩ := may_head h
  dsimp only [V.k] at hk
  subst hk
  obtain ⟨_, _, hB, hN, hS, _, hK, _⟩ := headB_iff.1 hh
  have e1 : n = 0 := by omega
  have e2 : s = .empty := empty_of (by omega)
  have e3 : ks = [] := List.eq_nil_of_length_eq_zero (by omega)
  have e4 : b = false := by rcases hB with h | h; exact absurd h (by decide); exact h
  subst e1 e2 e3 e4
  exact ⟨rfl, mays_mem l hm⟩
theorem list_of {v : V} {m : M} (hv : mayB v = true) (hk : v.k = 4) (h : ofM v.l = some m) : listM m = v := by
  obtain ⟨q, hq⟩ := mayB_iff.1 hv
  obtain ⟨e, hl⟩ := may_4 hq hk
  rw [e]
  generalize v.l = l at hl h
  cases l with
  | nil => cases h
  | cons x r =>
    rw [ofM] at h
    by_cases hx : x.k = 2 ∧ knownK x.n = true
    · rw [if_pos hx] at h
      obtain ⟨d, p, q, hxm⟩ := hl x List.mem_cons_self
      have ex := may_2 hxm hx.1
      have goal : ∀ m', ofT x.n r = some m' → m'.k = x.n ∧ restM m' = r := by
        intro m' h
        rcases kind_cases x.n with hn | hn | hn | hn | hn | hn | h0
        · rw [hn] at h ⊢
          match r, hl, h with
          | [a], hl, h =>
            have h : (if a.k = 3 then some (⟨1, a.s, .empty, 0, nul⟩ : M) else none) = some m' := h
            by_cases ha : a.k = 3
            · rw [if_pos ha] at h
              cases h
              obtain ⟨d, p, q, ham⟩ := hl a (by simp)
              exact ⟨rfl, by rw [may_3 ham ha]; rfl⟩
            · rw [if_neg ha] at h; cases h
          | [], _, h => cases h
          | _ :: _ :: _, _, h => cases h
        · rw [hn] at h ⊢
          match r, hl, h with
          | [a, b], hl, h =>
            have h : (if a.k = 3 then some (⟨3, .empty, a.s, 0, b⟩ : M) else none) = some m' := h
            by_cases ha : a.k = 3
            · rw [if_pos ha] at h
              cases h
              obtain ⟨d, p, q, ham⟩ := hl a (by simp)
              exact ⟨rfl, by rw [may_3 ham ha]; rfl⟩
            · rw [if_neg ha] at h; cases h
          | [], _, h => cases h
          | [_], _, h => cases h
          | _ :: _ :: _ :: _, _, h => cases h
        · rw [hn] at h ⊢
          match r, hl, h with
          | [a], hl, h =>
            have h : (if a.k = 2 then some (⟨4, .empty, .empty, a.n, nul⟩ : M) else none) = some m' := h
            by_cases ha : a.k = 2
            · rw [if_pos ha] at h
              cases h
              obtain ⟨d, p, q, ham⟩ := hl a (by simp)
              exact ⟨rfl, by rw [may_2 ham ha]; rfl⟩
            · rw [if_neg ha] at h; cases h
          | [], _, h => cases h
          | _ :: _ :: _, _, h => cases h
        · rw [hn] at h ⊢
          match r, hl, h with
          | [a], hl, h =>
            have h : (if a.k = 2 then some (⟨18, .empty, .empty, a.n, nul⟩ : M) else none) = some m' := h
            by_cases ha : a.k = 2
            · rw [if_pos ha] at h
              cases h
              obtain ⟨d, p, q, ham⟩ := hl a (by simp)
              exact ⟨rfl, by rw [may_2 ham ha]; rfl⟩
            · rw [if_neg ha] at h; cases h
          | [], _, h => cases h
          | _ :: _ :: _, _, h => cases h
        · rw [hn] at h ⊢
          match r, h with
          | [a], h =>
            have h : some (⟨16, .empty, .empty, 0, a⟩ : M) = some m' := h
            cases h
            exact ⟨rfl, rfl⟩
          | [], h => cases h
          | _ :: _ :: _, h => cases h
        · rw [hn] at h ⊢
          match r, h with
          | [a], h =>
            have h : some (⟨17, .empty, .empty, 0, a⟩ : M) = some m' := h
            cases h
            exact ⟨rfl, rfl⟩
          | [], h => cases h
          | _ :: _ :: _, h => cases h
        · rw [ofT_0 (part_0 h0)] at h
          by_cases hr : r.length = 0
          · rw [if_pos hr] at h
            cases h
            exact ⟨rfl, by rw [rest_0 h0, List.eq_nil_of_length_eq_zero hr]⟩
          · rw [if_neg hr] at h; cases h
      obtain ⟨g1, g2⟩ := goal m h
      unfold listM
      rw [g1, g2, ← ex]
    · rw [if_neg hx] at h; cases h
theorem dec_both {bs : List UInt8} (hb : bs.length ≤ 9223372036854775807) : rdecM bs = decM bs := by
  unfold rdecM decM
  cases hd : dec bs with
  | error z => rfl
  | ok q =>
    obtain ⟨v, n, q⟩ := q
    have hm := (dec_one hb hd).1
    dsimp only
    by_cases hex : ∃ m, okM m = true ∧ listM m = v
    · obtain ⟨m, ho, rfl⟩ := hex
      rw [of_list ho, rof_list ho]
      have h1 : 1 ≤ (listM m).l.length := by simp [listM, V.l]
      have h3 : (listM m).l.length ≤ 3 := by have := restM_len m; simp [listM, V.l]; omega
      have h4 : (listM m).k = 4 := rfl
      simp only [ho, h1, h3, h4, and_true, true_and, if_true]
      by_cases hn : n = bs.length
      · simp [hn]
      · simp [hn]
    · have e1 : ¬ (okM (rofM v.l) = true ∧ bs.length ≤ 32768 ∧ listM (rofM v.l) = v) := fun h => hex ⟨_, h.1, h.2.2⟩
      rw [if_neg e1]
      have e2 : ∀ m, v.k = 4 → ofM v.l = some m → ¬ okM m = true := fun m hk ho h => hex ⟨m, h, list_of hm hk ho⟩
      by_cases hc : n = bs.length ∧ bs.length ≤ 32768 ∧ v.k = 4
      · rw [if_pos hc]
        cases ho : ofM v.l with
        | none => simp
        | some m => simp [e2 m hc.2.2 ho]
      · rw [if_neg hc]; simp
theorem decM_ok {bs : List UInt8} (hb : bs.length ≤ 9223372036854775807) {m : M} (h : decM bs = some m) : okM m = true ∧ mayB (listM m) = true ∧ byt (listM m) = bs ∧ bs.length ≤ 32768 := by
  unfold decM at h
  cases hd : dec bs with
  | error z => rw [hd] at h; cases h
  | ok q =>
    obtain ⟨v, n, q⟩ := q
    rw [hd] at h
    dsimp only at h
    obtain ⟨hm, _, hn, _, ht, _, _⟩ := dec_one hb hd
    by_cases hc : n = bs.length ∧ bs.length ≤ 32768 ∧ v.k = 4
    · rw [if_pos hc] at h
      cases ho : ofM v.l with
      | none => rw [ho] at h; cases h
      | some m' =>
        rw [ho] at h
        dsimp only at h
        by_cases hk : okM m' = true
        · rw [if_pos hk] at h
          cases h
          have e := list_of hm hc.2.2 ho
          rw [e]
          refine ⟨hk, hm, ?_, hc.2.1⟩
          rw [← ht, hc.1, List.take_length]
        · rw [if_neg hk] at h; cases h
    · rw [if_neg hc] at h; cases h
theorem encM_ok {m : M} {bs : List UInt8} (h : encM m = .ok bs) : okM m = true ∧ mayB (listM m) = true ∧ byt (listM m) = bs ∧ bs.length ≤ 32768 := by
  unfold encM at h
  by_cases ho : okM m = true
  · rw [if_pos ho] at h
    by_cases hc : mayB (listM m) = true ∧ (byt (listM m)).length ≤ 32768
    · rw [if_pos hc] at h
      cases h
      exact ⟨ho, hc.1, rfl, hc.2⟩
    · rw [if_neg hc] at h; cases h
  · rw [if_neg ho] at h; cases h
theorem encM_of {m : M} {bs : List UInt8} (h1 : okM m = true) (h2 : mayB (listM m) = true) (h3 : byt (listM m) = bs) (h4 : bs.length ≤ 32768) : encM m = .ok bs := by
  unfold encM
  rw [if_pos h1, if_pos ⟨h2, by rw [h3]; exact h4⟩, h3]
theorem dec_enc {m : M} {bs : List UInt8} (h : encM m = .ok bs) (hw : wfM m) : decM bs = some m := by
  obtain ⟨ho, hm, rfl, hl⟩ := encM_ok h
  obtain ⟨q, hq⟩ := dec_back hm (wf_list hw) []
  rw [List.append_nil] at hq
  unfold decM
  rw [hq]
  dsimp only
  rw [if_pos ⟨rfl, hl, rfl⟩, of_list ho]
  dsimp only
  rw [if_pos ho]
end Go.Proofs.Ytaapbiiiepdopaa
