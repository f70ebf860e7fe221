/- What was retired while somebody read is not let go: in plain Lean; and the small example that each statement asks. -/
import Derived.Test.YtajeifeigjggoaaDo
namespace Go.Proofs.Ytajeifeigjggoaa
open Go.RowKit Go.Maps Mem
set_option linter.unusedVariables false

theorem look_pin {now : Nat} {p : List Nat} {t : Int} {E : Nat} (h : look p t = some E) (hn : 1 ≤ now) : look (pinS now p) t = some E := by
  unfold pinS
  split
  · exact h
  · rw [look_snoc hn, if_neg, h]
    intro e
    unfold look at h
    split at h
    · omega
    · cases h
theorem look_unp {p : List Nat} {t X : Int} {E : Nat} (h : look p t = some E) (hX : X ≠ t) : look (unpS p X) t = some E := by
  unfold unpS
  split
  · next hs =>
    have hx : 1 ≤ X ∧ X ≤ p.length := by
      unfold look at hs
      split at hs
      · omega
      · cases hs
    rw [look_set (t := X.toNat) (by omega) (by omega), if_neg (by omega)]
    exact h
  · exact h

/-- somebody reads in the epoch E with the ticket t; what is x was retired in E or later -/
structure Safe (t x : Int) (E : Nat) (s : KS) : Prop where
  gone : s.gone = false
  reads : look s.p t = some E
  near : s.now ≤ E + 1
  late : ∀ y ∈ s.q, y.1 = x → E ≤ y.2
  one : 1 ≤ s.now

theorem due_mem {now : Nat} {q : List (Int × Nat)} {y : Int × Nat} (h : y ∈ due now q) : y.2 + 1 ≤ now := by
  unfold due at h
  induction q with
  | nil => simp at h
  | cons a r ih =>
    rw [List.takeWhile_cons] at h
    split at h
    · next ha =>
      rcases List.mem_cons.1 h with rfl | h
      · simpa using ha
      · exact ih h
    · cases h

theorem safe_step {t x : Int} {E : Nat} {s : KS} (h : Safe t x E s) (o : Int × Int) : Safe t x E (actS t x s o) := by
  unfold actS
  split
  · exact ⟨h.gone, look_pin h.reads h.one, h.near, h.late, h.one⟩
  split
  · split
    · exact h
    · next hX => exact ⟨h.gone, look_unp h.reads hX, h.near, h.late, h.one⟩
  split
  · split
    · exact h
    · next hX =>
      refine ⟨h.gone, h.reads, h.near, fun y hy he => ?_, h.one⟩
      rcases List.mem_append.1 hy with hy | hy
      · exact h.late y hy he
      · rcases List.mem_cons.1 hy with rfl | hy
        · exact absurd he hX
        · cases hy
  split
  · cases hb : busy s.now s.p with
    | true =>
      refine ⟨?_, h.reads, ?_, ?_, ?_⟩
      · show (s.gone || (advO s.now s.p s.q).any _) = false
        rw [advO, if_pos hb, h.gone]
        rfl
      · show advN s.now s.p ≤ _
        rw [advN, if_pos hb]
        exact h.near
      · show ∀ y ∈ advQ s.now s.p s.q, _
        rw [advQ, if_pos hb]
        exact h.late
      · show 1 ≤ advN s.now s.p
        rw [advN, if_pos hb]
        exact h.one
    | false =>
      have hb' : ¬ busy s.now s.p = true := by rw [hb]; simp
      have hE : s.now ≤ E := by
        by_cases hlt : E < s.now
        · exact absurd (busy_iff.2 ⟨t, E, h.reads, hlt⟩) hb'
        · omega
      refine ⟨?_, h.reads, ?_, ?_, ?_⟩
      · show (s.gone || (advO s.now s.p s.q).any _) = false
        rw [advO, if_neg hb', h.gone, Bool.false_or, List.any_eq_false]
        intro y hy hyx
        have h1 : y ∈ s.q := (List.takeWhile_prefix _).sublist.subset hy
        have h2 := due_mem hy
        have h3 := h.late y h1 (by simpa using hyx)
        omega
      · show advN s.now s.p ≤ _
        rw [advN, if_neg hb']
        omega
      · show ∀ y ∈ advQ s.now s.p s.q, _
        rw [advQ, if_neg hb']
        exact fun y hy => h.late y (List.mem_of_mem_drop hy)
      · show 1 ≤ advN s.now s.p
        rw [advN, if_neg hb']
        omega
  · exact h
theorem safe_do {t x : Int} {E : Nat} (l : List (Int × Int)) {s : KS} (h : Safe t x E s) : Safe t x E (doS t x s l) := by
  unfold doS
  induction l generalizing s with
  | nil => exact h
  | cons o r ih => exact ih (safe_step h o)

/-- no x waits -/
theorem clean_do {t x : Int} (l : List (Int × Int)) {s : KS} (h : ∀ y ∈ s.q, y.1 ≠ x) : ∀ y ∈ (doS t x s l).q, y.1 ≠ x := by
  unfold doS
  induction l generalizing s with
  | nil => exact h
  | cons o r ih =>
    refine ih ?_
    unfold actS
    split
    · exact h
    split
    · split <;> exact h
    split
    · split
      · exact h
      · next hX =>
        intro y hy
        rcases List.mem_append.1 hy with hy | hy
        · exact h y hy
        · rcases List.mem_cons.1 hy with rfl | hy
          · exact hX
          · cases hy
    split
    · intro y hy
      change y ∈ advQ s.now s.p s.q at hy
      unfold advQ at hy
      split at hy
      · exact h y hy
      · exact h y (List.mem_of_mem_drop hy)
    · exact h

theorem works_any (w : World) : Calls Try.prog 10 #[] w fun e w' => e = .returned (.bool true) ∧ Below w.heap.size w w' := by
  go_enter Try.func10, Try.ntmps10
  go_wp2_with fail
  refine (new_all w).mono ?_
  rintro e w1 ⟨rfl, h1, b1, s1⟩
  go_wp2_with fail
  refine (retire_all 7 h1 (by decide)).mono ?_
  rintro e w2 ⟨rfl, h2, _, b2⟩
  replace h2 : Keep w2 w.heap.size (w.heap.size + 1) w.heap.size 1 [] [(7, 1)] := h2
  go_wp2_with fail
  refine (pin_all h2 (by decide) (by decide) (by decide)).mono ?_
  rintro e w3 ⟨rfl, h3, _, b3⟩
  replace h3 : Keep w3 w.heap.size (w.heap.size + 1) w.heap.size 1 [1] [(7, 1)] := h3
  rw [show pinT [] = 1 from rfl, show pinE [] = 0 from rfl]
  go_wp2_with fail
  refine (advance_all h3 (by decide) (by decide)).mono ?_
  rintro e w4 ⟨A4, c4, rfl, _, h4, _, b4⟩
  replace h4 : Keep w4 w.heap.size (w.heap.size + 1) w.heap.size 2 [1] [(7, 1)] := h4
  rw [show (advO 1 [1] [((7 : Int), 1)]).length = 0 from rfl, show advE 1 [1] = 0 from rfl]
  go_wp2_with fail
  refine (advance_all h4 (by decide) (by decide)).mono ?_
  rintro e w5 ⟨A5, c5, rfl, _, h5, _, b5⟩
  replace h5 : Keep w5 w.heap.size (w.heap.size + 1) w.heap.size 2 [1] [(7, 1)] := h5
  rw [show (advO 2 [1] [((7 : Int), 1)]).length = 0 from rfl, show advE 2 [1] = 25 from rfl]
  go_wp2_with fail
  refine (unpin_all 1 h5 (by decide)).mono ?_
  rintro e w6 ⟨rfl, h6, _, b6⟩
  replace h6 : Keep w6 w.heap.size (w.heap.size + 1) w.heap.size 2 [0] [(7, 1)] := h6
  rw [show unpE [1] 1 = 0 from rfl]
  go_wp2_with fail
  refine (advance_all h6 (by decide) (by decide)).mono ?_
  rintro e w7 ⟨A7, c7, rfl, hA, h7, _, b7⟩
  replace h7 : Keep w7 w.heap.size (w.heap.size + 1) w.heap.size 3 [0] [] := h7
  replace hA : w7.ownsRow w6.heap.size 2 1 (.slice A7 1 c7) 1 [.int .i64 7] := hA
  rw [show (advO 2 [0] [((7 : Int), 1)]).length = 1 from rfl, show advE 2 [0] = 0 from rfl]
  obtain ⟨_, _, eA, _, hRA⟩ := own_form hA
  cases eA
  obtain ⟨ab, ao, rfl, _, _, _, hac⟩ := hRA.plain (by omega) (by omega)
  have a0 : w7.cell? ⟨ab, ao, none⟩ = some (.int .i64 7) := hac 0 (by omega)
  have hB : Below w.heap.size w w7 := ((((((b1.trans b2).trans b3).trans b4).trans b5).trans b6).trans b7)
  clear hac hRA hA
  go_wp2_with fail
  refine (now_all h7).mono ?_
  rintro e w8 ⟨rfl, rfl⟩
  go_wp2
  go_ret
  exact ⟨rfl, hB⟩
end Go.Proofs.Ytajeifeigjggoaa
