/- msg.whole, msg.text; value.Same with the zero value; value.Plain and its reference. -/
import Derived.Test.YtaapbiiiepdopaaMb
import Derived.Deep.CutRange
namespace Go.Proofs.Ytaapbiiiepdopaa
open Go.RowKit Mem
set_option linter.unusedVariables false

theorem whole_any (n : Int) (w : World) : Calls Try.prog 46 #[.int .i64 n] w fun e w' => e = .returned (.agg #[.int .i64 2, .bool false, .int .i64 n, .string ⟨#[]⟩, .slice none 0 0, .slice none 0 0]) ∧ Below w.heap.size w w' := by
  go_enter Try.func46, Try.ntmps46
  go_wp2
  refine bodyPost_ret (results_cell1 rfl _ _ w.heap.size 25 _ _ rfl (Blk.new _ _ _) Try.underlying25 rfl (by kernel_rfl)) rfl ?_
  exact ⟨rfl, (Below.refl _ w).alloc (Nat.le_refl _) _⟩
theorem text_any (s : ByteArray) (w : World) : Calls Try.prog 48 #[.string s] w fun e w' => e = .returned (.agg #[.int .i64 3, .bool false, .int .i64 0, .string s, .slice none 0 0, .slice none 0 0]) ∧ Below w.heap.size w w' := by
  go_enter Try.func48, Try.ntmps48
  go_wp2
  refine bodyPost_ret (results_cell1 rfl _ _ w.heap.size 25 _ _ rfl (Blk.new _ _ _) Try.underlying25 rfl (by kernel_rfl)) rfl ?_
  exact ⟨rfl, (Below.refl _ w).alloc (Nat.le_refl _) _⟩
/-- lists of texts, of values: one is empty -/
theorem equal_nil {n c : Nat} {A : Option Addr} (w : World) : Calls Try.prog 72 #[.slice A n c, .slice none 0 0] w fun e w' => e = .returned (.bool (decide (n = 0))) ∧ w = w' := by
  by_cases h : n = 0
  · subst h
    go_enter Try.func72, Try.ntmps72
    go_wp2
    go_loopg [13] 0 (fun g iv wr => g = 0 ∧ iv = .int .i64 0 ∧ wr = w)
    case atStart => exact ⟨rfl, rfl, rfl⟩
    case round =>
      obtain ⟨rfl, rfl, rfl⟩ := hrel
      go_wp2
      go_ret
      exact ⟨rfl, rfl⟩
  · have e1 : ((n : Int) == 0) = false := by simp; omega
    have e2 : ((n : Int) != 0) = true := by simp; omega
    have e3 : decide (n = 0) = false := by simp [h]
    rw [e3]
    clear e3
    have H := hide h
    clear h
    go_enter Try.func72, Try.ntmps72
    go_wp2
    go_ret
    exact ⟨rfl, rfl⟩
theorem equalf_nil {n c : Nat} {A : Option Addr} {f : Value} (w : World) : Calls Try.prog 73 #[.slice A n c, .slice none 0 0, f] w fun e w' => e = .returned (.bool (decide (n = 0))) ∧ w = w' := by
  by_cases h : n = 0
  · subst h
    go_enter Try.func73, Try.ntmps73
    go_wp2
    go_loopg [17] 0 (fun g iv wr => g = 0 ∧ iv = .int .i64 0 ∧ wr = w)
    case atStart => exact ⟨rfl, rfl, rfl⟩
    case round =>
      obtain ⟨rfl, rfl, rfl⟩ := hrel
      go_wp2
      go_ret
      exact ⟨rfl, rfl⟩
  · have e1 : ((n : Int) == 0) = false := by simp; omega
    have e2 : ((n : Int) != 0) = true := by simp; omega
    have e3 : decide (n = 0) = false := by simp [h]
    rw [e3]
    clear e3
    have H := hide h
    clear h
    go_enter Try.func73, Try.ntmps73
    go_wp2
    go_ret
    exact ⟨rfl, rfl⟩

theorem eqV_nul (k : Int) (b : Bool) (n : Int) (s : ByteArray) (l : List V) (ks : List ByteArray) : eqV (.mk k b n s l ks) nul = (decide (k = 0) && decide (b = false) && decide (n = 0) && decide (s = .empty) && decide (ks.length = 0) && decide (l.length = 0)) := by
  unfold nul
  rw [eqV_mk, Bool.eq_iff_iff]
  simp only [Bool.and_eq_true, decide_eq_true_eq, eqVs_iff, List.length_eq_zero_iff]
set_option maxHeartbeats 4000000 in
theorem vsame_nul {v : V} {w : World} {S : Nat → Prop} {cs : Array Value} (hV : IsV w S v cs) :
    Calls Try.prog 67 #[.agg cs, .agg #[.int .i64 0, .bool false, .int .i64 0, .string ⟨#[]⟩, .slice none 0 0, .slice none 0 0]] w fun e w' => e = .returned (.bool (eqV v nul)) ∧ Below w.heap.size w w' := by
  obtain ⟨k, b, n, s, l, ks⟩ := v
  rw [IsV] at hV
  obtain ⟨AL, cL, AK, cK, xs, rfl, _, _, _, _, _⟩ := hV
  rw [eqV_nul]
  generalize l.length = nl
  generalize ks.length = nk
  generalize hq : (decide (k = 0) && decide (b = false) && decide (n = 0) && decide (s = .empty) && decide (nk = 0) && decide (nl = 0)) = q
  by_cases h1 : k = 0
  · subst h1
    by_cases h2 : b = false
    · subst h2
      by_cases h3 : n = 0
      · subst h3
        by_cases h4 : s = .empty
        · subst h4
          by_cases h5 : nk = 0
          · have t5 : decide (nk = 0) = true := by simp [h5]
            obtain rfl : q = decide (nl = 0) := by rw [← hq]; simp [h5]
            clear hq
            have HE := fun W => hide (by have := equal_nil (n := nk) (c := cK) (A := AK) W; rw [t5] at this; exact this)
            clear h5 t5
            go_enter Try.func67, Try.ntmps67
            go_wp2_with (first | (go_at_call 72; refine (HE _).out.mono ?_; rintro e w5 ⟨rfl, rfl⟩) | (go_at_call 73; refine (equalf_nil _).mono ?_; rintro e w6 ⟨rfl, rfl⟩))
            all_goals go_ret
            all_goals exact ⟨rfl, ((Below.refl _ w).alloc (Nat.le_refl _) _).alloc (by simp) _⟩
          · have t5 : decide (nk = 0) = false := by simp [h5]
            obtain rfl : q = false := by rw [← hq]; simp [h5]
            clear hq
            have HE := fun W => hide (by have := equal_nil (n := nk) (c := cK) (A := AK) W; rw [t5] at this; exact this)
            clear h5 t5
            go_enter Try.func67, Try.ntmps67
            go_wp2_with (first | (go_at_call 72; refine (HE _).out.mono ?_; rintro e w5 ⟨rfl, rfl⟩))
            all_goals go_ret
            all_goals exact ⟨rfl, ((Below.refl _ w).alloc (Nat.le_refl _) _).alloc (by simp) _⟩
        · have h4' : (s.toList == []) = false := by
            have := strEq s .empty
            have e : ByteArray.empty.toList = [] := by rw [ByteArray.toList_eq]; rfl
            rw [e] at this
            rw [this]; simp [h4]
          obtain rfl : q = false := by rw [← hq]; simp [h4]
          clear hq
          clear h4
          go_enter Try.func67, Try.ntmps67
          go_wp2
          go_ret
          exact ⟨rfl, ((Below.refl _ w).alloc (Nat.le_refl _) _).alloc (by simp) _⟩
      · have e3 : (n == 0) = false := by simp [h3]
        obtain rfl : q = false := by rw [← hq]; simp [h3]
        clear hq
        clear h3
        go_enter Try.func67, Try.ntmps67
        go_wp2
        go_ret
        exact ⟨rfl, ((Below.refl _ w).alloc (Nat.le_refl _) _).alloc (by simp) _⟩
    · have e3 : b = true := by simpa using h2
      subst e3
      obtain rfl : q = false := by rw [← hq]; simp
      clear hq
      clear h2
      go_enter Try.func67, Try.ntmps67
      go_wp2
      go_ret
      exact ⟨rfl, ((Below.refl _ w).alloc (Nat.le_refl _) _).alloc (by simp) _⟩
  · have e3 : (k == 0) = false := by simp [h1]
    obtain rfl : q = false := by rw [← hq]; simp [h1]
    clear hq
    clear h1
    go_enter Try.func67, Try.ntmps67
    go_wp2
    go_ret
    exact ⟨rfl, ((Below.refl _ w).alloc (Nat.le_refl _) _).alloc (by simp) _⟩
end Go.Proofs.Ytaapbiiiepdopaa
