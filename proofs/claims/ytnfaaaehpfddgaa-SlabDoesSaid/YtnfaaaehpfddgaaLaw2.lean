/- SlabSlots: no more slots are ever taken than things were there at one time. -/
import Derived.Test.YtnfaaaehpfddgaaAr
namespace Go.Proofs.Ytnfaaaehpfddgaa
open Go.RowKit Mem Go.Deep Go.ChangeShapes Go.WideShapes
set_option linter.unusedVariables false

theorem hole_at {sl : List S3} (h : lives sl < sl.length) : ∃ z0 z1, sl[ff sl]? = some (z0, z1, false) := by
  obtain ⟨h1, h2⟩ := ff_free h
  have hs : sl[ff sl]? = some (sl[ff sl]) := List.getElem?_eq_getElem h2
  generalize sl[ff sl] = s at hs
  obtain ⟨z0, z1, z2⟩ := s
  have : z2 = false := by simpa [isFree, hs] using h1
  subst this
  exact ⟨z0, z1, hs⟩
theorem putS_hole {sl : List S3} (h : lives sl < sl.length) (x : Int) : ∃ z0 z1, sl[ff sl]? = some (z0, z1, false) ∧ grown sl = sl ∧ genOf sl (ff sl) = z0 ∧ putS sl x = sl.set (ff sl) (z0 + 1, x, true) := by
  obtain ⟨z0, z1, hs⟩ := hole_at h
  have hg : grown sl = sl := by unfold grown; rw [if_neg (by omega)]
  have hn : genOf sl (ff sl) = z0 := by unfold genOf; rw [hs]
  refine ⟨z0, z1, hs, hg, hn, ?_⟩
  unfold putS
  rw [hg, hn]
theorem putS_spec (sl : List S3) (x : Int) : lives (putS sl x) = lives sl + 1 ∧ (putS sl x).length = max sl.length (lives sl + 1) ∧ ∀ N, (∀ s ∈ sl, s.1 ≤ N) → ∀ s ∈ putS sl x, s.1 ≤ N + 1 := by
  have hle := lives_le sl
  by_cases h : lives sl = sl.length
  · obtain ⟨_, _, _, e⟩ := put_full_spec h x
    rw [e]
    refine ⟨?_, by simp; omega, ?_⟩
    · unfold lives; rw [List.countP_append]; simp
    · intro N hN s hs
      rcases List.mem_append.1 hs with hs | hs
      · exact Nat.le_succ_of_le (hN s hs)
      · rcases List.mem_cons.1 hs with rfl | hs
        · exact Nat.succ_le_succ (Nat.zero_le _)
        · cases hs
  · obtain ⟨z0, z1, hs, _, _, e⟩ := putS_hole (sl := sl) (by omega) x
    rw [e]
    have hl := lives_set (z0 + 1, x, true) hs
    simp only [Bool.false_eq_true, if_false, if_true, Nat.add_zero] at hl
    refine ⟨hl, by rw [List.length_set]; omega, ?_⟩
    intro N hN s hs'
    rcases List.mem_or_eq_of_mem_set hs' with hs' | rfl
    · exact Nat.le_succ_of_le (hN s hs')
    · exact Nat.succ_le_succ (hN _ (List.mem_of_getElem? hs))
theorem freeS_spec (sl : List S3) (s h : Int) : lives (freeS sl s h) ≤ lives sl ∧ (freeS sl s h).length = sl.length ∧ ∀ N, (∀ s ∈ sl, s.1 ≤ N) → ∀ x ∈ freeS sl s h, x.1 ≤ N := by
  unfold freeS
  by_cases hf : fnd sl s h = 0
  · rw [if_pos hf]
    obtain ⟨k, z0, z1, rfl, rfl, _, hk, hs⟩ := fnd_ok hf
    rw [Int.toNat_natCast, Int.toNat_natCast]
    have hl := lives_set (z0, 0, false) hs
    simp only [Bool.false_eq_true, if_false, if_true, Nat.add_zero] at hl
    refine ⟨by omega, by rw [List.length_set], ?_⟩
    intro N hN s hs'
    rcases List.mem_or_eq_of_mem_set hs' with hs' | rfl
    · exact hN s hs'
    · exact hN (z0, z1, true) (List.mem_of_getElem? hs)
  · rw [if_neg hf]
    exact ⟨Nat.le_refl _, rfl, fun N hN => hN⟩

set_option maxRecDepth 100000 in
set_option maxHeartbeats 4000000 in
theorem slots_law (l : List Op6) (n c : Nat) (A : Option Addr) (w : World) (hr : Reads w 0 w.heap.size 6 A n (op6 l)) :
    Calls Try.prog 4 #[.slice A n c] w fun e w' => e = .returned (.bool true) ∧ Below w.heap.size w w' := by
  have hl : l.length = n := by have := hr.1; rw [op6_len] at this; omega
  go_enter Try.func4, Try.ntmps4
  go_wp2_with fail
  refine (new_any w 65536 (by decide) (by decide)).mono ?_
  rintro e w1 ⟨rfl, h1, b1, s1⟩
  go_wp2_with fail
  go_loopw [5, 6] (fun mo i wr => ∃ (k : Nat) (sl : List S3), k ≤ n ∧ k ≤ 300 ∧ mo = .int .i64 (sl.length : Nat) ∧ i = .int .i64 (k : Nat) ∧ sl.length ≤ k ∧ Hid (Sl wr w.heap.size w.heap.size 65536 sl) ∧ Hid (Below w.heap.size w wr) ∧ Hid (∀ s ∈ sl, s.1 ≤ k)) (fun _ i _ => 300 - (intOf i).toNat)
  case atStart => exact ⟨0, [], Nat.zero_le _, Nat.zero_le _, rfl, rfl, Nat.le_refl _, h1, b1, by intro s hs; cases hs⟩
  case round =>
    obtain ⟨k, sl, hk, hk3, rfl, rfl, hsl, hS, hB, hN⟩ := hrel
    have hle := lives_le sl
    by_cases hlt : k < n
    · by_cases h3 : k < 300
      · obtain ⟨b2, o2, rfl, _, hb2, _, hc2⟩ := hr.plain (by omega) (by omega)
        have ho : l[k]? = some (l[k]'(by omega)) := List.getElem?_eq_getElem (by omega)
        have hcs : ∀ r, r < 6 → wr.cell? ⟨b2, o2 + k * 6 + r, none⟩ = (cells6 (l[k]'(by omega)))[r]? := fun r hr6 => by
          rw [hB.out.cell hb2, Nat.add_assoc, hc2 _ (by omega), op6_at ho hr6]
        generalize l[k]'(by omega) = op at ho hcs
        obtain ⟨kd, hh, raw, s, g, v⟩ := op
        have g0 : wr.cell? ⟨b2, o2 + k * 6, none⟩ = some (.int .i64 kd) := hcs 0 (by decide)
        have g3 : wr.cell? ⟨b2, o2 + k * 6 + 3, none⟩ = some (.int .i64 s) := hcs 3 (by decide)
        have g4 : wr.cell? ⟨b2, o2 + k * 6 + 4, none⟩ = some (.int .i64 g) := hcs 4 (by decide)
        have g5 : wr.cell? ⟨b2, o2 + k * 6 + 5, none⟩ = some (.int .i64 v) := hcs 5 (by decide)
        have g4' : wr.cell? ⟨b2, o2 + k * 6 + 3 + 1, none⟩ = some (.int .i64 g) := g4
        have HR := hide hr
        clear hcs hc2 hr ho
        by_cases k0 : kd = 0
        · subst k0
          obtain ⟨p1, p2, p3⟩ := putS_spec sl v
          go_wp2_with fail
          refine (put_ok v hS.out (by omega) (by omega) (fun s hs => by have := hN.out s hs; omega)).mono ?_
          rintro e w2 ⟨rfl, hS2, _, hB2⟩
          have HP := hide (p3 k hN.out)
          have HB2 := hide (hB.out.trans hB2)
          have HS2 := hide hS2
          have hlv := live_any hS2
          generalize hp : putS sl v = sl2 at p1 p2 HP HS2 hlv
          clear hp p3 hS2 hB2 hS hB hN
          go_wp2_with fail
          refine hlv.mono ?_
          rintro e w3 ⟨rfl, rfl⟩
          clear hlv
          rw [p1]
          go_wp2_with fail
          go_roundw
          case rel => exact ⟨k + 1, sl2, hlt, by omega, by congr 1; rw [p2]; split <;> omega, by go_num, by omega, HS2, HB2, HP⟩
          case measure => simp [intOf]; omega
        · by_cases k3 : kd = 3
          · subst k3
            obtain ⟨p1, p2, p3⟩ := freeS_spec sl s g
            go_wp2_with fail
            refine (free_any s g hS.out (by omega)).mono ?_
            rintro e w2 ⟨rfl, hS2, _, hB2⟩
            have HP := hide (p3 k hN.out)
            have HB2 := hide (hB.out.trans hB2)
            have HS2 := hide hS2
            have hlv := live_any hS2
            generalize hp : freeS sl s g = sl2 at p1 p2 HP HS2 hlv
            clear hp p3 hS2 hB2 hS hB hN
            go_wp2_with fail
            refine hlv.mono ?_
            rintro e w3 ⟨rfl, rfl⟩
            clear hlv
            go_wp2_with fail
            go_roundw
            case rel => exact ⟨k + 1, sl2, hlt, by omega, by congr 1; rw [p2]; try (split <;> omega), by go_num, by omega, HS2, HB2, fun s hs => Nat.le_succ_of_le (HP.out s hs)⟩
            case measure => simp [intOf]; omega
          · have hlv := live_any hS.out
            go_wp2_with fail
            refine hlv.mono ?_
            rintro e w3 ⟨rfl, rfl⟩
            clear hlv
            go_wp2_with fail
            go_roundw
            case rel => exact ⟨k + 1, sl, hlt, by omega, by congr 1; try (split <;> omega), by go_num, by omega, hS, hB, fun s hs => Nat.le_succ_of_le (hN.out s hs)⟩
            case measure => simp [intOf]; omega
      · have hsn := slots_any hS.out
        go_wp2_with fail
        refine hsn.mono ?_
        rintro e w3 ⟨rfl, rfl⟩
        clear hsn
        go_wp2_with fail
        refine (works_any _).mono ?_
        rintro e w4 ⟨rfl, hb4⟩
        go_wp2
        go_ret
        exact ⟨rfl, hB.out.trans (hb4.mono hB.out.size)⟩
    · have hsn := slots_any hS.out
      go_wp2_with fail
      refine hsn.mono ?_
      rintro e w3 ⟨rfl, rfl⟩
      clear hsn
      go_wp2_with fail
      refine (works_any _).mono ?_
      rintro e w4 ⟨rfl, hb4⟩
      go_wp2
      go_ret
      exact ⟨rfl, hB.out.trans (hb4.mono hB.out.size)⟩

theorem slabSlots_walk (H : Type) (enc : TypeId × Value → H) (W : World) (base : Nat) (v0 : Value) (d0 : DataW H) (p0 : List MemPlace)
    (x0 : Value.okWide Try.prog W .any base 36 v0) (h0 : DataW.Trod enc Try.prog W 0 (fun _ => true) true 36 v0 d0 p0) :
    Calls Try.prog 4 #[v0] W fun e W' => e = .returned (.bool true) ∧ Below W.heap.size W W' := by
  obtain ⟨A, n, c, l, rfl, _, hr⟩ := arg_op6 x0 h0
  exact slots_law l n c A W hr
end Go.Proofs.Ytnfaaaehpfddgaa
