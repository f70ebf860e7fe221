/- The free slots' heap: up, down, Push, Pop of container/heap over it. -/
import Derived.Test.YtnfaaaehpfddgaaHp
import Derived.Deep.LoopGhost
namespace Go.Proofs.Ytnfaaaehpfddgaa
open Go.RowKit Mem
set_option linter.unusedVariables false

/-- the row of free slots, and the field that holds it -/
structure HpM (w : World) (B gs g c n : Nat) (cs : Array Value) (xs : List Nat) : Prop where
  blk : Blk w gs 58 cs
  fld : cs[2]? = some (.slice (some ⟨g, 0, none⟩) n c)
  len : xs.length = n
  own : w.ownsRow B 3 1 (.slice (some ⟨g, 0, none⟩) n c) n (nats xs)

section
variable {w w' : World} {B gs g c n : Nat} {cs : Array Value} {xs : List Nat}
theorem HpM.drewN (h : HpM w B gs g c n cs xs) (m : Nat) : HpM (w.drewN m) B gs g c n cs xs := ⟨h.blk.drewN m, h.fld, h.len, own_drewN h.own m⟩
theorem HpM.cell (h : HpM w B gs g c n cs xs) : w.cell? ⟨gs, 2, none⟩ = some (.slice (some ⟨g, 0, none⟩) n c) := by rw [h.blk.cell]; exact h.fld
theorem HpM.less (h : HpM w B gs g c n cs xs) {i j : Nat} (hi : i < n) (hj : j < n) :
    Calls Try.prog 48 #[.slice (some ⟨g, 0, none⟩) n c, .int .i64 (i : Int), .int .i64 (j : Int)] w fun e w' => e = .returned (.bool (decide (at_ xs i < at_ xs j))) ∧ ∃ m, w.drewN m = w' := by
  obtain ⟨_, _, rfl, h⟩ := h
  exact less_any h hi hj
theorem HpM.swap (h : HpM w B gs g c n cs xs) {i j : Nat} (hi : i < n) (hj : j < n) :
    Calls Try.prog 49 #[.slice (some ⟨g, 0, none⟩) n c, .int .i64 (i : Int), .int .i64 (j : Int)] w fun e w' => e = .returned (.tuple #[]) ∧ HpM w' B gs g c n cs (sw xs i j) ∧ Only (fun k => k = g) w w' := by
  obtain ⟨hb, hf, rfl, h⟩ := h
  refine (swap_any h hi hj).mono ?_
  rintro e w' ⟨rfl, h1, ho⟩
  exact ⟨rfl, ⟨hb.only ho (fun e => own_far h hb (by decide) g rfl e.symm), hf, sw_len _ _ _, h1⟩, ho⟩
end

theorem up_any {w : World} {B gs g c n j : Nat} {cs : Array Value} {xs : List Nat} (h : HpM w B gs g c n cs xs) (hj : j < n) (hu : UpInv xs n j) (hn : n ≤ 4294967296) :
    Calls Try.prog 29 #[.iface 60 (.pointer (some ⟨gs, 2, none⟩)), .int .i64 (j : Int)] w fun e w' => e = .returned (.tuple #[]) ∧ ∃ ys, HpM w' B gs g c n cs ys ∧ IsHeap ys n ∧ (∀ v, ys.count v = xs.count v) ∧ Only (fun k => k = g) w w' := by
  go_enter Try.func29, Try.ntmps29
  go_wp2
  go_loopw [1] (fun jv wr => ∃ j ys, jv = .int .i64 (j : Nat) ∧ j < n ∧ Hid (HpM wr B gs g c n cs ys) ∧ Hid (UpInv ys n j) ∧ Hid (∀ v, ys.count v = xs.count v) ∧ Hid (Only (fun k => k = g) w wr)) (fun jv _ => (intOf jv).toNat)
  case atStart => exact ⟨j, xs, rfl, hj, h, hu, fun _ => rfl, Only.refl _ _⟩
  case round =>
    clear h hu hj
    obtain ⟨j, ys, rfl, hj, hH, hU, hC, hO⟩ := hrel
    have ml := m_less _ _ _ hH.out.cell
    by_cases h0 : j = 0
    · subst h0
      go_wp2
      refine bodyPost_end (results_none rfl _ _ _) rfl ?_
      exact ⟨rfl, ys, hH.out, up_done hU.out (.inl rfl), hC.out, hO.out⟩
    · go_wp2_with fail
      have hp : ((j : Int) - 1) / 2 = (((j - 1) / 2 : Nat) : Int) := by omega
      rw [hp]
      generalize hpe : (j - 1) / 2 = p at hp ⊢
      have hpj : p < j := by omega
      refine (hH.out.less hj (show p < n by omega)).mono ?_
      rintro e w2 ⟨rfl, m, rfl⟩
      have hH2 := hide (hH.out.drewN m)
      have hO2 := hide (hO.out.drewN m)
      clear hH hO ml
      generalize wr.drewN m = w2 at hH2 hO2 ⊢
      have ms := m_swap _ _ _ hH2.out.cell
      by_cases hlt : at_ ys j < at_ ys p
      · rw [decide_eq_true hlt]
        go_wp2_with fail
        refine (hH2.out.swap (show p < n by omega) hj).mono ?_
        rintro e w3 ⟨rfl, hH3, hO3⟩
        have hU3 := hide (up_step hpe.symm hU.out (by omega) hj (by have := hH2.out.len; omega) hlt)
        have hC3 : Hid (∀ v, (sw ys p j).count v = xs.count v) := fun v => by
          rw [sw_count (by have := hH2.out.len; omega) (by have := hH2.out.len; omega)]
          exact hC.out v
        have hO4 := hide (hO2.out.trans hO3 (fun _ _ h => h))
        have hH4 := hide hH3
        clear hH3 hO3 hH2 hO2 ms
        go_wp2_with fail
        go_roundw
        case rel => exact ⟨p, _, rfl, by omega, hH4, hU3, hC3, hO4⟩
        case measure => simp [intOf]; omega
      · rw [decide_eq_false hlt]
        go_wp2
        refine bodyPost_end (results_none rfl _ _ _) rfl ?_
        exact ⟨rfl, ys, hH2.out, up_done hU.out (.inr (by rw [hpe]; omega)), hC.out, hO2.out⟩

/-- a truth is handed back -/
def RetB (e : Ending) : Prop := ∃ b, e = .returned (.bool b)
set_option maxHeartbeats 4000000 in
set_option maxRecDepth 100000 in
theorem down_any {w : World} {B gs g c n N : Nat} {cs : Array Value} {xs : List Nat} (h : HpM w B gs g c N cs xs) (hnN : n ≤ N) (hu : DnInv xs n 0) (hn : N ≤ 4294967296) :
    Calls Try.prog 28 #[.iface 60 (.pointer (some ⟨gs, 2, none⟩)), .int .i64 0, .int .i64 (n : Int)] w fun e w' => RetB e ∧ ∃ ys, HpM w' B gs g c N cs ys ∧ IsHeap ys n ∧ (∀ v, ys.count v = xs.count v) ∧ (∀ k, n ≤ k → at_ ys k = at_ xs k) ∧ Only (fun k => k = g) w w' := by
  go_enter Try.func28, Try.ntmps28
  go_wp2
  go_loopw [7] (fun iv wr => ∃ i ys, iv = .int .i64 (i : Nat) ∧ i ≤ N ∧ Hid (HpM wr B gs g c N cs ys) ∧ Hid (DnInv ys n i) ∧ Hid (∀ v, ys.count v = xs.count v) ∧ Hid (∀ k, n ≤ k → at_ ys k = at_ xs k) ∧ Hid (Only (fun k => k = g) w wr)) (fun iv _ => N - (intOf iv).toNat)
  case atStart => exact ⟨0, xs, rfl, Nat.zero_le _, h, hu, fun _ => rfl, fun _ _ => rfl, Only.refl _ _⟩
  case round =>
    clear h hu
    obtain ⟨i, ys, rfl, hi, hH, hU, hC, hK, hO⟩ := hrel
    have hlen := hH.out.len
    have ml := m_less _ _ _ hH.out.cell
    by_cases h1 : 2 * i + 1 < n
    · obtain ⟨hpk, hik⟩ := kid_par ys n i
      have hkn := kid_lt ys n i h1
      by_cases h2 : 2 * i + 2 < n
      · go_wp2_with fail
        rw [show 2 * (i : Int) + 1 + 1 = ((2 * i + 2 : Nat) : Int) by omega, show 2 * (i : Int) + 1 = ((2 * i + 1 : Nat) : Int) by omega]
        refine (hH.out.less (show 2 * i + 2 < N by omega) (show 2 * i + 1 < N by omega)).mono ?_
        rintro e w2 ⟨rfl, m, rfl⟩
        have hH2 := hide (hH.out.drewN m)
        have hO2 := hide (hO.out.drewN m)
        clear hH hO ml
        generalize wr.drewN m = w2 at hH2 hO2 ⊢
        have ml := m_less _ _ _ hH2.out.cell
        by_cases h3 : at_ ys (2 * i + 2) < at_ ys (2 * i + 1)
        · have hk : kid ys n i = 2 * i + 2 := by unfold kid; rw [if_pos ⟨h2, h3⟩]
          rw [decide_eq_true h3]
          clear h3
          generalize hJ : 2 * i + 2 = J at hk hkn h2 ⊢
          go_wp2_with fail
          refine (hH2.out.less (show J < N by omega) (show i < N by omega)).mono ?_
          rintro e w4 ⟨rfl, m4, rfl⟩
          have hH4 := hide (hH2.out.drewN m4)
          have hO4 := hide (hO2.out.drewN m4)
          clear hH2 hO2 ml
          generalize w2.drewN m4 = w4 at hH4 hO4 ⊢
          have ms := m_swap _ _ _ hH4.out.cell
          by_cases h4 : at_ ys J < at_ ys i
          · rw [decide_eq_true h4]
            go_wp2_with fail
            refine (hH4.out.swap (show i < N by omega) (show J < N by omega)).mono ?_
            rintro e w5 ⟨rfl, hH5, hO5⟩
            have hU5 := hide (dn_step hk.symm hU.out h1 (by omega) h4)
            have hC5 : Hid (∀ v, (sw ys i J).count v = xs.count v) := fun v => by
              rw [sw_count (by omega) (by omega)]
              exact hC.out v
            have hK5 : Hid (∀ k, n ≤ k → at_ (sw ys i J) k = at_ xs k) := fun k hk' => by
              rw [sw_at (by omega) (by omega), if_neg (by omega), if_neg (by omega)]
              exact hK.out k hk'
            have hO6 := hide (hO4.out.trans hO5 (fun _ _ h => h))
            have hH6 := hide hH5
            clear hH5 hO5 hH4 hO4 ms
            go_wp2_with fail
            go_roundw
            case rel => exact ⟨J, _, rfl, by omega, hH6, hU5, hC5, hK5, hO6⟩
            case measure => simp [intOf]; omega
          · rw [decide_eq_false h4]
            have hE := hide (dn_done hU.out (by rw [hk]; omega))
            go_wp2
            go_ret
            exact ⟨⟨_, rfl⟩, ys, hH4.out, hE.out, hC.out, hK.out, hO4.out⟩
        · have hk : kid ys n i = 2 * i + 1 := by unfold kid; rw [if_neg (fun e => h3 e.2)]
          rw [decide_eq_false h3]
          clear h3
          generalize hJ : 2 * i + 1 = J at hk hkn h1 ⊢
          go_wp2_with fail
          refine (hH2.out.less (show J < N by omega) (show i < N by omega)).mono ?_
          rintro e w4 ⟨rfl, m4, rfl⟩
          have hH4 := hide (hH2.out.drewN m4)
          have hO4 := hide (hO2.out.drewN m4)
          clear hH2 hO2 ml
          generalize w2.drewN m4 = w4 at hH4 hO4 ⊢
          have ms := m_swap _ _ _ hH4.out.cell
          by_cases h4 : at_ ys J < at_ ys i
          · rw [decide_eq_true h4]
            go_wp2_with fail
            refine (hH4.out.swap (show i < N by omega) (show J < N by omega)).mono ?_
            rintro e w5 ⟨rfl, hH5, hO5⟩
            have hU5 := hide (dn_step hk.symm hU.out (by omega) (by omega) h4)
            have hC5 : Hid (∀ v, (sw ys i J).count v = xs.count v) := fun v => by
              rw [sw_count (by omega) (by omega)]
              exact hC.out v
            have hK5 : Hid (∀ k, n ≤ k → at_ (sw ys i J) k = at_ xs k) := fun k hk' => by
              rw [sw_at (by omega) (by omega), if_neg (by omega), if_neg (by omega)]
              exact hK.out k hk'
            have hO6 := hide (hO4.out.trans hO5 (fun _ _ h => h))
            have hH6 := hide hH5
            clear hH5 hO5 hH4 hO4 ms
            go_wp2_with fail
            go_roundw
            case rel => exact ⟨J, _, rfl, by omega, hH6, hU5, hC5, hK5, hO6⟩
            case measure => simp [intOf]; omega
          · rw [decide_eq_false h4]
            have hE := hide (dn_done hU.out (by rw [hk]; omega))
            go_wp2
            go_ret
            exact ⟨⟨_, rfl⟩, ys, hH4.out, hE.out, hC.out, hK.out, hO4.out⟩
      · have hk : kid ys n i = 2 * i + 1 := by unfold kid; rw [if_neg (fun e => h2 e.1)]
        go_wp2_with fail
        rw [show 2 * (i : Int) + 1 + 1 = ((2 * i + 2 : Nat) : Int) by omega, show 2 * (i : Int) + 1 = ((2 * i + 1 : Nat) : Int) by omega]
        generalize hJ : 2 * i + 1 = J at hk hkn h1 ⊢
        refine (hH.out.less (show J < N by omega) (show i < N by omega)).mono ?_
        rintro e w4 ⟨rfl, m4, rfl⟩
        have hH4 := hide (hH.out.drewN m4)
        have hO4 := hide (hO.out.drewN m4)
        clear hH hO ml
        generalize wr.drewN m4 = w4 at hH4 hO4 ⊢
        have ms := m_swap _ _ _ hH4.out.cell
        by_cases h4 : at_ ys J < at_ ys i
        · rw [decide_eq_true h4]
          go_wp2_with fail
          refine (hH4.out.swap (show i < N by omega) (show J < N by omega)).mono ?_
          rintro e w5 ⟨rfl, hH5, hO5⟩
          have hU5 := hide (dn_step hk.symm hU.out (by omega) (by omega) h4)
          have hC5 : Hid (∀ v, (sw ys i J).count v = xs.count v) := fun v => by
            rw [sw_count (by omega) (by omega)]
            exact hC.out v
          have hK5 : Hid (∀ k, n ≤ k → at_ (sw ys i J) k = at_ xs k) := fun k hk' => by
            rw [sw_at (by omega) (by omega), if_neg (by omega), if_neg (by omega)]
            exact hK.out k hk'
          have hO6 := hide (hO4.out.trans hO5 (fun _ _ h => h))
          have hH6 := hide hH5
          clear hH5 hO5 hH4 hO4 ms
          go_wp2_with fail
          go_roundw
          case rel => exact ⟨J, _, rfl, by omega, hH6, hU5, hC5, hK5, hO6⟩
          case measure => simp [intOf]; omega
        · rw [decide_eq_false h4]
          have hE := hide (dn_done hU.out (by rw [hk]; omega))
          go_wp2
          go_ret
          exact ⟨⟨_, rfl⟩, ys, hH4.out, hE.out, hC.out, hK.out, hO4.out⟩
    · have hE := hide (dn_end hU.out (by omega))
      go_wp2
      go_ret
      exact ⟨⟨_, rfl⟩, ys, hH.out, hE.out, hC.out, hK.out, hO.out⟩
end Go.Proofs.Ytnfaaaehpfddgaa
