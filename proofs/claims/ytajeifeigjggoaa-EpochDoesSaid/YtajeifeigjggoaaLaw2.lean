/- EpochEnds, walked: whatever number comes in, the answer is true. -/
import Derived.Test.YtajeifeigjggoaaLw2
import Derived.Test.YtajeifeigjggoaaLaw1
namespace Go.Proofs.Ytajeifeigjggoaa
open Go.RowKit Go.Maps Mem Go.Deep Go.ChangeShapes Go.WideShapes
set_option linter.unusedVariables false

theorem own_cell {w : World} {base e n c : Nat} {ab ao i : Nat} {xs : List Value} (h : w.ownsRow base e 1 (.slice (some ⟨ab, ao, none⟩) n c) n xs) (hi : i < n) : w.cell? ⟨ab, ao + i, none⟩ = xs[i]? := by
  obtain ⟨_, _, e1, _, hr⟩ := own_form h
  cases e1
  obtain ⟨b, o, e2, _, _, _, hc⟩ := hr.plain (by omega) (by omega)
  cases e2
  exact hc i (by omega)
theorem own_some {w : World} {base e n c : Nat} {A : Option Addr} {xs : List Value} (h : w.ownsRow base e 1 (.slice A n c) n xs) (hn : 0 < n) : ∃ ab ao, A = some ⟨ab, ao, none⟩ := by
  obtain ⟨_, _, e1, _, hr⟩ := own_form h
  cases e1
  obtain ⟨b, o, e2, _, _, _, hc⟩ := hr.plain hn (by omega)
  exact ⟨b, o, e2⟩
theorem count64 (z : Int) : ∃ m : Nat, wrap64 (1 + wrap64 ((IntKind.u64.wrap z).tmod 64)) = (m : Int) ∧ 1 ≤ m ∧ m ≤ 64 := by
  have h0 : 0 ≤ IntKind.u64.wrap z := by
    have e : IntKind.u64.wrap z = z % 18446744073709551616 := by simp [IntKind.wrap, IntKind.bits, IntKind.signed]
    omega
  generalize IntKind.u64.wrap z = u at h0
  have h1 : u.tmod 64 = u % 64 := Int.tmod_eq_emod_of_nonneg h0
  rw [h1]
  have h2 : wrap64 (u % 64) = u % 64 := by unfold wrap64; omega
  rw [h2]
  refine ⟨(1 + u % 64).toNat, ?_, by omega, by omega⟩
  have h3 : wrap64 (1 + u % 64) = 1 + u % 64 := by unfold wrap64; omega
  rw [h3]
  omega
theorem KT2 (cs : Array Value) (fr : Nat × Nat) : ¬ KT (.cells cs 2 fr) := by
  rintro (⟨_, _, _, e, h⟩ | ⟨_, _, e⟩)
  · cases e; rcases h with h | h <;> cases h
  · cases e
theorem advQ_nil (now : Nat) (p : List Nat) : advQ now p [] = [] := by unfold advQ; split <;> simp
theorem advO_nil (now : Nat) (p : List Nat) : advO now p [] = [] := by unfold advO; split <;> rfl

set_option maxRecDepth 100000 in
set_option maxHeartbeats 4000000 in
theorem ends_any (z : Int) (w : World) : Calls Try.prog 5 #[.int .i64 z] w fun e w' => e = .returned (.bool true) ∧ Below w.heap.size w w' := by
  obtain ⟨m, hm, hm1, hm64⟩ := count64 z
  go_enter Try.func5, Try.ntmps5
  go_wp2_with fail
  rw [hm]
  clear hm
  generalize wrap64 ((IntKind.u64.wrap z).tmod 64) = z1
  generalize (IntKind.u64.wrap z).tmod 64 = z2
  generalize IntKind.u64.wrap z = z3
  refine (new_all w).mono ?_
  rintro e w1 ⟨rfl, h1, b1, s1⟩
  go_wp2_with fail
  go_loopw [5, 6] (fun ts i wr => ∃ k A c, k ≤ m ∧ ts = .slice A k c ∧ i = .int .i64 (k : Nat) ∧ Hid (wr.ownsRow (w.heap.size + 2) 2 1 (.slice A k c) k (tks k)) ∧ Hid (Keep wr w.heap.size (w.heap.size + 1) w.heap.size 1 (List.replicate k 1) []) ∧ Hid (Below w.heap.size w wr ∧ w.heap.size + 2 ≤ wr.heap.size))
    (fun _ i _ => m - (intOf i).toNat)
  case atStart => exact ⟨0, none, 0, Nat.zero_le _, rfl, rfl, World.ownsRow_nil _ _ _ _, h1, b1, by omega⟩
  case round =>
    obtain ⟨k, A, c, hk, rfl, rfl, hT, hK, hB⟩ := hrel
    by_cases hlt : k < m
    · obtain ⟨e1, e2, e3⟩ := ones_pin (k := k) (by omega)
      go_wp2_with fail
      refine (pin_all hK.out (by simp; omega) (by omega) (by omega)).mono ?_
      rintro e w2 ⟨rfl, hK2, hF2, hB2⟩
      rw [e1] at hK2
      rw [e2, e3]
      have hT2 := own_fr hT.out hF2 KT2
      have hsz : w.heap.size + 2 ≤ w2.heap.size := Nat.le_trans hB.out.2 hF2.size
      have HB := hide (hB.out.1.trans hB2)
      clear hT hK hB hF2 hB2 e1 e2 e3
      go_wp2_with (first
        | (at_builtin; refine wpList_app el33 (.tmp 36) (.tmp 38) (hT2.alloc _) (Reads.lit _ #[.int .i64 ((k : Int) + 1)] 2 1 1 rfl) (by intro u hu; rcases List.mem_cons.1 hu with rfl | hu; rfl; cases hu) (N := k + 1) (ys := tks (k + 1)) rfl (tks_succ k) (by unfold maxLen; omega) (by omega) (by simp; omega) rfl rfl rfl rfl ?_; intro A3 c3 w3 hown3 hg3 hb3)
        | go_in)
      have F3 : Fr IT w2 w3 := fr_grown ((Fr.refl IT w2).alloc (.cells #[.int .i64 ((k : Int) + 1)] 2)) (hT2.alloc _) hg3 (fun cs fr => ⟨_, _, _, rfl, .inl rfl⟩)
      have B3 : Below w.heap.size w2 w3 := ((Below.refl w.heap.size w2).alloc (by omega) _).grown hg3 (by simp; omega) (fun j hj => by have := own_lo hT2 hj; omega)
      have K3 := keep_fr hK2 F3 (fun o => IT_KT)
      go_roundw
      case rel => exact ⟨k + 1, A3, c3, by omega, rfl, by go_num, hown3, K3, HB.out.trans B3, Nat.le_trans hsz F3.size⟩
      case measure => simp [intOf]; omega
    · have hkm : k = m := by omega
      subst hkm
      clear hk hlt
      have e1 : advE 1 (List.replicate k 1) = 0 := by unfold advE; rw [ones_free]; rfl
      have e2 : advN 1 (List.replicate k 1) = 2 := by unfold advN; rw [ones_free]; rfl
      go_wp2_with fail
      refine (advance_all hK.out (by omega) (by simp)).mono ?_
      rintro e w2 ⟨A2, c2, rfl, _, hK2, hF2, hB2⟩
      rw [e2, advQ_nil, ← pq_zero] at hK2
      rw [e1, advO_nil]
      have hT2 := own_fr hT.out hF2 KT2
      have HB := hide (hB.out.1.trans hB2)
      clear hT hK hB hF2 hB2 e1 e2
      go_wp2_with fail
      go_loopw [11] (fun i wr => ∃ j, j ≤ k ∧ i = .int .i64 (j : Nat) ∧ Hid (wr.ownsRow (w.heap.size + 2) 2 1 (.slice A k c) k (tks k)) ∧ Hid (Keep wr w.heap.size (w.heap.size + 1) w.heap.size 2 (pq k j) []) ∧ Hid (Below w.heap.size w wr)) (fun i _ => k - (intOf i).toNat)
      case atStart => exact ⟨0, Nat.zero_le _, rfl, hT2, hK2, HB.out⟩
      case round =>
        obtain ⟨j, hj, rfl, hT, hK, hB⟩ := hrel
        by_cases hlt : j < k
        · have e1 : advE 2 (pq k j) = 25 := by unfold advE; rw [pq_busy hlt]; rfl
          have e2 : advN 2 (pq k j) = 2 := by unfold advN; rw [pq_busy hlt]; rfl
          obtain ⟨f1, f2⟩ := pq_unp hlt
          obtain ⟨f3, f4⟩ := pq_unp2 hlt
          go_wp2_with fail
          refine (advance_all hK.out (by omega) (by simp)).mono ?_
          rintro e w3 ⟨A3, c3, rfl, _, hK3, hF3, hB3⟩
          rw [e2, advQ_nil] at hK3
          rw [e1, advO_nil]
          have hT3 := own_fr hT.out hF3 KT2
          obtain ⟨ab, ao, rfl⟩ := own_some hT3 (by omega)
          have a3 : w3.cell? ⟨ab, ao + j, none⟩ = some (.int .i64 ((j : Int) + 1)) := by rw [own_cell hT3 hlt, tks_at hlt]
          have HB3 := hide (hB.out.trans hB3)
          clear hT hK hB hF3 hB3 e1 e2
          go_wp2_with fail
          refine (now_all hK3).mono ?_
          rintro e w4 ⟨rfl, rfl⟩
          go_wp2_with fail
          refine (unpin_all ((j : Int) + 1) hK3 (by rw [pq_len (by omega)]; omega)).mono ?_
          rintro e w5 ⟨rfl, hK5, hF5, hB5⟩
          rw [f1] at hK5
          rw [f2]
          have hT5 := own_fr hT3 hF5 KT2
          have a5 : w5.cell? ⟨ab, ao + j, none⟩ = some (.int .i64 ((j : Int) + 1)) := by rw [own_cell hT5 hlt, tks_at hlt]
          have HB5 := hide (HB3.out.trans hB5)
          clear a3 hT3 hF5 hB5 f1 f2 hK3 HB3
          go_wp2_with fail
          refine (unpin_all ((j : Int) + 1) hK5 (by rw [pq_len (by omega)]; omega)).mono ?_
          rintro e w6 ⟨rfl, hK6, hF6, hB6⟩
          rw [f3] at hK6
          rw [f4]
          have hT6 := own_fr hT5 hF6 KT2
          have HB6 := hide (HB5.out.trans hB6)
          clear a5 hT5 hF6 hB6 f3 f4 hK5 HB5
          go_wp2
          go_roundw
          case rel => exact ⟨j + 1, by omega, by go_num, hT6, hK6, HB6.out⟩
          case measure => simp [intOf]; omega
        · have hjk : j = k := by omega
          subst hjk
          clear hj hlt hT hT2 hK2
          have e1 : advE 2 (pq j j) = 0 := by unfold advE; rw [pq_free]; rfl
          have e2 : advN 2 (pq j j) = 3 := by unfold advN; rw [pq_free]; rfl
          go_wp2_with fail
          refine (advance_all hK.out (by omega) (by simp)).mono ?_
          rintro e w3 ⟨A3, c3, rfl, _, hK3, _, hB3⟩
          rw [e2, advQ_nil] at hK3
          rw [e1, advO_nil]
          go_wp2_with fail
          refine (now_all hK3).mono ?_
          rintro e w4 ⟨rfl, rfl⟩
          go_wp2_with fail
          refine (pinned_all hK3).mono ?_
          rintro e w4 ⟨rfl, rfl⟩
          rw [pq_cnt]
          go_wp2_with fail
          refine (works_any _).mono ?_
          rintro e w5 ⟨rfl, b5⟩
          go_wp2
          go_ret
          have hb := hB.out.trans hB3
          exact ⟨rfl, hb.trans (b5.mono hb.size)⟩

theorem epochEnds_walk (H : Type) (enc : TypeId × Value → H) (W : World) (base : Nat) (v0 : Value) (d0 : DataW H) (p0 : List MemPlace)
    (x0 : Value.okWide Try.prog W .any base 3 v0) (h0 : DataW.Trod enc Try.prog W 0 (fun _ => true) true 3 v0 d0 p0) :
    Calls Try.prog 5 #[v0] W fun e W' => e = .returned (.bool true) ∧ Below W.heap.size W W' := by
  obtain ⟨z, rfl, _⟩ := open_int Try.underlying3 x0 h0
  exact ends_any z W
end Go.Proofs.Ytajeifeigjggoaa
