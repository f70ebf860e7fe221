/- EpochAll, walked: whatever is retired and advanced, the answer is true; lengths of at most 2000000. -/
import Derived.Test.YtajeifeigjggoaaSam
import Derived.Test.YtajeifeigjggoaaLw3
import Derived.Test.YtajeifeigjggoaaLaw2
namespace Go.Proofs.Ytajeifeigjggoaa
open Go.RowKit Go.Maps Mem Go.Deep Go.ChangeShapes Go.WideShapes
set_option linter.unusedVariables false

def ints (l : List Int) : List Value := l.map (Value.int .i64)
theorem ints_one (l : List Int) : ∀ u ∈ ints l, u.oneCell' = true := by
  intro u hu
  obtain ⟨z, _, rfl⟩ := List.mem_map.1 hu
  rfl
theorem outs_ints (q : List (Int × Nat)) : outs q = ints (q.map (·.1)) := by unfold outs ints; rw [List.map_map]; rfl
theorem outs_one (q : List (Int × Nat)) : ∀ u ∈ outs q, u.oneCell' = true := by rw [outs_ints]; exact ints_one _

/-- how all stands between two acts -/
def AllS (w wr : World) (A : Option Addr) (c now : Nat) (o : List Int) (q : List (Int × Nat)) : Prop :=
  wr.ownsRow (w.heap.size + 2) 2 1 (.slice A o.length c) o.length (ints o) ∧ Keep wr w.heap.size (w.heap.size + 1) w.heap.size now [] q ∧ Below w.heap.size w wr ∧ w.heap.size + 2 ≤ wr.heap.size

set_option maxRecDepth 100000 in
set_option maxHeartbeats 4000000 in
theorem all_any (zs ys1 : List Int) (n c0 n1 c1 : Nat) (A0 A1 : Option Addr) (w : World) (hr : Reads w 0 w.heap.size 1 A0 n (ints zs)) (hr1 : Reads w 0 w.heap.size 1 A1 n1 (ints ys1)) (hn : n ≤ 1048576) (hn1 : n1 ≤ 1048576) :
    Calls Try.prog 4 #[.slice A0 n c0, .slice A1 n1 c1] w fun e w' => e = .returned (.bool true) ∧ Below w.heap.size w w' := by
  have hl : zs.length = n := by have := hr.1; simp only [ints, List.length_map] at this; omega
  have hl1 : ys1.length = n1 := by have := hr1.1; simp only [ints, List.length_map] at this; omega
  go_enter Try.func4, Try.ntmps4
  go_wp2_with fail
  refine (new_all w).mono ?_
  rintro e w1 ⟨rfl, h1, b1, s1⟩
  go_wp2_with fail
  go_loopw [6, 7] (fun ts i wr => ∃ k A c now o q, k ≤ n ∧ ts = .slice A (List.length o) c ∧ i = .int .i64 (k : Nat) ∧ now ≤ k + 1 ∧ Hid (AllS w wr A c now o q) ∧ Hid (Flow now o q (zs.take k))) (fun _ i _ => n - (intOf i).toNat)
  case atStart => exact ⟨0, none, 0, 1, [], [], Nat.zero_le _, rfl, rfl, by omega, ⟨World.ownsRow_nil _ _ _ _, h1, b1, by omega⟩, rfl, by intro y hy; cases hy⟩
  case round =>
    obtain ⟨k, A, c, now, o, q, hk, rfl, rfl, hnow, hA, hF⟩ := hrel
    have hsum : o.length + q.length = k := by
      have := congrArg List.length hF.out.all
      simp only [List.length_append, List.length_map, List.length_take] at this
      omega
    by_cases hlt : k < n
    · obtain ⟨hT, hK, hB, hsz⟩ := hA.out
      obtain ⟨b2, o2, rfl, _, hb2, _, hc2⟩ := hr.plain (by omega) (by omega)
      have hz : (ints zs)[k]? = some (.int .i64 (zs[k]'(by omega))) := by unfold ints; rw [List.getElem?_map, List.getElem?_eq_getElem (by omega)]; rfl
      have f0 : wr.cell? ⟨b2, o2 + k, none⟩ = some (.int .i64 (zs[k]'(by omega))) := by rw [hB.cell hb2, hc2 k (by omega), hz]
      have htk : zs.take (k + 1) = zs.take k ++ [zs[k]'(by omega)] := by rw [List.take_add_one, List.getElem?_eq_getElem (by omega)]; rfl
      generalize zs[k]'(by omega) = z at f0 htk
      have HF := hide (flow_retire hF.out z)
      rw [← htk] at HF
      clear hz hc2 hr htk hF hA
      go_wp2_with fail
      refine (retire_all z hK (by omega)).mono ?_
      rintro e w2 ⟨rfl, hK2, hF2, hB2⟩
      have hT2 := own_fr hT hF2 KT2
      have hB3 := hB.trans hB2
      have hsz2 := Nat.le_trans hsz hF2.size
      have HAll := hide (show AllS w w2 A c now o (q ++ [(z, now)]) from ⟨hT2, hK2, hB3, hsz2⟩)
      by_cases hlt1 : k < n1
      · obtain ⟨b4, o4, rfl, _, hb4, _, hc4⟩ := hr1.plain (by omega) (by omega)
        have hz4 : (ints ys1)[k]? = some (.int .i64 (ys1[k]'(by omega))) := by unfold ints; rw [List.getElem?_map, List.getElem?_eq_getElem (by omega)]; rfl
        have f4 : w2.cell? ⟨b4, o4 + k, none⟩ = some (.int .i64 (ys1[k]'(by omega))) := by rw [hB3.cell hb4, hc4 k (by omega), hz4]
        generalize ys1[k]'(by omega) = a at f4
        clear hz4 hc4 hr1 f0 hT hK hB hsz hK2 hF2 hB2 hT2
        by_cases ha : a.tmod 3 = 0
        · have hq1 : (q ++ [(z, now)]).length ≤ 2000000 := by rw [List.length_append]; simp only [List.length_cons, List.length_nil]; omega
          go_wp2_with fail
          refine (advance_all HAll.out.2.1 (by omega) hq1).mono ?_
          rintro e w3 ⟨A3, c3, rfl, hA3, hK3, hF3, hB4⟩
          have hT3 := own_fr HAll.out.1 hF3 KT2
          have HF2 := hide (flow_advance HF.out)
          have hol := advO_len now [] (q ++ [(z, now)])
          obtain ⟨_, _, e3, _, hR3⟩ := own_form hA3
          cases e3
          have hys : ints o ++ outs (advO now [] (q ++ [(z, now)])) = ints (o ++ (advO now [] (q ++ [(z, now)])).map (·.1)) := by rw [outs_ints]; simp [ints]
          rw [advE_nil]
          rw [advN_nil] at hK3
          generalize advO now [] (q ++ [(z, now)]) = O at hA3 HF2 hol hR3 hys
          generalize advQ now [] (q ++ [(z, now)]) = Q at HF2 hK3
          have hsz3 := Nat.le_trans hsz2 hF3.size
          have HB := hide (hB3.trans hB4)
          clear HF HAll hB3 hF3 hB4 hA3 hsz2
          go_wp2_with (first
            | (at_builtin; refine wpList_app el33 (.tmp 47) (.tmp 48) hT3 hR3 (outs_one O) (N := o.length + O.length) rfl hys (by unfold maxLen; omega) (by omega) (by omega) rfl rfl rfl rfl ?_; intro A5 c5 w5 hown5 hg5 hb5)
            | go_in)
          have F5 : Fr IT w3 w5 := fr_grown (Fr.refl IT w3) hT3 hg5 (fun cs fr => ⟨_, _, _, rfl, .inl rfl⟩)
          have B5 : Below w.heap.size w3 w5 := (Below.refl w.heap.size w3).grown hg5 (by omega) (fun j hj => by have := own_lo hT3 hj; omega)
          have K5 := keep_fr hK3 F5 (fun o => IT_KT)
          have hlen : o.length + O.length = (o ++ O.map (·.1)).length := by simp
          rw [hlen] at hown5 ⊢
          go_roundw
          case rel => exact ⟨k + 1, A5, c5, now + 1, o ++ O.map (·.1), Q, by omega, rfl, by go_num, by omega, ⟨hown5, K5, HB.out.trans B5, Nat.le_trans hsz3 F5.size⟩, HF2.out⟩
          case measure => simp [intOf]; omega
        · go_wp2
          go_roundw
          case rel => exact ⟨k + 1, A, c, now, o, q ++ [(z, now)], by omega, rfl, by go_num, by omega, HAll.out, HF.out⟩
          case measure => simp [intOf]; omega
      · clear f0 hT hK hB hsz hK2 hF2 hB2 hT2 hr1
        go_wp2
        go_roundw
        case rel => exact ⟨k + 1, A, c, now, o, q ++ [(z, now)], by omega, rfl, by go_num, by omega, HAll.out, HF.out⟩
        case measure => simp [intOf]; omega
    · have hkn : zs.take k = zs := List.take_of_length_le (by omega)
      rw [hkn] at hF
      go_wp2_with fail
      go_loopw [6, 10] (fun ts i wr => ∃ j A c now o q, j ≤ 2 ∧ ts = .slice A (List.length o) c ∧ i = .int .i64 (j : Nat) ∧ now ≤ n + 1 + j ∧ Hid (AllS w wr A c now o q) ∧ Hid (Flow now o q zs) ∧ Hid ((j = 1 → advQ now [] q = []) ∧ (j = 2 → q = []))) (fun _ i _ => 2 - (intOf i).toNat)
      case atStart => exact ⟨0, A, c, now, o, q, by omega, rfl, rfl, by omega, hA, hF, hide ⟨fun h => absurd h (by decide), fun h => absurd h (by decide)⟩⟩
      case round =>
        clear hA hF hsum hkn hnow
        obtain ⟨j, A, c, now, o, q, hj, rfl, rfl, hnow, hA, hF, hE⟩ := hrel
        have hsum : o.length + q.length = n := by
          have := congrArg List.length hF.out.all
          simp only [List.length_append, List.length_map] at this
          omega
        by_cases hlt : j < 2
        · go_wp2_with fail
          refine (advance_all hA.out.2.1 (by omega) (by omega)).mono ?_
          rintro e w3 ⟨A3, c3, rfl, hA3, hK3, hF3, hB4⟩
          have hT3 := own_fr hA.out.1 hF3 KT2
          have HF2 := hide (flow_advance hF.out)
          have hol := advO_len now [] q
          obtain ⟨_, _, e3, _, hR3⟩ := own_form hA3
          cases e3
          have hys : ints o ++ outs (advO now [] q) = ints (o ++ (advO now [] q).map (·.1)) := by rw [outs_ints]; simp [ints]
          rw [advE_nil]
          rw [advN_nil] at hK3
          have HL : Hid ((j + 1 = 1 → advQ (now + 1) [] (advQ now [] q) = []) ∧ (j + 1 = 2 → advQ now [] q = [])) := hide ⟨fun _ => flow_last hF.out, fun h => hE.out.1 (by omega)⟩
          generalize advO now [] q = O at hA3 HF2 hol hR3 hys
          generalize advQ now [] q = Q at HF2 hK3 HL
          have hsz3 := Nat.le_trans hA.out.2.2.2 hF3.size
          have HB := hide (hA.out.2.2.1.trans hB4)
          clear hF hA hF3 hB4 hA3 hE
          go_wp2_with (first
            | (at_builtin; refine wpList_app el33 (.tmp 61) (.tmp 62) hT3 hR3 (outs_one O) (N := o.length + O.length) rfl hys (by unfold maxLen; omega) (by omega) (by omega) rfl rfl rfl rfl ?_; intro A5 c5 w5 hown5 hg5 hb5)
            | go_in)
          have F5 : Fr IT w3 w5 := fr_grown (Fr.refl IT w3) hT3 hg5 (fun cs fr => ⟨_, _, _, rfl, .inl rfl⟩)
          have B5 : Below w.heap.size w3 w5 := (Below.refl w.heap.size w3).grown hg5 (by omega) (fun j hj => by have := own_lo hT3 hj; omega)
          have K5 := keep_fr hK3 F5 (fun o => IT_KT)
          have hlen : o.length + O.length = (o ++ O.map (·.1)).length := by simp
          rw [hlen] at hown5 ⊢
          go_roundw
          case rel => exact ⟨j + 1, A5, c5, now + 1, o ++ O.map (·.1), Q, by omega, rfl, by go_num, by omega, ⟨hown5, K5, HB.out.trans B5, Nat.le_trans hsz3 F5.size⟩, HF2.out, HL.out⟩
          case measure => simp [intOf]; omega
        · have hj2 : j = 2 := by omega
          subst hj2
          have hq : q = [] := hE.out.2 rfl
          subst hq
          have ho : o = zs := by have := hF.out.all; simpa using this
          subst ho
          obtain ⟨hT, hK, hB, hsz⟩ := hA.out
          obtain ⟨_, _, e3, _, hR3⟩ := own_form hT
          cases e3
          subst hl
          have hRl := hr.below hB (Nat.le_refl _)
          go_wp2_with fail
          refine (same_ints o _ _ _ _ o.length c c0 _ _ _ hR3 hRl (by omega)).mono ?_
          rintro e w4 ⟨rfl, m4, rfl⟩
          have hK4 := keep_fr hK ((Fr.refl IT _).drewN m4) (fun o => IT_KT)
          go_wp2_with fail
          refine (waiting_all hK4).mono ?_
          rintro e w5 ⟨rfl, rfl⟩
          go_wp2_with fail
          refine (works_any _).mono ?_
          rintro e w6 ⟨rfl, b6⟩
          go_wp2
          go_ret
          exact ⟨rfl, hB.trans ((show Below _ _ w6 from ⟨b6.os, b6.tape, b6.output, b6.size, b6.block⟩ : Below _ wr w6).mono hB.size)⟩
end Go.Proofs.Ytajeifeigjggoaa
