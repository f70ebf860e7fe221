/- EpochDoes: the keeper and the reference, act for act. -/
import Derived.Test.YtajeifeigjggoaaRl
import Derived.Test.YtajeifeigjggoaaLaw4
import Derived.Deep.LoopGhost
import Derived.Deep.CutRange
import Derived.Deep.RegionWith
import Derived.BigQuiet
namespace Go.Proofs.Ytajeifeigjggoaa
open Go.RowKit Go.Maps Mem
set_option linter.unusedVariables false

/-- how all stands between two acts -/
structure DoS (w wr : World) (k now : Nat) (p : List Nat) (q : List (Int × Nat)) (its : List (Int × Nat)) (d : Nat) : Prop where
  keep : Keep wr w.heap.size (w.heap.size + 1) w.heap.size now p q
  rf : Rf wr (w.heap.size + 2) (w.heap.size + 2) now p its d
  below : Below w.heap.size w wr
  drop : its.drop d = q
  sorted : Sorted its
  hi : ∀ x ∈ its, x.2 ≤ now
  pi : ∀ y ∈ p, y ≤ now
  nk : now ≤ k + 1
  pk : p.length ≤ k
  ik : its.length ≤ k
  n1 : 1 ≤ now

section
variable {w wr w2 w3 : World} {B H g b now now' r d d' : Nat} {p p' : List Nat} {q q' its its' : List (Int × Nat)}
theorem left_low (h : Left wr B g b now' p' q' w2) (hB : H ≤ B) : Below H wr w2 := h.2.2.mono hB
theorem rleft_low (h : RLeft wr B r now' p' its' d' w2) (hB : H ≤ B) : Below H wr w2 := h.2.2.mono hB
theorem left_rf (h : Left wr B g b now' p' q' w2) (hr : Rf wr H r now p its d) : Rf w2 H r now p its d := rf_fr hr h.2.1 (fun o => KT_IT)
theorem rleft_keep (h : RLeft wr H r now' p' its' d' w2) (hk : Keep wr B g b now p q) : Keep w2 B g b now p q := keep_fr hk h.2.1 (fun o => IT_KT)
end

section
variable {w wr w2 w3 : World} {k now : Nat} {p : List Nat} {q its : List (Int × Nat)} {d : Nat}
theorem dos_pin (h : DoS w wr k now p q its d) (k3 : Keep w3 w.heap.size (w.heap.size + 1) w.heap.size now (pinS now p) q) (r3 : Rf w3 (w.heap.size + 2) (w.heap.size + 2) now (pinS now p) its d) (b3 : Below w.heap.size w w3) : DoS w w3 (k + 1) now (pinS now p) q its d := by
  refine ⟨k3, r3, b3, h.drop, h.sorted, h.hi, ?_, Nat.le_succ_of_le h.nk, Nat.le_trans (pinS_len now p) (Nat.succ_le_succ h.pk), Nat.le_succ_of_le h.ik, h.n1⟩
  intro y hy
  unfold pinS at hy
  split at hy
  · exact h.pi y hy
  · rcases List.mem_append.1 hy with hy | hy
    · exact h.pi y hy
    · rcases List.mem_cons.1 hy with rfl | hy
      · exact Nat.le_refl _
      · cases hy
theorem dos_unp (t : Int) (h : DoS w wr k now p q its d) (k3 : Keep w3 w.heap.size (w.heap.size + 1) w.heap.size now (unpS p t) q) (r3 : Rf w3 (w.heap.size + 2) (w.heap.size + 2) now (unpS p t) its d) (b3 : Below w.heap.size w w3) : DoS w w3 (k + 1) now (unpS p t) q its d :=
  ⟨k3, r3, b3, h.drop, h.sorted, h.hi, by
    intro y hy
    unfold unpS at hy
    split at hy
    · rcases List.mem_or_eq_of_mem_set hy with hy | rfl
      · exact h.pi y hy
      · exact Nat.zero_le _
    · exact h.pi y hy, Nat.le_succ_of_le h.nk, by rw [unpS_len]; exact Nat.le_succ_of_le h.pk, Nat.le_succ_of_le h.ik, h.n1⟩
theorem dos_same (h : DoS w wr k now p q its d) : DoS w wr (k + 1) now p q its d :=
  ⟨h.keep, h.rf, h.below, h.drop, h.sorted, h.hi, h.pi, by have := h.nk; omega, by have := h.pk; omega, by have := h.ik; omega, h.n1⟩
theorem dos_ret (x : Int) (h : DoS w wr k now p q its d) (k3 : Keep w3 w.heap.size (w.heap.size + 1) w.heap.size now p (q ++ [(x, now)])) (r3 : Rf w3 (w.heap.size + 2) (w.heap.size + 2) now p (its ++ [(x, now)]) d) (b3 : Below w.heap.size w w3) : DoS w w3 (k + 1) now p (q ++ [(x, now)]) (its ++ [(x, now)]) d := by
  have hd := (rf_rv h.rf).2
  refine ⟨k3, r3, b3, ?_, ?_, ?_, h.pi, by have := h.nk; omega, by have := h.pk; omega, by have := h.ik; simp; omega, h.n1⟩
  · rw [List.drop_append_of_le_length hd, h.drop]
  · intro i j u v hu hv hij
    have hv2 := (List.getElem?_eq_some_iff.1 hv).1
    rw [List.length_append] at hv2
    simp only [List.length_cons, List.length_nil] at hv2
    by_cases hj : j < its.length
    · rw [List.getElem?_append_left (by omega)] at hu hv
      exact h.sorted i j u v hu hv hij
    · have : j = its.length := by omega
      subst this
      rw [List.getElem?_append_right (Nat.le_refl _)] at hv
      simp at hv
      subst hv
      by_cases hi : i < its.length
      · rw [List.getElem?_append_left hi] at hu
        exact h.hi u (List.mem_of_getElem? hu)
      · have : i = its.length := by omega
        subst this
        rw [List.getElem?_append_right (Nat.le_refl _)] at hu
        simp at hu
        subst hu
        exact Nat.le_refl _
  · intro y hy
    rcases List.mem_append.1 hy with hy | hy
    · exact h.hi y hy
    · rcases List.mem_cons.1 hy with rfl | hy
      · exact Nat.le_refl _
      · cases hy
theorem dos_adv (h : DoS w wr k now p q its d) (k3 : Keep w3 w.heap.size (w.heap.size + 1) w.heap.size (advN now p) p (advQ now p q)) (r3 : Rf w3 (w.heap.size + 2) (w.heap.size + 2) (advN now p) p its (d + (advO now p q).length)) (b3 : Below w.heap.size w w3) : DoS w w3 (k + 1) (advN now p) p (advQ now p q) its (d + (advO now p q).length) := by
  have h1 := advN_le now p
  have h2 := advN_ge now p
  refine ⟨k3, r3, b3, ?_, h.sorted, fun x hx => Nat.le_trans (h.hi x hx) h2, fun x hx => Nat.le_trans (h.pi x hx) h2, by have := h.nk; omega, by have := h.pk; omega, by have := h.ik; omega, by have := h.n1; omega⟩
  unfold advO advQ
  rw [← List.drop_drop, h.drop]
  split
  · rfl
  · rfl
end

section
variable {w : World} {base g b now r B d : Nat} {p : List Nat} {q its : List (Int × Nat)}
theorem now_q (h : Keep w base g b now p q) (n : Nat) : Calls Try.prog 16 #[.pointer (some ⟨g, 0, none⟩)] (w.drewN n) fun e w'' => e = .returned (.int .i64 (now : Int)) ∧ ∃ m, w'' = w.drewN m := by
  have h' : Keep (w.drewN n) base g b now p q := h
  refine (now_all h').mono ?_
  rintro e w' ⟨rfl, rfl⟩
  exact ⟨rfl, n, rfl⟩
theorem waiting_q (h : Keep w base g b now p q) (n : Nat) : Calls Try.prog 15 #[.pointer (some ⟨g, 0, none⟩)] (w.drewN n) fun e w'' => e = .returned (.int .i64 (q.length : Int)) ∧ ∃ m, w'' = w.drewN m := by
  have h' : Keep (w.drewN n) base g b now p q := h
  refine (waiting_all h').mono ?_
  rintro e w' ⟨rfl, rfl⟩
  exact ⟨rfl, n, rfl⟩
theorem pinned_q (h : Keep w base g b now p q) (n : Nat) : Calls Try.prog 17 #[.pointer (some ⟨g, 0, none⟩)] (w.drewN n) fun e w'' => e = .returned (.int .i64 (cnt p : Int)) ∧ ∃ m, w'' = w.drewN m := by
  have h' : Keep (w.drewN n) base g b now p q := h
  refine (pinned_all h').mono ?_
  rintro e w' ⟨rfl, rfl⟩
  exact ⟨rfl, n, rfl⟩
theorem refpinned_q (h : Rf w B r now p its d) (hn : p.length ≤ 4294967296) (n : Nat) : Calls Try.prog 23 #[.pointer (some ⟨r, 0, none⟩)] (w.drewN n) fun e w'' => e = .returned (.int .i64 (cnt p : Int)) ∧ ∃ m, w'' = w.drewN m := by
  have h' : Rf (w.drewN n) B r now p its d := h
  refine (refpinned_any h' hn).mono ?_
  rintro e w' ⟨rfl, rfl⟩
  exact ⟨rfl, n, rfl⟩
theorem refwaiting_q (h : Rf w B r now p its d) (hn : its.length ≤ 4294967296) (hd : its.drop d = q) (n : Nat) : Calls Try.prog 24 #[.pointer (some ⟨r, 0, none⟩)] (w.drewN n) fun e w'' => e = .returned (.int .i64 (q.length : Int)) ∧ ∃ m, w'' = w.drewN m := by
  have h' : Rf (w.drewN n) B r now p its d := h
  refine (refwaiting_any h' hn).mono ?_
  rintro e w' ⟨rfl, rfl⟩
  exact ⟨by rw [← hd, List.length_drop], n, rfl⟩
theorem rf_now (h : Rf w B r now p its d) : w.cell? ⟨r, 0, none⟩ = some (.int .i64 (now : Int)) := by
  obtain ⟨P1, c1, I2, c2, N3, c3, G4, c4, hb, _⟩ := h
  rw [hb.cell]
  rfl
end
theorem dos_drew {w wr : World} {k now : Nat} {p : List Nat} {q its : List (Int × Nat)} {d : Nat} (h : DoS w wr k now p q its d) (n : Nat) : DoS w (wr.drewN n) k now p q its d :=
  ⟨h.keep, h.rf, ⟨h.below.os, h.below.tape, h.below.output, h.below.size, h.below.block⟩, h.drop, h.sorted, h.hi, h.pi, h.nk, h.pk, h.ik, h.n1⟩

set_option maxRecDepth 100000 in
set_option maxHeartbeats 4000000 in
theorem does_any (l : List (Int × Int)) (n c : Nat) (A : Option Addr) (w : World) (hr : Reads w 0 w.heap.size 2 A n (opcells l)) :
    Calls Try.prog 6 #[.slice A n c] w fun e w' => e = .returned (.bool true) ∧ Below w.heap.size w w' := by
  have hl : l.length = n := by have := hr.1; rw [opcells_len] at this; omega
  go_enter Try.func6, Try.ntmps6
  go_wp2_with fail
  refine (new_all w).mono ?_
  rintro e w1 ⟨rfl, h1, b1, s1⟩
  go_wp2_with fail
  refine (refnew_any w1 (w.heap.size + 2) (by omega)).mono ?_
  rintro e w2 ⟨rfl, h2, b2, s2⟩
  have D0 : DoS w w2 0 1 [] [] [] 0 := by
    rw [s1] at h2 b2
    refine ⟨keep_fr h1 (Fr.ofBelow (T := fun _ => False) (by rw [s1]; exact b2)) (fun _ _ => id), h2, b1.trans (b2.mono (by omega)), rfl, ?_, ?_, ?_, Nat.le_refl _, Nat.le_refl _, Nat.le_refl _, Nat.le_refl _⟩
    · intro i j x y hx; simp at hx
    · intro x hx; cases hx
    · intro x hx; cases hx
  rw [s1]
  have HD := hide D0
  clear D0 h1 h2 b1 b2 s1 s2
  go_wp2_with fail
  go_loopg [5] 400 (fun m i wr => ∃ (k : Nat), k ≤ n ∧ k + m = 400 ∧ i = .int .i64 (k : Nat) ∧ Hid (∃ now p q its d, DoS w wr k now p q its d))
  case atStart => exact ⟨0, Nat.zero_le _, rfl, rfl, 1, [], [], [], 0, HD.out⟩
  case round =>
    obtain ⟨k, hk, hm, rfl, hS⟩ := hrel
    by_cases hlt : k < n
    · by_cases h4 : k < 400
      · obtain ⟨now, p, q, its, d, hD⟩ := hS.out
        obtain ⟨b2, o2, rfl, _, hb2, _, hc2⟩ := hr.plain (by omega) (by omega)
        obtain ⟨u1, u2⟩ := opcells_at (l := l) (k := k) (by omega)
        have g0 : wr.cell? ⟨b2, o2 + k * 2, none⟩ = some (.int .i64 (l[k]'(by omega)).1) := by rw [hD.below.cell hb2, hc2 _ (by omega), u1]
        have g1 : ∀ w', Below w.heap.size w w' → w'.cell? ⟨b2, o2 + k * 2 + 1, none⟩ = some (.int .i64 (l[k]'(by omega)).2) := fun w' hb => by rw [hb.cell hb2, Nat.add_assoc, hc2 _ (by omega), u2]
        generalize l[k]'(by omega) = op at g0 g1
        obtain ⟨kd, x⟩ := op
        simp only at g0 g1
        have g1r := g1 wr hD.below
        have n1 := hD.n1
        have nk := hD.nk
        have pk := hD.pk
        have ik := hD.ik
        have hG := hide g1
        have hR := hide hr
        clear u1 u2 hc2 hS g1 hr
        by_cases k0 : kd = 0
        · subst k0
          go_wp2_with fail
          refine (pin_all hD.keep (by omega) (by omega) n1).mono ?_
          rintro e w4 ⟨rfl, hL⟩
          go_wp2_with fail
          refine (refpin_all (left_rf hL hD.rf) (by omega)).mono ?_
          rintro e w5 ⟨rfl, hL2⟩
          have D := dos_pin hD (rleft_keep hL2 hL.1) hL2.1 ((hD.below.trans (left_low hL (Nat.le_refl _))).trans (rleft_low hL2 (by omega)))
          generalize pinT p = tt
          generalize pinE p = te
          clear hL hL2 hD
          go_wp2_with fail
          have hE : ∃ now p q its d, DoS w (w5) (k + 1) now p q its d := ⟨_, _, _, _, _, D⟩
          clear D g0 g1r
          obtain ⟨now', p', q', its', d', hD⟩ := hE
          have C16 := hide (now_q hD.keep)
          have C17 := hide (pinned_q hD.keep)
          have C15 := hide (waiting_q hD.keep)
          have C23 := hide (refpinned_q hD.rf (by have := hD.pk; omega))
          have C24 := hide (refwaiting_q hD.rf (by have := hD.ik; omega) hD.drop)
          have f0 := rf_now hD.rf
          have HD2 := hide hD
          clear hD
          go_quiet ((first | (go_at_call 16; exact C16.out _) | (go_at_call 17; exact C17.out _) | (go_at_call 15; exact C15.out _) | (go_at_call 23; exact C23.out _) | (go_at_call 24; exact C24.out _)))
          go_wp2_with fail
          go_roundg (gk - 1)
          case measure => omega
          case rel => exact ⟨k + 1, by omega, by omega, by go_num, ⟨_, _, _, _, _, dos_drew HD2.out _⟩⟩
        · by_cases k1 : kd = 1
          · subst k1
            go_upto_region 14 with fail
            have hK0 : Hid (Keep wr.drew w.heap.size (w.heap.size + 1) w.heap.size now p q) := hD.keep
            have hR0 : Hid (Rf wr.drew (w.heap.size + 2) (w.heap.size + 2) now p its d) := hD.rf
            have hB0 : Hid (Below w.heap.size w wr.drew) := (dos_drew hD 1).below
            have hp0 : Hid (∀ y ∈ p, y ≤ 4294967296) := fun y hy => by have := hD.pi y hy; omega
            have HD3 := hide hD
            clear hD
            go_cut [69] from 18 to 127 (fun t wx => t = .bool false ∧ Hid (∃ now p q its d, DoS w wx (k + 1) now p q its d))
            case first =>
              go_region_with (first
                | (go_at_call 12; refine (unpin_all (now := now) (p := p) (q := q) (base := w.heap.size) (g := w.heap.size + 1) (b := w.heap.size) x ?hk ?hl).mono ?_; (case hk => first | exact rleft_keep hL20.out hK0.out | exact hK0.out); (case hl => omega); intro e w4 h12; obtain ⟨rfl, hL12'⟩ := h12; have hL12 := hide hL12'; clear hL12'; have g1x := hG.out w4 (by first | exact (hB0.out.trans (rleft_low hL20.out (by omega))).trans (left_low hL12.out (Nat.le_refl _)) | exact hB0.out.trans (left_low hL12.out (Nat.le_refl _))))
                | (go_at_call 20; refine (refunpin_all (now := now) (p := p) (its := its) (d := d) (B := w.heap.size + 2) (r := w.heap.size + 2) x ?hk ?hl hp0.out).mono ?_; (case hk => first | exact left_rf hL12.out hR0.out | exact hR0.out); (case hl => omega); intro e w5 h20; obtain ⟨rfl, hL20'⟩ := h20; have hL20 := hide hL20'; clear hL20'; have g1y := hG.out w5 (by first | exact (hB0.out.trans (left_low hL12.out (Nat.le_refl _))).trans (rleft_low hL20.out (by omega)) | exact hB0.out.trans (rleft_low hL20.out (by omega)))))
              all_goals (try go_wp2_with fail)
              all_goals go_meet
              all_goals refine ⟨by simp, ?_⟩
              all_goals first
                | exact ⟨_, _, _, _, _, dos_unp x HD3.out (rleft_keep hL20.out hL12.out.1) hL20.out.1 ((hB0.out.trans (left_low hL12.out (Nat.le_refl _))).trans (rleft_low hL20.out (by omega)))⟩
                | exact ⟨_, _, _, _, _, dos_unp x HD3.out hL12.out.1 (left_rf hL12.out hL20.out.1) ((hB0.out.trans (rleft_low hL20.out (by omega))).trans (left_low hL12.out (Nat.le_refl _)))⟩
            case rest =>
              obtain ⟨rfl, hE1⟩ := hcut
              obtain ⟨now1, p1, q1, its1, d1, D⟩ := hE1.out
              clear hE1 hK0 hR0 hB0 hp0 HD3
              go_wp2_with fail
              have hE : ∃ now p q its d, DoS w (wc) (k + 1) now p q its d := ⟨_, _, _, _, _, D⟩
              clear D g0 g1r
              obtain ⟨now', p', q', its', d', hD⟩ := hE
              have C16 := hide (now_q hD.keep)
              have C17 := hide (pinned_q hD.keep)
              have C15 := hide (waiting_q hD.keep)
              have C23 := hide (refpinned_q hD.rf (by have := hD.pk; omega))
              have C24 := hide (refwaiting_q hD.rf (by have := hD.ik; omega) hD.drop)
              have f0 := rf_now hD.rf
              have HD2 := hide hD
              clear hD
              go_quiet ((first | (go_at_call 16; exact C16.out _) | (go_at_call 17; exact C17.out _) | (go_at_call 15; exact C15.out _) | (go_at_call 23; exact C23.out _) | (go_at_call 24; exact C24.out _)))
              go_wp2_with fail
              go_roundg (gk - 1)
              case measure => omega
              case rel => exact ⟨k + 1, by omega, by omega, by go_num, ⟨_, _, _, _, _, dos_drew HD2.out _⟩⟩
          · by_cases k2 : kd = 2
            · subst k2
              go_wp2_with fail
              refine (retire_all x hD.keep (by have := congrArg List.length hD.drop; rw [List.length_drop] at this; omega)).mono ?_
              rintro e w4 ⟨rfl, hL⟩
              have g1a := hG.out w4 (hD.below.trans (left_low hL (Nat.le_refl _)))
              go_wp2_with fail
              refine (refretire_all x (left_rf hL hD.rf) (by omega)).mono ?_
              rintro e w5 ⟨rfl, hL2⟩
              have D := dos_ret x hD (rleft_keep hL2 hL.1) hL2.1 ((hD.below.trans (left_low hL (Nat.le_refl _))).trans (rleft_low hL2 (by omega)))
              clear hL hL2 hD
              go_wp2_with fail
              have hE : ∃ now p q its d, DoS w (w5) (k + 1) now p q its d := ⟨_, _, _, _, _, D⟩
              clear D g0 g1r g1a
              obtain ⟨now', p', q', its', d', hD⟩ := hE
              have C16 := hide (now_q hD.keep)
              have C17 := hide (pinned_q hD.keep)
              have C15 := hide (waiting_q hD.keep)
              have C23 := hide (refpinned_q hD.rf (by have := hD.pk; omega))
              have C24 := hide (refwaiting_q hD.rf (by have := hD.ik; omega) hD.drop)
              have f0 := rf_now hD.rf
              have HD2 := hide hD
              clear hD
              go_quiet ((first | (go_at_call 16; exact C16.out _) | (go_at_call 17; exact C17.out _) | (go_at_call 15; exact C15.out _) | (go_at_call 23; exact C23.out _) | (go_at_call 24; exact C24.out _)))
              go_wp2_with fail
              go_roundg (gk - 1)
              case measure => omega
              case rel => exact ⟨k + 1, by omega, by omega, by go_num, ⟨_, _, _, _, _, dos_drew HD2.out _⟩⟩
            · by_cases k3 : kd = 3
              · subst k3
                go_wp2_with fail
                refine (advance_all hD.keep (by omega) (by have := congrArg List.length hD.drop; rw [List.length_drop] at this; omega)).mono ?_
                rintro e w4 ⟨A4, c4, rfl, ho4, hL⟩
                have ha := refadvance_all (left_rf hL hD.rf) hD.sorted (by omega) (by omega) (by omega) (fun y hy => by have := hD.pi y hy; omega) (fun y hy => by have := hD.hi y hy; omega)
                rw [hD.drop] at ha
                go_wp2_with fail
                refine ha.mono ?_
                rintro e w5 ⟨A5, c5, rfl, ho5, hL2, hJ⟩
                have D := dos_adv hD (rleft_keep hL2 hL.1) hL2.1 ((hD.below.trans (left_low hL (Nat.le_refl _))).trans (rleft_low hL2 (by omega)))
                have ho4' := own_fr ho4 hJ JT2
                rw [outs_ints] at ho4' ho5
                obtain ⟨_, _, e4, _, r4⟩ := own_form ho4'
                cases e4
                obtain ⟨_, _, e5, _, r5⟩ := own_form ho5
                cases e5
                have hlen : (advO now p q).length ≤ 4294967296 := by
                  have h1 := advO_len now p q
                  have := congrArg List.length hD.drop
                  rw [List.length_drop] at this
                  omega
                clear ha hL hL2 hJ ho4 ho4' ho5 hD
                generalize advE now p = te
                go_wp2_with fail
                refine (same_ints ((advO now p q).map (·.1)) _ _ _ _ _ _ _ _ _ w5 r4 r5 hlen).mono ?_
                rintro e w6 ⟨rfl, m, rfl⟩
                have D := dos_drew D m
                clear r4 r5 hlen
                generalize w5.drewN m = w7 at D ⊢
                go_wp2_with fail
                have hE : ∃ now p q its d, DoS w w7 (k + 1) now p q its d := ⟨_, _, _, _, _, D⟩
                clear D g0 g1r
                obtain ⟨now', p', q', its', d', hD⟩ := hE
                have C16 := hide (now_q hD.keep)
                have C17 := hide (pinned_q hD.keep)
                have C15 := hide (waiting_q hD.keep)
                have C23 := hide (refpinned_q hD.rf (by have := hD.pk; omega))
                have C24 := hide (refwaiting_q hD.rf (by have := hD.ik; omega) hD.drop)
                have f0 := rf_now hD.rf
                have HD2 := hide hD
                clear hD
                go_quiet ((first | (go_at_call 16; exact C16.out _) | (go_at_call 17; exact C17.out _) | (go_at_call 15; exact C15.out _) | (go_at_call 23; exact C23.out _) | (go_at_call 24; exact C24.out _)))
                go_wp2_with fail
                go_roundg (gk - 1)
                case measure => omega
                case rel => exact ⟨k + 1, by omega, by omega, by go_num, ⟨_, _, _, _, _, dos_drew HD2.out _⟩⟩
              · have D := dos_same hD
                clear hD
                go_wp2_with fail
                have hE : ∃ now p q its d, DoS w (wr) (k + 1) now p q its d := ⟨_, _, _, _, _, D⟩
                clear D g0 g1r
                obtain ⟨now', p', q', its', d', hD⟩ := hE
                have C16 := hide (now_q hD.keep)
                have C17 := hide (pinned_q hD.keep)
                have C15 := hide (waiting_q hD.keep)
                have C23 := hide (refpinned_q hD.rf (by have := hD.pk; omega))
                have C24 := hide (refwaiting_q hD.rf (by have := hD.ik; omega) hD.drop)
                have f0 := rf_now hD.rf
                have HD2 := hide hD
                clear hD
                go_quiet ((first | (go_at_call 16; exact C16.out _) | (go_at_call 17; exact C17.out _) | (go_at_call 15; exact C15.out _) | (go_at_call 23; exact C23.out _) | (go_at_call 24; exact C24.out _)))
                go_wp2_with fail
                go_roundg (gk - 1)
                case measure => omega
                case rel => exact ⟨k + 1, by omega, by omega, by go_num, ⟨_, _, _, _, _, dos_drew HD2.out _⟩⟩
      · go_wp2_with fail
        refine (works_any _).mono ?_
        rintro e w' ⟨rfl, hb⟩
        obtain ⟨now, p, q, its, d, hS⟩ := hS.out
        go_wp2
        go_ret
        exact ⟨rfl, hS.below.trans (hb.mono hS.below.size)⟩
    · go_wp2_with fail
      refine (works_any _).mono ?_
      rintro e w' ⟨rfl, hb⟩
      obtain ⟨now, p, q, its, d, hS⟩ := hS.out
      go_wp2
      go_ret
      exact ⟨rfl, hS.below.trans (hb.mono hS.below.size)⟩

theorem epochDoes_walk (H : Type) (enc : TypeId × Value → H) (W : World) (base : Nat) (v0 : Value) (d0 : DataW H) (p0 : List MemPlace)
    (x0 : Value.okWide Try.prog W .any base 22 v0) (h0 : DataW.Trod enc Try.prog W 0 (fun _ => true) true 22 v0 d0 p0) :
    Calls Try.prog 6 #[v0] W fun e w' => e = .returned (.bool true) ∧ Below W.heap.size W w' := by
  obtain ⟨A, n, c, l, rfl, _, hr, _⟩ := arg_ops x0 h0
  exact does_any l n c A W hr
end Go.Proofs.Ytajeifeigjggoaa
