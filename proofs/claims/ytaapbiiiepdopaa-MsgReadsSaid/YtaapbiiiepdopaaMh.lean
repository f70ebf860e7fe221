/- wattleref08.May, wattleref08.Check. -/
import Derived.Test.YtaapbiiiepdopaaMg
import Derived.Test.YtaapbiiiepdopaaRm
namespace Go.Proofs.Ytaapbiiiepdopaa
open Go.RowKit Mem
set_option linter.unusedVariables false
set_option linter.unusedSimpArgs false

theorem okM_not {m : M} (h : eqM (ownM m) m = false) : okM m = false := by
  cases ho : okM m with
  | false => rfl
  | true => rw [eqM_iff.2 (okM_own ho)] at h; cases h
theorem kind_all (k : Int) : k = 1 ∨ k = 3 ∨ k = 4 ∨ k = 18 ∨ k = 16 ∨ k = 17 ∨ k = 2 ∨ k = 5 ∨ k = 6 ∨ k = 7 ∨ k = 8 ∨ k = 19 ∨ (¬ k = 1 ∧ ¬ k = 3 ∧ ¬ k = 4 ∧ ¬ k = 18 ∧ ¬ k = 16 ∧ ¬ k = 17 ∧ ¬ k = 2 ∧ ¬ k = 5 ∧ ¬ k = 6 ∧ ¬ k = 7 ∧ ¬ k = 8 ∧ ¬ k = 19) := by omega
theorem okM_unknown {m : M} (h : knownK m.k = false) : okM m = false := by
  cases ho : okM m with
  | false => rfl
  | true => rw [okM_known ho] at h; cases h
theorem IsM.range {w : World} {S : Nat → Prop} {m : M} {cs : Array Value} (h : IsM w S m cs) : -9223372036854775808 ≤ m.k ∧ m.k ≤ 9223372036854775807 ∧ -9223372036854775808 ≤ m.n ∧ m.n ≤ 9223372036854775807 ∧ m.s.size ≤ 9223372036854775807 ∧ m.t.size ≤ 9223372036854775807 := by
  obtain ⟨k, b, n, s, AL, nL, cL, AK, nK, cK, e, h1, h2⟩ := h
  exact h2
theorem IsM.tenV {w : World} {S : Nat → Prop} {m : M} {cs : Array Value} (h : IsM w S m cs) : ∃ (k : Int) (b : Bool) (n : Int) (s : ByteArray) (l : List V) (ks : List ByteArray) (AL : Option Addr) (cL : Nat) (AK : Option Addr) (cK : Nat), m.v = .mk k b n s l ks ∧
    cs = #[.int .i64 m.k, .string m.s, .string m.t, .int .i64 m.n, .int .i64 k, .bool b, .int .i64 n, .string s, .slice AL l.length cL, .slice AK ks.length cK] ∧
    IsV w S m.v #[.int .i64 k, .bool b, .int .i64 n, .string s, .slice AL l.length cL, .slice AK ks.length cK] := by
  obtain ⟨mk, ms, mt, mn, mv⟩ := m
  obtain ⟨k0, b0, n0, s0, AL0, nL0, cL0, AK0, nK0, cK0, rfl, hV, _⟩ := h
  obtain ⟨k, b, n, s, l, ks⟩ := mv
  have hV' := hV
  rw [IsV] at hV'
  obtain ⟨AL, cL, AK, cK, xs, hcs, _⟩ := hV'
  cases hcs
  exact ⟨_, _, _, _, _, _, _, _, _, _, rfl, rfl, hV⟩
set_option maxHeartbeats 8000000 in
set_option maxRecDepth 100000 in
theorem rmayM_any {m : M} {w : World} {S : Nat → Prop} {cs : Array Value} (hM : IsM w S m cs) :
    Calls Try.prog 44 #[.agg cs] w fun e w' => e = .returned (.bool (okM m)) ∧ Below w.heap.size w w' := by
  have hM0 := hM
  have hrange := hM.range
  obtain ⟨k, b, n, s, l, ks, AL, cL, AK, cK, hmv, rfl, hV⟩ := hM.tenV
  obtain ⟨mk, ms, mt, mn, mv⟩ := m
  dsimp only at hmv
  subst hmv
  have hms : ms.size ≤ 9223372036854775807 := hrange.2.2.2.2.1
  have hmt : mt.size ≤ 9223372036854775807 := hrange.2.2.2.2.2
  dsimp only at hV hM0
  clear hrange hM
  dsimp only
  have X0 := Blk.new w 41 #[.int .i64 mk, .string ms, .string mt, .int .i64 mn, .int .i64 k, .bool b, .int .i64 n, .string s, .slice AL l.length cL, .slice AK ks.length cK]
  have B0 := (Below.refl w.heap.size w).alloc (Nat.le_refl _) (.cells #[.int .i64 mk, .string ms, .string mt, .int .i64 mn, .int .i64 k, .bool b, .int .i64 n, .string s, .slice AL l.length cL, .slice AK ks.length cK] 41)
  have M0 := hM0.alloc (.cells #[.int .i64 mk, .string ms, .string mt, .int .i64 mn, .int .i64 k, .bool b, .int .i64 n, .string s, .slice AL l.length cL, .slice AK ks.length cK] 41)
  have V0 := hV.alloc (.cells #[.int .i64 mk, .string ms, .string mt, .int .i64 mn, .int .i64 k, .bool b, .int .i64 n, .string s, .slice AL l.length cL, .slice AK ks.length cK] 41)
  have HX := hide X0
  have HB := hide B0
  have HM := hide M0
  have HV := hide V0
  clear X0 B0 M0 V0 hM0 hV
  generalize hz : okM ⟨mk, ms, mt, mn, .mk k b n s l ks⟩ = z
  have HZ := hide hz
  clear hz
  rcases kind_all mk with rfl | rfl | rfl | rfl | rfl | rfl | rfl | rfl | rfl | rfl | rfl | rfl | h0
  · have HO := hide (fun W' (h : Below (w.alloc (.cells #[.int .i64 1, .string ms, .string mt, .int .i64 mn, .int .i64 k, .bool b, .int .i64 n, .string s, .slice AL l.length cL, .slice AK ks.length cK] 41)).heap.size (w.alloc (.cells #[.int .i64 1, .string ms, .string mt, .int .i64 mn, .int .i64 k, .bool b, .int .i64 n, .string s, .slice AL l.length cL, .slice AK ks.length cK] 41)) W') => own_any (HM.out.grow h))
    generalize hW : w.alloc (.cells #[.int .i64 1, .string ms, .string mt, .int .i64 mn, .int .i64 k, .bool b, .int .i64 n, .string s, .slice AL l.length cL, .slice AK ks.length cK] 41) = W at HX HB HM HV HO
    have p0 := hide (show ∀ W', Below W.heap.size W W' → W'.cell? ⟨w.heap.size, 0, none⟩ = some (.int .i64 1) from fun W' h => blkR (HX.out.below h HX.out.lt) rfl)
    have p1 := hide (show ∀ W', Below W.heap.size W W' → W'.cell? ⟨w.heap.size, 1, none⟩ = some (.string ms) from fun W' h => blkR (HX.out.below h HX.out.lt) rfl)
    have p2 := hide (show ∀ W', Below W.heap.size W W' → W'.cell? ⟨w.heap.size, 2, none⟩ = some (.string mt) from fun W' h => blkR (HX.out.below h HX.out.lt) rfl)
    have p3 := hide (show ∀ W', Below W.heap.size W W' → W'.cell? ⟨w.heap.size, 3, none⟩ = some (.int .i64 mn) from fun W' h => blkR (HX.out.below h HX.out.lt) rfl)
    have p4 := hide (show ∀ W', Below W.heap.size W W' → W'.cell? ⟨w.heap.size, 4, none⟩ = some (.int .i64 k) from fun W' h => blkR (HX.out.below h HX.out.lt) rfl)
    have p5 := hide (show ∀ W', Below W.heap.size W W' → W'.cell? ⟨w.heap.size, 5, none⟩ = some (.bool b) from fun W' h => blkR (HX.out.below h HX.out.lt) rfl)
    have p6 := hide (show ∀ W', Below W.heap.size W W' → W'.cell? ⟨w.heap.size, 6, none⟩ = some (.int .i64 n) from fun W' h => blkR (HX.out.below h HX.out.lt) rfl)
    have p7 := hide (show ∀ W', Below W.heap.size W W' → W'.cell? ⟨w.heap.size, 7, none⟩ = some (.string s) from fun W' h => blkR (HX.out.below h HX.out.lt) rfl)
    have p8 := hide (show ∀ W', Below W.heap.size W W' → W'.cell? ⟨w.heap.size, 8, none⟩ = some (.slice AL l.length cL) from fun W' h => blkR (HX.out.below h HX.out.lt) rfl)
    have p9 := hide (show ∀ W', Below W.heap.size W W' → W'.cell? ⟨w.heap.size, 9, none⟩ = some (.slice AK ks.length cK) from fun W' h => blkR (HX.out.below h HX.out.lt) rfl)
    cases hq : eqM (ownM ⟨1, ms, mt, mn, .mk k b n s l ks⟩) ⟨1, ms, mt, mn, .mk k b n s l ks⟩ with
    | false =>
      have HS := hide (show ∀ W', Below W.heap.size W W' → ∀ ds, IsM W' S (ownM ⟨1, ms, mt, mn, .mk k b n s l ks⟩) ds → Calls Try.prog 23 #[.agg ds, .agg #[.int .i64 1, .string ms, .string mt, .int .i64 mn, .int .i64 k, .bool b, .int .i64 n, .string s, .slice AL l.length cL, .slice AK ks.length cK]] W' (fun e w' => e = .returned (.bool false) ∧ Below W'.heap.size W' w') from fun W' h ds hd => by have := msame_any hd (HM.out.grow h); rw [hq] at this; exact this)
      have HQ := hide hq
      clear hq
      go_enter Try.func44, Try.ntmps44
      go_wp2_with fail
      clear hW
      have q0 : ∀ W', Below W.heap.size W W' → W'.cell? ⟨w.heap.size, 0, none⟩ = some (.int .i64 1) := p0.out
      have q1 : ∀ W', Below W.heap.size W W' → W'.cell? ⟨w.heap.size, 1, none⟩ = some (.string ms) := p1.out
      have q2 : ∀ W', Below W.heap.size W W' → W'.cell? ⟨w.heap.size, 2, none⟩ = some (.string mt) := p2.out
      have q3 : ∀ W', Below W.heap.size W W' → W'.cell? ⟨w.heap.size, 3, none⟩ = some (.int .i64 mn) := p3.out
      have q4 : ∀ W', Below W.heap.size W W' → W'.cell? ⟨w.heap.size, 4, none⟩ = some (.int .i64 k) := p4.out
      have q5 : ∀ W', Below W.heap.size W W' → W'.cell? ⟨w.heap.size, 5, none⟩ = some (.bool b) := p5.out
      have q6 : ∀ W', Below W.heap.size W W' → W'.cell? ⟨w.heap.size, 6, none⟩ = some (.int .i64 n) := p6.out
      have q7 : ∀ W', Below W.heap.size W W' → W'.cell? ⟨w.heap.size, 7, none⟩ = some (.string s) := p7.out
      have q8 : ∀ W', Below W.heap.size W W' → W'.cell? ⟨w.heap.size, 8, none⟩ = some (.slice AL l.length cL) := p8.out
      have q9 : ∀ W', Below W.heap.size W W' → W'.cell? ⟨w.heap.size, 9, none⟩ = some (.slice AK ks.length cK) := p9.out
      go_region_held3 (fun W' => Below W.heap.size W W') (first | exact (Below.refl _ W).drew | (have hx := ‹Below W.heap.size W _›; exact hx.trans (hb5.mono hx.size)) | (have hx := ‹Below W.heap.size W _›; exact hx.trans (hb6.mono hx.size))) (first | (go_at_call 65; refine (HO.out _ (by assumption)).mono ?_; rintro e w5 ⟨ds, rfl, hM5, hb5⟩; obtain ⟨mk5, ms5, mt5, mn5, k5, bb5, n5, s5, AL5, nL5, cL5, AK5, nK5, cK5, rfl⟩ := hM5.ten) | (go_at_call 23; refine (HS.out _ (by assumption) _ (by assumption)).mono ?_; rintro e w6 ⟨rfl, hb6⟩))
      all_goals (
        have hx := ‹Below W.heap.size W _›
        have hB9 := HB.out.trans (hx.mono HB.out.size)
        have HB9 := hide hB9
        have hz : z = false := by rw [← HZ.out]; exact okM_not HQ.out
        have HZ2 := hide hz
        clear hz hB9 q0 q1 q2 q3 q4 q5 q6 q7 q8 q9
        go_wp2
        go_ret
        exact ⟨by rw [HZ2.out]; rfl, HB9.out⟩)
    | true =>
      have HS := hide (show ∀ W', Below W.heap.size W W' → ∀ ds, IsM W' S (ownM ⟨1, ms, mt, mn, .mk k b n s l ks⟩) ds → Calls Try.prog 23 #[.agg ds, .agg #[.int .i64 1, .string ms, .string mt, .int .i64 mn, .int .i64 k, .bool b, .int .i64 n, .string s, .slice AL l.length cL, .slice AK ks.length cK]] W' (fun e w' => e = .returned (.bool true) ∧ Below W'.heap.size W' w') from fun W' h ds hd => by have := msame_any hd (HM.out.grow h); rw [hq] at this; exact this)
      have HQ := hide hq
      clear hq
      go_enter Try.func44, Try.ntmps44
      go_wp2_with fail
      clear hW
      have q0 : ∀ W', Below W.heap.size W W' → W'.cell? ⟨w.heap.size, 0, none⟩ = some (.int .i64 1) := p0.out
      have q1 : ∀ W', Below W.heap.size W W' → W'.cell? ⟨w.heap.size, 1, none⟩ = some (.string ms) := p1.out
      have q2 : ∀ W', Below W.heap.size W W' → W'.cell? ⟨w.heap.size, 2, none⟩ = some (.string mt) := p2.out
      have q3 : ∀ W', Below W.heap.size W W' → W'.cell? ⟨w.heap.size, 3, none⟩ = some (.int .i64 mn) := p3.out
      have q4 : ∀ W', Below W.heap.size W W' → W'.cell? ⟨w.heap.size, 4, none⟩ = some (.int .i64 k) := p4.out
      have q5 : ∀ W', Below W.heap.size W W' → W'.cell? ⟨w.heap.size, 5, none⟩ = some (.bool b) := p5.out
      have q6 : ∀ W', Below W.heap.size W W' → W'.cell? ⟨w.heap.size, 6, none⟩ = some (.int .i64 n) := p6.out
      have q7 : ∀ W', Below W.heap.size W W' → W'.cell? ⟨w.heap.size, 7, none⟩ = some (.string s) := p7.out
      have q8 : ∀ W', Below W.heap.size W W' → W'.cell? ⟨w.heap.size, 8, none⟩ = some (.slice AL l.length cL) := p8.out
      have q9 : ∀ W', Below W.heap.size W W' → W'.cell? ⟨w.heap.size, 9, none⟩ = some (.slice AK ks.length cK) := p9.out
      go_region_held3 (fun W' => Below W.heap.size W W') (first | exact (Below.refl _ W).drew | (have hx := ‹Below W.heap.size W _›; exact hx.trans (hb5.mono hx.size)) | (have hx := ‹Below W.heap.size W _›; exact hx.trans (hb6.mono hx.size))) (first | (go_at_call 65; refine (HO.out _ (by assumption)).mono ?_; rintro e w5 ⟨ds, rfl, hM5, hb5⟩; obtain ⟨mk5, ms5, mt5, mn5, k5, bb5, n5, s5, AL5, nL5, cL5, AK5, nK5, cK5, rfl⟩ := hM5.ten) | (go_at_call 23; refine (HS.out _ (by assumption) _ (by assumption)).mono ?_; rintro e w6 ⟨rfl, hb6⟩))
      all_goals (
        have hx := ‹Below W.heap.size W _›
        have HX9 := hide hx
        have HB9 := hide (HB.out.trans (hx.mono HB.out.size))
        clear q0 q1 q2 q3 q4 q5 q6 q7 q8 q9
        have x0 := p0.out _ hx
        have x1 := p1.out _ hx
        have x2 := p2.out _ hx
        have x3 := p3.out _ hx
        have x4 := p4.out _ hx
        have x5 := p5.out _ hx
        have x6 := p6.out _ hx
        have x7 := p7.out _ hx
        have x8 := p8.out _ hx
        have x9 := p9.out _ hx
        have HV9 := hide (HV.out.grow hx)
        have HC := hide (rMay_any HV9.out)
        have hbr := own_bare ⟨1, ms, mt, mn, .mk k b n s l ks⟩
        rw [HQ.out] at hbr
        have HBR := hide (show bareM ⟨1, ms, mt, mn, .mk k b n s l ks⟩ true false false false = true from by simpa [usM] using hbr.symm)
        clear hbr
        cases hm : mayB (.mk k b n s l ks) with
        | false =>
          rw [hm] at HC
          have Hm := hide hm
          clear hm
          go_wp2_with fail
          refine HC.out.mono ?_
          rintro e w7 ⟨rfl, hb7⟩
          clear HC x0 x1 x2 x3 x4 x5 x6 x7 x8 x9
          have HB7 := hide (HB9.out.trans (hb7.mono HB9.out.size))
          have hx7 := HX9.out.trans (hb7.mono HX9.out.size)
          have x0 := p0.out _ hx7
          have x1 := p1.out _ hx7
          have x2 := p2.out _ hx7
          have x3 := p3.out _ hx7
          have x4 := p4.out _ hx7
          have x5 := p5.out _ hx7
          have x6 := p6.out _ hx7
          have x7 := p7.out _ hx7
          have x8 := p8.out _ hx7
          have x9 := p9.out _ hx7
          clear hb7 hx7
          by_cases c1 : 1 ≤ ms.size
          · have tc1 : decide (1 ≤ (ms.size : Int)) = true := by simp; omega
            have gc1 : 1 ≤ (ms.size : Int) := by omega
            have Hc1 := hide c1
            by_cases c2 : ms.size ≤ 64
            · have tc2 : decide ((ms.size : Int) ≤ 64) = true := by simp; omega
              have gc2 : (ms.size : Int) ≤ 64 := by omega
              have Hc2 := hide c2
              have hz : z = true := by rw [← HZ.out]; simp [okM, plainB, V.k, HBR.out, Hm.out, Hc1.out, Hc2.out]
              have HZ2 := hide hz
              clear hz
              go_wp2
              go_ret
              exact ⟨by rw [HZ2.out]; rfl, HB7.out⟩
            · have tc2 : decide ((ms.size : Int) ≤ 64) = false := by simp; omega
              have gc2 : ¬ ((ms.size : Int) ≤ 64) := by omega
              have Hc2 := hide c2
              have hz : z = false := by rw [← HZ.out]; simp [okM, plainB, V.k, HBR.out, Hm.out, Hc1.out, Hc2.out]
              have HZ2 := hide hz
              clear hz
              go_wp2
              go_ret
              exact ⟨by rw [HZ2.out]; rfl, HB7.out⟩
          · have tc1 : decide (1 ≤ (ms.size : Int)) = false := by simp; omega
            have gc1 : ¬ (1 ≤ (ms.size : Int)) := by omega
            have Hc1 := hide c1
            have hz : z = false := by rw [← HZ.out]; simp [okM, plainB, V.k, HBR.out, Hm.out, Hc1.out]
            have HZ2 := hide hz
            clear hz
            go_wp2
            go_ret
            exact ⟨by rw [HZ2.out]; rfl, HB7.out⟩
        | true =>
          rw [hm] at HC
          have Hm := hide hm
          clear hm
          go_wp2_with fail
          refine HC.out.mono ?_
          rintro e w7 ⟨rfl, hb7⟩
          clear HC x0 x1 x2 x3 x4 x5 x6 x7 x8 x9
          have HB7 := hide (HB9.out.trans (hb7.mono HB9.out.size))
          have hx7 := HX9.out.trans (hb7.mono HX9.out.size)
          have x0 := p0.out _ hx7
          have x1 := p1.out _ hx7
          have x2 := p2.out _ hx7
          have x3 := p3.out _ hx7
          have x4 := p4.out _ hx7
          have x5 := p5.out _ hx7
          have x6 := p6.out _ hx7
          have x7 := p7.out _ hx7
          have x8 := p8.out _ hx7
          have x9 := p9.out _ hx7
          have HP := hide (rplain_any _ (HV9.out.grow hb7))
          rw [mayB_pl Hm.out] at HP
          have HX7 := hide hx7
          clear hb7 hx7
          cases hp : plV (.mk k b n s l ks) with
          | false =>
            rw [hp] at HP
            have Hp := hide hp
            clear hp
            go_wp2_with fail
            refine HP.out.mono ?_
            rintro e w8 ⟨rfl, hb8⟩
            clear HP x0 x1 x2 x3 x4 x5 x6 x7 x8 x9
            have HB8 := hide (HB7.out.trans (hb8.mono HB7.out.size))
            have hx8 := HX7.out.trans (hb8.mono HX7.out.size)
            have x0 := p0.out _ hx8
            have x1 := p1.out _ hx8
            have x2 := p2.out _ hx8
            have x3 := p3.out _ hx8
            have x4 := p4.out _ hx8
            have x5 := p5.out _ hx8
            have x6 := p6.out _ hx8
            have x7 := p7.out _ hx8
            have x8 := p8.out _ hx8
            have x9 := p9.out _ hx8
            clear hb8 hx8
            by_cases c1 : 1 ≤ ms.size
            · have tc1 : decide (1 ≤ (ms.size : Int)) = true := by simp; omega
              have gc1 : 1 ≤ (ms.size : Int) := by omega
              have Hc1 := hide c1
              by_cases c2 : ms.size ≤ 64
              · have tc2 : decide ((ms.size : Int) ≤ 64) = true := by simp; omega
                have gc2 : (ms.size : Int) ≤ 64 := by omega
                have Hc2 := hide c2
                have hz : z = true := by rw [← HZ.out]; simp [okM, plainB, V.k, HBR.out, Hm.out, Hp.out, Hc1.out, Hc2.out]
                have HZ2 := hide hz
                clear hz
                go_wp2
                go_ret
                exact ⟨by rw [HZ2.out]; rfl, HB8.out⟩
              · have tc2 : decide ((ms.size : Int) ≤ 64) = false := by simp; omega
                have gc2 : ¬ ((ms.size : Int) ≤ 64) := by omega
                have Hc2 := hide c2
                have hz : z = false := by rw [← HZ.out]; simp [okM, plainB, V.k, HBR.out, Hm.out, Hp.out, Hc1.out, Hc2.out]
                have HZ2 := hide hz
                clear hz
                go_wp2
                go_ret
                exact ⟨by rw [HZ2.out]; rfl, HB8.out⟩
            · have tc1 : decide (1 ≤ (ms.size : Int)) = false := by simp; omega
              have gc1 : ¬ (1 ≤ (ms.size : Int)) := by omega
              have Hc1 := hide c1
              have hz : z = false := by rw [← HZ.out]; simp [okM, plainB, V.k, HBR.out, Hm.out, Hp.out, Hc1.out]
              have HZ2 := hide hz
              clear hz
              go_wp2
              go_ret
              exact ⟨by rw [HZ2.out]; rfl, HB8.out⟩
          | true =>
            rw [hp] at HP
            have Hp := hide hp
            clear hp
            go_wp2_with fail
            refine HP.out.mono ?_
            rintro e w8 ⟨rfl, hb8⟩
            clear HP x0 x1 x2 x3 x4 x5 x6 x7 x8 x9
            have HB8 := hide (HB7.out.trans (hb8.mono HB7.out.size))
            have hx8 := HX7.out.trans (hb8.mono HX7.out.size)
            have x0 := p0.out _ hx8
            have x1 := p1.out _ hx8
            have x2 := p2.out _ hx8
            have x3 := p3.out _ hx8
            have x4 := p4.out _ hx8
            have x5 := p5.out _ hx8
            have x6 := p6.out _ hx8
            have x7 := p7.out _ hx8
            have x8 := p8.out _ hx8
            have x9 := p9.out _ hx8
            clear hb8 hx8
            by_cases c1 : 1 ≤ ms.size
            · have tc1 : decide (1 ≤ (ms.size : Int)) = true := by simp; omega
              have gc1 : 1 ≤ (ms.size : Int) := by omega
              have Hc1 := hide c1
              by_cases c2 : ms.size ≤ 64
              · have tc2 : decide ((ms.size : Int) ≤ 64) = true := by simp; omega
                have gc2 : (ms.size : Int) ≤ 64 := by omega
                have Hc2 := hide c2
                have hz : z = true := by rw [← HZ.out]; simp [okM, plainB, V.k, HBR.out, Hm.out, Hp.out, Hc1.out, Hc2.out]
                have HZ2 := hide hz
                clear hz
                go_wp2
                go_ret
                exact ⟨by rw [HZ2.out]; rfl, HB8.out⟩
              · have tc2 : decide ((ms.size : Int) ≤ 64) = false := by simp; omega
                have gc2 : ¬ ((ms.size : Int) ≤ 64) := by omega
                have Hc2 := hide c2
                have hz : z = false := by rw [← HZ.out]; simp [okM, plainB, V.k, HBR.out, Hm.out, Hp.out, Hc1.out, Hc2.out]
                have HZ2 := hide hz
                clear hz
                go_wp2
                go_ret
                exact ⟨by rw [HZ2.out]; rfl, HB8.out⟩
            · have tc1 : decide (1 ≤ (ms.size : Int)) = false := by simp; omega
              have gc1 : ¬ (1 ≤ (ms.size : Int)) := by omega
              have Hc1 := hide c1
              have hz : z = false := by rw [← HZ.out]; simp [okM, plainB, V.k, HBR.out, Hm.out, Hp.out, Hc1.out]
              have HZ2 := hide hz
              clear hz
              go_wp2
              go_ret
              exact ⟨by rw [HZ2.out]; rfl, HB8.out⟩)
  · have HO := hide (fun W' (h : Below (w.alloc (.cells #[.int .i64 3, .string ms, .string mt, .int .i64 mn, .int .i64 k, .bool b, .int .i64 n, .string s, .slice AL l.length cL, .slice AK ks.length cK] 41)).heap.size (w.alloc (.cells #[.int .i64 3, .string ms, .string mt, .int .i64 mn, .int .i64 k, .bool b, .int .i64 n, .string s, .slice AL l.length cL, .slice AK ks.length cK] 41)) W') => own_any (HM.out.grow h))
    generalize hW : w.alloc (.cells #[.int .i64 3, .string ms, .string mt, .int .i64 mn, .int .i64 k, .bool b, .int .i64 n, .string s, .slice AL l.length cL, .slice AK ks.length cK] 41) = W at HX HB HM HV HO
    have p0 := hide (show ∀ W', Below W.heap.size W W' → W'.cell? ⟨w.heap.size, 0, none⟩ = some (.int .i64 3) from fun W' h => blkR (HX.out.below h HX.out.lt) rfl)
    have p1 := hide (show ∀ W', Below W.heap.size W W' → W'.cell? ⟨w.heap.size, 1, none⟩ = some (.string ms) from fun W' h => blkR (HX.out.below h HX.out.lt) rfl)
    have p2 := hide (show ∀ W', Below W.heap.size W W' → W'.cell? ⟨w.heap.size, 2, none⟩ = some (.string mt) from fun W' h => blkR (HX.out.below h HX.out.lt) rfl)
    have p3 := hide (show ∀ W', Below W.heap.size W W' → W'.cell? ⟨w.heap.size, 3, none⟩ = some (.int .i64 mn) from fun W' h => blkR (HX.out.below h HX.out.lt) rfl)
    have p4 := hide (show ∀ W', Below W.heap.size W W' → W'.cell? ⟨w.heap.size, 4, none⟩ = some (.int .i64 k) from fun W' h => blkR (HX.out.below h HX.out.lt) rfl)
    have p5 := hide (show ∀ W', Below W.heap.size W W' → W'.cell? ⟨w.heap.size, 5, none⟩ = some (.bool b) from fun W' h => blkR (HX.out.below h HX.out.lt) rfl)
    have p6 := hide (show ∀ W', Below W.heap.size W W' → W'.cell? ⟨w.heap.size, 6, none⟩ = some (.int .i64 n) from fun W' h => blkR (HX.out.below h HX.out.lt) rfl)
    have p7 := hide (show ∀ W', Below W.heap.size W W' → W'.cell? ⟨w.heap.size, 7, none⟩ = some (.string s) from fun W' h => blkR (HX.out.below h HX.out.lt) rfl)
    have p8 := hide (show ∀ W', Below W.heap.size W W' → W'.cell? ⟨w.heap.size, 8, none⟩ = some (.slice AL l.length cL) from fun W' h => blkR (HX.out.below h HX.out.lt) rfl)
    have p9 := hide (show ∀ W', Below W.heap.size W W' → W'.cell? ⟨w.heap.size, 9, none⟩ = some (.slice AK ks.length cK) from fun W' h => blkR (HX.out.below h HX.out.lt) rfl)
    cases hq : eqM (ownM ⟨3, ms, mt, mn, .mk k b n s l ks⟩) ⟨3, ms, mt, mn, .mk k b n s l ks⟩ with
    | false =>
      have HS := hide (show ∀ W', Below W.heap.size W W' → ∀ ds, IsM W' S (ownM ⟨3, ms, mt, mn, .mk k b n s l ks⟩) ds → Calls Try.prog 23 #[.agg ds, .agg #[.int .i64 3, .string ms, .string mt, .int .i64 mn, .int .i64 k, .bool b, .int .i64 n, .string s, .slice AL l.length cL, .slice AK ks.length cK]] W' (fun e w' => e = .returned (.bool false) ∧ Below W'.heap.size W' w') from fun W' h ds hd => by have := msame_any hd (HM.out.grow h); rw [hq] at this; exact this)
      have HQ := hide hq
      clear hq
      go_enter Try.func44, Try.ntmps44
      go_wp2_with fail
      clear hW
      have q0 : ∀ W', Below W.heap.size W W' → W'.cell? ⟨w.heap.size, 0, none⟩ = some (.int .i64 3) := p0.out
      have q1 : ∀ W', Below W.heap.size W W' → W'.cell? ⟨w.heap.size, 1, none⟩ = some (.string ms) := p1.out
      have q2 : ∀ W', Below W.heap.size W W' → W'.cell? ⟨w.heap.size, 2, none⟩ = some (.string mt) := p2.out
      have q3 : ∀ W', Below W.heap.size W W' → W'.cell? ⟨w.heap.size, 3, none⟩ = some (.int .i64 mn) := p3.out
      have q4 : ∀ W', Below W.heap.size W W' → W'.cell? ⟨w.heap.size, 4, none⟩ = some (.int .i64 k) := p4.out
      have q5 : ∀ W', Below W.heap.size W W' → W'.cell? ⟨w.heap.size, 5, none⟩ = some (.bool b) := p5.out
      have q6 : ∀ W', Below W.heap.size W W' → W'.cell? ⟨w.heap.size, 6, none⟩ = some (.int .i64 n) := p6.out
      have q7 : ∀ W', Below W.heap.size W W' → W'.cell? ⟨w.heap.size, 7, none⟩ = some (.string s) := p7.out
      have q8 : ∀ W', Below W.heap.size W W' → W'.cell? ⟨w.heap.size, 8, none⟩ = some (.slice AL l.length cL) := p8.out
      have q9 : ∀ W', Below W.heap.size W W' → W'.cell? ⟨w.heap.size, 9, none⟩ = some (.slice AK ks.length cK) := p9.out
      go_region_held3 (fun W' => Below W.heap.size W W') (first | exact (Below.refl _ W).drew | (have hx := ‹Below W.heap.size W _›; exact hx.trans (hb5.mono hx.size)) | (have hx := ‹Below W.heap.size W _›; exact hx.trans (hb6.mono hx.size))) (first | (go_at_call 65; refine (HO.out _ (by assumption)).mono ?_; rintro e w5 ⟨ds, rfl, hM5, hb5⟩; obtain ⟨mk5, ms5, mt5, mn5, k5, bb5, n5, s5, AL5, nL5, cL5, AK5, nK5, cK5, rfl⟩ := hM5.ten) | (go_at_call 23; refine (HS.out _ (by assumption) _ (by assumption)).mono ?_; rintro e w6 ⟨rfl, hb6⟩))
      all_goals (
        have hx := ‹Below W.heap.size W _›
        have hB9 := HB.out.trans (hx.mono HB.out.size)
        have HB9 := hide hB9
        have hz : z = false := by rw [← HZ.out]; exact okM_not HQ.out
        have HZ2 := hide hz
        clear hz hB9 q0 q1 q2 q3 q4 q5 q6 q7 q8 q9
        go_wp2
        go_ret
        exact ⟨by rw [HZ2.out]; rfl, HB9.out⟩)
    | true =>
      have HS := hide (show ∀ W', Below W.heap.size W W' → ∀ ds, IsM W' S (ownM ⟨3, ms, mt, mn, .mk k b n s l ks⟩) ds → Calls Try.prog 23 #[.agg ds, .agg #[.int .i64 3, .string ms, .string mt, .int .i64 mn, .int .i64 k, .bool b, .int .i64 n, .string s, .slice AL l.length cL, .slice AK ks.length cK]] W' (fun e w' => e = .returned (.bool true) ∧ Below W'.heap.size W' w') from fun W' h ds hd => by have := msame_any hd (HM.out.grow h); rw [hq] at this; exact this)
      have HQ := hide hq
      clear hq
      go_enter Try.func44, Try.ntmps44
      go_wp2_with fail
      clear hW
      have q0 : ∀ W', Below W.heap.size W W' → W'.cell? ⟨w.heap.size, 0, none⟩ = some (.int .i64 3) := p0.out
      have q1 : ∀ W', Below W.heap.size W W' → W'.cell? ⟨w.heap.size, 1, none⟩ = some (.string ms) := p1.out
      have q2 : ∀ W', Below W.heap.size W W' → W'.cell? ⟨w.heap.size, 2, none⟩ = some (.string mt) := p2.out
      have q3 : ∀ W', Below W.heap.size W W' → W'.cell? ⟨w.heap.size, 3, none⟩ = some (.int .i64 mn) := p3.out
      have q4 : ∀ W', Below W.heap.size W W' → W'.cell? ⟨w.heap.size, 4, none⟩ = some (.int .i64 k) := p4.out
      have q5 : ∀ W', Below W.heap.size W W' → W'.cell? ⟨w.heap.size, 5, none⟩ = some (.bool b) := p5.out
      have q6 : ∀ W', Below W.heap.size W W' → W'.cell? ⟨w.heap.size, 6, none⟩ = some (.int .i64 n) := p6.out
      have q7 : ∀ W', Below W.heap.size W W' → W'.cell? ⟨w.heap.size, 7, none⟩ = some (.string s) := p7.out
      have q8 : ∀ W', Below W.heap.size W W' → W'.cell? ⟨w.heap.size, 8, none⟩ = some (.slice AL l.length cL) := p8.out
      have q9 : ∀ W', Below W.heap.size W W' → W'.cell? ⟨w.heap.size, 9, none⟩ = some (.slice AK ks.length cK) := p9.out
      go_region_held3 (fun W' => Below W.heap.size W W') (first | exact (Below.refl _ W).drew | (have hx := ‹Below W.heap.size W _›; exact hx.trans (hb5.mono hx.size)) | (have hx := ‹Below W.heap.size W _›; exact hx.trans (hb6.mono hx.size))) (first | (go_at_call 65; refine (HO.out _ (by assumption)).mono ?_; rintro e w5 ⟨ds, rfl, hM5, hb5⟩; obtain ⟨mk5, ms5, mt5, mn5, k5, bb5, n5, s5, AL5, nL5, cL5, AK5, nK5, cK5, rfl⟩ := hM5.ten) | (go_at_call 23; refine (HS.out _ (by assumption) _ (by assumption)).mono ?_; rintro e w6 ⟨rfl, hb6⟩))
      all_goals (
        have hx := ‹Below W.heap.size W _›
        have HX9 := hide hx
        have HB9 := hide (HB.out.trans (hx.mono HB.out.size))
        clear q0 q1 q2 q3 q4 q5 q6 q7 q8 q9
        have x0 := p0.out _ hx
        have x1 := p1.out _ hx
        have x2 := p2.out _ hx
        have x3 := p3.out _ hx
        have x4 := p4.out _ hx
        have x5 := p5.out _ hx
        have x6 := p6.out _ hx
        have x7 := p7.out _ hx
        have x8 := p8.out _ hx
        have x9 := p9.out _ hx
        have HV9 := hide (HV.out.grow hx)
        have HC := hide (rMay_any HV9.out)
        have hbr := own_bare ⟨3, ms, mt, mn, .mk k b n s l ks⟩
        rw [HQ.out] at hbr
        have HBR := hide (show bareM ⟨3, ms, mt, mn, .mk k b n s l ks⟩ false true false true = true from by simpa [usM] using hbr.symm)
        clear hbr
        cases hm : mayB (.mk k b n s l ks) with
        | false =>
          rw [hm] at HC
          have Hm := hide hm
          clear hm
          go_wp2_with fail
          refine HC.out.mono ?_
          rintro e w7 ⟨rfl, hb7⟩
          clear HC x0 x1 x2 x3 x4 x5 x6 x7 x8 x9
          have HB7 := hide (HB9.out.trans (hb7.mono HB9.out.size))
          have hx7 := HX9.out.trans (hb7.mono HX9.out.size)
          have x0 := p0.out _ hx7
          have x1 := p1.out _ hx7
          have x2 := p2.out _ hx7
          have x3 := p3.out _ hx7
          have x4 := p4.out _ hx7
          have x5 := p5.out _ hx7
          have x6 := p6.out _ hx7
          have x7 := p7.out _ hx7
          have x8 := p8.out _ hx7
          have x9 := p9.out _ hx7
          clear hb7 hx7
          by_cases c1 : mt.size ≤ 16384
          · have tc1 : decide ((mt.size : Int) ≤ 16384) = true := by simp; omega
            have gc1 : (mt.size : Int) ≤ 16384 := by omega
            have Hc1 := hide c1
            by_cases c2 : k = 5
            · subst c2
              have hz : z = false := by rw [← HZ.out]; simp [okM, plainB, V.k, HBR.out, Hm.out, Hc1.out]
              have HZ2 := hide hz
              clear hz
              go_wp2
              go_ret
              exact ⟨by rw [HZ2.out]; rfl, HB7.out⟩
            · have tc2 : (k == 5) = false := by simp [c2]
              have Hc2 := hide c2
              clear c2
              have hz : z = false := by rw [← HZ.out]; simp [okM, plainB, V.k, HBR.out, Hm.out, Hc1.out, Hc2.out]
              have HZ2 := hide hz
              clear hz
              go_wp2
              go_ret
              exact ⟨by rw [HZ2.out]; rfl, HB7.out⟩
          · have tc1 : decide ((mt.size : Int) ≤ 16384) = false := by simp; omega
            have gc1 : ¬ ((mt.size : Int) ≤ 16384) := by omega
            have Hc1 := hide c1
            have hz : z = false := by rw [← HZ.out]; simp [okM, plainB, V.k, HBR.out, Hm.out, Hc1.out]
            have HZ2 := hide hz
            clear hz
            go_wp2
            go_ret
            exact ⟨by rw [HZ2.out]; rfl, HB7.out⟩
        | true =>
          rw [hm] at HC
          have Hm := hide hm
          clear hm
          go_wp2_with fail
          refine HC.out.mono ?_
          rintro e w7 ⟨rfl, hb7⟩
          clear HC x0 x1 x2 x3 x4 x5 x6 x7 x8 x9
          have HB7 := hide (HB9.out.trans (hb7.mono HB9.out.size))
          have hx7 := HX9.out.trans (hb7.mono HX9.out.size)
          have x0 := p0.out _ hx7
          have x1 := p1.out _ hx7
          have x2 := p2.out _ hx7
          have x3 := p3.out _ hx7
          have x4 := p4.out _ hx7
          have x5 := p5.out _ hx7
          have x6 := p6.out _ hx7
          have x7 := p7.out _ hx7
          have x8 := p8.out _ hx7
          have x9 := p9.out _ hx7
          have HP := hide (rplain_any _ (HV9.out.grow hb7))
          rw [mayB_pl Hm.out] at HP
          have HX7 := hide hx7
          clear hb7 hx7
          cases hp : plV (.mk k b n s l ks) with
          | false =>
            rw [hp] at HP
            have Hp := hide hp
            clear hp
            go_wp2_with fail
            refine HP.out.mono ?_
            rintro e w8 ⟨rfl, hb8⟩
            clear HP x0 x1 x2 x3 x4 x5 x6 x7 x8 x9
            have HB8 := hide (HB7.out.trans (hb8.mono HB7.out.size))
            have hx8 := HX7.out.trans (hb8.mono HX7.out.size)
            have x0 := p0.out _ hx8
            have x1 := p1.out _ hx8
            have x2 := p2.out _ hx8
            have x3 := p3.out _ hx8
            have x4 := p4.out _ hx8
            have x5 := p5.out _ hx8
            have x6 := p6.out _ hx8
            have x7 := p7.out _ hx8
            have x8 := p8.out _ hx8
            have x9 := p9.out _ hx8
            clear hb8 hx8
            by_cases c1 : mt.size ≤ 16384
            · have tc1 : decide ((mt.size : Int) ≤ 16384) = true := by simp; omega
              have gc1 : (mt.size : Int) ≤ 16384 := by omega
              have Hc1 := hide c1
              by_cases c2 : k = 5
              · subst c2
                have hz : z = false := by rw [← HZ.out]; simp [okM, plainB, V.k, HBR.out, Hm.out, Hp.out, Hc1.out]
                have HZ2 := hide hz
                clear hz
                go_wp2
                go_ret
                exact ⟨by rw [HZ2.out]; rfl, HB8.out⟩
              · have tc2 : (k == 5) = false := by simp [c2]
                have Hc2 := hide c2
                clear c2
                have hz : z = false := by rw [← HZ.out]; simp [okM, plainB, V.k, HBR.out, Hm.out, Hp.out, Hc1.out, Hc2.out]
                have HZ2 := hide hz
                clear hz
                go_wp2
                go_ret
                exact ⟨by rw [HZ2.out]; rfl, HB8.out⟩
            · have tc1 : decide ((mt.size : Int) ≤ 16384) = false := by simp; omega
              have gc1 : ¬ ((mt.size : Int) ≤ 16384) := by omega
              have Hc1 := hide c1
              have hz : z = false := by rw [← HZ.out]; simp [okM, plainB, V.k, HBR.out, Hm.out, Hp.out, Hc1.out]
              have HZ2 := hide hz
              clear hz
              go_wp2
              go_ret
              exact ⟨by rw [HZ2.out]; rfl, HB8.out⟩
          | true =>
            rw [hp] at HP
            have Hp := hide hp
            clear hp
            go_wp2_with fail
            refine HP.out.mono ?_
            rintro e w8 ⟨rfl, hb8⟩
            clear HP x0 x1 x2 x3 x4 x5 x6 x7 x8 x9
            have HB8 := hide (HB7.out.trans (hb8.mono HB7.out.size))
            have hx8 := HX7.out.trans (hb8.mono HX7.out.size)
            have x0 := p0.out _ hx8
            have x1 := p1.out _ hx8
            have x2 := p2.out _ hx8
            have x3 := p3.out _ hx8
            have x4 := p4.out _ hx8
            have x5 := p5.out _ hx8
            have x6 := p6.out _ hx8
            have x7 := p7.out _ hx8
            have x8 := p8.out _ hx8
            have x9 := p9.out _ hx8
            clear hb8 hx8
            by_cases c1 : mt.size ≤ 16384
            · have tc1 : decide ((mt.size : Int) ≤ 16384) = true := by simp; omega
              have gc1 : (mt.size : Int) ≤ 16384 := by omega
              have Hc1 := hide c1
              by_cases c2 : k = 5
              · subst c2
                have hz : z = true := by rw [← HZ.out]; simp [okM, plainB, V.k, HBR.out, Hm.out, Hp.out, Hc1.out]
                have HZ2 := hide hz
                clear hz
                go_wp2
                go_ret
                exact ⟨by rw [HZ2.out]; rfl, HB8.out⟩
              · have tc2 : (k == 5) = false := by simp [c2]
                have Hc2 := hide c2
                clear c2
                have hz : z = false := by rw [← HZ.out]; simp [okM, plainB, V.k, HBR.out, Hm.out, Hp.out, Hc1.out, Hc2.out]
                have HZ2 := hide hz
                clear hz
                go_wp2
                go_ret
                exact ⟨by rw [HZ2.out]; rfl, HB8.out⟩
            · have tc1 : decide ((mt.size : Int) ≤ 16384) = false := by simp; omega
              have gc1 : ¬ ((mt.size : Int) ≤ 16384) := by omega
              have Hc1 := hide c1
              have hz : z = false := by rw [← HZ.out]; simp [okM, plainB, V.k, HBR.out, Hm.out, Hp.out, Hc1.out]
              have HZ2 := hide hz
              clear hz
              go_wp2
              go_ret
              exact ⟨by rw [HZ2.out]; rfl, HB8.out⟩)
  · have HO := hide (fun W' (h : Below (w.alloc (.cells #[.int .i64 4, .string ms, .string mt, .int .i64 mn, .int .i64 k, .bool b, .int .i64 n, .string s, .slice AL l.length cL, .slice AK ks.length cK] 41)).heap.size (w.alloc (.cells #[.int .i64 4, .string ms, .string mt, .int .i64 mn, .int .i64 k, .bool b, .int .i64 n, .string s, .slice AL l.length cL, .slice AK ks.length cK] 41)) W') => own_any (HM.out.grow h))
    generalize hW : w.alloc (.cells #[.int .i64 4, .string ms, .string mt, .int .i64 mn, .int .i64 k, .bool b, .int .i64 n, .string s, .slice AL l.length cL, .slice AK ks.length cK] 41) = W at HX HB HM HV HO
    have p0 := hide (show ∀ W', Below W.heap.size W W' → W'.cell? ⟨w.heap.size, 0, none⟩ = some (.int .i64 4) from fun W' h => blkR (HX.out.below h HX.out.lt) rfl)
    have p1 := hide (show ∀ W', Below W.heap.size W W' → W'.cell? ⟨w.heap.size, 1, none⟩ = some (.string ms) from fun W' h => blkR (HX.out.below h HX.out.lt) rfl)
    have p2 := hide (show ∀ W', Below W.heap.size W W' → W'.cell? ⟨w.heap.size, 2, none⟩ = some (.string mt) from fun W' h => blkR (HX.out.below h HX.out.lt) rfl)
    have p3 := hide (show ∀ W', Below W.heap.size W W' → W'.cell? ⟨w.heap.size, 3, none⟩ = some (.int .i64 mn) from fun W' h => blkR (HX.out.below h HX.out.lt) rfl)
    have p4 := hide (show ∀ W', Below W.heap.size W W' → W'.cell? ⟨w.heap.size, 4, none⟩ = some (.int .i64 k) from fun W' h => blkR (HX.out.below h HX.out.lt) rfl)
    have p5 := hide (show ∀ W', Below W.heap.size W W' → W'.cell? ⟨w.heap.size, 5, none⟩ = some (.bool b) from fun W' h => blkR (HX.out.below h HX.out.lt) rfl)
    have p6 := hide (show ∀ W', Below W.heap.size W W' → W'.cell? ⟨w.heap.size, 6, none⟩ = some (.int .i64 n) from fun W' h => blkR (HX.out.below h HX.out.lt) rfl)
    have p7 := hide (show ∀ W', Below W.heap.size W W' → W'.cell? ⟨w.heap.size, 7, none⟩ = some (.string s) from fun W' h => blkR (HX.out.below h HX.out.lt) rfl)
    have p8 := hide (show ∀ W', Below W.heap.size W W' → W'.cell? ⟨w.heap.size, 8, none⟩ = some (.slice AL l.length cL) from fun W' h => blkR (HX.out.below h HX.out.lt) rfl)
    have p9 := hide (show ∀ W', Below W.heap.size W W' → W'.cell? ⟨w.heap.size, 9, none⟩ = some (.slice AK ks.length cK) from fun W' h => blkR (HX.out.below h HX.out.lt) rfl)
    cases hq : eqM (ownM ⟨4, ms, mt, mn, .mk k b n s l ks⟩) ⟨4, ms, mt, mn, .mk k b n s l ks⟩ with
    | false =>
      have HS := hide (show ∀ W', Below W.heap.size W W' → ∀ ds, IsM W' S (ownM ⟨4, ms, mt, mn, .mk k b n s l ks⟩) ds → Calls Try.prog 23 #[.agg ds, .agg #[.int .i64 4, .string ms, .string mt, .int .i64 mn, .int .i64 k, .bool b, .int .i64 n, .string s, .slice AL l.length cL, .slice AK ks.length cK]] W' (fun e w' => e = .returned (.bool false) ∧ Below W'.heap.size W' w') from fun W' h ds hd => by have := msame_any hd (HM.out.grow h); rw [hq] at this; exact this)
      have HQ := hide hq
      clear hq
      go_enter Try.func44, Try.ntmps44
      go_wp2_with fail
      clear hW
      have q0 : ∀ W', Below W.heap.size W W' → W'.cell? ⟨w.heap.size, 0, none⟩ = some (.int .i64 4) := p0.out
      have q1 : ∀ W', Below W.heap.size W W' → W'.cell? ⟨w.heap.size, 1, none⟩ = some (.string ms) := p1.out
      have q2 : ∀ W', Below W.heap.size W W' → W'.cell? ⟨w.heap.size, 2, none⟩ = some (.string mt) := p2.out
      have q3 : ∀ W', Below W.heap.size W W' → W'.cell? ⟨w.heap.size, 3, none⟩ = some (.int .i64 mn) := p3.out
      have q4 : ∀ W', Below W.heap.size W W' → W'.cell? ⟨w.heap.size, 4, none⟩ = some (.int .i64 k) := p4.out
      have q5 : ∀ W', Below W.heap.size W W' → W'.cell? ⟨w.heap.size, 5, none⟩ = some (.bool b) := p5.out
      have q6 : ∀ W', Below W.heap.size W W' → W'.cell? ⟨w.heap.size, 6, none⟩ = some (.int .i64 n) := p6.out
      have q7 : ∀ W', Below W.heap.size W W' → W'.cell? ⟨w.heap.size, 7, none⟩ = some (.string s) := p7.out
      have q8 : ∀ W', Below W.heap.size W W' → W'.cell? ⟨w.heap.size, 8, none⟩ = some (.slice AL l.length cL) := p8.out
      have q9 : ∀ W', Below W.heap.size W W' → W'.cell? ⟨w.heap.size, 9, none⟩ = some (.slice AK ks.length cK) := p9.out
      go_region_held3 (fun W' => Below W.heap.size W W') (first | exact (Below.refl _ W).drew | (have hx := ‹Below W.heap.size W _›; exact hx.trans (hb5.mono hx.size)) | (have hx := ‹Below W.heap.size W _›; exact hx.trans (hb6.mono hx.size))) (first | (go_at_call 65; refine (HO.out _ (by assumption)).mono ?_; rintro e w5 ⟨ds, rfl, hM5, hb5⟩; obtain ⟨mk5, ms5, mt5, mn5, k5, bb5, n5, s5, AL5, nL5, cL5, AK5, nK5, cK5, rfl⟩ := hM5.ten) | (go_at_call 23; refine (HS.out _ (by assumption) _ (by assumption)).mono ?_; rintro e w6 ⟨rfl, hb6⟩))
      all_goals (
        have hx := ‹Below W.heap.size W _›
        have hB9 := HB.out.trans (hx.mono HB.out.size)
        have HB9 := hide hB9
        have hz : z = false := by rw [← HZ.out]; exact okM_not HQ.out
        have HZ2 := hide hz
        clear hz hB9 q0 q1 q2 q3 q4 q5 q6 q7 q8 q9
        go_wp2
        go_ret
        exact ⟨by rw [HZ2.out]; rfl, HB9.out⟩)
    | true =>
      have HS := hide (show ∀ W', Below W.heap.size W W' → ∀ ds, IsM W' S (ownM ⟨4, ms, mt, mn, .mk k b n s l ks⟩) ds → Calls Try.prog 23 #[.agg ds, .agg #[.int .i64 4, .string ms, .string mt, .int .i64 mn, .int .i64 k, .bool b, .int .i64 n, .string s, .slice AL l.length cL, .slice AK ks.length cK]] W' (fun e w' => e = .returned (.bool true) ∧ Below W'.heap.size W' w') from fun W' h ds hd => by have := msame_any hd (HM.out.grow h); rw [hq] at this; exact this)
      have HQ := hide hq
      clear hq
      go_enter Try.func44, Try.ntmps44
      go_wp2_with fail
      clear hW
      have q0 : ∀ W', Below W.heap.size W W' → W'.cell? ⟨w.heap.size, 0, none⟩ = some (.int .i64 4) := p0.out
      have q1 : ∀ W', Below W.heap.size W W' → W'.cell? ⟨w.heap.size, 1, none⟩ = some (.string ms) := p1.out
      have q2 : ∀ W', Below W.heap.size W W' → W'.cell? ⟨w.heap.size, 2, none⟩ = some (.string mt) := p2.out
      have q3 : ∀ W', Below W.heap.size W W' → W'.cell? ⟨w.heap.size, 3, none⟩ = some (.int .i64 mn) := p3.out
      have q4 : ∀ W', Below W.heap.size W W' → W'.cell? ⟨w.heap.size, 4, none⟩ = some (.int .i64 k) := p4.out
      have q5 : ∀ W', Below W.heap.size W W' → W'.cell? ⟨w.heap.size, 5, none⟩ = some (.bool b) := p5.out
      have q6 : ∀ W', Below W.heap.size W W' → W'.cell? ⟨w.heap.size, 6, none⟩ = some (.int .i64 n) := p6.out
      have q7 : ∀ W', Below W.heap.size W W' → W'.cell? ⟨w.heap.size, 7, none⟩ = some (.string s) := p7.out
      have q8 : ∀ W', Below W.heap.size W W' → W'.cell? ⟨w.heap.size, 8, none⟩ = some (.slice AL l.length cL) := p8.out
      have q9 : ∀ W', Below W.heap.size W W' → W'.cell? ⟨w.heap.size, 9, none⟩ = some (.slice AK ks.length cK) := p9.out
      go_region_held3 (fun W' => Below W.heap.size W W') (first | exact (Below.refl _ W).drew | (have hx := ‹Below W.heap.size W _›; exact hx.trans (hb5.mono hx.size)) | (have hx := ‹Below W.heap.size W _›; exact hx.trans (hb6.mono hx.size))) (first | (go_at_call 65; refine (HO.out _ (by assumption)).mono ?_; rintro e w5 ⟨ds, rfl, hM5, hb5⟩; obtain ⟨mk5, ms5, mt5, mn5, k5, bb5, n5, s5, AL5, nL5, cL5, AK5, nK5, cK5, rfl⟩ := hM5.ten) | (go_at_call 23; refine (HS.out _ (by assumption) _ (by assumption)).mono ?_; rintro e w6 ⟨rfl, hb6⟩))
      all_goals (
        have hx := ‹Below W.heap.size W _›
        have HX9 := hide hx
        have HB9 := hide (HB.out.trans (hx.mono HB.out.size))
        clear q0 q1 q2 q3 q4 q5 q6 q7 q8 q9
        have x0 := p0.out _ hx
        have x1 := p1.out _ hx
        have x2 := p2.out _ hx
        have x3 := p3.out _ hx
        have x4 := p4.out _ hx
        have x5 := p5.out _ hx
        have x6 := p6.out _ hx
        have x7 := p7.out _ hx
        have x8 := p8.out _ hx
        have x9 := p9.out _ hx
        have HV9 := hide (HV.out.grow hx)
        have HC := hide (rMay_any HV9.out)
        have hbr := own_bare ⟨4, ms, mt, mn, .mk k b n s l ks⟩
        rw [HQ.out] at hbr
        have HBR := hide (show bareM ⟨4, ms, mt, mn, .mk k b n s l ks⟩ false false true false = true from by simpa [usM] using hbr.symm)
        clear hbr
        cases hm : mayB (.mk k b n s l ks) with
        | false =>
          rw [hm] at HC
          have Hm := hide hm
          clear hm
          go_wp2_with fail
          refine HC.out.mono ?_
          rintro e w7 ⟨rfl, hb7⟩
          clear HC x0 x1 x2 x3 x4 x5 x6 x7 x8 x9
          have HB7 := hide (HB9.out.trans (hb7.mono HB9.out.size))
          have hx7 := HX9.out.trans (hb7.mono HX9.out.size)
          have x0 := p0.out _ hx7
          have x1 := p1.out _ hx7
          have x2 := p2.out _ hx7
          have x3 := p3.out _ hx7
          have x4 := p4.out _ hx7
          have x5 := p5.out _ hx7
          have x6 := p6.out _ hx7
          have x7 := p7.out _ hx7
          have x8 := p8.out _ hx7
          have x9 := p9.out _ hx7
          clear hb7 hx7
          by_cases c1 : 1 ≤ mn
          · have tc1 : decide (1 ≤ mn) = true := by simp; omega
            have gc1 : 1 ≤ mn := by omega
            have Hc1 := hide c1
            by_cases c2 : mn ≤ 4096
            · have tc2 : decide (mn ≤ 4096) = true := by simp; omega
              have gc2 : mn ≤ 4096 := by omega
              have Hc2 := hide c2
              have hz : z = true := by rw [← HZ.out]; simp [okM, plainB, V.k, HBR.out, Hm.out, Hc1.out, Hc2.out]
              have HZ2 := hide hz
              clear hz
              go_wp2
              go_ret
              exact ⟨by rw [HZ2.out]; rfl, HB7.out⟩
            · have tc2 : decide (mn ≤ 4096) = false := by simp; omega
              have gc2 : ¬ (mn ≤ 4096) := by omega
              have Hc2 := hide c2
              have hz : z = false := by rw [← HZ.out]; simp [okM, plainB, V.k, HBR.out, Hm.out, Hc1.out, Hc2.out]
              have HZ2 := hide hz
              clear hz
              go_wp2
              go_ret
              exact ⟨by rw [HZ2.out]; rfl, HB7.out⟩
          · have tc1 : decide (1 ≤ mn) = false := by simp; omega
            have gc1 : ¬ (1 ≤ mn) := by omega
            have Hc1 := hide c1
            have hz : z = false := by rw [← HZ.out]; simp [okM, plainB, V.k, HBR.out, Hm.out, Hc1.out]
            have HZ2 := hide hz
            clear hz
            go_wp2
            go_ret
            exact ⟨by rw [HZ2.out]; rfl, HB7.out⟩
        | true =>
          rw [hm] at HC
          have Hm := hide hm
          clear hm
          go_wp2_with fail
          refine HC.out.mono ?_
          rintro e w7 ⟨rfl, hb7⟩
          clear HC x0 x1 x2 x3 x4 x5 x6 x7 x8 x9
          have HB7 := hide (HB9.out.trans (hb7.mono HB9.out.size))
          have hx7 := HX9.out.trans (hb7.mono HX9.out.size)
          have x0 := p0.out _ hx7
          have x1 := p1.out _ hx7
          have x2 := p2.out _ hx7
          have x3 := p3.out _ hx7
          have x4 := p4.out _ hx7
          have x5 := p5.out _ hx7
          have x6 := p6.out _ hx7
          have x7 := p7.out _ hx7
          have x8 := p8.out _ hx7
          have x9 := p9.out _ hx7
          have HP := hide (rplain_any _ (HV9.out.grow hb7))
          rw [mayB_pl Hm.out] at HP
          have HX7 := hide hx7
          clear hb7 hx7
          cases hp : plV (.mk k b n s l ks) with
          | false =>
            rw [hp] at HP
            have Hp := hide hp
            clear hp
            go_wp2_with fail
            refine HP.out.mono ?_
            rintro e w8 ⟨rfl, hb8⟩
            clear HP x0 x1 x2 x3 x4 x5 x6 x7 x8 x9
            have HB8 := hide (HB7.out.trans (hb8.mono HB7.out.size))
            have hx8 := HX7.out.trans (hb8.mono HX7.out.size)
            have x0 := p0.out _ hx8
            have x1 := p1.out _ hx8
            have x2 := p2.out _ hx8
            have x3 := p3.out _ hx8
            have x4 := p4.out _ hx8
            have x5 := p5.out _ hx8
            have x6 := p6.out _ hx8
            have x7 := p7.out _ hx8
            have x8 := p8.out _ hx8
            have x9 := p9.out _ hx8
            clear hb8 hx8
            by_cases c1 : 1 ≤ mn
            · have tc1 : decide (1 ≤ mn) = true := by simp; omega
              have gc1 : 1 ≤ mn := by omega
              have Hc1 := hide c1
              by_cases c2 : mn ≤ 4096
              · have tc2 : decide (mn ≤ 4096) = true := by simp; omega
                have gc2 : mn ≤ 4096 := by omega
                have Hc2 := hide c2
                have hz : z = true := by rw [← HZ.out]; simp [okM, plainB, V.k, HBR.out, Hm.out, Hp.out, Hc1.out, Hc2.out]
                have HZ2 := hide hz
                clear hz
                go_wp2
                go_ret
                exact ⟨by rw [HZ2.out]; rfl, HB8.out⟩
              · have tc2 : decide (mn ≤ 4096) = false := by simp; omega
                have gc2 : ¬ (mn ≤ 4096) := by omega
                have Hc2 := hide c2
                have hz : z = false := by rw [← HZ.out]; simp [okM, plainB, V.k, HBR.out, Hm.out, Hp.out, Hc1.out, Hc2.out]
                have HZ2 := hide hz
                clear hz
                go_wp2
                go_ret
                exact ⟨by rw [HZ2.out]; rfl, HB8.out⟩
            · have tc1 : decide (1 ≤ mn) = false := by simp; omega
              have gc1 : ¬ (1 ≤ mn) := by omega
              have Hc1 := hide c1
              have hz : z = false := by rw [← HZ.out]; simp [okM, plainB, V.k, HBR.out, Hm.out, Hp.out, Hc1.out]
              have HZ2 := hide hz
              clear hz
              go_wp2
              go_ret
              exact ⟨by rw [HZ2.out]; rfl, HB8.out⟩
          | true =>
            rw [hp] at HP
            have Hp := hide hp
            clear hp
            go_wp2_with fail
            refine HP.out.mono ?_
            rintro e w8 ⟨rfl, hb8⟩
            clear HP x0 x1 x2 x3 x4 x5 x6 x7 x8 x9
            have HB8 := hide (HB7.out.trans (hb8.mono HB7.out.size))
            have hx8 := HX7.out.trans (hb8.mono HX7.out.size)
            have x0 := p0.out _ hx8
            have x1 := p1.out _ hx8
            have x2 := p2.out _ hx8
            have x3 := p3.out _ hx8
            have x4 := p4.out _ hx8
            have x5 := p5.out _ hx8
            have x6 := p6.out _ hx8
            have x7 := p7.out _ hx8
            have x8 := p8.out _ hx8
            have x9 := p9.out _ hx8
            clear hb8 hx8
            by_cases c1 : 1 ≤ mn
            · have tc1 : decide (1 ≤ mn) = true := by simp; omega
              have gc1 : 1 ≤ mn := by omega
              have Hc1 := hide c1
              by_cases c2 : mn ≤ 4096
              · have tc2 : decide (mn ≤ 4096) = true := by simp; omega
                have gc2 : mn ≤ 4096 := by omega
                have Hc2 := hide c2
                have hz : z = true := by rw [← HZ.out]; simp [okM, plainB, V.k, HBR.out, Hm.out, Hp.out, Hc1.out, Hc2.out]
                have HZ2 := hide hz
                clear hz
                go_wp2
                go_ret
                exact ⟨by rw [HZ2.out]; rfl, HB8.out⟩
              · have tc2 : decide (mn ≤ 4096) = false := by simp; omega
                have gc2 : ¬ (mn ≤ 4096) := by omega
                have Hc2 := hide c2
                have hz : z = false := by rw [← HZ.out]; simp [okM, plainB, V.k, HBR.out, Hm.out, Hp.out, Hc1.out, Hc2.out]
                have HZ2 := hide hz
                clear hz
                go_wp2
                go_ret
                exact ⟨by rw [HZ2.out]; rfl, HB8.out⟩
            · have tc1 : decide (1 ≤ mn) = false := by simp; omega
              have gc1 : ¬ (1 ≤ mn) := by omega
              have Hc1 := hide c1
              have hz : z = false := by rw [← HZ.out]; simp [okM, plainB, V.k, HBR.out, Hm.out, Hp.out, Hc1.out]
              have HZ2 := hide hz
              clear hz
              go_wp2
              go_ret
              exact ⟨by rw [HZ2.out]; rfl, HB8.out⟩)
  · have HO := hide (fun W' (h : Below (w.alloc (.cells #[.int .i64 18, .string ms, .string mt, .int .i64 mn, .int .i64 k, .bool b, .int .i64 n, .string s, .slice AL l.length cL, .slice AK ks.length cK] 41)).heap.size (w.alloc (.cells #[.int .i64 18, .string ms, .string mt, .int .i64 mn, .int .i64 k, .bool b, .int .i64 n, .string s, .slice AL l.length cL, .slice AK ks.length cK] 41)) W') => own_any (HM.out.grow h))
    generalize hW : w.alloc (.cells #[.int .i64 18, .string ms, .string mt, .int .i64 mn, .int .i64 k, .bool b, .int .i64 n, .string s, .slice AL l.length cL, .slice AK ks.length cK] 41) = W at HX HB HM HV HO
    have p0 := hide (show ∀ W', Below W.heap.size W W' → W'.cell? ⟨w.heap.size, 0, none⟩ = some (.int .i64 18) from fun W' h => blkR (HX.out.below h HX.out.lt) rfl)
    have p1 := hide (show ∀ W', Below W.heap.size W W' → W'.cell? ⟨w.heap.size, 1, none⟩ = some (.string ms) from fun W' h => blkR (HX.out.below h HX.out.lt) rfl)
    have p2 := hide (show ∀ W', Below W.heap.size W W' → W'.cell? ⟨w.heap.size, 2, none⟩ = some (.string mt) from fun W' h => blkR (HX.out.below h HX.out.lt) rfl)
    have p3 := hide (show ∀ W', Below W.heap.size W W' → W'.cell? ⟨w.heap.size, 3, none⟩ = some (.int .i64 mn) from fun W' h => blkR (HX.out.below h HX.out.lt) rfl)
    have p4 := hide (show ∀ W', Below W.heap.size W W' → W'.cell? ⟨w.heap.size, 4, none⟩ = some (.int .i64 k) from fun W' h => blkR (HX.out.below h HX.out.lt) rfl)
    have p5 := hide (show ∀ W', Below W.heap.size W W' → W'.cell? ⟨w.heap.size, 5, none⟩ = some (.bool b) from fun W' h => blkR (HX.out.below h HX.out.lt) rfl)
    have p6 := hide (show ∀ W', Below W.heap.size W W' → W'.cell? ⟨w.heap.size, 6, none⟩ = some (.int .i64 n) from fun W' h => blkR (HX.out.below h HX.out.lt) rfl)
    have p7 := hide (show ∀ W', Below W.heap.size W W' → W'.cell? ⟨w.heap.size, 7, none⟩ = some (.string s) from fun W' h => blkR (HX.out.below h HX.out.lt) rfl)
    have p8 := hide (show ∀ W', Below W.heap.size W W' → W'.cell? ⟨w.heap.size, 8, none⟩ = some (.slice AL l.length cL) from fun W' h => blkR (HX.out.below h HX.out.lt) rfl)
    have p9 := hide (show ∀ W', Below W.heap.size W W' → W'.cell? ⟨w.heap.size, 9, none⟩ = some (.slice AK ks.length cK) from fun W' h => blkR (HX.out.below h HX.out.lt) rfl)
    cases hq : eqM (ownM ⟨18, ms, mt, mn, .mk k b n s l ks⟩) ⟨18, ms, mt, mn, .mk k b n s l ks⟩ with
    | false =>
      have HS := hide (show ∀ W', Below W.heap.size W W' → ∀ ds, IsM W' S (ownM ⟨18, ms, mt, mn, .mk k b n s l ks⟩) ds → Calls Try.prog 23 #[.agg ds, .agg #[.int .i64 18, .string ms, .string mt, .int .i64 mn, .int .i64 k, .bool b, .int .i64 n, .string s, .slice AL l.length cL, .slice AK ks.length cK]] W' (fun e w' => e = .returned (.bool false) ∧ Below W'.heap.size W' w') from fun W' h ds hd => by have := msame_any hd (HM.out.grow h); rw [hq] at this; exact this)
      have HQ := hide hq
      clear hq
      go_enter Try.func44, Try.ntmps44
      go_wp2_with fail
      clear hW
      have q0 : ∀ W', Below W.heap.size W W' → W'.cell? ⟨w.heap.size, 0, none⟩ = some (.int .i64 18) := p0.out
      have q1 : ∀ W', Below W.heap.size W W' → W'.cell? ⟨w.heap.size, 1, none⟩ = some (.string ms) := p1.out
      have q2 : ∀ W', Below W.heap.size W W' → W'.cell? ⟨w.heap.size, 2, none⟩ = some (.string mt) := p2.out
      have q3 : ∀ W', Below W.heap.size W W' → W'.cell? ⟨w.heap.size, 3, none⟩ = some (.int .i64 mn) := p3.out
      have q4 : ∀ W', Below W.heap.size W W' → W'.cell? ⟨w.heap.size, 4, none⟩ = some (.int .i64 k) := p4.out
      have q5 : ∀ W', Below W.heap.size W W' → W'.cell? ⟨w.heap.size, 5, none⟩ = some (.bool b) := p5.out
      have q6 : ∀ W', Below W.heap.size W W' → W'.cell? ⟨w.heap.size, 6, none⟩ = some (.int .i64 n) := p6.out
      have q7 : ∀ W', Below W.heap.size W W' → W'.cell? ⟨w.heap.size, 7, none⟩ = some (.string s) := p7.out
      have q8 : ∀ W', Below W.heap.size W W' → W'.cell? ⟨w.heap.size, 8, none⟩ = some (.slice AL l.length cL) := p8.out
      have q9 : ∀ W', Below W.heap.size W W' → W'.cell? ⟨w.heap.size, 9, none⟩ = some (.slice AK ks.length cK) := p9.out
      go_region_held3 (fun W' => Below W.heap.size W W') (first | exact (Below.refl _ W).drew | (have hx := ‹Below W.heap.size W _›; exact hx.trans (hb5.mono hx.size)) | (have hx := ‹Below W.heap.size W _›; exact hx.trans (hb6.mono hx.size))) (first | (go_at_call 65; refine (HO.out _ (by assumption)).mono ?_; rintro e w5 ⟨ds, rfl, hM5, hb5⟩; obtain ⟨mk5, ms5, mt5, mn5, k5, bb5, n5, s5, AL5, nL5, cL5, AK5, nK5, cK5, rfl⟩ := hM5.ten) | (go_at_call 23; refine (HS.out _ (by assumption) _ (by assumption)).mono ?_; rintro e w6 ⟨rfl, hb6⟩))
      all_goals (
        have hx := ‹Below W.heap.size W _›
        have hB9 := HB.out.trans (hx.mono HB.out.size)
        have HB9 := hide hB9
        have hz : z = false := by rw [← HZ.out]; exact okM_not HQ.out
        have HZ2 := hide hz
        clear hz hB9 q0 q1 q2 q3 q4 q5 q6 q7 q8 q9
        go_wp2
        go_ret
        exact ⟨by rw [HZ2.out]; rfl, HB9.out⟩)
    | true =>
      have HS := hide (show ∀ W', Below W.heap.size W W' → ∀ ds, IsM W' S (ownM ⟨18, ms, mt, mn, .mk k b n s l ks⟩) ds → Calls Try.prog 23 #[.agg ds, .agg #[.int .i64 18, .string ms, .string mt, .int .i64 mn, .int .i64 k, .bool b, .int .i64 n, .string s, .slice AL l.length cL, .slice AK ks.length cK]] W' (fun e w' => e = .returned (.bool true) ∧ Below W'.heap.size W' w') from fun W' h ds hd => by have := msame_any hd (HM.out.grow h); rw [hq] at this; exact this)
      have HQ := hide hq
      clear hq
      go_enter Try.func44, Try.ntmps44
      go_wp2_with fail
      clear hW
      have q0 : ∀ W', Below W.heap.size W W' → W'.cell? ⟨w.heap.size, 0, none⟩ = some (.int .i64 18) := p0.out
      have q1 : ∀ W', Below W.heap.size W W' → W'.cell? ⟨w.heap.size, 1, none⟩ = some (.string ms) := p1.out
      have q2 : ∀ W', Below W.heap.size W W' → W'.cell? ⟨w.heap.size, 2, none⟩ = some (.string mt) := p2.out
      have q3 : ∀ W', Below W.heap.size W W' → W'.cell? ⟨w.heap.size, 3, none⟩ = some (.int .i64 mn) := p3.out
      have q4 : ∀ W', Below W.heap.size W W' → W'.cell? ⟨w.heap.size, 4, none⟩ = some (.int .i64 k) := p4.out
      have q5 : ∀ W', Below W.heap.size W W' → W'.cell? ⟨w.heap.size, 5, none⟩ = some (.bool b) := p5.out
      have q6 : ∀ W', Below W.heap.size W W' → W'.cell? ⟨w.heap.size, 6, none⟩ = some (.int .i64 n) := p6.out
      have q7 : ∀ W', Below W.heap.size W W' → W'.cell? ⟨w.heap.size, 7, none⟩ = some (.string s) := p7.out
      have q8 : ∀ W', Below W.heap.size W W' → W'.cell? ⟨w.heap.size, 8, none⟩ = some (.slice AL l.length cL) := p8.out
      have q9 : ∀ W', Below W.heap.size W W' → W'.cell? ⟨w.heap.size, 9, none⟩ = some (.slice AK ks.length cK) := p9.out
      go_region_held3 (fun W' => Below W.heap.size W W') (first | exact (Below.refl _ W).drew | (have hx := ‹Below W.heap.size W _›; exact hx.trans (hb5.mono hx.size)) | (have hx := ‹Below W.heap.size W _›; exact hx.trans (hb6.mono hx.size))) (first | (go_at_call 65; refine (HO.out _ (by assumption)).mono ?_; rintro e w5 ⟨ds, rfl, hM5, hb5⟩; obtain ⟨mk5, ms5, mt5, mn5, k5, bb5, n5, s5, AL5, nL5, cL5, AK5, nK5, cK5, rfl⟩ := hM5.ten) | (go_at_call 23; refine (HS.out _ (by assumption) _ (by assumption)).mono ?_; rintro e w6 ⟨rfl, hb6⟩))
      all_goals (
        have hx := ‹Below W.heap.size W _›
        have HX9 := hide hx
        have HB9 := hide (HB.out.trans (hx.mono HB.out.size))
        clear q0 q1 q2 q3 q4 q5 q6 q7 q8 q9
        have x0 := p0.out _ hx
        have x1 := p1.out _ hx
        have x2 := p2.out _ hx
        have x3 := p3.out _ hx
        have x4 := p4.out _ hx
        have x5 := p5.out _ hx
        have x6 := p6.out _ hx
        have x7 := p7.out _ hx
        have x8 := p8.out _ hx
        have x9 := p9.out _ hx
        have HV9 := hide (HV.out.grow hx)
        have HC := hide (rMay_any HV9.out)
        have hbr := own_bare ⟨18, ms, mt, mn, .mk k b n s l ks⟩
        rw [HQ.out] at hbr
        have HBR := hide (show bareM ⟨18, ms, mt, mn, .mk k b n s l ks⟩ false false true false = true from by simpa [usM] using hbr.symm)
        clear hbr
        cases hm : mayB (.mk k b n s l ks) with
        | false =>
          rw [hm] at HC
          have Hm := hide hm
          clear hm
          go_wp2_with fail
          refine HC.out.mono ?_
          rintro e w7 ⟨rfl, hb7⟩
          clear HC x0 x1 x2 x3 x4 x5 x6 x7 x8 x9
          have HB7 := hide (HB9.out.trans (hb7.mono HB9.out.size))
          have hx7 := HX9.out.trans (hb7.mono HX9.out.size)
          have x0 := p0.out _ hx7
          have x1 := p1.out _ hx7
          have x2 := p2.out _ hx7
          have x3 := p3.out _ hx7
          have x4 := p4.out _ hx7
          have x5 := p5.out _ hx7
          have x6 := p6.out _ hx7
          have x7 := p7.out _ hx7
          have x8 := p8.out _ hx7
          have x9 := p9.out _ hx7
          clear hb7 hx7
          by_cases c1 : 1 ≤ mn
          · have tc1 : decide (1 ≤ mn) = true := by simp; omega
            have gc1 : 1 ≤ mn := by omega
            have Hc1 := hide c1
            by_cases c2 : mn ≤ 9
            · have tc2 : decide (mn ≤ 9) = true := by simp; omega
              have gc2 : mn ≤ 9 := by omega
              have Hc2 := hide c2
              have hz : z = true := by rw [← HZ.out]; simp [okM, plainB, V.k, HBR.out, Hm.out, Hc1.out, Hc2.out]
              have HZ2 := hide hz
              clear hz
              go_wp2
              go_ret
              exact ⟨by rw [HZ2.out]; rfl, HB7.out⟩
            · have tc2 : decide (mn ≤ 9) = false := by simp; omega
              have gc2 : ¬ (mn ≤ 9) := by omega
              have Hc2 := hide c2
              have hz : z = false := by rw [← HZ.out]; simp [okM, plainB, V.k, HBR.out, Hm.out, Hc1.out, Hc2.out]
              have HZ2 := hide hz
              clear hz
              go_wp2
              go_ret
              exact ⟨by rw [HZ2.out]; rfl, HB7.out⟩
          · have tc1 : decide (1 ≤ mn) = false := by simp; omega
            have gc1 : ¬ (1 ≤ mn) := by omega
            have Hc1 := hide c1
            have hz : z = false := by rw [← HZ.out]; simp [okM, plainB, V.k, HBR.out, Hm.out, Hc1.out]
            have HZ2 := hide hz
            clear hz
            go_wp2
            go_ret
            exact ⟨by rw [HZ2.out]; rfl, HB7.out⟩
        | true =>
          rw [hm] at HC
          have Hm := hide hm
          clear hm
          go_wp2_with fail
          refine HC.out.mono ?_
          rintro e w7 ⟨rfl, hb7⟩
          clear HC x0 x1 x2 x3 x4 x5 x6 x7 x8 x9
          have HB7 := hide (HB9.out.trans (hb7.mono HB9.out.size))
          have hx7 := HX9.out.trans (hb7.mono HX9.out.size)
          have x0 := p0.out _ hx7
          have x1 := p1.out _ hx7
          have x2 := p2.out _ hx7
          have x3 := p3.out _ hx7
          have x4 := p4.out _ hx7
          have x5 := p5.out _ hx7
          have x6 := p6.out _ hx7
          have x7 := p7.out _ hx7
          have x8 := p8.out _ hx7
          have x9 := p9.out _ hx7
          have HP := hide (rplain_any _ (HV9.out.grow hb7))
          rw [mayB_pl Hm.out] at HP
          have HX7 := hide hx7
          clear hb7 hx7
          cases hp : plV (.mk k b n s l ks) with
          | false =>
            rw [hp] at HP
            have Hp := hide hp
            clear hp
            go_wp2_with fail
            refine HP.out.mono ?_
            rintro e w8 ⟨rfl, hb8⟩
            clear HP x0 x1 x2 x3 x4 x5 x6 x7 x8 x9
            have HB8 := hide (HB7.out.trans (hb8.mono HB7.out.size))
            have hx8 := HX7.out.trans (hb8.mono HX7.out.size)
            have x0 := p0.out _ hx8
            have x1 := p1.out _ hx8
            have x2 := p2.out _ hx8
            have x3 := p3.out _ hx8
            have x4 := p4.out _ hx8
            have x5 := p5.out _ hx8
            have x6 := p6.out _ hx8
            have x7 := p7.out _ hx8
            have x8 := p8.out _ hx8
            have x9 := p9.out _ hx8
            clear hb8 hx8
            by_cases c1 : 1 ≤ mn
            · have tc1 : decide (1 ≤ mn) = true := by simp; omega
              have gc1 : 1 ≤ mn := by omega
              have Hc1 := hide c1
              by_cases c2 : mn ≤ 9
              · have tc2 : decide (mn ≤ 9) = true := by simp; omega
                have gc2 : mn ≤ 9 := by omega
                have Hc2 := hide c2
                have hz : z = true := by rw [← HZ.out]; simp [okM, plainB, V.k, HBR.out, Hm.out, Hp.out, Hc1.out, Hc2.out]
                have HZ2 := hide hz
                clear hz
                go_wp2
                go_ret
                exact ⟨by rw [HZ2.out]; rfl, HB8.out⟩
              · have tc2 : decide (mn ≤ 9) = false := by simp; omega
                have gc2 : ¬ (mn ≤ 9) := by omega
                have Hc2 := hide c2
                have hz : z = false := by rw [← HZ.out]; simp [okM, plainB, V.k, HBR.out, Hm.out, Hp.out, Hc1.out, Hc2.out]
                have HZ2 := hide hz
                clear hz
                go_wp2
                go_ret
                exact ⟨by rw [HZ2.out]; rfl, HB8.out⟩
            · have tc1 : decide (1 ≤ mn) = false := by simp; omega
              have gc1 : ¬ (1 ≤ mn) := by omega
              have Hc1 := hide c1
              have hz : z = false := by rw [← HZ.out]; simp [okM, plainB, V.k, HBR.out, Hm.out, Hp.out, Hc1.out]
              have HZ2 := hide hz
              clear hz
              go_wp2
              go_ret
              exact ⟨by rw [HZ2.out]; rfl, HB8.out⟩
          | true =>
            rw [hp] at HP
            have Hp := hide hp
            clear hp
            go_wp2_with fail
            refine HP.out.mono ?_
            rintro e w8 ⟨rfl, hb8⟩
            clear HP x0 x1 x2 x3 x4 x5 x6 x7 x8 x9
            have HB8 := hide (HB7.out.trans (hb8.mono HB7.out.size))
            have hx8 := HX7.out.trans (hb8.mono HX7.out.size)
            have x0 := p0.out _ hx8
            have x1 := p1.out _ hx8
            have x2 := p2.out _ hx8
            have x3 := p3.out _ hx8
            have x4 := p4.out _ hx8
            have x5 := p5.out _ hx8
            have x6 := p6.out _ hx8
            have x7 := p7.out _ hx8
            have x8 := p8.out _ hx8
            have x9 := p9.out _ hx8
            clear hb8 hx8
            by_cases c1 : 1 ≤ mn
            · have tc1 : decide (1 ≤ mn) = true := by simp; omega
              have gc1 : 1 ≤ mn := by omega
              have Hc1 := hide c1
              by_cases c2 : mn ≤ 9
              · have tc2 : decide (mn ≤ 9) = true := by simp; omega
                have gc2 : mn ≤ 9 := by omega
                have Hc2 := hide c2
                have hz : z = true := by rw [← HZ.out]; simp [okM, plainB, V.k, HBR.out, Hm.out, Hp.out, Hc1.out, Hc2.out]
                have HZ2 := hide hz
                clear hz
                go_wp2
                go_ret
                exact ⟨by rw [HZ2.out]; rfl, HB8.out⟩
              · have tc2 : decide (mn ≤ 9) = false := by simp; omega
                have gc2 : ¬ (mn ≤ 9) := by omega
                have Hc2 := hide c2
                have hz : z = false := by rw [← HZ.out]; simp [okM, plainB, V.k, HBR.out, Hm.out, Hp.out, Hc1.out, Hc2.out]
                have HZ2 := hide hz
                clear hz
                go_wp2
                go_ret
                exact ⟨by rw [HZ2.out]; rfl, HB8.out⟩
            · have tc1 : decide (1 ≤ mn) = false := by simp; omega
              have gc1 : ¬ (1 ≤ mn) := by omega
              have Hc1 := hide c1
              have hz : z = false := by rw [← HZ.out]; simp [okM, plainB, V.k, HBR.out, Hm.out, Hp.out, Hc1.out]
              have HZ2 := hide hz
              clear hz
              go_wp2
              go_ret
              exact ⟨by rw [HZ2.out]; rfl, HB8.out⟩)
  · have HO := hide (fun W' (h : Below (w.alloc (.cells #[.int .i64 16, .string ms, .string mt, .int .i64 mn, .int .i64 k, .bool b, .int .i64 n, .string s, .slice AL l.length cL, .slice AK ks.length cK] 41)).heap.size (w.alloc (.cells #[.int .i64 16, .string ms, .string mt, .int .i64 mn, .int .i64 k, .bool b, .int .i64 n, .string s, .slice AL l.length cL, .slice AK ks.length cK] 41)) W') => own_any (HM.out.grow h))
    generalize hW : w.alloc (.cells #[.int .i64 16, .string ms, .string mt, .int .i64 mn, .int .i64 k, .bool b, .int .i64 n, .string s, .slice AL l.length cL, .slice AK ks.length cK] 41) = W at HX HB HM HV HO
    have p0 := hide (show ∀ W', Below W.heap.size W W' → W'.cell? ⟨w.heap.size, 0, none⟩ = some (.int .i64 16) from fun W' h => blkR (HX.out.below h HX.out.lt) rfl)
    have p1 := hide (show ∀ W', Below W.heap.size W W' → W'.cell? ⟨w.heap.size, 1, none⟩ = some (.string ms) from fun W' h => blkR (HX.out.below h HX.out.lt) rfl)
    have p2 := hide (show ∀ W', Below W.heap.size W W' → W'.cell? ⟨w.heap.size, 2, none⟩ = some (.string mt) from fun W' h => blkR (HX.out.below h HX.out.lt) rfl)
    have p3 := hide (show ∀ W', Below W.heap.size W W' → W'.cell? ⟨w.heap.size, 3, none⟩ = some (.int .i64 mn) from fun W' h => blkR (HX.out.below h HX.out.lt) rfl)
    have p4 := hide (show ∀ W', Below W.heap.size W W' → W'.cell? ⟨w.heap.size, 4, none⟩ = some (.int .i64 k) from fun W' h => blkR (HX.out.below h HX.out.lt) rfl)
    have p5 := hide (show ∀ W', Below W.heap.size W W' → W'.cell? ⟨w.heap.size, 5, none⟩ = some (.bool b) from fun W' h => blkR (HX.out.below h HX.out.lt) rfl)
    have p6 := hide (show ∀ W', Below W.heap.size W W' → W'.cell? ⟨w.heap.size, 6, none⟩ = some (.int .i64 n) from fun W' h => blkR (HX.out.below h HX.out.lt) rfl)
    have p7 := hide (show ∀ W', Below W.heap.size W W' → W'.cell? ⟨w.heap.size, 7, none⟩ = some (.string s) from fun W' h => blkR (HX.out.below h HX.out.lt) rfl)
    have p8 := hide (show ∀ W', Below W.heap.size W W' → W'.cell? ⟨w.heap.size, 8, none⟩ = some (.slice AL l.length cL) from fun W' h => blkR (HX.out.below h HX.out.lt) rfl)
    have p9 := hide (show ∀ W', Below W.heap.size W W' → W'.cell? ⟨w.heap.size, 9, none⟩ = some (.slice AK ks.length cK) from fun W' h => blkR (HX.out.below h HX.out.lt) rfl)
    cases hq : eqM (ownM ⟨16, ms, mt, mn, .mk k b n s l ks⟩) ⟨16, ms, mt, mn, .mk k b n s l ks⟩ with
    | false =>
      have HS := hide (show ∀ W', Below W.heap.size W W' → ∀ ds, IsM W' S (ownM ⟨16, ms, mt, mn, .mk k b n s l ks⟩) ds → Calls Try.prog 23 #[.agg ds, .agg #[.int .i64 16, .string ms, .string mt, .int .i64 mn, .int .i64 k, .bool b, .int .i64 n, .string s, .slice AL l.length cL, .slice AK ks.length cK]] W' (fun e w' => e = .returned (.bool false) ∧ Below W'.heap.size W' w') from fun W' h ds hd => by have := msame_any hd (HM.out.grow h); rw [hq] at this; exact this)
      have HQ := hide hq
      clear hq
      go_enter Try.func44, Try.ntmps44
      go_wp2_with fail
      clear hW
      have q0 : ∀ W', Below W.heap.size W W' → W'.cell? ⟨w.heap.size, 0, none⟩ = some (.int .i64 16) := p0.out
      have q1 : ∀ W', Below W.heap.size W W' → W'.cell? ⟨w.heap.size, 1, none⟩ = some (.string ms) := p1.out
      have q2 : ∀ W', Below W.heap.size W W' → W'.cell? ⟨w.heap.size, 2, none⟩ = some (.string mt) := p2.out
      have q3 : ∀ W', Below W.heap.size W W' → W'.cell? ⟨w.heap.size, 3, none⟩ = some (.int .i64 mn) := p3.out
      have q4 : ∀ W', Below W.heap.size W W' → W'.cell? ⟨w.heap.size, 4, none⟩ = some (.int .i64 k) := p4.out
      have q5 : ∀ W', Below W.heap.size W W' → W'.cell? ⟨w.heap.size, 5, none⟩ = some (.bool b) := p5.out
      have q6 : ∀ W', Below W.heap.size W W' → W'.cell? ⟨w.heap.size, 6, none⟩ = some (.int .i64 n) := p6.out
      have q7 : ∀ W', Below W.heap.size W W' → W'.cell? ⟨w.heap.size, 7, none⟩ = some (.string s) := p7.out
      have q8 : ∀ W', Below W.heap.size W W' → W'.cell? ⟨w.heap.size, 8, none⟩ = some (.slice AL l.length cL) := p8.out
      have q9 : ∀ W', Below W.heap.size W W' → W'.cell? ⟨w.heap.size, 9, none⟩ = some (.slice AK ks.length cK) := p9.out
      go_region_held3 (fun W' => Below W.heap.size W W') (first | exact (Below.refl _ W).drew | (have hx := ‹Below W.heap.size W _›; exact hx.trans (hb5.mono hx.size)) | (have hx := ‹Below W.heap.size W _›; exact hx.trans (hb6.mono hx.size))) (first | (go_at_call 65; refine (HO.out _ (by assumption)).mono ?_; rintro e w5 ⟨ds, rfl, hM5, hb5⟩; obtain ⟨mk5, ms5, mt5, mn5, k5, bb5, n5, s5, AL5, nL5, cL5, AK5, nK5, cK5, rfl⟩ := hM5.ten) | (go_at_call 23; refine (HS.out _ (by assumption) _ (by assumption)).mono ?_; rintro e w6 ⟨rfl, hb6⟩))
      all_goals (
        have hx := ‹Below W.heap.size W _›
        have hB9 := HB.out.trans (hx.mono HB.out.size)
        have HB9 := hide hB9
        have hz : z = false := by rw [← HZ.out]; exact okM_not HQ.out
        have HZ2 := hide hz
        clear hz hB9 q0 q1 q2 q3 q4 q5 q6 q7 q8 q9
        go_wp2
        go_ret
        exact ⟨by rw [HZ2.out]; rfl, HB9.out⟩)
    | true =>
      have HS := hide (show ∀ W', Below W.heap.size W W' → ∀ ds, IsM W' S (ownM ⟨16, ms, mt, mn, .mk k b n s l ks⟩) ds → Calls Try.prog 23 #[.agg ds, .agg #[.int .i64 16, .string ms, .string mt, .int .i64 mn, .int .i64 k, .bool b, .int .i64 n, .string s, .slice AL l.length cL, .slice AK ks.length cK]] W' (fun e w' => e = .returned (.bool true) ∧ Below W'.heap.size W' w') from fun W' h ds hd => by have := msame_any hd (HM.out.grow h); rw [hq] at this; exact this)
      have HQ := hide hq
      clear hq
      go_enter Try.func44, Try.ntmps44
      go_wp2_with fail
      clear hW
      have q0 : ∀ W', Below W.heap.size W W' → W'.cell? ⟨w.heap.size, 0, none⟩ = some (.int .i64 16) := p0.out
      have q1 : ∀ W', Below W.heap.size W W' → W'.cell? ⟨w.heap.size, 1, none⟩ = some (.string ms) := p1.out
      have q2 : ∀ W', Below W.heap.size W W' → W'.cell? ⟨w.heap.size, 2, none⟩ = some (.string mt) := p2.out
      have q3 : ∀ W', Below W.heap.size W W' → W'.cell? ⟨w.heap.size, 3, none⟩ = some (.int .i64 mn) := p3.out
      have q4 : ∀ W', Below W.heap.size W W' → W'.cell? ⟨w.heap.size, 4, none⟩ = some (.int .i64 k) := p4.out
      have q5 : ∀ W', Below W.heap.size W W' → W'.cell? ⟨w.heap.size, 5, none⟩ = some (.bool b) := p5.out
      have q6 : ∀ W', Below W.heap.size W W' → W'.cell? ⟨w.heap.size, 6, none⟩ = some (.int .i64 n) := p6.out
      have q7 : ∀ W', Below W.heap.size W W' → W'.cell? ⟨w.heap.size, 7, none⟩ = some (.string s) := p7.out
      have q8 : ∀ W', Below W.heap.size W W' → W'.cell? ⟨w.heap.size, 8, none⟩ = some (.slice AL l.length cL) := p8.out
      have q9 : ∀ W', Below W.heap.size W W' → W'.cell? ⟨w.heap.size, 9, none⟩ = some (.slice AK ks.length cK) := p9.out
      go_region_held3 (fun W' => Below W.heap.size W W') (first | exact (Below.refl _ W).drew | (have hx := ‹Below W.heap.size W _›; exact hx.trans (hb5.mono hx.size)) | (have hx := ‹Below W.heap.size W _›; exact hx.trans (hb6.mono hx.size))) (first | (go_at_call 65; refine (HO.out _ (by assumption)).mono ?_; rintro e w5 ⟨ds, rfl, hM5, hb5⟩; obtain ⟨mk5, ms5, mt5, mn5, k5, bb5, n5, s5, AL5, nL5, cL5, AK5, nK5, cK5, rfl⟩ := hM5.ten) | (go_at_call 23; refine (HS.out _ (by assumption) _ (by assumption)).mono ?_; rintro e w6 ⟨rfl, hb6⟩))
      all_goals (
        have hx := ‹Below W.heap.size W _›
        have HX9 := hide hx
        have HB9 := hide (HB.out.trans (hx.mono HB.out.size))
        clear q0 q1 q2 q3 q4 q5 q6 q7 q8 q9
        have x0 := p0.out _ hx
        have x1 := p1.out _ hx
        have x2 := p2.out _ hx
        have x3 := p3.out _ hx
        have x4 := p4.out _ hx
        have x5 := p5.out _ hx
        have x6 := p6.out _ hx
        have x7 := p7.out _ hx
        have x8 := p8.out _ hx
        have x9 := p9.out _ hx
        have HV9 := hide (HV.out.grow hx)
        have HC := hide (rMay_any HV9.out)
        have hbr := own_bare ⟨16, ms, mt, mn, .mk k b n s l ks⟩
        rw [HQ.out] at hbr
        have HBR := hide (show bareM ⟨16, ms, mt, mn, .mk k b n s l ks⟩ false false false true = true from by simpa [usM] using hbr.symm)
        clear hbr
        cases hm : mayB (.mk k b n s l ks) with
        | false =>
          rw [hm] at HC
          have Hm := hide hm
          clear hm
          go_wp2_with fail
          refine HC.out.mono ?_
          rintro e w7 ⟨rfl, hb7⟩
          clear HC x0 x1 x2 x3 x4 x5 x6 x7 x8 x9
          have HB7 := hide (HB9.out.trans (hb7.mono HB9.out.size))
          have hx7 := HX9.out.trans (hb7.mono HX9.out.size)
          have x0 := p0.out _ hx7
          have x1 := p1.out _ hx7
          have x2 := p2.out _ hx7
          have x3 := p3.out _ hx7
          have x4 := p4.out _ hx7
          have x5 := p5.out _ hx7
          have x6 := p6.out _ hx7
          have x7 := p7.out _ hx7
          have x8 := p8.out _ hx7
          have x9 := p9.out _ hx7
          clear hb7 hx7
          by_cases c1 : k = 5
          · subst c1
            have hz : z = false := by rw [← HZ.out]; simp [okM, plainB, V.k, HBR.out, Hm.out]
            have HZ2 := hide hz
            clear hz
            go_wp2
            go_ret
            exact ⟨by rw [HZ2.out]; rfl, HB7.out⟩
          · have tc1 : (k == 5) = false := by simp [c1]
            have Hc1 := hide c1
            clear c1
            have hz : z = false := by rw [← HZ.out]; simp [okM, plainB, V.k, HBR.out, Hm.out, Hc1.out]
            have HZ2 := hide hz
            clear hz
            go_wp2
            go_ret
            exact ⟨by rw [HZ2.out]; rfl, HB7.out⟩
        | true =>
          rw [hm] at HC
          have Hm := hide hm
          clear hm
          go_wp2_with fail
          refine HC.out.mono ?_
          rintro e w7 ⟨rfl, hb7⟩
          clear HC x0 x1 x2 x3 x4 x5 x6 x7 x8 x9
          have HB7 := hide (HB9.out.trans (hb7.mono HB9.out.size))
          have hx7 := HX9.out.trans (hb7.mono HX9.out.size)
          have x0 := p0.out _ hx7
          have x1 := p1.out _ hx7
          have x2 := p2.out _ hx7
          have x3 := p3.out _ hx7
          have x4 := p4.out _ hx7
          have x5 := p5.out _ hx7
          have x6 := p6.out _ hx7
          have x7 := p7.out _ hx7
          have x8 := p8.out _ hx7
          have x9 := p9.out _ hx7
          have HP := hide (rplain_any _ (HV9.out.grow hb7))
          rw [mayB_pl Hm.out] at HP
          have HX7 := hide hx7
          clear hb7 hx7
          cases hp : plV (.mk k b n s l ks) with
          | false =>
            rw [hp] at HP
            have Hp := hide hp
            clear hp
            go_wp2_with fail
            refine HP.out.mono ?_
            rintro e w8 ⟨rfl, hb8⟩
            clear HP x0 x1 x2 x3 x4 x5 x6 x7 x8 x9
            have HB8 := hide (HB7.out.trans (hb8.mono HB7.out.size))
            have hx8 := HX7.out.trans (hb8.mono HX7.out.size)
            have x0 := p0.out _ hx8
            have x1 := p1.out _ hx8
            have x2 := p2.out _ hx8
            have x3 := p3.out _ hx8
            have x4 := p4.out _ hx8
            have x5 := p5.out _ hx8
            have x6 := p6.out _ hx8
            have x7 := p7.out _ hx8
            have x8 := p8.out _ hx8
            have x9 := p9.out _ hx8
            clear hb8 hx8
            by_cases c1 : k = 5
            · subst c1
              have hz : z = false := by rw [← HZ.out]; simp [okM, plainB, V.k, HBR.out, Hm.out, Hp.out]
              have HZ2 := hide hz
              clear hz
              go_wp2
              go_ret
              exact ⟨by rw [HZ2.out]; rfl, HB8.out⟩
            · have tc1 : (k == 5) = false := by simp [c1]
              have Hc1 := hide c1
              clear c1
              have hz : z = false := by rw [← HZ.out]; simp [okM, plainB, V.k, HBR.out, Hm.out, Hp.out, Hc1.out]
              have HZ2 := hide hz
              clear hz
              go_wp2
              go_ret
              exact ⟨by rw [HZ2.out]; rfl, HB8.out⟩
          | true =>
            rw [hp] at HP
            have Hp := hide hp
            clear hp
            go_wp2_with fail
            refine HP.out.mono ?_
            rintro e w8 ⟨rfl, hb8⟩
            clear HP x0 x1 x2 x3 x4 x5 x6 x7 x8 x9
            have HB8 := hide (HB7.out.trans (hb8.mono HB7.out.size))
            have hx8 := HX7.out.trans (hb8.mono HX7.out.size)
            have x0 := p0.out _ hx8
            have x1 := p1.out _ hx8
            have x2 := p2.out _ hx8
            have x3 := p3.out _ hx8
            have x4 := p4.out _ hx8
            have x5 := p5.out _ hx8
            have x6 := p6.out _ hx8
            have x7 := p7.out _ hx8
            have x8 := p8.out _ hx8
            have x9 := p9.out _ hx8
            clear hb8 hx8
            by_cases c1 : k = 5
            · subst c1
              have hz : z = true := by rw [← HZ.out]; simp [okM, plainB, V.k, HBR.out, Hm.out, Hp.out]
              have HZ2 := hide hz
              clear hz
              go_wp2
              go_ret
              exact ⟨by rw [HZ2.out]; rfl, HB8.out⟩
            · have tc1 : (k == 5) = false := by simp [c1]
              have Hc1 := hide c1
              clear c1
              have hz : z = false := by rw [← HZ.out]; simp [okM, plainB, V.k, HBR.out, Hm.out, Hp.out, Hc1.out]
              have HZ2 := hide hz
              clear hz
              go_wp2
              go_ret
              exact ⟨by rw [HZ2.out]; rfl, HB8.out⟩)
  · have HO := hide (fun W' (h : Below (w.alloc (.cells #[.int .i64 17, .string ms, .string mt, .int .i64 mn, .int .i64 k, .bool b, .int .i64 n, .string s, .slice AL l.length cL, .slice AK ks.length cK] 41)).heap.size (w.alloc (.cells #[.int .i64 17, .string ms, .string mt, .int .i64 mn, .int .i64 k, .bool b, .int .i64 n, .string s, .slice AL l.length cL, .slice AK ks.length cK] 41)) W') => own_any (HM.out.grow h))
    generalize hW : w.alloc (.cells #[.int .i64 17, .string ms, .string mt, .int .i64 mn, .int .i64 k, .bool b, .int .i64 n, .string s, .slice AL l.length cL, .slice AK ks.length cK] 41) = W at HX HB HM HV HO
    have p0 := hide (show ∀ W', Below W.heap.size W W' → W'.cell? ⟨w.heap.size, 0, none⟩ = some (.int .i64 17) from fun W' h => blkR (HX.out.below h HX.out.lt) rfl)
    have p1 := hide (show ∀ W', Below W.heap.size W W' → W'.cell? ⟨w.heap.size, 1, none⟩ = some (.string ms) from fun W' h => blkR (HX.out.below h HX.out.lt) rfl)
    have p2 := hide (show ∀ W', Below W.heap.size W W' → W'.cell? ⟨w.heap.size, 2, none⟩ = some (.string mt) from fun W' h => blkR (HX.out.below h HX.out.lt) rfl)
    have p3 := hide (show ∀ W', Below W.heap.size W W' → W'.cell? ⟨w.heap.size, 3, none⟩ = some (.int .i64 mn) from fun W' h => blkR (HX.out.below h HX.out.lt) rfl)
    have p4 := hide (show ∀ W', Below W.heap.size W W' → W'.cell? ⟨w.heap.size, 4, none⟩ = some (.int .i64 k) from fun W' h => blkR (HX.out.below h HX.out.lt) rfl)
    have p5 := hide (show ∀ W', Below W.heap.size W W' → W'.cell? ⟨w.heap.size, 5, none⟩ = some (.bool b) from fun W' h => blkR (HX.out.below h HX.out.lt) rfl)
    have p6 := hide (show ∀ W', Below W.heap.size W W' → W'.cell? ⟨w.heap.size, 6, none⟩ = some (.int .i64 n) from fun W' h => blkR (HX.out.below h HX.out.lt) rfl)
    have p7 := hide (show ∀ W', Below W.heap.size W W' → W'.cell? ⟨w.heap.size, 7, none⟩ = some (.string s) from fun W' h => blkR (HX.out.below h HX.out.lt) rfl)
    have p8 := hide (show ∀ W', Below W.heap.size W W' → W'.cell? ⟨w.heap.size, 8, none⟩ = some (.slice AL l.length cL) from fun W' h => blkR (HX.out.below h HX.out.lt) rfl)
    have p9 := hide (show ∀ W', Below W.heap.size W W' → W'.cell? ⟨w.heap.size, 9, none⟩ = some (.slice AK ks.length cK) from fun W' h => blkR (HX.out.below h HX.out.lt) rfl)
    cases hq : eqM (ownM ⟨17, ms, mt, mn, .mk k b n s l ks⟩) ⟨17, ms, mt, mn, .mk k b n s l ks⟩ with
    | false =>
      have HS := hide (show ∀ W', Below W.heap.size W W' → ∀ ds, IsM W' S (ownM ⟨17, ms, mt, mn, .mk k b n s l ks⟩) ds → Calls Try.prog 23 #[.agg ds, .agg #[.int .i64 17, .string ms, .string mt, .int .i64 mn, .int .i64 k, .bool b, .int .i64 n, .string s, .slice AL l.length cL, .slice AK ks.length cK]] W' (fun e w' => e = .returned (.bool false) ∧ Below W'.heap.size W' w') from fun W' h ds hd => by have := msame_any hd (HM.out.grow h); rw [hq] at this; exact this)
      have HQ := hide hq
      clear hq
      go_enter Try.func44, Try.ntmps44
      go_wp2_with fail
      clear hW
      have q0 : ∀ W', Below W.heap.size W W' → W'.cell? ⟨w.heap.size, 0, none⟩ = some (.int .i64 17) := p0.out
      have q1 : ∀ W', Below W.heap.size W W' → W'.cell? ⟨w.heap.size, 1, none⟩ = some (.string ms) := p1.out
      have q2 : ∀ W', Below W.heap.size W W' → W'.cell? ⟨w.heap.size, 2, none⟩ = some (.string mt) := p2.out
      have q3 : ∀ W', Below W.heap.size W W' → W'.cell? ⟨w.heap.size, 3, none⟩ = some (.int .i64 mn) := p3.out
      have q4 : ∀ W', Below W.heap.size W W' → W'.cell? ⟨w.heap.size, 4, none⟩ = some (.int .i64 k) := p4.out
      have q5 : ∀ W', Below W.heap.size W W' → W'.cell? ⟨w.heap.size, 5, none⟩ = some (.bool b) := p5.out
      have q6 : ∀ W', Below W.heap.size W W' → W'.cell? ⟨w.heap.size, 6, none⟩ = some (.int .i64 n) := p6.out
      have q7 : ∀ W', Below W.heap.size W W' → W'.cell? ⟨w.heap.size, 7, none⟩ = some (.string s) := p7.out
      have q8 : ∀ W', Below W.heap.size W W' → W'.cell? ⟨w.heap.size, 8, none⟩ = some (.slice AL l.length cL) := p8.out
      have q9 : ∀ W', Below W.heap.size W W' → W'.cell? ⟨w.heap.size, 9, none⟩ = some (.slice AK ks.length cK) := p9.out
      go_region_held3 (fun W' => Below W.heap.size W W') (first | exact (Below.refl _ W).drew | (have hx := ‹Below W.heap.size W _›; exact hx.trans (hb5.mono hx.size)) | (have hx := ‹Below W.heap.size W _›; exact hx.trans (hb6.mono hx.size))) (first | (go_at_call 65; refine (HO.out _ (by assumption)).mono ?_; rintro e w5 ⟨ds, rfl, hM5, hb5⟩; obtain ⟨mk5, ms5, mt5, mn5, k5, bb5, n5, s5, AL5, nL5, cL5, AK5, nK5, cK5, rfl⟩ := hM5.ten) | (go_at_call 23; refine (HS.out _ (by assumption) _ (by assumption)).mono ?_; rintro e w6 ⟨rfl, hb6⟩))
      all_goals (
        have hx := ‹Below W.heap.size W _›
        have hB9 := HB.out.trans (hx.mono HB.out.size)
        have HB9 := hide hB9
        have hz : z = false := by rw [← HZ.out]; exact okM_not HQ.out
        have HZ2 := hide hz
        clear hz hB9 q0 q1 q2 q3 q4 q5 q6 q7 q8 q9
        go_wp2
        go_ret
        exact ⟨by rw [HZ2.out]; rfl, HB9.out⟩)
    | true =>
      have HS := hide (show ∀ W', Below W.heap.size W W' → ∀ ds, IsM W' S (ownM ⟨17, ms, mt, mn, .mk k b n s l ks⟩) ds → Calls Try.prog 23 #[.agg ds, .agg #[.int .i64 17, .string ms, .string mt, .int .i64 mn, .int .i64 k, .bool b, .int .i64 n, .string s, .slice AL l.length cL, .slice AK ks.length cK]] W' (fun e w' => e = .returned (.bool true) ∧ Below W'.heap.size W' w') from fun W' h ds hd => by have := msame_any hd (HM.out.grow h); rw [hq] at this; exact this)
      have HQ := hide hq
      clear hq
      go_enter Try.func44, Try.ntmps44
      go_wp2_with fail
      clear hW
      have q0 : ∀ W', Below W.heap.size W W' → W'.cell? ⟨w.heap.size, 0, none⟩ = some (.int .i64 17) := p0.out
      have q1 : ∀ W', Below W.heap.size W W' → W'.cell? ⟨w.heap.size, 1, none⟩ = some (.string ms) := p1.out
      have q2 : ∀ W', Below W.heap.size W W' → W'.cell? ⟨w.heap.size, 2, none⟩ = some (.string mt) := p2.out
      have q3 : ∀ W', Below W.heap.size W W' → W'.cell? ⟨w.heap.size, 3, none⟩ = some (.int .i64 mn) := p3.out
      have q4 : ∀ W', Below W.heap.size W W' → W'.cell? ⟨w.heap.size, 4, none⟩ = some (.int .i64 k) := p4.out
      have q5 : ∀ W', Below W.heap.size W W' → W'.cell? ⟨w.heap.size, 5, none⟩ = some (.bool b) := p5.out
      have q6 : ∀ W', Below W.heap.size W W' → W'.cell? ⟨w.heap.size, 6, none⟩ = some (.int .i64 n) := p6.out
      have q7 : ∀ W', Below W.heap.size W W' → W'.cell? ⟨w.heap.size, 7, none⟩ = some (.string s) := p7.out
      have q8 : ∀ W', Below W.heap.size W W' → W'.cell? ⟨w.heap.size, 8, none⟩ = some (.slice AL l.length cL) := p8.out
      have q9 : ∀ W', Below W.heap.size W W' → W'.cell? ⟨w.heap.size, 9, none⟩ = some (.slice AK ks.length cK) := p9.out
      go_region_held3 (fun W' => Below W.heap.size W W') (first | exact (Below.refl _ W).drew | (have hx := ‹Below W.heap.size W _›; exact hx.trans (hb5.mono hx.size)) | (have hx := ‹Below W.heap.size W _›; exact hx.trans (hb6.mono hx.size))) (first | (go_at_call 65; refine (HO.out _ (by assumption)).mono ?_; rintro e w5 ⟨ds, rfl, hM5, hb5⟩; obtain ⟨mk5, ms5, mt5, mn5, k5, bb5, n5, s5, AL5, nL5, cL5, AK5, nK5, cK5, rfl⟩ := hM5.ten) | (go_at_call 23; refine (HS.out _ (by assumption) _ (by assumption)).mono ?_; rintro e w6 ⟨rfl, hb6⟩))
      all_goals (
        have hx := ‹Below W.heap.size W _›
        have HX9 := hide hx
        have HB9 := hide (HB.out.trans (hx.mono HB.out.size))
        clear q0 q1 q2 q3 q4 q5 q6 q7 q8 q9
        have x0 := p0.out _ hx
        have x1 := p1.out _ hx
        have x2 := p2.out _ hx
        have x3 := p3.out _ hx
        have x4 := p4.out _ hx
        have x5 := p5.out _ hx
        have x6 := p6.out _ hx
        have x7 := p7.out _ hx
        have x8 := p8.out _ hx
        have x9 := p9.out _ hx
        have HV9 := hide (HV.out.grow hx)
        have HC := hide (rMay_any HV9.out)
        have hbr := own_bare ⟨17, ms, mt, mn, .mk k b n s l ks⟩
        rw [HQ.out] at hbr
        have HBR := hide (show bareM ⟨17, ms, mt, mn, .mk k b n s l ks⟩ false false false true = true from by simpa [usM] using hbr.symm)
        clear hbr
        cases hm : mayB (.mk k b n s l ks) with
        | false =>
          rw [hm] at HC
          have Hm := hide hm
          clear hm
          go_wp2_with fail
          refine HC.out.mono ?_
          rintro e w7 ⟨rfl, hb7⟩
          clear HC x0 x1 x2 x3 x4 x5 x6 x7 x8 x9
          have HB7 := hide (HB9.out.trans (hb7.mono HB9.out.size))
          have hx7 := HX9.out.trans (hb7.mono HX9.out.size)
          have x0 := p0.out _ hx7
          have x1 := p1.out _ hx7
          have x2 := p2.out _ hx7
          have x3 := p3.out _ hx7
          have x4 := p4.out _ hx7
          have x5 := p5.out _ hx7
          have x6 := p6.out _ hx7
          have x7 := p7.out _ hx7
          have x8 := p8.out _ hx7
          have x9 := p9.out _ hx7
          clear hb7 hx7
          by_cases c1 : k = 4
          · subst c1
            have hz : z = false := by rw [← HZ.out]; simp [okM, plainB, V.k, HBR.out, Hm.out]
            have HZ2 := hide hz
            clear hz
            go_wp2
            go_ret
            exact ⟨by rw [HZ2.out]; rfl, HB7.out⟩
          · have tc1 : (k == 4) = false := by simp [c1]
            have Hc1 := hide c1
            clear c1
            have hz : z = false := by rw [← HZ.out]; simp [okM, plainB, V.k, HBR.out, Hm.out, Hc1.out]
            have HZ2 := hide hz
            clear hz
            go_wp2
            go_ret
            exact ⟨by rw [HZ2.out]; rfl, HB7.out⟩
        | true =>
          rw [hm] at HC
          have Hm := hide hm
          clear hm
          go_wp2_with fail
          refine HC.out.mono ?_
          rintro e w7 ⟨rfl, hb7⟩
          clear HC x0 x1 x2 x3 x4 x5 x6 x7 x8 x9
          have HB7 := hide (HB9.out.trans (hb7.mono HB9.out.size))
          have hx7 := HX9.out.trans (hb7.mono HX9.out.size)
          have x0 := p0.out _ hx7
          have x1 := p1.out _ hx7
          have x2 := p2.out _ hx7
          have x3 := p3.out _ hx7
          have x4 := p4.out _ hx7
          have x5 := p5.out _ hx7
          have x6 := p6.out _ hx7
          have x7 := p7.out _ hx7
          have x8 := p8.out _ hx7
          have x9 := p9.out _ hx7
          have HP := hide (rplain_any _ (HV9.out.grow hb7))
          rw [mayB_pl Hm.out] at HP
          have HX7 := hide hx7
          clear hb7 hx7
          cases hp : plV (.mk k b n s l ks) with
          | false =>
            rw [hp] at HP
            have Hp := hide hp
            clear hp
            go_wp2_with fail
            refine HP.out.mono ?_
            rintro e w8 ⟨rfl, hb8⟩
            clear HP x0 x1 x2 x3 x4 x5 x6 x7 x8 x9
            have HB8 := hide (HB7.out.trans (hb8.mono HB7.out.size))
            have hx8 := HX7.out.trans (hb8.mono HX7.out.size)
            have x0 := p0.out _ hx8
            have x1 := p1.out _ hx8
            have x2 := p2.out _ hx8
            have x3 := p3.out _ hx8
            have x4 := p4.out _ hx8
            have x5 := p5.out _ hx8
            have x6 := p6.out _ hx8
            have x7 := p7.out _ hx8
            have x8 := p8.out _ hx8
            have x9 := p9.out _ hx8
            clear hb8 hx8
            by_cases c1 : k = 4
            · subst c1
              have hz : z = false := by rw [← HZ.out]; simp [okM, plainB, V.k, HBR.out, Hm.out, Hp.out]
              have HZ2 := hide hz
              clear hz
              go_wp2
              go_ret
              exact ⟨by rw [HZ2.out]; rfl, HB8.out⟩
            · have tc1 : (k == 4) = false := by simp [c1]
              have Hc1 := hide c1
              clear c1
              have hz : z = false := by rw [← HZ.out]; simp [okM, plainB, V.k, HBR.out, Hm.out, Hp.out, Hc1.out]
              have HZ2 := hide hz
              clear hz
              go_wp2
              go_ret
              exact ⟨by rw [HZ2.out]; rfl, HB8.out⟩
          | true =>
            rw [hp] at HP
            have Hp := hide hp
            clear hp
            go_wp2_with fail
            refine HP.out.mono ?_
            rintro e w8 ⟨rfl, hb8⟩
            clear HP x0 x1 x2 x3 x4 x5 x6 x7 x8 x9
            have HB8 := hide (HB7.out.trans (hb8.mono HB7.out.size))
            have hx8 := HX7.out.trans (hb8.mono HX7.out.size)
            have x0 := p0.out _ hx8
            have x1 := p1.out _ hx8
            have x2 := p2.out _ hx8
            have x3 := p3.out _ hx8
            have x4 := p4.out _ hx8
            have x5 := p5.out _ hx8
            have x6 := p6.out _ hx8
            have x7 := p7.out _ hx8
            have x8 := p8.out _ hx8
            have x9 := p9.out _ hx8
            clear hb8 hx8
            by_cases c1 : k = 4
            · subst c1
              have hz : z = true := by rw [← HZ.out]; simp [okM, plainB, V.k, HBR.out, Hm.out, Hp.out]
              have HZ2 := hide hz
              clear hz
              go_wp2
              go_ret
              exact ⟨by rw [HZ2.out]; rfl, HB8.out⟩
            · have tc1 : (k == 4) = false := by simp [c1]
              have Hc1 := hide c1
              clear c1
              have hz : z = false := by rw [← HZ.out]; simp [okM, plainB, V.k, HBR.out, Hm.out, Hp.out, Hc1.out]
              have HZ2 := hide hz
              clear hz
              go_wp2
              go_ret
              exact ⟨by rw [HZ2.out]; rfl, HB8.out⟩)
  · have HKN := hide (show knownK 2 = true by decide)
    have HO := hide (fun W' (h : Below (w.alloc (.cells #[.int .i64 2, .string ms, .string mt, .int .i64 mn, .int .i64 k, .bool b, .int .i64 n, .string s, .slice AL l.length cL, .slice AK ks.length cK] 41)).heap.size (w.alloc (.cells #[.int .i64 2, .string ms, .string mt, .int .i64 mn, .int .i64 k, .bool b, .int .i64 n, .string s, .slice AL l.length cL, .slice AK ks.length cK] 41)) W') => own_any (HM.out.grow h))
    generalize hW : w.alloc (.cells #[.int .i64 2, .string ms, .string mt, .int .i64 mn, .int .i64 k, .bool b, .int .i64 n, .string s, .slice AL l.length cL, .slice AK ks.length cK] 41) = W at HX HB HM HV HO
    have p0 := hide (show ∀ W', Below W.heap.size W W' → W'.cell? ⟨w.heap.size, 0, none⟩ = some (.int .i64 2) from fun W' h => blkR (HX.out.below h HX.out.lt) rfl)
    have p1 := hide (show ∀ W', Below W.heap.size W W' → W'.cell? ⟨w.heap.size, 1, none⟩ = some (.string ms) from fun W' h => blkR (HX.out.below h HX.out.lt) rfl)
    have p2 := hide (show ∀ W', Below W.heap.size W W' → W'.cell? ⟨w.heap.size, 2, none⟩ = some (.string mt) from fun W' h => blkR (HX.out.below h HX.out.lt) rfl)
    have p3 := hide (show ∀ W', Below W.heap.size W W' → W'.cell? ⟨w.heap.size, 3, none⟩ = some (.int .i64 mn) from fun W' h => blkR (HX.out.below h HX.out.lt) rfl)
    have p4 := hide (show ∀ W', Below W.heap.size W W' → W'.cell? ⟨w.heap.size, 4, none⟩ = some (.int .i64 k) from fun W' h => blkR (HX.out.below h HX.out.lt) rfl)
    have p5 := hide (show ∀ W', Below W.heap.size W W' → W'.cell? ⟨w.heap.size, 5, none⟩ = some (.bool b) from fun W' h => blkR (HX.out.below h HX.out.lt) rfl)
    have p6 := hide (show ∀ W', Below W.heap.size W W' → W'.cell? ⟨w.heap.size, 6, none⟩ = some (.int .i64 n) from fun W' h => blkR (HX.out.below h HX.out.lt) rfl)
    have p7 := hide (show ∀ W', Below W.heap.size W W' → W'.cell? ⟨w.heap.size, 7, none⟩ = some (.string s) from fun W' h => blkR (HX.out.below h HX.out.lt) rfl)
    have p8 := hide (show ∀ W', Below W.heap.size W W' → W'.cell? ⟨w.heap.size, 8, none⟩ = some (.slice AL l.length cL) from fun W' h => blkR (HX.out.below h HX.out.lt) rfl)
    have p9 := hide (show ∀ W', Below W.heap.size W W' → W'.cell? ⟨w.heap.size, 9, none⟩ = some (.slice AK ks.length cK) from fun W' h => blkR (HX.out.below h HX.out.lt) rfl)
    cases hq : eqM (ownM ⟨2, ms, mt, mn, .mk k b n s l ks⟩) ⟨2, ms, mt, mn, .mk k b n s l ks⟩ with
    | false =>
      have HS := hide (show ∀ W', Below W.heap.size W W' → ∀ ds, IsM W' S (ownM ⟨2, ms, mt, mn, .mk k b n s l ks⟩) ds → Calls Try.prog 23 #[.agg ds, .agg #[.int .i64 2, .string ms, .string mt, .int .i64 mn, .int .i64 k, .bool b, .int .i64 n, .string s, .slice AL l.length cL, .slice AK ks.length cK]] W' (fun e w' => e = .returned (.bool false) ∧ Below W'.heap.size W' w') from fun W' h ds hd => by have := msame_any hd (HM.out.grow h); rw [hq] at this; exact this)
      have HQ := hide hq
      clear hq
      go_enter Try.func44, Try.ntmps44
      go_wp2_with fail
      clear hW
      have q0 : ∀ W', Below W.heap.size W W' → W'.cell? ⟨w.heap.size, 0, none⟩ = some (.int .i64 2) := p0.out
      have q1 : ∀ W', Below W.heap.size W W' → W'.cell? ⟨w.heap.size, 1, none⟩ = some (.string ms) := p1.out
      have q2 : ∀ W', Below W.heap.size W W' → W'.cell? ⟨w.heap.size, 2, none⟩ = some (.string mt) := p2.out
      have q3 : ∀ W', Below W.heap.size W W' → W'.cell? ⟨w.heap.size, 3, none⟩ = some (.int .i64 mn) := p3.out
      have q4 : ∀ W', Below W.heap.size W W' → W'.cell? ⟨w.heap.size, 4, none⟩ = some (.int .i64 k) := p4.out
      have q5 : ∀ W', Below W.heap.size W W' → W'.cell? ⟨w.heap.size, 5, none⟩ = some (.bool b) := p5.out
      have q6 : ∀ W', Below W.heap.size W W' → W'.cell? ⟨w.heap.size, 6, none⟩ = some (.int .i64 n) := p6.out
      have q7 : ∀ W', Below W.heap.size W W' → W'.cell? ⟨w.heap.size, 7, none⟩ = some (.string s) := p7.out
      have q8 : ∀ W', Below W.heap.size W W' → W'.cell? ⟨w.heap.size, 8, none⟩ = some (.slice AL l.length cL) := p8.out
      have q9 : ∀ W', Below W.heap.size W W' → W'.cell? ⟨w.heap.size, 9, none⟩ = some (.slice AK ks.length cK) := p9.out
      go_region_held3 (fun W' => Below W.heap.size W W') (first | exact (Below.refl _ W).drew | (have hx := ‹Below W.heap.size W _›; exact hx.trans (hb5.mono hx.size)) | (have hx := ‹Below W.heap.size W _›; exact hx.trans (hb6.mono hx.size))) (first | (go_at_call 65; refine (HO.out _ (by assumption)).mono ?_; rintro e w5 ⟨ds, rfl, hM5, hb5⟩; obtain ⟨mk5, ms5, mt5, mn5, k5, bb5, n5, s5, AL5, nL5, cL5, AK5, nK5, cK5, rfl⟩ := hM5.ten) | (go_at_call 23; refine (HS.out _ (by assumption) _ (by assumption)).mono ?_; rintro e w6 ⟨rfl, hb6⟩))
      all_goals (
        have hx := ‹Below W.heap.size W _›
        have hB9 := HB.out.trans (hx.mono HB.out.size)
        have HB9 := hide hB9
        have hz : z = false := by rw [← HZ.out]; exact okM_not HQ.out
        have HZ2 := hide hz
        clear hz hB9 q0 q1 q2 q3 q4 q5 q6 q7 q8 q9
        go_wp2
        go_ret
        exact ⟨by rw [HZ2.out]; rfl, HB9.out⟩)
    | true =>
      have HS := hide (show ∀ W', Below W.heap.size W W' → ∀ ds, IsM W' S (ownM ⟨2, ms, mt, mn, .mk k b n s l ks⟩) ds → Calls Try.prog 23 #[.agg ds, .agg #[.int .i64 2, .string ms, .string mt, .int .i64 mn, .int .i64 k, .bool b, .int .i64 n, .string s, .slice AL l.length cL, .slice AK ks.length cK]] W' (fun e w' => e = .returned (.bool true) ∧ Below W'.heap.size W' w') from fun W' h ds hd => by have := msame_any hd (HM.out.grow h); rw [hq] at this; exact this)
      have HQ := hide hq
      clear hq
      go_enter Try.func44, Try.ntmps44
      go_wp2_with fail
      clear hW
      have q0 : ∀ W', Below W.heap.size W W' → W'.cell? ⟨w.heap.size, 0, none⟩ = some (.int .i64 2) := p0.out
      have q1 : ∀ W', Below W.heap.size W W' → W'.cell? ⟨w.heap.size, 1, none⟩ = some (.string ms) := p1.out
      have q2 : ∀ W', Below W.heap.size W W' → W'.cell? ⟨w.heap.size, 2, none⟩ = some (.string mt) := p2.out
      have q3 : ∀ W', Below W.heap.size W W' → W'.cell? ⟨w.heap.size, 3, none⟩ = some (.int .i64 mn) := p3.out
      have q4 : ∀ W', Below W.heap.size W W' → W'.cell? ⟨w.heap.size, 4, none⟩ = some (.int .i64 k) := p4.out
      have q5 : ∀ W', Below W.heap.size W W' → W'.cell? ⟨w.heap.size, 5, none⟩ = some (.bool b) := p5.out
      have q6 : ∀ W', Below W.heap.size W W' → W'.cell? ⟨w.heap.size, 6, none⟩ = some (.int .i64 n) := p6.out
      have q7 : ∀ W', Below W.heap.size W W' → W'.cell? ⟨w.heap.size, 7, none⟩ = some (.string s) := p7.out
      have q8 : ∀ W', Below W.heap.size W W' → W'.cell? ⟨w.heap.size, 8, none⟩ = some (.slice AL l.length cL) := p8.out
      have q9 : ∀ W', Below W.heap.size W W' → W'.cell? ⟨w.heap.size, 9, none⟩ = some (.slice AK ks.length cK) := p9.out
      go_region_held3 (fun W' => Below W.heap.size W W') (first | exact (Below.refl _ W).drew | (have hx := ‹Below W.heap.size W _›; exact hx.trans (hb5.mono hx.size)) | (have hx := ‹Below W.heap.size W _›; exact hx.trans (hb6.mono hx.size))) (first | (go_at_call 65; refine (HO.out _ (by assumption)).mono ?_; rintro e w5 ⟨ds, rfl, hM5, hb5⟩; obtain ⟨mk5, ms5, mt5, mn5, k5, bb5, n5, s5, AL5, nL5, cL5, AK5, nK5, cK5, rfl⟩ := hM5.ten) | (go_at_call 23; refine (HS.out _ (by assumption) _ (by assumption)).mono ?_; rintro e w6 ⟨rfl, hb6⟩))
      all_goals (
        have hx := ‹Below W.heap.size W _›
        have HX9 := hide hx
        have HB9 := hide (HB.out.trans (hx.mono HB.out.size))
        clear q0 q1 q2 q3 q4 q5 q6 q7 q8 q9
        have x0 := p0.out _ hx
        have x1 := p1.out _ hx
        have x2 := p2.out _ hx
        have x3 := p3.out _ hx
        have x4 := p4.out _ hx
        have x5 := p5.out _ hx
        have x6 := p6.out _ hx
        have x7 := p7.out _ hx
        have x8 := p8.out _ hx
        have x9 := p9.out _ hx
        have HV9 := hide (HV.out.grow hx)
        have HC := hide (rMay_any HV9.out)
        have hbr := own_bare ⟨2, ms, mt, mn, .mk k b n s l ks⟩
        rw [HQ.out] at hbr
        have HBR := hide (show bareM ⟨2, ms, mt, mn, .mk k b n s l ks⟩ false false false false = true from by simpa [usM] using hbr.symm)
        clear hbr
        cases hm : mayB (.mk k b n s l ks) with
        | false =>
          rw [hm] at HC
          have Hm := hide hm
          clear hm
          go_wp2_with fail
          refine HC.out.mono ?_
          rintro e w7 ⟨rfl, hb7⟩
          clear HC x0 x1 x2 x3 x4 x5 x6 x7 x8 x9
          have HB7 := hide (HB9.out.trans (hb7.mono HB9.out.size))
          have hx7 := HX9.out.trans (hb7.mono HX9.out.size)
          have x0 := p0.out _ hx7
          have x1 := p1.out _ hx7
          have x2 := p2.out _ hx7
          have x3 := p3.out _ hx7
          have x4 := p4.out _ hx7
          have x5 := p5.out _ hx7
          have x6 := p6.out _ hx7
          have x7 := p7.out _ hx7
          have x8 := p8.out _ hx7
          have x9 := p9.out _ hx7
          clear hb7 hx7
          have hz : z = true := by rw [← HZ.out]; simp [okM, plainB, V.k, HBR.out, HKN.out, Hm.out]
          have HZ2 := hide hz
          clear hz
          go_wp2
          go_ret
          exact ⟨by rw [HZ2.out]; rfl, HB7.out⟩
        | true =>
          rw [hm] at HC
          have Hm := hide hm
          clear hm
          go_wp2_with fail
          refine HC.out.mono ?_
          rintro e w7 ⟨rfl, hb7⟩
          clear HC x0 x1 x2 x3 x4 x5 x6 x7 x8 x9
          have HB7 := hide (HB9.out.trans (hb7.mono HB9.out.size))
          have hx7 := HX9.out.trans (hb7.mono HX9.out.size)
          have x0 := p0.out _ hx7
          have x1 := p1.out _ hx7
          have x2 := p2.out _ hx7
          have x3 := p3.out _ hx7
          have x4 := p4.out _ hx7
          have x5 := p5.out _ hx7
          have x6 := p6.out _ hx7
          have x7 := p7.out _ hx7
          have x8 := p8.out _ hx7
          have x9 := p9.out _ hx7
          have HP := hide (rplain_any _ (HV9.out.grow hb7))
          rw [mayB_pl Hm.out] at HP
          have HX7 := hide hx7
          clear hb7 hx7
          cases hp : plV (.mk k b n s l ks) with
          | false =>
            rw [hp] at HP
            have Hp := hide hp
            clear hp
            go_wp2_with fail
            refine HP.out.mono ?_
            rintro e w8 ⟨rfl, hb8⟩
            clear HP x0 x1 x2 x3 x4 x5 x6 x7 x8 x9
            have HB8 := hide (HB7.out.trans (hb8.mono HB7.out.size))
            have hx8 := HX7.out.trans (hb8.mono HX7.out.size)
            have x0 := p0.out _ hx8
            have x1 := p1.out _ hx8
            have x2 := p2.out _ hx8
            have x3 := p3.out _ hx8
            have x4 := p4.out _ hx8
            have x5 := p5.out _ hx8
            have x6 := p6.out _ hx8
            have x7 := p7.out _ hx8
            have x8 := p8.out _ hx8
            have x9 := p9.out _ hx8
            clear hb8 hx8
            have hz : z = true := by rw [← HZ.out]; simp [okM, plainB, V.k, HBR.out, HKN.out, Hm.out, Hp.out]
            have HZ2 := hide hz
            clear hz
            go_wp2
            go_ret
            exact ⟨by rw [HZ2.out]; rfl, HB8.out⟩
          | true =>
            rw [hp] at HP
            have Hp := hide hp
            clear hp
            go_wp2_with fail
            refine HP.out.mono ?_
            rintro e w8 ⟨rfl, hb8⟩
            clear HP x0 x1 x2 x3 x4 x5 x6 x7 x8 x9
            have HB8 := hide (HB7.out.trans (hb8.mono HB7.out.size))
            have hx8 := HX7.out.trans (hb8.mono HX7.out.size)
            have x0 := p0.out _ hx8
            have x1 := p1.out _ hx8
            have x2 := p2.out _ hx8
            have x3 := p3.out _ hx8
            have x4 := p4.out _ hx8
            have x5 := p5.out _ hx8
            have x6 := p6.out _ hx8
            have x7 := p7.out _ hx8
            have x8 := p8.out _ hx8
            have x9 := p9.out _ hx8
            clear hb8 hx8
            have hz : z = true := by rw [← HZ.out]; simp [okM, plainB, V.k, HBR.out, HKN.out, Hm.out, Hp.out]
            have HZ2 := hide hz
            clear hz
            go_wp2
            go_ret
            exact ⟨by rw [HZ2.out]; rfl, HB8.out⟩)
  · have HKN := hide (show knownK 5 = true by decide)
    have HO := hide (fun W' (h : Below (w.alloc (.cells #[.int .i64 5, .string ms, .string mt, .int .i64 mn, .int .i64 k, .bool b, .int .i64 n, .string s, .slice AL l.length cL, .slice AK ks.length cK] 41)).heap.size (w.alloc (.cells #[.int .i64 5, .string ms, .string mt, .int .i64 mn, .int .i64 k, .bool b, .int .i64 n, .string s, .slice AL l.length cL, .slice AK ks.length cK] 41)) W') => own_any (HM.out.grow h))
    generalize hW : w.alloc (.cells #[.int .i64 5, .string ms, .string mt, .int .i64 mn, .int .i64 k, .bool b, .int .i64 n, .string s, .slice AL l.length cL, .slice AK ks.length cK] 41) = W at HX HB HM HV HO
    have p0 := hide (show ∀ W', Below W.heap.size W W' → W'.cell? ⟨w.heap.size, 0, none⟩ = some (.int .i64 5) from fun W' h => blkR (HX.out.below h HX.out.lt) rfl)
    have p1 := hide (show ∀ W', Below W.heap.size W W' → W'.cell? ⟨w.heap.size, 1, none⟩ = some (.string ms) from fun W' h => blkR (HX.out.below h HX.out.lt) rfl)
    have p2 := hide (show ∀ W', Below W.heap.size W W' → W'.cell? ⟨w.heap.size, 2, none⟩ = some (.string mt) from fun W' h => blkR (HX.out.below h HX.out.lt) rfl)
    have p3 := hide (show ∀ W', Below W.heap.size W W' → W'.cell? ⟨w.heap.size, 3, none⟩ = some (.int .i64 mn) from fun W' h => blkR (HX.out.below h HX.out.lt) rfl)
    have p4 := hide (show ∀ W', Below W.heap.size W W' → W'.cell? ⟨w.heap.size, 4, none⟩ = some (.int .i64 k) from fun W' h => blkR (HX.out.below h HX.out.lt) rfl)
    have p5 := hide (show ∀ W', Below W.heap.size W W' → W'.cell? ⟨w.heap.size, 5, none⟩ = some (.bool b) from fun W' h => blkR (HX.out.below h HX.out.lt) rfl)
    have p6 := hide (show ∀ W', Below W.heap.size W W' → W'.cell? ⟨w.heap.size, 6, none⟩ = some (.int .i64 n) from fun W' h => blkR (HX.out.below h HX.out.lt) rfl)
    have p7 := hide (show ∀ W', Below W.heap.size W W' → W'.cell? ⟨w.heap.size, 7, none⟩ = some (.string s) from fun W' h => blkR (HX.out.below h HX.out.lt) rfl)
    have p8 := hide (show ∀ W', Below W.heap.size W W' → W'.cell? ⟨w.heap.size, 8, none⟩ = some (.slice AL l.length cL) from fun W' h => blkR (HX.out.below h HX.out.lt) rfl)
    have p9 := hide (show ∀ W', Below W.heap.size W W' → W'.cell? ⟨w.heap.size, 9, none⟩ = some (.slice AK ks.length cK) from fun W' h => blkR (HX.out.below h HX.out.lt) rfl)
    cases hq : eqM (ownM ⟨5, ms, mt, mn, .mk k b n s l ks⟩) ⟨5, ms, mt, mn, .mk k b n s l ks⟩ with
    | false =>
      have HS := hide (show ∀ W', Below W.heap.size W W' → ∀ ds, IsM W' S (ownM ⟨5, ms, mt, mn, .mk k b n s l ks⟩) ds → Calls Try.prog 23 #[.agg ds, .agg #[.int .i64 5, .string ms, .string mt, .int .i64 mn, .int .i64 k, .bool b, .int .i64 n, .string s, .slice AL l.length cL, .slice AK ks.length cK]] W' (fun e w' => e = .returned (.bool false) ∧ Below W'.heap.size W' w') from fun W' h ds hd => by have := msame_any hd (HM.out.grow h); rw [hq] at this; exact this)
      have HQ := hide hq
      clear hq
      go_enter Try.func44, Try.ntmps44
      go_wp2_with fail
      clear hW
      have q0 : ∀ W', Below W.heap.size W W' → W'.cell? ⟨w.heap.size, 0, none⟩ = some (.int .i64 5) := p0.out
      have q1 : ∀ W', Below W.heap.size W W' → W'.cell? ⟨w.heap.size, 1, none⟩ = some (.string ms) := p1.out
      have q2 : ∀ W', Below W.heap.size W W' → W'.cell? ⟨w.heap.size, 2, none⟩ = some (.string mt) := p2.out
      have q3 : ∀ W', Below W.heap.size W W' → W'.cell? ⟨w.heap.size, 3, none⟩ = some (.int .i64 mn) := p3.out
      have q4 : ∀ W', Below W.heap.size W W' → W'.cell? ⟨w.heap.size, 4, none⟩ = some (.int .i64 k) := p4.out
      have q5 : ∀ W', Below W.heap.size W W' → W'.cell? ⟨w.heap.size, 5, none⟩ = some (.bool b) := p5.out
      have q6 : ∀ W', Below W.heap.size W W' → W'.cell? ⟨w.heap.size, 6, none⟩ = some (.int .i64 n) := p6.out
      have q7 : ∀ W', Below W.heap.size W W' → W'.cell? ⟨w.heap.size, 7, none⟩ = some (.string s) := p7.out
      have q8 : ∀ W', Below W.heap.size W W' → W'.cell? ⟨w.heap.size, 8, none⟩ = some (.slice AL l.length cL) := p8.out
      have q9 : ∀ W', Below W.heap.size W W' → W'.cell? ⟨w.heap.size, 9, none⟩ = some (.slice AK ks.length cK) := p9.out
      go_region_held3 (fun W' => Below W.heap.size W W') (first | exact (Below.refl _ W).drew | (have hx := ‹Below W.heap.size W _›; exact hx.trans (hb5.mono hx.size)) | (have hx := ‹Below W.heap.size W _›; exact hx.trans (hb6.mono hx.size))) (first | (go_at_call 65; refine (HO.out _ (by assumption)).mono ?_; rintro e w5 ⟨ds, rfl, hM5, hb5⟩; obtain ⟨mk5, ms5, mt5, mn5, k5, bb5, n5, s5, AL5, nL5, cL5, AK5, nK5, cK5, rfl⟩ := hM5.ten) | (go_at_call 23; refine (HS.out _ (by assumption) _ (by assumption)).mono ?_; rintro e w6 ⟨rfl, hb6⟩))
      all_goals (
        have hx := ‹Below W.heap.size W _›
        have hB9 := HB.out.trans (hx.mono HB.out.size)
        have HB9 := hide hB9
        have hz : z = false := by rw [← HZ.out]; exact okM_not HQ.out
        have HZ2 := hide hz
        clear hz hB9 q0 q1 q2 q3 q4 q5 q6 q7 q8 q9
        go_wp2
        go_ret
        exact ⟨by rw [HZ2.out]; rfl, HB9.out⟩)
    | true =>
      have HS := hide (show ∀ W', Below W.heap.size W W' → ∀ ds, IsM W' S (ownM ⟨5, ms, mt, mn, .mk k b n s l ks⟩) ds → Calls Try.prog 23 #[.agg ds, .agg #[.int .i64 5, .string ms, .string mt, .int .i64 mn, .int .i64 k, .bool b, .int .i64 n, .string s, .slice AL l.length cL, .slice AK ks.length cK]] W' (fun e w' => e = .returned (.bool true) ∧ Below W'.heap.size W' w') from fun W' h ds hd => by have := msame_any hd (HM.out.grow h); rw [hq] at this; exact this)
      have HQ := hide hq
      clear hq
      go_enter Try.func44, Try.ntmps44
      go_wp2_with fail
      clear hW
      have q0 : ∀ W', Below W.heap.size W W' → W'.cell? ⟨w.heap.size, 0, none⟩ = some (.int .i64 5) := p0.out
      have q1 : ∀ W', Below W.heap.size W W' → W'.cell? ⟨w.heap.size, 1, none⟩ = some (.string ms) := p1.out
      have q2 : ∀ W', Below W.heap.size W W' → W'.cell? ⟨w.heap.size, 2, none⟩ = some (.string mt) := p2.out
      have q3 : ∀ W', Below W.heap.size W W' → W'.cell? ⟨w.heap.size, 3, none⟩ = some (.int .i64 mn) := p3.out
      have q4 : ∀ W', Below W.heap.size W W' → W'.cell? ⟨w.heap.size, 4, none⟩ = some (.int .i64 k) := p4.out
      have q5 : ∀ W', Below W.heap.size W W' → W'.cell? ⟨w.heap.size, 5, none⟩ = some (.bool b) := p5.out
      have q6 : ∀ W', Below W.heap.size W W' → W'.cell? ⟨w.heap.size, 6, none⟩ = some (.int .i64 n) := p6.out
      have q7 : ∀ W', Below W.heap.size W W' → W'.cell? ⟨w.heap.size, 7, none⟩ = some (.string s) := p7.out
      have q8 : ∀ W', Below W.heap.size W W' → W'.cell? ⟨w.heap.size, 8, none⟩ = some (.slice AL l.length cL) := p8.out
      have q9 : ∀ W', Below W.heap.size W W' → W'.cell? ⟨w.heap.size, 9, none⟩ = some (.slice AK ks.length cK) := p9.out
      go_region_held3 (fun W' => Below W.heap.size W W') (first | exact (Below.refl _ W).drew | (have hx := ‹Below W.heap.size W _›; exact hx.trans (hb5.mono hx.size)) | (have hx := ‹Below W.heap.size W _›; exact hx.trans (hb6.mono hx.size))) (first | (go_at_call 65; refine (HO.out _ (by assumption)).mono ?_; rintro e w5 ⟨ds, rfl, hM5, hb5⟩; obtain ⟨mk5, ms5, mt5, mn5, k5, bb5, n5, s5, AL5, nL5, cL5, AK5, nK5, cK5, rfl⟩ := hM5.ten) | (go_at_call 23; refine (HS.out _ (by assumption) _ (by assumption)).mono ?_; rintro e w6 ⟨rfl, hb6⟩))
      all_goals (
        have hx := ‹Below W.heap.size W _›
        have HX9 := hide hx
        have HB9 := hide (HB.out.trans (hx.mono HB.out.size))
        clear q0 q1 q2 q3 q4 q5 q6 q7 q8 q9
        have x0 := p0.out _ hx
        have x1 := p1.out _ hx
        have x2 := p2.out _ hx
        have x3 := p3.out _ hx
        have x4 := p4.out _ hx
        have x5 := p5.out _ hx
        have x6 := p6.out _ hx
        have x7 := p7.out _ hx
        have x8 := p8.out _ hx
        have x9 := p9.out _ hx
        have HV9 := hide (HV.out.grow hx)
        have HC := hide (rMay_any HV9.out)
        have hbr := own_bare ⟨5, ms, mt, mn, .mk k b n s l ks⟩
        rw [HQ.out] at hbr
        have HBR := hide (show bareM ⟨5, ms, mt, mn, .mk k b n s l ks⟩ false false false false = true from by simpa [usM] using hbr.symm)
        clear hbr
        cases hm : mayB (.mk k b n s l ks) with
        | false =>
          rw [hm] at HC
          have Hm := hide hm
          clear hm
          go_wp2_with fail
          refine HC.out.mono ?_
          rintro e w7 ⟨rfl, hb7⟩
          clear HC x0 x1 x2 x3 x4 x5 x6 x7 x8 x9
          have HB7 := hide (HB9.out.trans (hb7.mono HB9.out.size))
          have hx7 := HX9.out.trans (hb7.mono HX9.out.size)
          have x0 := p0.out _ hx7
          have x1 := p1.out _ hx7
          have x2 := p2.out _ hx7
          have x3 := p3.out _ hx7
          have x4 := p4.out _ hx7
          have x5 := p5.out _ hx7
          have x6 := p6.out _ hx7
          have x7 := p7.out _ hx7
          have x8 := p8.out _ hx7
          have x9 := p9.out _ hx7
          clear hb7 hx7
          have hz : z = true := by rw [← HZ.out]; simp [okM, plainB, V.k, HBR.out, HKN.out, Hm.out]
          have HZ2 := hide hz
          clear hz
          go_wp2
          go_ret
          exact ⟨by rw [HZ2.out]; rfl, HB7.out⟩
        | true =>
          rw [hm] at HC
          have Hm := hide hm
          clear hm
          go_wp2_with fail
          refine HC.out.mono ?_
          rintro e w7 ⟨rfl, hb7⟩
          clear HC x0 x1 x2 x3 x4 x5 x6 x7 x8 x9
          have HB7 := hide (HB9.out.trans (hb7.mono HB9.out.size))
          have hx7 := HX9.out.trans (hb7.mono HX9.out.size)
          have x0 := p0.out _ hx7
          have x1 := p1.out _ hx7
          have x2 := p2.out _ hx7
          have x3 := p3.out _ hx7
          have x4 := p4.out _ hx7
          have x5 := p5.out _ hx7
          have x6 := p6.out _ hx7
          have x7 := p7.out _ hx7
          have x8 := p8.out _ hx7
          have x9 := p9.out _ hx7
          have HP := hide (rplain_any _ (HV9.out.grow hb7))
          rw [mayB_pl Hm.out] at HP
          have HX7 := hide hx7
          clear hb7 hx7
          cases hp : plV (.mk k b n s l ks) with
          | false =>
            rw [hp] at HP
            have Hp := hide hp
            clear hp
            go_wp2_with fail
            refine HP.out.mono ?_
            rintro e w8 ⟨rfl, hb8⟩
            clear HP x0 x1 x2 x3 x4 x5 x6 x7 x8 x9
            have HB8 := hide (HB7.out.trans (hb8.mono HB7.out.size))
            have hx8 := HX7.out.trans (hb8.mono HX7.out.size)
            have x0 := p0.out _ hx8
            have x1 := p1.out _ hx8
            have x2 := p2.out _ hx8
            have x3 := p3.out _ hx8
            have x4 := p4.out _ hx8
            have x5 := p5.out _ hx8
            have x6 := p6.out _ hx8
            have x7 := p7.out _ hx8
            have x8 := p8.out _ hx8
            have x9 := p9.out _ hx8
            clear hb8 hx8
            have hz : z = true := by rw [← HZ.out]; simp [okM, plainB, V.k, HBR.out, HKN.out, Hm.out, Hp.out]
            have HZ2 := hide hz
            clear hz
            go_wp2
            go_ret
            exact ⟨by rw [HZ2.out]; rfl, HB8.out⟩
          | true =>
            rw [hp] at HP
            have Hp := hide hp
            clear hp
            go_wp2_with fail
            refine HP.out.mono ?_
            rintro e w8 ⟨rfl, hb8⟩
            clear HP x0 x1 x2 x3 x4 x5 x6 x7 x8 x9
            have HB8 := hide (HB7.out.trans (hb8.mono HB7.out.size))
            have hx8 := HX7.out.trans (hb8.mono HX7.out.size)
            have x0 := p0.out _ hx8
            have x1 := p1.out _ hx8
            have x2 := p2.out _ hx8
            have x3 := p3.out _ hx8
            have x4 := p4.out _ hx8
            have x5 := p5.out _ hx8
            have x6 := p6.out _ hx8
            have x7 := p7.out _ hx8
            have x8 := p8.out _ hx8
            have x9 := p9.out _ hx8
            clear hb8 hx8
            have hz : z = true := by rw [← HZ.out]; simp [okM, plainB, V.k, HBR.out, HKN.out, Hm.out, Hp.out]
            have HZ2 := hide hz
            clear hz
            go_wp2
            go_ret
            exact ⟨by rw [HZ2.out]; rfl, HB8.out⟩)
  · have HKN := hide (show knownK 6 = true by decide)
    have HO := hide (fun W' (h : Below (w.alloc (.cells #[.int .i64 6, .string ms, .string mt, .int .i64 mn, .int .i64 k, .bool b, .int .i64 n, .string s, .slice AL l.length cL, .slice AK ks.length cK] 41)).heap.size (w.alloc (.cells #[.int .i64 6, .string ms, .string mt, .int .i64 mn, .int .i64 k, .bool b, .int .i64 n, .string s, .slice AL l.length cL, .slice AK ks.length cK] 41)) W') => own_any (HM.out.grow h))
    generalize hW : w.alloc (.cells #[.int .i64 6, .string ms, .string mt, .int .i64 mn, .int .i64 k, .bool b, .int .i64 n, .string s, .slice AL l.length cL, .slice AK ks.length cK] 41) = W at HX HB HM HV HO
    have p0 := hide (show ∀ W', Below W.heap.size W W' → W'.cell? ⟨w.heap.size, 0, none⟩ = some (.int .i64 6) from fun W' h => blkR (HX.out.below h HX.out.lt) rfl)
    have p1 := hide (show ∀ W', Below W.heap.size W W' → W'.cell? ⟨w.heap.size, 1, none⟩ = some (.string ms) from fun W' h => blkR (HX.out.below h HX.out.lt) rfl)
    have p2 := hide (show ∀ W', Below W.heap.size W W' → W'.cell? ⟨w.heap.size, 2, none⟩ = some (.string mt) from fun W' h => blkR (HX.out.below h HX.out.lt) rfl)
    have p3 := hide (show ∀ W', Below W.heap.size W W' → W'.cell? ⟨w.heap.size, 3, none⟩ = some (.int .i64 mn) from fun W' h => blkR (HX.out.below h HX.out.lt) rfl)
    have p4 := hide (show ∀ W', Below W.heap.size W W' → W'.cell? ⟨w.heap.size, 4, none⟩ = some (.int .i64 k) from fun W' h => blkR (HX.out.below h HX.out.lt) rfl)
    have p5 := hide (show ∀ W', Below W.heap.size W W' → W'.cell? ⟨w.heap.size, 5, none⟩ = some (.bool b) from fun W' h => blkR (HX.out.below h HX.out.lt) rfl)
    have p6 := hide (show ∀ W', Below W.heap.size W W' → W'.cell? ⟨w.heap.size, 6, none⟩ = some (.int .i64 n) from fun W' h => blkR (HX.out.below h HX.out.lt) rfl)
    have p7 := hide (show ∀ W', Below W.heap.size W W' → W'.cell? ⟨w.heap.size, 7, none⟩ = some (.string s) from fun W' h => blkR (HX.out.below h HX.out.lt) rfl)
    have p8 := hide (show ∀ W', Below W.heap.size W W' → W'.cell? ⟨w.heap.size, 8, none⟩ = some (.slice AL l.length cL) from fun W' h => blkR (HX.out.below h HX.out.lt) rfl)
    have p9 := hide (show ∀ W', Below W.heap.size W W' → W'.cell? ⟨w.heap.size, 9, none⟩ = some (.slice AK ks.length cK) from fun W' h => blkR (HX.out.below h HX.out.lt) rfl)
    cases hq : eqM (ownM ⟨6, ms, mt, mn, .mk k b n s l ks⟩) ⟨6, ms, mt, mn, .mk k b n s l ks⟩ with
    | false =>
      have HS := hide (show ∀ W', Below W.heap.size W W' → ∀ ds, IsM W' S (ownM ⟨6, ms, mt, mn, .mk k b n s l ks⟩) ds → Calls Try.prog 23 #[.agg ds, .agg #[.int .i64 6, .string ms, .string mt, .int .i64 mn, .int .i64 k, .bool b, .int .i64 n, .string s, .slice AL l.length cL, .slice AK ks.length cK]] W' (fun e w' => e = .returned (.bool false) ∧ Below W'.heap.size W' w') from fun W' h ds hd => by have := msame_any hd (HM.out.grow h); rw [hq] at this; exact this)
      have HQ := hide hq
      clear hq
      go_enter Try.func44, Try.ntmps44
      go_wp2_with fail
      clear hW
      have q0 : ∀ W', Below W.heap.size W W' → W'.cell? ⟨w.heap.size, 0, none⟩ = some (.int .i64 6) := p0.out
      have q1 : ∀ W', Below W.heap.size W W' → W'.cell? ⟨w.heap.size, 1, none⟩ = some (.string ms) := p1.out
      have q2 : ∀ W', Below W.heap.size W W' → W'.cell? ⟨w.heap.size, 2, none⟩ = some (.string mt) := p2.out
      have q3 : ∀ W', Below W.heap.size W W' → W'.cell? ⟨w.heap.size, 3, none⟩ = some (.int .i64 mn) := p3.out
      have q4 : ∀ W', Below W.heap.size W W' → W'.cell? ⟨w.heap.size, 4, none⟩ = some (.int .i64 k) := p4.out
      have q5 : ∀ W', Below W.heap.size W W' → W'.cell? ⟨w.heap.size, 5, none⟩ = some (.bool b) := p5.out
      have q6 : ∀ W', Below W.heap.size W W' → W'.cell? ⟨w.heap.size, 6, none⟩ = some (.int .i64 n) := p6.out
      have q7 : ∀ W', Below W.heap.size W W' → W'.cell? ⟨w.heap.size, 7, none⟩ = some (.string s) := p7.out
      have q8 : ∀ W', Below W.heap.size W W' → W'.cell? ⟨w.heap.size, 8, none⟩ = some (.slice AL l.length cL) := p8.out
      have q9 : ∀ W', Below W.heap.size W W' → W'.cell? ⟨w.heap.size, 9, none⟩ = some (.slice AK ks.length cK) := p9.out
      go_region_held3 (fun W' => Below W.heap.size W W') (first | exact (Below.refl _ W).drew | (have hx := ‹Below W.heap.size W _›; exact hx.trans (hb5.mono hx.size)) | (have hx := ‹Below W.heap.size W _›; exact hx.trans (hb6.mono hx.size))) (first | (go_at_call 65; refine (HO.out _ (by assumption)).mono ?_; rintro e w5 ⟨ds, rfl, hM5, hb5⟩; obtain ⟨mk5, ms5, mt5, mn5, k5, bb5, n5, s5, AL5, nL5, cL5, AK5, nK5, cK5, rfl⟩ := hM5.ten) | (go_at_call 23; refine (HS.out _ (by assumption) _ (by assumption)).mono ?_; rintro e w6 ⟨rfl, hb6⟩))
      all_goals (
        have hx := ‹Below W.heap.size W _›
        have hB9 := HB.out.trans (hx.mono HB.out.size)
        have HB9 := hide hB9
        have hz : z = false := by rw [← HZ.out]; exact okM_not HQ.out
        have HZ2 := hide hz
        clear hz hB9 q0 q1 q2 q3 q4 q5 q6 q7 q8 q9
        go_wp2
        go_ret
        exact ⟨by rw [HZ2.out]; rfl, HB9.out⟩)
    | true =>
      have HS := hide (show ∀ W', Below W.heap.size W W' → ∀ ds, IsM W' S (ownM ⟨6, ms, mt, mn, .mk k b n s l ks⟩) ds → Calls Try.prog 23 #[.agg ds, .agg #[.int .i64 6, .string ms, .string mt, .int .i64 mn, .int .i64 k, .bool b, .int .i64 n, .string s, .slice AL l.length cL, .slice AK ks.length cK]] W' (fun e w' => e = .returned (.bool true) ∧ Below W'.heap.size W' w') from fun W' h ds hd => by have := msame_any hd (HM.out.grow h); rw [hq] at this; exact this)
      have HQ := hide hq
      clear hq
      go_enter Try.func44, Try.ntmps44
      go_wp2_with fail
      clear hW
      have q0 : ∀ W', Below W.heap.size W W' → W'.cell? ⟨w.heap.size, 0, none⟩ = some (.int .i64 6) := p0.out
      have q1 : ∀ W', Below W.heap.size W W' → W'.cell? ⟨w.heap.size, 1, none⟩ = some (.string ms) := p1.out
      have q2 : ∀ W', Below W.heap.size W W' → W'.cell? ⟨w.heap.size, 2, none⟩ = some (.string mt) := p2.out
      have q3 : ∀ W', Below W.heap.size W W' → W'.cell? ⟨w.heap.size, 3, none⟩ = some (.int .i64 mn) := p3.out
      have q4 : ∀ W', Below W.heap.size W W' → W'.cell? ⟨w.heap.size, 4, none⟩ = some (.int .i64 k) := p4.out
      have q5 : ∀ W', Below W.heap.size W W' → W'.cell? ⟨w.heap.size, 5, none⟩ = some (.bool b) := p5.out
      have q6 : ∀ W', Below W.heap.size W W' → W'.cell? ⟨w.heap.size, 6, none⟩ = some (.int .i64 n) := p6.out
      have q7 : ∀ W', Below W.heap.size W W' → W'.cell? ⟨w.heap.size, 7, none⟩ = some (.string s) := p7.out
      have q8 : ∀ W', Below W.heap.size W W' → W'.cell? ⟨w.heap.size, 8, none⟩ = some (.slice AL l.length cL) := p8.out
      have q9 : ∀ W', Below W.heap.size W W' → W'.cell? ⟨w.heap.size, 9, none⟩ = some (.slice AK ks.length cK) := p9.out
      go_region_held3 (fun W' => Below W.heap.size W W') (first | exact (Below.refl _ W).drew | (have hx := ‹Below W.heap.size W _›; exact hx.trans (hb5.mono hx.size)) | (have hx := ‹Below W.heap.size W _›; exact hx.trans (hb6.mono hx.size))) (first | (go_at_call 65; refine (HO.out _ (by assumption)).mono ?_; rintro e w5 ⟨ds, rfl, hM5, hb5⟩; obtain ⟨mk5, ms5, mt5, mn5, k5, bb5, n5, s5, AL5, nL5, cL5, AK5, nK5, cK5, rfl⟩ := hM5.ten) | (go_at_call 23; refine (HS.out _ (by assumption) _ (by assumption)).mono ?_; rintro e w6 ⟨rfl, hb6⟩))
      all_goals (
        have hx := ‹Below W.heap.size W _›
        have HX9 := hide hx
        have HB9 := hide (HB.out.trans (hx.mono HB.out.size))
        clear q0 q1 q2 q3 q4 q5 q6 q7 q8 q9
        have x0 := p0.out _ hx
        have x1 := p1.out _ hx
        have x2 := p2.out _ hx
        have x3 := p3.out _ hx
        have x4 := p4.out _ hx
        have x5 := p5.out _ hx
        have x6 := p6.out _ hx
        have x7 := p7.out _ hx
        have x8 := p8.out _ hx
        have x9 := p9.out _ hx
        have HV9 := hide (HV.out.grow hx)
        have HC := hide (rMay_any HV9.out)
        have hbr := own_bare ⟨6, ms, mt, mn, .mk k b n s l ks⟩
        rw [HQ.out] at hbr
        have HBR := hide (show bareM ⟨6, ms, mt, mn, .mk k b n s l ks⟩ false false false false = true from by simpa [usM] using hbr.symm)
        clear hbr
        cases hm : mayB (.mk k b n s l ks) with
        | false =>
          rw [hm] at HC
          have Hm := hide hm
          clear hm
          go_wp2_with fail
          refine HC.out.mono ?_
          rintro e w7 ⟨rfl, hb7⟩
          clear HC x0 x1 x2 x3 x4 x5 x6 x7 x8 x9
          have HB7 := hide (HB9.out.trans (hb7.mono HB9.out.size))
          have hx7 := HX9.out.trans (hb7.mono HX9.out.size)
          have x0 := p0.out _ hx7
          have x1 := p1.out _ hx7
          have x2 := p2.out _ hx7
          have x3 := p3.out _ hx7
          have x4 := p4.out _ hx7
          have x5 := p5.out _ hx7
          have x6 := p6.out _ hx7
          have x7 := p7.out _ hx7
          have x8 := p8.out _ hx7
          have x9 := p9.out _ hx7
          clear hb7 hx7
          have hz : z = true := by rw [← HZ.out]; simp [okM, plainB, V.k, HBR.out, HKN.out, Hm.out]
          have HZ2 := hide hz
          clear hz
          go_wp2
          go_ret
          exact ⟨by rw [HZ2.out]; rfl, HB7.out⟩
        | true =>
          rw [hm] at HC
          have Hm := hide hm
          clear hm
          go_wp2_with fail
          refine HC.out.mono ?_
          rintro e w7 ⟨rfl, hb7⟩
          clear HC x0 x1 x2 x3 x4 x5 x6 x7 x8 x9
          have HB7 := hide (HB9.out.trans (hb7.mono HB9.out.size))
          have hx7 := HX9.out.trans (hb7.mono HX9.out.size)
          have x0 := p0.out _ hx7
          have x1 := p1.out _ hx7
          have x2 := p2.out _ hx7
          have x3 := p3.out _ hx7
          have x4 := p4.out _ hx7
          have x5 := p5.out _ hx7
          have x6 := p6.out _ hx7
          have x7 := p7.out _ hx7
          have x8 := p8.out _ hx7
          have x9 := p9.out _ hx7
          have HP := hide (rplain_any _ (HV9.out.grow hb7))
          rw [mayB_pl Hm.out] at HP
          have HX7 := hide hx7
          clear hb7 hx7
          cases hp : plV (.mk k b n s l ks) with
          | false =>
            rw [hp] at HP
            have Hp := hide hp
            clear hp
            go_wp2_with fail
            refine HP.out.mono ?_
            rintro e w8 ⟨rfl, hb8⟩
            clear HP x0 x1 x2 x3 x4 x5 x6 x7 x8 x9
            have HB8 := hide (HB7.out.trans (hb8.mono HB7.out.size))
            have hx8 := HX7.out.trans (hb8.mono HX7.out.size)
            have x0 := p0.out _ hx8
            have x1 := p1.out _ hx8
            have x2 := p2.out _ hx8
            have x3 := p3.out _ hx8
            have x4 := p4.out _ hx8
            have x5 := p5.out _ hx8
            have x6 := p6.out _ hx8
            have x7 := p7.out _ hx8
            have x8 := p8.out _ hx8
            have x9 := p9.out _ hx8
            clear hb8 hx8
            have hz : z = true := by rw [← HZ.out]; simp [okM, plainB, V.k, HBR.out, HKN.out, Hm.out, Hp.out]
            have HZ2 := hide hz
            clear hz
            go_wp2
            go_ret
            exact ⟨by rw [HZ2.out]; rfl, HB8.out⟩
          | true =>
            rw [hp] at HP
            have Hp := hide hp
            clear hp
            go_wp2_with fail
            refine HP.out.mono ?_
            rintro e w8 ⟨rfl, hb8⟩
            clear HP x0 x1 x2 x3 x4 x5 x6 x7 x8 x9
            have HB8 := hide (HB7.out.trans (hb8.mono HB7.out.size))
            have hx8 := HX7.out.trans (hb8.mono HX7.out.size)
            have x0 := p0.out _ hx8
            have x1 := p1.out _ hx8
            have x2 := p2.out _ hx8
            have x3 := p3.out _ hx8
            have x4 := p4.out _ hx8
            have x5 := p5.out _ hx8
            have x6 := p6.out _ hx8
            have x7 := p7.out _ hx8
            have x8 := p8.out _ hx8
            have x9 := p9.out _ hx8
            clear hb8 hx8
            have hz : z = true := by rw [← HZ.out]; simp [okM, plainB, V.k, HBR.out, HKN.out, Hm.out, Hp.out]
            have HZ2 := hide hz
            clear hz
            go_wp2
            go_ret
            exact ⟨by rw [HZ2.out]; rfl, HB8.out⟩)
  · have HKN := hide (show knownK 7 = true by decide)
    have HO := hide (fun W' (h : Below (w.alloc (.cells #[.int .i64 7, .string ms, .string mt, .int .i64 mn, .int .i64 k, .bool b, .int .i64 n, .string s, .slice AL l.length cL, .slice AK ks.length cK] 41)).heap.size (w.alloc (.cells #[.int .i64 7, .string ms, .string mt, .int .i64 mn, .int .i64 k, .bool b, .int .i64 n, .string s, .slice AL l.length cL, .slice AK ks.length cK] 41)) W') => own_any (HM.out.grow h))
    generalize hW : w.alloc (.cells #[.int .i64 7, .string ms, .string mt, .int .i64 mn, .int .i64 k, .bool b, .int .i64 n, .string s, .slice AL l.length cL, .slice AK ks.length cK] 41) = W at HX HB HM HV HO
    have p0 := hide (show ∀ W', Below W.heap.size W W' → W'.cell? ⟨w.heap.size, 0, none⟩ = some (.int .i64 7) from fun W' h => blkR (HX.out.below h HX.out.lt) rfl)
    have p1 := hide (show ∀ W', Below W.heap.size W W' → W'.cell? ⟨w.heap.size, 1, none⟩ = some (.string ms) from fun W' h => blkR (HX.out.below h HX.out.lt) rfl)
    have p2 := hide (show ∀ W', Below W.heap.size W W' → W'.cell? ⟨w.heap.size, 2, none⟩ = some (.string mt) from fun W' h => blkR (HX.out.below h HX.out.lt) rfl)
    have p3 := hide (show ∀ W', Below W.heap.size W W' → W'.cell? ⟨w.heap.size, 3, none⟩ = some (.int .i64 mn) from fun W' h => blkR (HX.out.below h HX.out.lt) rfl)
    have p4 := hide (show ∀ W', Below W.heap.size W W' → W'.cell? ⟨w.heap.size, 4, none⟩ = some (.int .i64 k) from fun W' h => blkR (HX.out.below h HX.out.lt) rfl)
    have p5 := hide (show ∀ W', Below W.heap.size W W' → W'.cell? ⟨w.heap.size, 5, none⟩ = some (.bool b) from fun W' h => blkR (HX.out.below h HX.out.lt) rfl)
    have p6 := hide (show ∀ W', Below W.heap.size W W' → W'.cell? ⟨w.heap.size, 6, none⟩ = some (.int .i64 n) from fun W' h => blkR (HX.out.below h HX.out.lt) rfl)
    have p7 := hide (show ∀ W', Below W.heap.size W W' → W'.cell? ⟨w.heap.size, 7, none⟩ = some (.string s) from fun W' h => blkR (HX.out.below h HX.out.lt) rfl)
    have p8 := hide (show ∀ W', Below W.heap.size W W' → W'.cell? ⟨w.heap.size, 8, none⟩ = some (.slice AL l.length cL) from fun W' h => blkR (HX.out.below h HX.out.lt) rfl)
    have p9 := hide (show ∀ W', Below W.heap.size W W' → W'.cell? ⟨w.heap.size, 9, none⟩ = some (.slice AK ks.length cK) from fun W' h => blkR (HX.out.below h HX.out.lt) rfl)
    cases hq : eqM (ownM ⟨7, ms, mt, mn, .mk k b n s l ks⟩) ⟨7, ms, mt, mn, .mk k b n s l ks⟩ with
    | false =>
      have HS := hide (show ∀ W', Below W.heap.size W W' → ∀ ds, IsM W' S (ownM ⟨7, ms, mt, mn, .mk k b n s l ks⟩) ds → Calls Try.prog 23 #[.agg ds, .agg #[.int .i64 7, .string ms, .string mt, .int .i64 mn, .int .i64 k, .bool b, .int .i64 n, .string s, .slice AL l.length cL, .slice AK ks.length cK]] W' (fun e w' => e = .returned (.bool false) ∧ Below W'.heap.size W' w') from fun W' h ds hd => by have := msame_any hd (HM.out.grow h); rw [hq] at this; exact this)
      have HQ := hide hq
      clear hq
      go_enter Try.func44, Try.ntmps44
      go_wp2_with fail
      clear hW
      have q0 : ∀ W', Below W.heap.size W W' → W'.cell? ⟨w.heap.size, 0, none⟩ = some (.int .i64 7) := p0.out
      have q1 : ∀ W', Below W.heap.size W W' → W'.cell? ⟨w.heap.size, 1, none⟩ = some (.string ms) := p1.out
      have q2 : ∀ W', Below W.heap.size W W' → W'.cell? ⟨w.heap.size, 2, none⟩ = some (.string mt) := p2.out
      have q3 : ∀ W', Below W.heap.size W W' → W'.cell? ⟨w.heap.size, 3, none⟩ = some (.int .i64 mn) := p3.out
      have q4 : ∀ W', Below W.heap.size W W' → W'.cell? ⟨w.heap.size, 4, none⟩ = some (.int .i64 k) := p4.out
      have q5 : ∀ W', Below W.heap.size W W' → W'.cell? ⟨w.heap.size, 5, none⟩ = some (.bool b) := p5.out
      have q6 : ∀ W', Below W.heap.size W W' → W'.cell? ⟨w.heap.size, 6, none⟩ = some (.int .i64 n) := p6.out
      have q7 : ∀ W', Below W.heap.size W W' → W'.cell? ⟨w.heap.size, 7, none⟩ = some (.string s) := p7.out
      have q8 : ∀ W', Below W.heap.size W W' → W'.cell? ⟨w.heap.size, 8, none⟩ = some (.slice AL l.length cL) := p8.out
      have q9 : ∀ W', Below W.heap.size W W' → W'.cell? ⟨w.heap.size, 9, none⟩ = some (.slice AK ks.length cK) := p9.out
      go_region_held3 (fun W' => Below W.heap.size W W') (first | exact (Below.refl _ W).drew | (have hx := ‹Below W.heap.size W _›; exact hx.trans (hb5.mono hx.size)) | (have hx := ‹Below W.heap.size W _›; exact hx.trans (hb6.mono hx.size))) (first | (go_at_call 65; refine (HO.out _ (by assumption)).mono ?_; rintro e w5 ⟨ds, rfl, hM5, hb5⟩; obtain ⟨mk5, ms5, mt5, mn5, k5, bb5, n5, s5, AL5, nL5, cL5, AK5, nK5, cK5, rfl⟩ := hM5.ten) | (go_at_call 23; refine (HS.out _ (by assumption) _ (by assumption)).mono ?_; rintro e w6 ⟨rfl, hb6⟩))
      all_goals (
        have hx := ‹Below W.heap.size W _›
        have hB9 := HB.out.trans (hx.mono HB.out.size)
        have HB9 := hide hB9
        have hz : z = false := by rw [← HZ.out]; exact okM_not HQ.out
        have HZ2 := hide hz
        clear hz hB9 q0 q1 q2 q3 q4 q5 q6 q7 q8 q9
        go_wp2
        go_ret
        exact ⟨by rw [HZ2.out]; rfl, HB9.out⟩)
    | true =>
      have HS := hide (show ∀ W', Below W.heap.size W W' → ∀ ds, IsM W' S (ownM ⟨7, ms, mt, mn, .mk k b n s l ks⟩) ds → Calls Try.prog 23 #[.agg ds, .agg #[.int .i64 7, .string ms, .string mt, .int .i64 mn, .int .i64 k, .bool b, .int .i64 n, .string s, .slice AL l.length cL, .slice AK ks.length cK]] W' (fun e w' => e = .returned (.bool true) ∧ Below W'.heap.size W' w') from fun W' h ds hd => by have := msame_any hd (HM.out.grow h); rw [hq] at this; exact this)
      have HQ := hide hq
      clear hq
      go_enter Try.func44, Try.ntmps44
      go_wp2_with fail
      clear hW
      have q0 : ∀ W', Below W.heap.size W W' → W'.cell? ⟨w.heap.size, 0, none⟩ = some (.int .i64 7) := p0.out
      have q1 : ∀ W', Below W.heap.size W W' → W'.cell? ⟨w.heap.size, 1, none⟩ = some (.string ms) := p1.out
      have q2 : ∀ W', Below W.heap.size W W' → W'.cell? ⟨w.heap.size, 2, none⟩ = some (.string mt) := p2.out
      have q3 : ∀ W', Below W.heap.size W W' → W'.cell? ⟨w.heap.size, 3, none⟩ = some (.int .i64 mn) := p3.out
      have q4 : ∀ W', Below W.heap.size W W' → W'.cell? ⟨w.heap.size, 4, none⟩ = some (.int .i64 k) := p4.out
      have q5 : ∀ W', Below W.heap.size W W' → W'.cell? ⟨w.heap.size, 5, none⟩ = some (.bool b) := p5.out
      have q6 : ∀ W', Below W.heap.size W W' → W'.cell? ⟨w.heap.size, 6, none⟩ = some (.int .i64 n) := p6.out
      have q7 : ∀ W', Below W.heap.size W W' → W'.cell? ⟨w.heap.size, 7, none⟩ = some (.string s) := p7.out
      have q8 : ∀ W', Below W.heap.size W W' → W'.cell? ⟨w.heap.size, 8, none⟩ = some (.slice AL l.length cL) := p8.out
      have q9 : ∀ W', Below W.heap.size W W' → W'.cell? ⟨w.heap.size, 9, none⟩ = some (.slice AK ks.length cK) := p9.out
      go_region_held3 (fun W' => Below W.heap.size W W') (first | exact (Below.refl _ W).drew | (have hx := ‹Below W.heap.size W _›; exact hx.trans (hb5.mono hx.size)) | (have hx := ‹Below W.heap.size W _›; exact hx.trans (hb6.mono hx.size))) (first | (go_at_call 65; refine (HO.out _ (by assumption)).mono ?_; rintro e w5 ⟨ds, rfl, hM5, hb5⟩; obtain ⟨mk5, ms5, mt5, mn5, k5, bb5, n5, s5, AL5, nL5, cL5, AK5, nK5, cK5, rfl⟩ := hM5.ten) | (go_at_call 23; refine (HS.out _ (by assumption) _ (by assumption)).mono ?_; rintro e w6 ⟨rfl, hb6⟩))
      all_goals (
        have hx := ‹Below W.heap.size W _›
        have HX9 := hide hx
        have HB9 := hide (HB.out.trans (hx.mono HB.out.size))
        clear q0 q1 q2 q3 q4 q5 q6 q7 q8 q9
        have x0 := p0.out _ hx
        have x1 := p1.out _ hx
        have x2 := p2.out _ hx
        have x3 := p3.out _ hx
        have x4 := p4.out _ hx
        have x5 := p5.out _ hx
        have x6 := p6.out _ hx
        have x7 := p7.out _ hx
        have x8 := p8.out _ hx
        have x9 := p9.out _ hx
        have HV9 := hide (HV.out.grow hx)
        have HC := hide (rMay_any HV9.out)
        have hbr := own_bare ⟨7, ms, mt, mn, .mk k b n s l ks⟩
        rw [HQ.out] at hbr
        have HBR := hide (show bareM ⟨7, ms, mt, mn, .mk k b n s l ks⟩ false false false false = true from by simpa [usM] using hbr.symm)
        clear hbr
        cases hm : mayB (.mk k b n s l ks) with
        | false =>
          rw [hm] at HC
          have Hm := hide hm
          clear hm
          go_wp2_with fail
          refine HC.out.mono ?_
          rintro e w7 ⟨rfl, hb7⟩
          clear HC x0 x1 x2 x3 x4 x5 x6 x7 x8 x9
          have HB7 := hide (HB9.out.trans (hb7.mono HB9.out.size))
          have hx7 := HX9.out.trans (hb7.mono HX9.out.size)
          have x0 := p0.out _ hx7
          have x1 := p1.out _ hx7
          have x2 := p2.out _ hx7
          have x3 := p3.out _ hx7
          have x4 := p4.out _ hx7
          have x5 := p5.out _ hx7
          have x6 := p6.out _ hx7
          have x7 := p7.out _ hx7
          have x8 := p8.out _ hx7
          have x9 := p9.out _ hx7
          clear hb7 hx7
          have hz : z = true := by rw [← HZ.out]; simp [okM, plainB, V.k, HBR.out, HKN.out, Hm.out]
          have HZ2 := hide hz
          clear hz
          go_wp2
          go_ret
          exact ⟨by rw [HZ2.out]; rfl, HB7.out⟩
        | true =>
          rw [hm] at HC
          have Hm := hide hm
          clear hm
          go_wp2_with fail
          refine HC.out.mono ?_
          rintro e w7 ⟨rfl, hb7⟩
          clear HC x0 x1 x2 x3 x4 x5 x6 x7 x8 x9
          have HB7 := hide (HB9.out.trans (hb7.mono HB9.out.size))
          have hx7 := HX9.out.trans (hb7.mono HX9.out.size)
          have x0 := p0.out _ hx7
          have x1 := p1.out _ hx7
          have x2 := p2.out _ hx7
          have x3 := p3.out _ hx7
          have x4 := p4.out _ hx7
          have x5 := p5.out _ hx7
          have x6 := p6.out _ hx7
          have x7 := p7.out _ hx7
          have x8 := p8.out _ hx7
          have x9 := p9.out _ hx7
          have HP := hide (rplain_any _ (HV9.out.grow hb7))
          rw [mayB_pl Hm.out] at HP
          have HX7 := hide hx7
          clear hb7 hx7
          cases hp : plV (.mk k b n s l ks) with
          | false =>
            rw [hp] at HP
            have Hp := hide hp
            clear hp
            go_wp2_with fail
            refine HP.out.mono ?_
            rintro e w8 ⟨rfl, hb8⟩
            clear HP x0 x1 x2 x3 x4 x5 x6 x7 x8 x9
            have HB8 := hide (HB7.out.trans (hb8.mono HB7.out.size))
            have hx8 := HX7.out.trans (hb8.mono HX7.out.size)
            have x0 := p0.out _ hx8
            have x1 := p1.out _ hx8
            have x2 := p2.out _ hx8
            have x3 := p3.out _ hx8
            have x4 := p4.out _ hx8
            have x5 := p5.out _ hx8
            have x6 := p6.out _ hx8
            have x7 := p7.out _ hx8
            have x8 := p8.out _ hx8
            have x9 := p9.out _ hx8
            clear hb8 hx8
            have hz : z = true := by rw [← HZ.out]; simp [okM, plainB, V.k, HBR.out, HKN.out, Hm.out, Hp.out]
            have HZ2 := hide hz
            clear hz
            go_wp2
            go_ret
            exact ⟨by rw [HZ2.out]; rfl, HB8.out⟩
          | true =>
            rw [hp] at HP
            have Hp := hide hp
            clear hp
            go_wp2_with fail
            refine HP.out.mono ?_
            rintro e w8 ⟨rfl, hb8⟩
            clear HP x0 x1 x2 x3 x4 x5 x6 x7 x8 x9
            have HB8 := hide (HB7.out.trans (hb8.mono HB7.out.size))
            have hx8 := HX7.out.trans (hb8.mono HX7.out.size)
            have x0 := p0.out _ hx8
            have x1 := p1.out _ hx8
            have x2 := p2.out _ hx8
            have x3 := p3.out _ hx8
            have x4 := p4.out _ hx8
            have x5 := p5.out _ hx8
            have x6 := p6.out _ hx8
            have x7 := p7.out _ hx8
            have x8 := p8.out _ hx8
            have x9 := p9.out _ hx8
            clear hb8 hx8
            have hz : z = true := by rw [← HZ.out]; simp [okM, plainB, V.k, HBR.out, HKN.out, Hm.out, Hp.out]
            have HZ2 := hide hz
            clear hz
            go_wp2
            go_ret
            exact ⟨by rw [HZ2.out]; rfl, HB8.out⟩)
  · have HKN := hide (show knownK 8 = true by decide)
    have HO := hide (fun W' (h : Below (w.alloc (.cells #[.int .i64 8, .string ms, .string mt, .int .i64 mn, .int .i64 k, .bool b, .int .i64 n, .string s, .slice AL l.length cL, .slice AK ks.length cK] 41)).heap.size (w.alloc (.cells #[.int .i64 8, .string ms, .string mt, .int .i64 mn, .int .i64 k, .bool b, .int .i64 n, .string s, .slice AL l.length cL, .slice AK ks.length cK] 41)) W') => own_any (HM.out.grow h))
    generalize hW : w.alloc (.cells #[.int .i64 8, .string ms, .string mt, .int .i64 mn, .int .i64 k, .bool b, .int .i64 n, .string s, .slice AL l.length cL, .slice AK ks.length cK] 41) = W at HX HB HM HV HO
    have p0 := hide (show ∀ W', Below W.heap.size W W' → W'.cell? ⟨w.heap.size, 0, none⟩ = some (.int .i64 8) from fun W' h => blkR (HX.out.below h HX.out.lt) rfl)
    have p1 := hide (show ∀ W', Below W.heap.size W W' → W'.cell? ⟨w.heap.size, 1, none⟩ = some (.string ms) from fun W' h => blkR (HX.out.below h HX.out.lt) rfl)
    have p2 := hide (show ∀ W', Below W.heap.size W W' → W'.cell? ⟨w.heap.size, 2, none⟩ = some (.string mt) from fun W' h => blkR (HX.out.below h HX.out.lt) rfl)
    have p3 := hide (show ∀ W', Below W.heap.size W W' → W'.cell? ⟨w.heap.size, 3, none⟩ = some (.int .i64 mn) from fun W' h => blkR (HX.out.below h HX.out.lt) rfl)
    have p4 := hide (show ∀ W', Below W.heap.size W W' → W'.cell? ⟨w.heap.size, 4, none⟩ = some (.int .i64 k) from fun W' h => blkR (HX.out.below h HX.out.lt) rfl)
    have p5 := hide (show ∀ W', Below W.heap.size W W' → W'.cell? ⟨w.heap.size, 5, none⟩ = some (.bool b) from fun W' h => blkR (HX.out.below h HX.out.lt) rfl)
    have p6 := hide (show ∀ W', Below W.heap.size W W' → W'.cell? ⟨w.heap.size, 6, none⟩ = some (.int .i64 n) from fun W' h => blkR (HX.out.below h HX.out.lt) rfl)
    have p7 := hide (show ∀ W', Below W.heap.size W W' → W'.cell? ⟨w.heap.size, 7, none⟩ = some (.string s) from fun W' h => blkR (HX.out.below h HX.out.lt) rfl)
    have p8 := hide (show ∀ W', Below W.heap.size W W' → W'.cell? ⟨w.heap.size, 8, none⟩ = some (.slice AL l.length cL) from fun W' h => blkR (HX.out.below h HX.out.lt) rfl)
    have p9 := hide (show ∀ W', Below W.heap.size W W' → W'.cell? ⟨w.heap.size, 9, none⟩ = some (.slice AK ks.length cK) from fun W' h => blkR (HX.out.below h HX.out.lt) rfl)
    cases hq : eqM (ownM ⟨8, ms, mt, mn, .mk k b n s l ks⟩) ⟨8, ms, mt, mn, .mk k b n s l ks⟩ with
    | false =>
      have HS := hide (show ∀ W', Below W.heap.size W W' → ∀ ds, IsM W' S (ownM ⟨8, ms, mt, mn, .mk k b n s l ks⟩) ds → Calls Try.prog 23 #[.agg ds, .agg #[.int .i64 8, .string ms, .string mt, .int .i64 mn, .int .i64 k, .bool b, .int .i64 n, .string s, .slice AL l.length cL, .slice AK ks.length cK]] W' (fun e w' => e = .returned (.bool false) ∧ Below W'.heap.size W' w') from fun W' h ds hd => by have := msame_any hd (HM.out.grow h); rw [hq] at this; exact this)
      have HQ := hide hq
      clear hq
      go_enter Try.func44, Try.ntmps44
      go_wp2_with fail
      clear hW
      have q0 : ∀ W', Below W.heap.size W W' → W'.cell? ⟨w.heap.size, 0, none⟩ = some (.int .i64 8) := p0.out
      have q1 : ∀ W', Below W.heap.size W W' → W'.cell? ⟨w.heap.size, 1, none⟩ = some (.string ms) := p1.out
      have q2 : ∀ W', Below W.heap.size W W' → W'.cell? ⟨w.heap.size, 2, none⟩ = some (.string mt) := p2.out
      have q3 : ∀ W', Below W.heap.size W W' → W'.cell? ⟨w.heap.size, 3, none⟩ = some (.int .i64 mn) := p3.out
      have q4 : ∀ W', Below W.heap.size W W' → W'.cell? ⟨w.heap.size, 4, none⟩ = some (.int .i64 k) := p4.out
      have q5 : ∀ W', Below W.heap.size W W' → W'.cell? ⟨w.heap.size, 5, none⟩ = some (.bool b) := p5.out
      have q6 : ∀ W', Below W.heap.size W W' → W'.cell? ⟨w.heap.size, 6, none⟩ = some (.int .i64 n) := p6.out
      have q7 : ∀ W', Below W.heap.size W W' → W'.cell? ⟨w.heap.size, 7, none⟩ = some (.string s) := p7.out
      have q8 : ∀ W', Below W.heap.size W W' → W'.cell? ⟨w.heap.size, 8, none⟩ = some (.slice AL l.length cL) := p8.out
      have q9 : ∀ W', Below W.heap.size W W' → W'.cell? ⟨w.heap.size, 9, none⟩ = some (.slice AK ks.length cK) := p9.out
      go_region_held3 (fun W' => Below W.heap.size W W') (first | exact (Below.refl _ W).drew | (have hx := ‹Below W.heap.size W _›; exact hx.trans (hb5.mono hx.size)) | (have hx := ‹Below W.heap.size W _›; exact hx.trans (hb6.mono hx.size))) (first | (go_at_call 65; refine (HO.out _ (by assumption)).mono ?_; rintro e w5 ⟨ds, rfl, hM5, hb5⟩; obtain ⟨mk5, ms5, mt5, mn5, k5, bb5, n5, s5, AL5, nL5, cL5, AK5, nK5, cK5, rfl⟩ := hM5.ten) | (go_at_call 23; refine (HS.out _ (by assumption) _ (by assumption)).mono ?_; rintro e w6 ⟨rfl, hb6⟩))
      all_goals (
        have hx := ‹Below W.heap.size W _›
        have hB9 := HB.out.trans (hx.mono HB.out.size)
        have HB9 := hide hB9
        have hz : z = false := by rw [← HZ.out]; exact okM_not HQ.out
        have HZ2 := hide hz
        clear hz hB9 q0 q1 q2 q3 q4 q5 q6 q7 q8 q9
        go_wp2
        go_ret
        exact ⟨by rw [HZ2.out]; rfl, HB9.out⟩)
    | true =>
      have HS := hide (show ∀ W', Below W.heap.size W W' → ∀ ds, IsM W' S (ownM ⟨8, ms, mt, mn, .mk k b n s l ks⟩) ds → Calls Try.prog 23 #[.agg ds, .agg #[.int .i64 8, .string ms, .string mt, .int .i64 mn, .int .i64 k, .bool b, .int .i64 n, .string s, .slice AL l.length cL, .slice AK ks.length cK]] W' (fun e w' => e = .returned (.bool true) ∧ Below W'.heap.size W' w') from fun W' h ds hd => by have := msame_any hd (HM.out.grow h); rw [hq] at this; exact this)
      have HQ := hide hq
      clear hq
      go_enter Try.func44, Try.ntmps44
      go_wp2_with fail
      clear hW
      have q0 : ∀ W', Below W.heap.size W W' → W'.cell? ⟨w.heap.size, 0, none⟩ = some (.int .i64 8) := p0.out
      have q1 : ∀ W', Below W.heap.size W W' → W'.cell? ⟨w.heap.size, 1, none⟩ = some (.string ms) := p1.out
      have q2 : ∀ W', Below W.heap.size W W' → W'.cell? ⟨w.heap.size, 2, none⟩ = some (.string mt) := p2.out
      have q3 : ∀ W', Below W.heap.size W W' → W'.cell? ⟨w.heap.size, 3, none⟩ = some (.int .i64 mn) := p3.out
      have q4 : ∀ W', Below W.heap.size W W' → W'.cell? ⟨w.heap.size, 4, none⟩ = some (.int .i64 k) := p4.out
      have q5 : ∀ W', Below W.heap.size W W' → W'.cell? ⟨w.heap.size, 5, none⟩ = some (.bool b) := p5.out
      have q6 : ∀ W', Below W.heap.size W W' → W'.cell? ⟨w.heap.size, 6, none⟩ = some (.int .i64 n) := p6.out
      have q7 : ∀ W', Below W.heap.size W W' → W'.cell? ⟨w.heap.size, 7, none⟩ = some (.string s) := p7.out
      have q8 : ∀ W', Below W.heap.size W W' → W'.cell? ⟨w.heap.size, 8, none⟩ = some (.slice AL l.length cL) := p8.out
      have q9 : ∀ W', Below W.heap.size W W' → W'.cell? ⟨w.heap.size, 9, none⟩ = some (.slice AK ks.length cK) := p9.out
      go_region_held3 (fun W' => Below W.heap.size W W') (first | exact (Below.refl _ W).drew | (have hx := ‹Below W.heap.size W _›; exact hx.trans (hb5.mono hx.size)) | (have hx := ‹Below W.heap.size W _›; exact hx.trans (hb6.mono hx.size))) (first | (go_at_call 65; refine (HO.out _ (by assumption)).mono ?_; rintro e w5 ⟨ds, rfl, hM5, hb5⟩; obtain ⟨mk5, ms5, mt5, mn5, k5, bb5, n5, s5, AL5, nL5, cL5, AK5, nK5, cK5, rfl⟩ := hM5.ten) | (go_at_call 23; refine (HS.out _ (by assumption) _ (by assumption)).mono ?_; rintro e w6 ⟨rfl, hb6⟩))
      all_goals (
        have hx := ‹Below W.heap.size W _›
        have HX9 := hide hx
        have HB9 := hide (HB.out.trans (hx.mono HB.out.size))
        clear q0 q1 q2 q3 q4 q5 q6 q7 q8 q9
        have x0 := p0.out _ hx
        have x1 := p1.out _ hx
        have x2 := p2.out _ hx
        have x3 := p3.out _ hx
        have x4 := p4.out _ hx
        have x5 := p5.out _ hx
        have x6 := p6.out _ hx
        have x7 := p7.out _ hx
        have x8 := p8.out _ hx
        have x9 := p9.out _ hx
        have HV9 := hide (HV.out.grow hx)
        have HC := hide (rMay_any HV9.out)
        have hbr := own_bare ⟨8, ms, mt, mn, .mk k b n s l ks⟩
        rw [HQ.out] at hbr
        have HBR := hide (show bareM ⟨8, ms, mt, mn, .mk k b n s l ks⟩ false false false false = true from by simpa [usM] using hbr.symm)
        clear hbr
        cases hm : mayB (.mk k b n s l ks) with
        | false =>
          rw [hm] at HC
          have Hm := hide hm
          clear hm
          go_wp2_with fail
          refine HC.out.mono ?_
          rintro e w7 ⟨rfl, hb7⟩
          clear HC x0 x1 x2 x3 x4 x5 x6 x7 x8 x9
          have HB7 := hide (HB9.out.trans (hb7.mono HB9.out.size))
          have hx7 := HX9.out.trans (hb7.mono HX9.out.size)
          have x0 := p0.out _ hx7
          have x1 := p1.out _ hx7
          have x2 := p2.out _ hx7
          have x3 := p3.out _ hx7
          have x4 := p4.out _ hx7
          have x5 := p5.out _ hx7
          have x6 := p6.out _ hx7
          have x7 := p7.out _ hx7
          have x8 := p8.out _ hx7
          have x9 := p9.out _ hx7
          clear hb7 hx7
          have hz : z = true := by rw [← HZ.out]; simp [okM, plainB, V.k, HBR.out, HKN.out, Hm.out]
          have HZ2 := hide hz
          clear hz
          go_wp2
          go_ret
          exact ⟨by rw [HZ2.out]; rfl, HB7.out⟩
        | true =>
          rw [hm] at HC
          have Hm := hide hm
          clear hm
          go_wp2_with fail
          refine HC.out.mono ?_
          rintro e w7 ⟨rfl, hb7⟩
          clear HC x0 x1 x2 x3 x4 x5 x6 x7 x8 x9
          have HB7 := hide (HB9.out.trans (hb7.mono HB9.out.size))
          have hx7 := HX9.out.trans (hb7.mono HX9.out.size)
          have x0 := p0.out _ hx7
          have x1 := p1.out _ hx7
          have x2 := p2.out _ hx7
          have x3 := p3.out _ hx7
          have x4 := p4.out _ hx7
          have x5 := p5.out _ hx7
          have x6 := p6.out _ hx7
          have x7 := p7.out _ hx7
          have x8 := p8.out _ hx7
          have x9 := p9.out _ hx7
          have HP := hide (rplain_any _ (HV9.out.grow hb7))
          rw [mayB_pl Hm.out] at HP
          have HX7 := hide hx7
          clear hb7 hx7
          cases hp : plV (.mk k b n s l ks) with
          | false =>
            rw [hp] at HP
            have Hp := hide hp
            clear hp
            go_wp2_with fail
            refine HP.out.mono ?_
            rintro e w8 ⟨rfl, hb8⟩
            clear HP x0 x1 x2 x3 x4 x5 x6 x7 x8 x9
            have HB8 := hide (HB7.out.trans (hb8.mono HB7.out.size))
            have hx8 := HX7.out.trans (hb8.mono HX7.out.size)
            have x0 := p0.out _ hx8
            have x1 := p1.out _ hx8
            have x2 := p2.out _ hx8
            have x3 := p3.out _ hx8
            have x4 := p4.out _ hx8
            have x5 := p5.out _ hx8
            have x6 := p6.out _ hx8
            have x7 := p7.out _ hx8
            have x8 := p8.out _ hx8
            have x9 := p9.out _ hx8
            clear hb8 hx8
            have hz : z = true := by rw [← HZ.out]; simp [okM, plainB, V.k, HBR.out, HKN.out, Hm.out, Hp.out]
            have HZ2 := hide hz
            clear hz
            go_wp2
            go_ret
            exact ⟨by rw [HZ2.out]; rfl, HB8.out⟩
          | true =>
            rw [hp] at HP
            have Hp := hide hp
            clear hp
            go_wp2_with fail
            refine HP.out.mono ?_
            rintro e w8 ⟨rfl, hb8⟩
            clear HP x0 x1 x2 x3 x4 x5 x6 x7 x8 x9
            have HB8 := hide (HB7.out.trans (hb8.mono HB7.out.size))
            have hx8 := HX7.out.trans (hb8.mono HX7.out.size)
            have x0 := p0.out _ hx8
            have x1 := p1.out _ hx8
            have x2 := p2.out _ hx8
            have x3 := p3.out _ hx8
            have x4 := p4.out _ hx8
            have x5 := p5.out _ hx8
            have x6 := p6.out _ hx8
            have x7 := p7.out _ hx8
            have x8 := p8.out _ hx8
            have x9 := p9.out _ hx8
            clear hb8 hx8
            have hz : z = true := by rw [← HZ.out]; simp [okM, plainB, V.k, HBR.out, HKN.out, Hm.out, Hp.out]
            have HZ2 := hide hz
            clear hz
            go_wp2
            go_ret
            exact ⟨by rw [HZ2.out]; rfl, HB8.out⟩)
  · have HKN := hide (show knownK 19 = true by decide)
    have HO := hide (fun W' (h : Below (w.alloc (.cells #[.int .i64 19, .string ms, .string mt, .int .i64 mn, .int .i64 k, .bool b, .int .i64 n, .string s, .slice AL l.length cL, .slice AK ks.length cK] 41)).heap.size (w.alloc (.cells #[.int .i64 19, .string ms, .string mt, .int .i64 mn, .int .i64 k, .bool b, .int .i64 n, .string s, .slice AL l.length cL, .slice AK ks.length cK] 41)) W') => own_any (HM.out.grow h))
    generalize hW : w.alloc (.cells #[.int .i64 19, .string ms, .string mt, .int .i64 mn, .int .i64 k, .bool b, .int .i64 n, .string s, .slice AL l.length cL, .slice AK ks.length cK] 41) = W at HX HB HM HV HO
    have p0 := hide (show ∀ W', Below W.heap.size W W' → W'.cell? ⟨w.heap.size, 0, none⟩ = some (.int .i64 19) from fun W' h => blkR (HX.out.below h HX.out.lt) rfl)
    have p1 := hide (show ∀ W', Below W.heap.size W W' → W'.cell? ⟨w.heap.size, 1, none⟩ = some (.string ms) from fun W' h => blkR (HX.out.below h HX.out.lt) rfl)
    have p2 := hide (show ∀ W', Below W.heap.size W W' → W'.cell? ⟨w.heap.size, 2, none⟩ = some (.string mt) from fun W' h => blkR (HX.out.below h HX.out.lt) rfl)
    have p3 := hide (show ∀ W', Below W.heap.size W W' → W'.cell? ⟨w.heap.size, 3, none⟩ = some (.int .i64 mn) from fun W' h => blkR (HX.out.below h HX.out.lt) rfl)
    have p4 := hide (show ∀ W', Below W.heap.size W W' → W'.cell? ⟨w.heap.size, 4, none⟩ = some (.int .i64 k) from fun W' h => blkR (HX.out.below h HX.out.lt) rfl)
    have p5 := hide (show ∀ W', Below W.heap.size W W' → W'.cell? ⟨w.heap.size, 5, none⟩ = some (.bool b) from fun W' h => blkR (HX.out.below h HX.out.lt) rfl)
    have p6 := hide (show ∀ W', Below W.heap.size W W' → W'.cell? ⟨w.heap.size, 6, none⟩ = some (.int .i64 n) from fun W' h => blkR (HX.out.below h HX.out.lt) rfl)
    have p7 := hide (show ∀ W', Below W.heap.size W W' → W'.cell? ⟨w.heap.size, 7, none⟩ = some (.string s) from fun W' h => blkR (HX.out.below h HX.out.lt) rfl)
    have p8 := hide (show ∀ W', Below W.heap.size W W' → W'.cell? ⟨w.heap.size, 8, none⟩ = some (.slice AL l.length cL) from fun W' h => blkR (HX.out.below h HX.out.lt) rfl)
    have p9 := hide (show ∀ W', Below W.heap.size W W' → W'.cell? ⟨w.heap.size, 9, none⟩ = some (.slice AK ks.length cK) from fun W' h => blkR (HX.out.below h HX.out.lt) rfl)
    cases hq : eqM (ownM ⟨19, ms, mt, mn, .mk k b n s l ks⟩) ⟨19, ms, mt, mn, .mk k b n s l ks⟩ with
    | false =>
      have HS := hide (show ∀ W', Below W.heap.size W W' → ∀ ds, IsM W' S (ownM ⟨19, ms, mt, mn, .mk k b n s l ks⟩) ds → Calls Try.prog 23 #[.agg ds, .agg #[.int .i64 19, .string ms, .string mt, .int .i64 mn, .int .i64 k, .bool b, .int .i64 n, .string s, .slice AL l.length cL, .slice AK ks.length cK]] W' (fun e w' => e = .returned (.bool false) ∧ Below W'.heap.size W' w') from fun W' h ds hd => by have := msame_any hd (HM.out.grow h); rw [hq] at this; exact this)
      have HQ := hide hq
      clear hq
      go_enter Try.func44, Try.ntmps44
      go_wp2_with fail
      clear hW
      have q0 : ∀ W', Below W.heap.size W W' → W'.cell? ⟨w.heap.size, 0, none⟩ = some (.int .i64 19) := p0.out
      have q1 : ∀ W', Below W.heap.size W W' → W'.cell? ⟨w.heap.size, 1, none⟩ = some (.string ms) := p1.out
      have q2 : ∀ W', Below W.heap.size W W' → W'.cell? ⟨w.heap.size, 2, none⟩ = some (.string mt) := p2.out
      have q3 : ∀ W', Below W.heap.size W W' → W'.cell? ⟨w.heap.size, 3, none⟩ = some (.int .i64 mn) := p3.out
      have q4 : ∀ W', Below W.heap.size W W' → W'.cell? ⟨w.heap.size, 4, none⟩ = some (.int .i64 k) := p4.out
      have q5 : ∀ W', Below W.heap.size W W' → W'.cell? ⟨w.heap.size, 5, none⟩ = some (.bool b) := p5.out
      have q6 : ∀ W', Below W.heap.size W W' → W'.cell? ⟨w.heap.size, 6, none⟩ = some (.int .i64 n) := p6.out
      have q7 : ∀ W', Below W.heap.size W W' → W'.cell? ⟨w.heap.size, 7, none⟩ = some (.string s) := p7.out
      have q8 : ∀ W', Below W.heap.size W W' → W'.cell? ⟨w.heap.size, 8, none⟩ = some (.slice AL l.length cL) := p8.out
      have q9 : ∀ W', Below W.heap.size W W' → W'.cell? ⟨w.heap.size, 9, none⟩ = some (.slice AK ks.length cK) := p9.out
      go_region_held3 (fun W' => Below W.heap.size W W') (first | exact (Below.refl _ W).drew | (have hx := ‹Below W.heap.size W _›; exact hx.trans (hb5.mono hx.size)) | (have hx := ‹Below W.heap.size W _›; exact hx.trans (hb6.mono hx.size))) (first | (go_at_call 65; refine (HO.out _ (by assumption)).mono ?_; rintro e w5 ⟨ds, rfl, hM5, hb5⟩; obtain ⟨mk5, ms5, mt5, mn5, k5, bb5, n5, s5, AL5, nL5, cL5, AK5, nK5, cK5, rfl⟩ := hM5.ten) | (go_at_call 23; refine (HS.out _ (by assumption) _ (by assumption)).mono ?_; rintro e w6 ⟨rfl, hb6⟩))
      all_goals (
        have hx := ‹Below W.heap.size W _›
        have hB9 := HB.out.trans (hx.mono HB.out.size)
        have HB9 := hide hB9
        have hz : z = false := by rw [← HZ.out]; exact okM_not HQ.out
        have HZ2 := hide hz
        clear hz hB9 q0 q1 q2 q3 q4 q5 q6 q7 q8 q9
        go_wp2
        go_ret
        exact ⟨by rw [HZ2.out]; rfl, HB9.out⟩)
    | true =>
      have HS := hide (show ∀ W', Below W.heap.size W W' → ∀ ds, IsM W' S (ownM ⟨19, ms, mt, mn, .mk k b n s l ks⟩) ds → Calls Try.prog 23 #[.agg ds, .agg #[.int .i64 19, .string ms, .string mt, .int .i64 mn, .int .i64 k, .bool b, .int .i64 n, .string s, .slice AL l.length cL, .slice AK ks.length cK]] W' (fun e w' => e = .returned (.bool true) ∧ Below W'.heap.size W' w') from fun W' h ds hd => by have := msame_any hd (HM.out.grow h); rw [hq] at this; exact this)
      have HQ := hide hq
      clear hq
      go_enter Try.func44, Try.ntmps44
      go_wp2_with fail
      clear hW
      have q0 : ∀ W', Below W.heap.size W W' → W'.cell? ⟨w.heap.size, 0, none⟩ = some (.int .i64 19) := p0.out
      have q1 : ∀ W', Below W.heap.size W W' → W'.cell? ⟨w.heap.size, 1, none⟩ = some (.string ms) := p1.out
      have q2 : ∀ W', Below W.heap.size W W' → W'.cell? ⟨w.heap.size, 2, none⟩ = some (.string mt) := p2.out
      have q3 : ∀ W', Below W.heap.size W W' → W'.cell? ⟨w.heap.size, 3, none⟩ = some (.int .i64 mn) := p3.out
      have q4 : ∀ W', Below W.heap.size W W' → W'.cell? ⟨w.heap.size, 4, none⟩ = some (.int .i64 k) := p4.out
      have q5 : ∀ W', Below W.heap.size W W' → W'.cell? ⟨w.heap.size, 5, none⟩ = some (.bool b) := p5.out
      have q6 : ∀ W', Below W.heap.size W W' → W'.cell? ⟨w.heap.size, 6, none⟩ = some (.int .i64 n) := p6.out
      have q7 : ∀ W', Below W.heap.size W W' → W'.cell? ⟨w.heap.size, 7, none⟩ = some (.string s) := p7.out
      have q8 : ∀ W', Below W.heap.size W W' → W'.cell? ⟨w.heap.size, 8, none⟩ = some (.slice AL l.length cL) := p8.out
      have q9 : ∀ W', Below W.heap.size W W' → W'.cell? ⟨w.heap.size, 9, none⟩ = some (.slice AK ks.length cK) := p9.out
      go_region_held3 (fun W' => Below W.heap.size W W') (first | exact (Below.refl _ W).drew | (have hx := ‹Below W.heap.size W _›; exact hx.trans (hb5.mono hx.size)) | (have hx := ‹Below W.heap.size W _›; exact hx.trans (hb6.mono hx.size))) (first | (go_at_call 65; refine (HO.out _ (by assumption)).mono ?_; rintro e w5 ⟨ds, rfl, hM5, hb5⟩; obtain ⟨mk5, ms5, mt5, mn5, k5, bb5, n5, s5, AL5, nL5, cL5, AK5, nK5, cK5, rfl⟩ := hM5.ten) | (go_at_call 23; refine (HS.out _ (by assumption) _ (by assumption)).mono ?_; rintro e w6 ⟨rfl, hb6⟩))
      all_goals (
        have hx := ‹Below W.heap.size W _›
        have HX9 := hide hx
        have HB9 := hide (HB.out.trans (hx.mono HB.out.size))
        clear q0 q1 q2 q3 q4 q5 q6 q7 q8 q9
        have x0 := p0.out _ hx
        have x1 := p1.out _ hx
        have x2 := p2.out _ hx
        have x3 := p3.out _ hx
        have x4 := p4.out _ hx
        have x5 := p5.out _ hx
        have x6 := p6.out _ hx
        have x7 := p7.out _ hx
        have x8 := p8.out _ hx
        have x9 := p9.out _ hx
        have HV9 := hide (HV.out.grow hx)
        have HC := hide (rMay_any HV9.out)
        have hbr := own_bare ⟨19, ms, mt, mn, .mk k b n s l ks⟩
        rw [HQ.out] at hbr
        have HBR := hide (show bareM ⟨19, ms, mt, mn, .mk k b n s l ks⟩ false false false false = true from by simpa [usM] using hbr.symm)
        clear hbr
        cases hm : mayB (.mk k b n s l ks) with
        | false =>
          rw [hm] at HC
          have Hm := hide hm
          clear hm
          go_wp2_with fail
          refine HC.out.mono ?_
          rintro e w7 ⟨rfl, hb7⟩
          clear HC x0 x1 x2 x3 x4 x5 x6 x7 x8 x9
          have HB7 := hide (HB9.out.trans (hb7.mono HB9.out.size))
          have hx7 := HX9.out.trans (hb7.mono HX9.out.size)
          have x0 := p0.out _ hx7
          have x1 := p1.out _ hx7
          have x2 := p2.out _ hx7
          have x3 := p3.out _ hx7
          have x4 := p4.out _ hx7
          have x5 := p5.out _ hx7
          have x6 := p6.out _ hx7
          have x7 := p7.out _ hx7
          have x8 := p8.out _ hx7
          have x9 := p9.out _ hx7
          clear hb7 hx7
          have hz : z = true := by rw [← HZ.out]; simp [okM, plainB, V.k, HBR.out, HKN.out, Hm.out]
          have HZ2 := hide hz
          clear hz
          go_wp2
          go_ret
          exact ⟨by rw [HZ2.out]; rfl, HB7.out⟩
        | true =>
          rw [hm] at HC
          have Hm := hide hm
          clear hm
          go_wp2_with fail
          refine HC.out.mono ?_
          rintro e w7 ⟨rfl, hb7⟩
          clear HC x0 x1 x2 x3 x4 x5 x6 x7 x8 x9
          have HB7 := hide (HB9.out.trans (hb7.mono HB9.out.size))
          have hx7 := HX9.out.trans (hb7.mono HX9.out.size)
          have x0 := p0.out _ hx7
          have x1 := p1.out _ hx7
          have x2 := p2.out _ hx7
          have x3 := p3.out _ hx7
          have x4 := p4.out _ hx7
          have x5 := p5.out _ hx7
          have x6 := p6.out _ hx7
          have x7 := p7.out _ hx7
          have x8 := p8.out _ hx7
          have x9 := p9.out _ hx7
          have HP := hide (rplain_any _ (HV9.out.grow hb7))
          rw [mayB_pl Hm.out] at HP
          have HX7 := hide hx7
          clear hb7 hx7
          cases hp : plV (.mk k b n s l ks) with
          | false =>
            rw [hp] at HP
            have Hp := hide hp
            clear hp
            go_wp2_with fail
            refine HP.out.mono ?_
            rintro e w8 ⟨rfl, hb8⟩
            clear HP x0 x1 x2 x3 x4 x5 x6 x7 x8 x9
            have HB8 := hide (HB7.out.trans (hb8.mono HB7.out.size))
            have hx8 := HX7.out.trans (hb8.mono HX7.out.size)
            have x0 := p0.out _ hx8
            have x1 := p1.out _ hx8
            have x2 := p2.out _ hx8
            have x3 := p3.out _ hx8
            have x4 := p4.out _ hx8
            have x5 := p5.out _ hx8
            have x6 := p6.out _ hx8
            have x7 := p7.out _ hx8
            have x8 := p8.out _ hx8
            have x9 := p9.out _ hx8
            clear hb8 hx8
            have hz : z = true := by rw [← HZ.out]; simp [okM, plainB, V.k, HBR.out, HKN.out, Hm.out, Hp.out]
            have HZ2 := hide hz
            clear hz
            go_wp2
            go_ret
            exact ⟨by rw [HZ2.out]; rfl, HB8.out⟩
          | true =>
            rw [hp] at HP
            have Hp := hide hp
            clear hp
            go_wp2_with fail
            refine HP.out.mono ?_
            rintro e w8 ⟨rfl, hb8⟩
            clear HP x0 x1 x2 x3 x4 x5 x6 x7 x8 x9
            have HB8 := hide (HB7.out.trans (hb8.mono HB7.out.size))
            have hx8 := HX7.out.trans (hb8.mono HX7.out.size)
            have x0 := p0.out _ hx8
            have x1 := p1.out _ hx8
            have x2 := p2.out _ hx8
            have x3 := p3.out _ hx8
            have x4 := p4.out _ hx8
            have x5 := p5.out _ hx8
            have x6 := p6.out _ hx8
            have x7 := p7.out _ hx8
            have x8 := p8.out _ hx8
            have x9 := p9.out _ hx8
            clear hb8 hx8
            have hz : z = true := by rw [← HZ.out]; simp [okM, plainB, V.k, HBR.out, HKN.out, Hm.out, Hp.out]
            have HZ2 := hide hz
            clear hz
            go_wp2
            go_ret
            exact ⟨by rw [HZ2.out]; rfl, HB8.out⟩)
  · have HK := hide h0
    have e1 : (mk == 1) = false := by simp; omega
    have e3 : (mk == 3) = false := by simp; omega
    have e4 : (mk == 4) = false := by simp; omega
    have e18 : (mk == 18) = false := by simp; omega
    have e16 : (mk == 16) = false := by simp; omega
    have e17 : (mk == 17) = false := by simp; omega
    have e2 : (mk == 2) = false := by simp; omega
    have e5 : (mk == 5) = false := by simp; omega
    have e6 : (mk == 6) = false := by simp; omega
    have e7 : (mk == 7) = false := by simp; omega
    have e8 : (mk == 8) = false := by simp; omega
    have e19 : (mk == 19) = false := by simp; omega
    clear h0
    have HO := hide (fun W' (h : Below (w.alloc (.cells #[.int .i64 mk, .string ms, .string mt, .int .i64 mn, .int .i64 k, .bool b, .int .i64 n, .string s, .slice AL l.length cL, .slice AK ks.length cK] 41)).heap.size (w.alloc (.cells #[.int .i64 mk, .string ms, .string mt, .int .i64 mn, .int .i64 k, .bool b, .int .i64 n, .string s, .slice AL l.length cL, .slice AK ks.length cK] 41)) W') => own_any (HM.out.grow h))
    generalize hW : w.alloc (.cells #[.int .i64 mk, .string ms, .string mt, .int .i64 mn, .int .i64 k, .bool b, .int .i64 n, .string s, .slice AL l.length cL, .slice AK ks.length cK] 41) = W at HX HB HM HV HO
    have p0 := hide (show ∀ W', Below W.heap.size W W' → W'.cell? ⟨w.heap.size, 0, none⟩ = some (.int .i64 mk) from fun W' h => blkR (HX.out.below h HX.out.lt) rfl)
    have p1 := hide (show ∀ W', Below W.heap.size W W' → W'.cell? ⟨w.heap.size, 1, none⟩ = some (.string ms) from fun W' h => blkR (HX.out.below h HX.out.lt) rfl)
    have p2 := hide (show ∀ W', Below W.heap.size W W' → W'.cell? ⟨w.heap.size, 2, none⟩ = some (.string mt) from fun W' h => blkR (HX.out.below h HX.out.lt) rfl)
    have p3 := hide (show ∀ W', Below W.heap.size W W' → W'.cell? ⟨w.heap.size, 3, none⟩ = some (.int .i64 mn) from fun W' h => blkR (HX.out.below h HX.out.lt) rfl)
    have p4 := hide (show ∀ W', Below W.heap.size W W' → W'.cell? ⟨w.heap.size, 4, none⟩ = some (.int .i64 k) from fun W' h => blkR (HX.out.below h HX.out.lt) rfl)
    have p5 := hide (show ∀ W', Below W.heap.size W W' → W'.cell? ⟨w.heap.size, 5, none⟩ = some (.bool b) from fun W' h => blkR (HX.out.below h HX.out.lt) rfl)
    have p6 := hide (show ∀ W', Below W.heap.size W W' → W'.cell? ⟨w.heap.size, 6, none⟩ = some (.int .i64 n) from fun W' h => blkR (HX.out.below h HX.out.lt) rfl)
    have p7 := hide (show ∀ W', Below W.heap.size W W' → W'.cell? ⟨w.heap.size, 7, none⟩ = some (.string s) from fun W' h => blkR (HX.out.below h HX.out.lt) rfl)
    have p8 := hide (show ∀ W', Below W.heap.size W W' → W'.cell? ⟨w.heap.size, 8, none⟩ = some (.slice AL l.length cL) from fun W' h => blkR (HX.out.below h HX.out.lt) rfl)
    have p9 := hide (show ∀ W', Below W.heap.size W W' → W'.cell? ⟨w.heap.size, 9, none⟩ = some (.slice AK ks.length cK) from fun W' h => blkR (HX.out.below h HX.out.lt) rfl)
    cases hq : eqM (ownM ⟨mk, ms, mt, mn, .mk k b n s l ks⟩) ⟨mk, ms, mt, mn, .mk k b n s l ks⟩ with
    | false =>
      have HS := hide (show ∀ W', Below W.heap.size W W' → ∀ ds, IsM W' S (ownM ⟨mk, ms, mt, mn, .mk k b n s l ks⟩) ds → Calls Try.prog 23 #[.agg ds, .agg #[.int .i64 mk, .string ms, .string mt, .int .i64 mn, .int .i64 k, .bool b, .int .i64 n, .string s, .slice AL l.length cL, .slice AK ks.length cK]] W' (fun e w' => e = .returned (.bool false) ∧ Below W'.heap.size W' w') from fun W' h ds hd => by have := msame_any hd (HM.out.grow h); rw [hq] at this; exact this)
      have HQ := hide hq
      clear hq
      go_enter Try.func44, Try.ntmps44
      go_wp2_with fail
      clear hW
      have q0 : ∀ W', Below W.heap.size W W' → W'.cell? ⟨w.heap.size, 0, none⟩ = some (.int .i64 mk) := p0.out
      have q1 : ∀ W', Below W.heap.size W W' → W'.cell? ⟨w.heap.size, 1, none⟩ = some (.string ms) := p1.out
      have q2 : ∀ W', Below W.heap.size W W' → W'.cell? ⟨w.heap.size, 2, none⟩ = some (.string mt) := p2.out
      have q3 : ∀ W', Below W.heap.size W W' → W'.cell? ⟨w.heap.size, 3, none⟩ = some (.int .i64 mn) := p3.out
      have q4 : ∀ W', Below W.heap.size W W' → W'.cell? ⟨w.heap.size, 4, none⟩ = some (.int .i64 k) := p4.out
      have q5 : ∀ W', Below W.heap.size W W' → W'.cell? ⟨w.heap.size, 5, none⟩ = some (.bool b) := p5.out
      have q6 : ∀ W', Below W.heap.size W W' → W'.cell? ⟨w.heap.size, 6, none⟩ = some (.int .i64 n) := p6.out
      have q7 : ∀ W', Below W.heap.size W W' → W'.cell? ⟨w.heap.size, 7, none⟩ = some (.string s) := p7.out
      have q8 : ∀ W', Below W.heap.size W W' → W'.cell? ⟨w.heap.size, 8, none⟩ = some (.slice AL l.length cL) := p8.out
      have q9 : ∀ W', Below W.heap.size W W' → W'.cell? ⟨w.heap.size, 9, none⟩ = some (.slice AK ks.length cK) := p9.out
      go_region_held3 (fun W' => Below W.heap.size W W') (first | exact (Below.refl _ W).drew | (have hx := ‹Below W.heap.size W _›; exact hx.trans (hb5.mono hx.size)) | (have hx := ‹Below W.heap.size W _›; exact hx.trans (hb6.mono hx.size))) (first | (go_at_call 65; refine (HO.out _ (by assumption)).mono ?_; rintro e w5 ⟨ds, rfl, hM5, hb5⟩; obtain ⟨mk5, ms5, mt5, mn5, k5, bb5, n5, s5, AL5, nL5, cL5, AK5, nK5, cK5, rfl⟩ := hM5.ten) | (go_at_call 23; refine (HS.out _ (by assumption) _ (by assumption)).mono ?_; rintro e w6 ⟨rfl, hb6⟩))
      all_goals (
        have hx := ‹Below W.heap.size W _›
        have hB9 := HB.out.trans (hx.mono HB.out.size)
        have HB9 := hide hB9
        have hz : z = false := by rw [← HZ.out]; exact okM_not HQ.out
        have HZ2 := hide hz
        clear hz hB9 q0 q1 q2 q3 q4 q5 q6 q7 q8 q9
        go_wp2
        go_ret
        exact ⟨by rw [HZ2.out]; rfl, HB9.out⟩)
    | true =>
      have HS := hide (show ∀ W', Below W.heap.size W W' → ∀ ds, IsM W' S (ownM ⟨mk, ms, mt, mn, .mk k b n s l ks⟩) ds → Calls Try.prog 23 #[.agg ds, .agg #[.int .i64 mk, .string ms, .string mt, .int .i64 mn, .int .i64 k, .bool b, .int .i64 n, .string s, .slice AL l.length cL, .slice AK ks.length cK]] W' (fun e w' => e = .returned (.bool true) ∧ Below W'.heap.size W' w') from fun W' h ds hd => by have := msame_any hd (HM.out.grow h); rw [hq] at this; exact this)
      have HQ := hide hq
      clear hq
      go_enter Try.func44, Try.ntmps44
      go_wp2_with fail
      clear hW
      have q0 : ∀ W', Below W.heap.size W W' → W'.cell? ⟨w.heap.size, 0, none⟩ = some (.int .i64 mk) := p0.out
      have q1 : ∀ W', Below W.heap.size W W' → W'.cell? ⟨w.heap.size, 1, none⟩ = some (.string ms) := p1.out
      have q2 : ∀ W', Below W.heap.size W W' → W'.cell? ⟨w.heap.size, 2, none⟩ = some (.string mt) := p2.out
      have q3 : ∀ W', Below W.heap.size W W' → W'.cell? ⟨w.heap.size, 3, none⟩ = some (.int .i64 mn) := p3.out
      have q4 : ∀ W', Below W.heap.size W W' → W'.cell? ⟨w.heap.size, 4, none⟩ = some (.int .i64 k) := p4.out
      have q5 : ∀ W', Below W.heap.size W W' → W'.cell? ⟨w.heap.size, 5, none⟩ = some (.bool b) := p5.out
      have q6 : ∀ W', Below W.heap.size W W' → W'.cell? ⟨w.heap.size, 6, none⟩ = some (.int .i64 n) := p6.out
      have q7 : ∀ W', Below W.heap.size W W' → W'.cell? ⟨w.heap.size, 7, none⟩ = some (.string s) := p7.out
      have q8 : ∀ W', Below W.heap.size W W' → W'.cell? ⟨w.heap.size, 8, none⟩ = some (.slice AL l.length cL) := p8.out
      have q9 : ∀ W', Below W.heap.size W W' → W'.cell? ⟨w.heap.size, 9, none⟩ = some (.slice AK ks.length cK) := p9.out
      go_region_held3 (fun W' => Below W.heap.size W W') (first | exact (Below.refl _ W).drew | (have hx := ‹Below W.heap.size W _›; exact hx.trans (hb5.mono hx.size)) | (have hx := ‹Below W.heap.size W _›; exact hx.trans (hb6.mono hx.size))) (first | (go_at_call 65; refine (HO.out _ (by assumption)).mono ?_; rintro e w5 ⟨ds, rfl, hM5, hb5⟩; obtain ⟨mk5, ms5, mt5, mn5, k5, bb5, n5, s5, AL5, nL5, cL5, AK5, nK5, cK5, rfl⟩ := hM5.ten) | (go_at_call 23; refine (HS.out _ (by assumption) _ (by assumption)).mono ?_; rintro e w6 ⟨rfl, hb6⟩))
      all_goals (
        have hx := ‹Below W.heap.size W _›
        have HX9 := hide hx
        have HB9 := hide (HB.out.trans (hx.mono HB.out.size))
        clear q0 q1 q2 q3 q4 q5 q6 q7 q8 q9
        have x0 := p0.out _ hx
        have x1 := p1.out _ hx
        have x2 := p2.out _ hx
        have x3 := p3.out _ hx
        have x4 := p4.out _ hx
        have x5 := p5.out _ hx
        have x6 := p6.out _ hx
        have x7 := p7.out _ hx
        have x8 := p8.out _ hx
        have x9 := p9.out _ hx
        have HV9 := hide (HV.out.grow hx)
        have HC := hide (rMay_any HV9.out)
        cases hm : mayB (.mk k b n s l ks) with
        | false =>
          rw [hm] at HC
          have Hm := hide hm
          clear hm
          go_wp2_with fail
          refine HC.out.mono ?_
          rintro e w7 ⟨rfl, hb7⟩
          clear HC x0 x1 x2 x3 x4 x5 x6 x7 x8 x9
          have HB7 := hide (HB9.out.trans (hb7.mono HB9.out.size))
          have hx7 := HX9.out.trans (hb7.mono HX9.out.size)
          have x0 := p0.out _ hx7
          have x1 := p1.out _ hx7
          have x2 := p2.out _ hx7
          have x3 := p3.out _ hx7
          have x4 := p4.out _ hx7
          have x5 := p5.out _ hx7
          have x6 := p6.out _ hx7
          have x7 := p7.out _ hx7
          have x8 := p8.out _ hx7
          have x9 := p9.out _ hx7
          clear hb7 hx7
          have hz : z = false := by rw [← HZ.out]; exact okM_unknown (m := ⟨mk, ms, mt, mn, .mk k b n s l ks⟩) (by unfold knownK; rw [decide_eq_false_iff_not]; have := HK.out; dsimp only; omega)
          have HZ2 := hide hz
          clear hz
          go_wp2
          go_ret
          exact ⟨by rw [HZ2.out]; rfl, HB7.out⟩
        | true =>
          rw [hm] at HC
          have Hm := hide hm
          clear hm
          go_wp2_with fail
          refine HC.out.mono ?_
          rintro e w7 ⟨rfl, hb7⟩
          clear HC x0 x1 x2 x3 x4 x5 x6 x7 x8 x9
          have HB7 := hide (HB9.out.trans (hb7.mono HB9.out.size))
          have hx7 := HX9.out.trans (hb7.mono HX9.out.size)
          have x0 := p0.out _ hx7
          have x1 := p1.out _ hx7
          have x2 := p2.out _ hx7
          have x3 := p3.out _ hx7
          have x4 := p4.out _ hx7
          have x5 := p5.out _ hx7
          have x6 := p6.out _ hx7
          have x7 := p7.out _ hx7
          have x8 := p8.out _ hx7
          have x9 := p9.out _ hx7
          have HP := hide (rplain_any _ (HV9.out.grow hb7))
          rw [mayB_pl Hm.out] at HP
          have HX7 := hide hx7
          clear hb7 hx7
          cases hp : plV (.mk k b n s l ks) with
          | false =>
            rw [hp] at HP
            have Hp := hide hp
            clear hp
            go_wp2_with fail
            refine HP.out.mono ?_
            rintro e w8 ⟨rfl, hb8⟩
            clear HP x0 x1 x2 x3 x4 x5 x6 x7 x8 x9
            have HB8 := hide (HB7.out.trans (hb8.mono HB7.out.size))
            have hx8 := HX7.out.trans (hb8.mono HX7.out.size)
            have x0 := p0.out _ hx8
            have x1 := p1.out _ hx8
            have x2 := p2.out _ hx8
            have x3 := p3.out _ hx8
            have x4 := p4.out _ hx8
            have x5 := p5.out _ hx8
            have x6 := p6.out _ hx8
            have x7 := p7.out _ hx8
            have x8 := p8.out _ hx8
            have x9 := p9.out _ hx8
            clear hb8 hx8
            have hz : z = false := by rw [← HZ.out]; exact okM_unknown (m := ⟨mk, ms, mt, mn, .mk k b n s l ks⟩) (by unfold knownK; rw [decide_eq_false_iff_not]; have := HK.out; dsimp only; omega)
            have HZ2 := hide hz
            clear hz
            go_wp2
            go_ret
            exact ⟨by rw [HZ2.out]; rfl, HB8.out⟩
          | true =>
            rw [hp] at HP
            have Hp := hide hp
            clear hp
            go_wp2_with fail
            refine HP.out.mono ?_
            rintro e w8 ⟨rfl, hb8⟩
            clear HP x0 x1 x2 x3 x4 x5 x6 x7 x8 x9
            have HB8 := hide (HB7.out.trans (hb8.mono HB7.out.size))
            have hx8 := HX7.out.trans (hb8.mono HX7.out.size)
            have x0 := p0.out _ hx8
            have x1 := p1.out _ hx8
            have x2 := p2.out _ hx8
            have x3 := p3.out _ hx8
            have x4 := p4.out _ hx8
            have x5 := p5.out _ hx8
            have x6 := p6.out _ hx8
            have x7 := p7.out _ hx8
            have x8 := p8.out _ hx8
            have x9 := p9.out _ hx8
            clear hb8 hx8
            have hz : z = false := by rw [← HZ.out]; exact okM_unknown (m := ⟨mk, ms, mt, mn, .mk k b n s l ks⟩) (by unfold knownK; rw [decide_eq_false_iff_not]; have := HK.out; dsimp only; omega)
            have HZ2 := hide hz
            clear hz
            go_wp2
            go_ret
            exact ⟨by rw [HZ2.out]; rfl, HB8.out⟩)

theorem rcheckM_any {m : M} {w : World} {S : Nat → Prop} {cs : Array Value} (hM : IsM w S m cs) :
    Calls Try.prog 28 #[.agg cs] w fun e w' => e = .returned (.int .i64 (if okM m = true then 0 else 9)) ∧ Below w.heap.size w w' := by
  obtain ⟨mk, ms, mt, mn, k, b, n, s, AL, nL, cL, AK, nK, cK, rfl⟩ := hM.ten
  have HC := hide (fun o => rmayM_any (hM.alloc o))
  have B0 := fun o => (Below.refl w.heap.size w).alloc (Nat.le_refl _) o
  have HB := hide B0
  clear B0 hM
  generalize okM m = q at HC ⊢
  cases q <;>
  · go_enter Try.func28, Try.ntmps28
    go_wp2_with fail
    refine (HC.out _).mono ?_
    rintro e w5 ⟨rfl, hb⟩
    have HB5 := hide ((HB.out _).trans (hb.mono (by simp)))
    clear hb HC HB
    go_wp2
    go_ret
    exact ⟨rfl, HB5.out⟩
end Go.Proofs.Ytaapbiiiepdopaa
