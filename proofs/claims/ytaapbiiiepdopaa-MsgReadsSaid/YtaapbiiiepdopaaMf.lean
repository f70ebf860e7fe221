/- msg.Check. -/
import Derived.Test.YtaapbiiiepdopaaMe
namespace Go.Proofs.Ytaapbiiiepdopaa
open Go.RowKit Mem
set_option linter.unusedVariables false

set_option maxHeartbeats 4000000 in
set_option maxRecDepth 100000 in
theorem mcheck_any {m : M} {w : World} {S : Nat → Prop} {cs : Array Value} (hM : IsM w S m cs) :
    Calls Try.prog 26 #[.agg cs] w fun e w' => e = .returned (.int .i64 (if okM m = true then 0 else 9)) ∧ Below w.heap.size w w' := by
  have hM0 := hM
  obtain ⟨mk, ms, mt, mn, mv⟩ := m
  obtain ⟨k, b, n, s, AL, nL, cL, AK, nK, cK, rfl, hV, hrange⟩ := hM
  have hms : ms.size ≤ 9223372036854775807 := hrange.2.2.2.2.1
  have hmt : mt.size ≤ 9223372036854775807 := hrange.2.2.2.2.2
  dsimp only at hV hM0
  clear hrange
  have X0 := Blk.new w 41 #[.int .i64 mk, .string ms, .string mt, .int .i64 mn, .int .i64 k, .bool b, .int .i64 n, .string s, .slice AL nL cL, .slice AK nK cK]
  have B0 := (Below.refl w.heap.size w).alloc (Nat.le_refl _) (.cells #[.int .i64 mk, .string ms, .string mt, .int .i64 mn, .int .i64 k, .bool b, .int .i64 n, .string s, .slice AL nL cL, .slice AK nK cK] 41)
  have M0 := hM0.alloc (.cells #[.int .i64 mk, .string ms, .string mt, .int .i64 mn, .int .i64 k, .bool b, .int .i64 n, .string s, .slice AL nL cL, .slice AK nK cK] 41)
  have HX0 := hide X0
  have HB0 := hide B0
  have HM0 := hide M0
  clear X0 B0 M0 hM0 hV
  have n1 := strNil ms
  have n2 := strNil mt
  generalize hz : (if okM ⟨mk, ms, mt, mn, mv⟩ = true then (0 : Int) else 9) = z
  have HZ := hide hz
  clear hz
  rcases kind_cases mk with rfl | rfl | rfl | rfl | rfl | rfl | h0
  · go_enter Try.func26, Try.ntmps26
    go_wp2_with fail
    generalize w.alloc (.cells #[.int .i64 1, .string ms, .string mt, .int .i64 mn, .int .i64 k, .bool b, .int .i64 n, .string s, .slice AL nL cL, .slice AK nK cK] 41) = W at HX0 HB0 HM0 ⊢
    refine (show Calls Try.prog 47 #[.int .i64 1] W (fun e w' => e = .returned (.tuple #[.int .i64 1, .bool true]) ∧ Below W.heap.size W w') from parts_any 1 W).mono ?_
    rintro e w2 ⟨rfl, hb⟩
    have X2 := HX0.out.below hb HX0.out.lt
    have M2 := HM0.out.grow hb
    have HB2 := hide (HB0.out.trans (hb.mono HB0.out.size))
    have HX2 := hide X2
    have HM2 := hide M2
    have x0 : w2.cell? ⟨w.heap.size, 0, none⟩ = some (.int .i64 1) := blkR X2 rfl
    have x1 : w2.cell? ⟨w.heap.size, 1, none⟩ = some (.string ms) := blkR X2 rfl
    have x2 : w2.cell? ⟨w.heap.size, 2, none⟩ = some (.string mt) := blkR X2 rfl
    have x3 : w2.cell? ⟨w.heap.size, 3, none⟩ = some (.int .i64 mn) := blkR X2 rfl
    have x4 : w2.cell? ⟨w.heap.size, 4, none⟩ = some (.int .i64 k) := blkR X2 rfl
    have x5 : w2.cell? ⟨w.heap.size, 5, none⟩ = some (.bool b) := blkR X2 rfl
    have x6 : w2.cell? ⟨w.heap.size, 6, none⟩ = some (.int .i64 n) := blkR X2 rfl
    have x7 : w2.cell? ⟨w.heap.size, 7, none⟩ = some (.string s) := blkR X2 rfl
    have x8 : w2.cell? ⟨w.heap.size, 8, none⟩ = some (.slice AL nL cL) := blkR X2 rfl
    have x9 : w2.cell? ⟨w.heap.size, 9, none⟩ = some (.slice AK nK cK) := blkR X2 rfl
    clear X2 M2 hb HX0 HB0 HM0
    have HC := hide (mbare_any HM2.out true false false false)
    cases c0 : bareM ⟨1, ms, mt, mn, mv⟩ true false false false with
    | true =>
      rw [c0] at HC
      have Hc0 := hide c0
      clear c0
      go_wp2_with fail
      refine HC.out.mono ?_
      rintro e w3 ⟨rfl, hb⟩
      have X3 := HX2.out.below hb HX2.out.lt
      have HB3 := hide (HB2.out.trans (hb.mono HB2.out.size))
      have M3 := HM2.out.grow hb
      have HV3 : Hid (IsV w3 S mv #[.int .i64 k, .bool b, .int .i64 n, .string s, .slice AL nL cL, .slice AK nK cK]) := hide (by obtain ⟨_, _, _, _, _, _, _, _, _, _, e, h, _⟩ := M3; cases e; exact h)
      clear x0 x1 x2 x3 x4 x5 x6 x7 x8 x9 HC hb M3
      have x0 : w3.cell? ⟨w.heap.size, 0, none⟩ = some (.int .i64 1) := blkR X3 rfl
      have x1 : w3.cell? ⟨w.heap.size, 1, none⟩ = some (.string ms) := blkR X3 rfl
      have x2 : w3.cell? ⟨w.heap.size, 2, none⟩ = some (.string mt) := blkR X3 rfl
      have x3 : w3.cell? ⟨w.heap.size, 3, none⟩ = some (.int .i64 mn) := blkR X3 rfl
      have x4 : w3.cell? ⟨w.heap.size, 4, none⟩ = some (.int .i64 k) := blkR X3 rfl
      have x5 : w3.cell? ⟨w.heap.size, 5, none⟩ = some (.bool b) := blkR X3 rfl
      have x6 : w3.cell? ⟨w.heap.size, 6, none⟩ = some (.int .i64 n) := blkR X3 rfl
      have x7 : w3.cell? ⟨w.heap.size, 7, none⟩ = some (.string s) := blkR X3 rfl
      have x8 : w3.cell? ⟨w.heap.size, 8, none⟩ = some (.slice AL nL cL) := blkR X3 rfl
      have x9 : w3.cell? ⟨w.heap.size, 9, none⟩ = some (.slice AK nK cK) := blkR X3 rfl
      clear X3 HX2 HM2 HB2
      by_cases c1 : ms.size = 0
      · have t1 : (ms.toList == []) = true := by rw [n1]; simp [c1]
        have t2 : (ms.toList != []) = false := by simp [bne, t1]
        have Hc1 := hide c1
        clear c1 n1 n2
        have hz : z = 9 := by rw [← HZ.out]; simp [okM, Hc0.out, Hc1.out]
        have HZ2 := hide hz
        clear hz
        go_wp2
        go_ret
        exact ⟨by rw [HZ2.out]; rfl, HB3.out⟩
      · have t1 : (ms.toList == []) = false := by rw [n1]; simp [c1]
        have t2 : (ms.toList != []) = true := by simp [bne, t1]
        have hc1 : 1 ≤ ms.size := by omega
        have Hc1 := hide hc1
        clear c1 hc1 n1
        by_cases c2 : ms.size ≤ 64
        · have tc2 : decide ((ms.size : Int) ≤ 64) = true := by simp; omega
          have gc2 : (ms.size : Int) ≤ 64 := by omega
          have Hc2 := hide c2
          have hz : z = 0 := by rw [← HZ.out]; simp [okM, Hc0.out, Hc1.out, Hc2.out]
          have HZ2 := hide hz
          clear hz
          go_wp2
          go_ret
          exact ⟨by rw [HZ2.out]; rfl, HB3.out⟩
        · have tc2 : decide ((ms.size : Int) ≤ 64) = false := by simp; omega
          have gc2 : ¬ ((ms.size : Int) ≤ 64) := by omega
          have Hc2 := hide c2
          have hz : z = 9 := by rw [← HZ.out]; simp [okM, Hc0.out, Hc1.out, Hc2.out]
          have HZ2 := hide hz
          clear hz
          go_wp2
          go_ret
          exact ⟨by rw [HZ2.out]; rfl, HB3.out⟩
    | false =>
      rw [c0] at HC
      have Hc0 := hide c0
      clear c0
      go_wp2_with fail
      refine HC.out.mono ?_
      rintro e w3 ⟨rfl, hb⟩
      have X3 := HX2.out.below hb HX2.out.lt
      have HB3 := hide (HB2.out.trans (hb.mono HB2.out.size))
      have M3 := HM2.out.grow hb
      have HV3 : Hid (IsV w3 S mv #[.int .i64 k, .bool b, .int .i64 n, .string s, .slice AL nL cL, .slice AK nK cK]) := hide (by obtain ⟨_, _, _, _, _, _, _, _, _, _, e, h, _⟩ := M3; cases e; exact h)
      clear x0 x1 x2 x3 x4 x5 x6 x7 x8 x9 HC hb M3
      have x0 : w3.cell? ⟨w.heap.size, 0, none⟩ = some (.int .i64 1) := blkR X3 rfl
      have x1 : w3.cell? ⟨w.heap.size, 1, none⟩ = some (.string ms) := blkR X3 rfl
      have x2 : w3.cell? ⟨w.heap.size, 2, none⟩ = some (.string mt) := blkR X3 rfl
      have x3 : w3.cell? ⟨w.heap.size, 3, none⟩ = some (.int .i64 mn) := blkR X3 rfl
      have x4 : w3.cell? ⟨w.heap.size, 4, none⟩ = some (.int .i64 k) := blkR X3 rfl
      have x5 : w3.cell? ⟨w.heap.size, 5, none⟩ = some (.bool b) := blkR X3 rfl
      have x6 : w3.cell? ⟨w.heap.size, 6, none⟩ = some (.int .i64 n) := blkR X3 rfl
      have x7 : w3.cell? ⟨w.heap.size, 7, none⟩ = some (.string s) := blkR X3 rfl
      have x8 : w3.cell? ⟨w.heap.size, 8, none⟩ = some (.slice AL nL cL) := blkR X3 rfl
      have x9 : w3.cell? ⟨w.heap.size, 9, none⟩ = some (.slice AK nK cK) := blkR X3 rfl
      clear X3 HX2 HM2 HB2
      have hz : z = 9 := by rw [← HZ.out]; simp [okM, Hc0.out]
      have HZ2 := hide hz
      clear hz
      go_wp2
      go_ret
      exact ⟨by rw [HZ2.out]; rfl, HB3.out⟩
  · go_enter Try.func26, Try.ntmps26
    go_wp2_with fail
    generalize w.alloc (.cells #[.int .i64 3, .string ms, .string mt, .int .i64 mn, .int .i64 k, .bool b, .int .i64 n, .string s, .slice AL nL cL, .slice AK nK cK] 41) = W at HX0 HB0 HM0 ⊢
    refine (show Calls Try.prog 47 #[.int .i64 3] W (fun e w' => e = .returned (.tuple #[.int .i64 2, .bool true]) ∧ Below W.heap.size W w') from parts_any 3 W).mono ?_
    rintro e w2 ⟨rfl, hb⟩
    have X2 := HX0.out.below hb HX0.out.lt
    have M2 := HM0.out.grow hb
    have HB2 := hide (HB0.out.trans (hb.mono HB0.out.size))
    have HX2 := hide X2
    have HM2 := hide M2
    have x0 : w2.cell? ⟨w.heap.size, 0, none⟩ = some (.int .i64 3) := blkR X2 rfl
    have x1 : w2.cell? ⟨w.heap.size, 1, none⟩ = some (.string ms) := blkR X2 rfl
    have x2 : w2.cell? ⟨w.heap.size, 2, none⟩ = some (.string mt) := blkR X2 rfl
    have x3 : w2.cell? ⟨w.heap.size, 3, none⟩ = some (.int .i64 mn) := blkR X2 rfl
    have x4 : w2.cell? ⟨w.heap.size, 4, none⟩ = some (.int .i64 k) := blkR X2 rfl
    have x5 : w2.cell? ⟨w.heap.size, 5, none⟩ = some (.bool b) := blkR X2 rfl
    have x6 : w2.cell? ⟨w.heap.size, 6, none⟩ = some (.int .i64 n) := blkR X2 rfl
    have x7 : w2.cell? ⟨w.heap.size, 7, none⟩ = some (.string s) := blkR X2 rfl
    have x8 : w2.cell? ⟨w.heap.size, 8, none⟩ = some (.slice AL nL cL) := blkR X2 rfl
    have x9 : w2.cell? ⟨w.heap.size, 9, none⟩ = some (.slice AK nK cK) := blkR X2 rfl
    clear X2 M2 hb HX0 HB0 HM0
    have HC := hide (mbare_any HM2.out false true false true)
    cases c0 : bareM ⟨3, ms, mt, mn, mv⟩ false true false true with
    | true =>
      rw [c0] at HC
      have Hc0 := hide c0
      clear c0
      go_wp2_with fail
      refine HC.out.mono ?_
      rintro e w3 ⟨rfl, hb⟩
      have X3 := HX2.out.below hb HX2.out.lt
      have HB3 := hide (HB2.out.trans (hb.mono HB2.out.size))
      have M3 := HM2.out.grow hb
      have HV3 : Hid (IsV w3 S mv #[.int .i64 k, .bool b, .int .i64 n, .string s, .slice AL nL cL, .slice AK nK cK]) := hide (by obtain ⟨_, _, _, _, _, _, _, _, _, _, e, h, _⟩ := M3; cases e; exact h)
      clear x0 x1 x2 x3 x4 x5 x6 x7 x8 x9 HC hb M3
      have x0 : w3.cell? ⟨w.heap.size, 0, none⟩ = some (.int .i64 3) := blkR X3 rfl
      have x1 : w3.cell? ⟨w.heap.size, 1, none⟩ = some (.string ms) := blkR X3 rfl
      have x2 : w3.cell? ⟨w.heap.size, 2, none⟩ = some (.string mt) := blkR X3 rfl
      have x3 : w3.cell? ⟨w.heap.size, 3, none⟩ = some (.int .i64 mn) := blkR X3 rfl
      have x4 : w3.cell? ⟨w.heap.size, 4, none⟩ = some (.int .i64 k) := blkR X3 rfl
      have x5 : w3.cell? ⟨w.heap.size, 5, none⟩ = some (.bool b) := blkR X3 rfl
      have x6 : w3.cell? ⟨w.heap.size, 6, none⟩ = some (.int .i64 n) := blkR X3 rfl
      have x7 : w3.cell? ⟨w.heap.size, 7, none⟩ = some (.string s) := blkR X3 rfl
      have x8 : w3.cell? ⟨w.heap.size, 8, none⟩ = some (.slice AL nL cL) := blkR X3 rfl
      have x9 : w3.cell? ⟨w.heap.size, 9, none⟩ = some (.slice AK nK cK) := blkR X3 rfl
      clear X3 HX2 HM2 HB2
      by_cases c1 : mt.size ≤ 16384
      · have tc1 : decide ((mt.size : Int) ≤ 16384) = true := by simp; omega
        have gc1 : (mt.size : Int) ≤ 16384 := by omega
        have Hc1 := hide c1
        have HPc2 := hide (mplain_any HV3.out 5)
        cases c2 : plainB mv 5 with
        | true =>
          rw [c2] at HPc2
          have Hc2 := hide c2
          clear c2
          go_wp2_with fail
          refine HPc2.out.mono ?_
          rintro e w9 ⟨rfl, hb⟩
          have HB9 := hide (HB3.out.trans (hb.mono HB3.out.size))
          clear hb HPc2 x0 x1 x2 x3 x4 x5 x6 x7 x8 x9
          have hz : z = 0 := by rw [← HZ.out]; simp [okM, Hc0.out, Hc1.out, Hc2.out]
          have HZ2 := hide hz
          clear hz
          go_wp2
          go_ret
          exact ⟨by rw [HZ2.out]; rfl, HB9.out⟩
        | false =>
          rw [c2] at HPc2
          have Hc2 := hide c2
          clear c2
          go_wp2_with fail
          refine HPc2.out.mono ?_
          rintro e w9 ⟨rfl, hb⟩
          have HB9 := hide (HB3.out.trans (hb.mono HB3.out.size))
          clear hb HPc2 x0 x1 x2 x3 x4 x5 x6 x7 x8 x9
          have hz : z = 9 := by rw [← HZ.out]; simp [okM, Hc0.out, Hc1.out, Hc2.out]
          have HZ2 := hide hz
          clear hz
          go_wp2
          go_ret
          exact ⟨by rw [HZ2.out]; rfl, HB9.out⟩
      · have tc1 : decide ((mt.size : Int) ≤ 16384) = false := by simp; omega
        have gc1 : ¬ ((mt.size : Int) ≤ 16384) := by omega
        have Hc1 := hide c1
        have hz : z = 9 := by rw [← HZ.out]; simp [okM, Hc0.out, Hc1.out]
        have HZ2 := hide hz
        clear hz
        go_wp2
        go_ret
        exact ⟨by rw [HZ2.out]; rfl, HB3.out⟩
    | false =>
      rw [c0] at HC
      have Hc0 := hide c0
      clear c0
      go_wp2_with fail
      refine HC.out.mono ?_
      rintro e w3 ⟨rfl, hb⟩
      have X3 := HX2.out.below hb HX2.out.lt
      have HB3 := hide (HB2.out.trans (hb.mono HB2.out.size))
      have M3 := HM2.out.grow hb
      have HV3 : Hid (IsV w3 S mv #[.int .i64 k, .bool b, .int .i64 n, .string s, .slice AL nL cL, .slice AK nK cK]) := hide (by obtain ⟨_, _, _, _, _, _, _, _, _, _, e, h, _⟩ := M3; cases e; exact h)
      clear x0 x1 x2 x3 x4 x5 x6 x7 x8 x9 HC hb M3
      have x0 : w3.cell? ⟨w.heap.size, 0, none⟩ = some (.int .i64 3) := blkR X3 rfl
      have x1 : w3.cell? ⟨w.heap.size, 1, none⟩ = some (.string ms) := blkR X3 rfl
      have x2 : w3.cell? ⟨w.heap.size, 2, none⟩ = some (.string mt) := blkR X3 rfl
      have x3 : w3.cell? ⟨w.heap.size, 3, none⟩ = some (.int .i64 mn) := blkR X3 rfl
      have x4 : w3.cell? ⟨w.heap.size, 4, none⟩ = some (.int .i64 k) := blkR X3 rfl
      have x5 : w3.cell? ⟨w.heap.size, 5, none⟩ = some (.bool b) := blkR X3 rfl
      have x6 : w3.cell? ⟨w.heap.size, 6, none⟩ = some (.int .i64 n) := blkR X3 rfl
      have x7 : w3.cell? ⟨w.heap.size, 7, none⟩ = some (.string s) := blkR X3 rfl
      have x8 : w3.cell? ⟨w.heap.size, 8, none⟩ = some (.slice AL nL cL) := blkR X3 rfl
      have x9 : w3.cell? ⟨w.heap.size, 9, none⟩ = some (.slice AK nK cK) := blkR X3 rfl
      clear X3 HX2 HM2 HB2
      have hz : z = 9 := by rw [← HZ.out]; simp [okM, Hc0.out]
      have HZ2 := hide hz
      clear hz
      go_wp2
      go_ret
      exact ⟨by rw [HZ2.out]; rfl, HB3.out⟩
  · go_enter Try.func26, Try.ntmps26
    go_wp2_with fail
    generalize w.alloc (.cells #[.int .i64 4, .string ms, .string mt, .int .i64 mn, .int .i64 k, .bool b, .int .i64 n, .string s, .slice AL nL cL, .slice AK nK cK] 41) = W at HX0 HB0 HM0 ⊢
    refine (show Calls Try.prog 47 #[.int .i64 4] W (fun e w' => e = .returned (.tuple #[.int .i64 3, .bool true]) ∧ Below W.heap.size W w') from parts_any 4 W).mono ?_
    rintro e w2 ⟨rfl, hb⟩
    have X2 := HX0.out.below hb HX0.out.lt
    have M2 := HM0.out.grow hb
    have HB2 := hide (HB0.out.trans (hb.mono HB0.out.size))
    have HX2 := hide X2
    have HM2 := hide M2
    have x0 : w2.cell? ⟨w.heap.size, 0, none⟩ = some (.int .i64 4) := blkR X2 rfl
    have x1 : w2.cell? ⟨w.heap.size, 1, none⟩ = some (.string ms) := blkR X2 rfl
    have x2 : w2.cell? ⟨w.heap.size, 2, none⟩ = some (.string mt) := blkR X2 rfl
    have x3 : w2.cell? ⟨w.heap.size, 3, none⟩ = some (.int .i64 mn) := blkR X2 rfl
    have x4 : w2.cell? ⟨w.heap.size, 4, none⟩ = some (.int .i64 k) := blkR X2 rfl
    have x5 : w2.cell? ⟨w.heap.size, 5, none⟩ = some (.bool b) := blkR X2 rfl
    have x6 : w2.cell? ⟨w.heap.size, 6, none⟩ = some (.int .i64 n) := blkR X2 rfl
    have x7 : w2.cell? ⟨w.heap.size, 7, none⟩ = some (.string s) := blkR X2 rfl
    have x8 : w2.cell? ⟨w.heap.size, 8, none⟩ = some (.slice AL nL cL) := blkR X2 rfl
    have x9 : w2.cell? ⟨w.heap.size, 9, none⟩ = some (.slice AK nK cK) := blkR X2 rfl
    clear X2 M2 hb HX0 HB0 HM0
    have HC := hide (mbare_any HM2.out false false true false)
    cases c0 : bareM ⟨4, ms, mt, mn, mv⟩ false false true false with
    | true =>
      rw [c0] at HC
      have Hc0 := hide c0
      clear c0
      go_wp2_with fail
      refine HC.out.mono ?_
      rintro e w3 ⟨rfl, hb⟩
      have X3 := HX2.out.below hb HX2.out.lt
      have HB3 := hide (HB2.out.trans (hb.mono HB2.out.size))
      have M3 := HM2.out.grow hb
      have HV3 : Hid (IsV w3 S mv #[.int .i64 k, .bool b, .int .i64 n, .string s, .slice AL nL cL, .slice AK nK cK]) := hide (by obtain ⟨_, _, _, _, _, _, _, _, _, _, e, h, _⟩ := M3; cases e; exact h)
      clear x0 x1 x2 x3 x4 x5 x6 x7 x8 x9 HC hb M3
      have x0 : w3.cell? ⟨w.heap.size, 0, none⟩ = some (.int .i64 4) := blkR X3 rfl
      have x1 : w3.cell? ⟨w.heap.size, 1, none⟩ = some (.string ms) := blkR X3 rfl
      have x2 : w3.cell? ⟨w.heap.size, 2, none⟩ = some (.string mt) := blkR X3 rfl
      have x3 : w3.cell? ⟨w.heap.size, 3, none⟩ = some (.int .i64 mn) := blkR X3 rfl
      have x4 : w3.cell? ⟨w.heap.size, 4, none⟩ = some (.int .i64 k) := blkR X3 rfl
      have x5 : w3.cell? ⟨w.heap.size, 5, none⟩ = some (.bool b) := blkR X3 rfl
      have x6 : w3.cell? ⟨w.heap.size, 6, none⟩ = some (.int .i64 n) := blkR X3 rfl
      have x7 : w3.cell? ⟨w.heap.size, 7, none⟩ = some (.string s) := blkR X3 rfl
      have x8 : w3.cell? ⟨w.heap.size, 8, none⟩ = some (.slice AL nL cL) := blkR X3 rfl
      have x9 : w3.cell? ⟨w.heap.size, 9, none⟩ = some (.slice AK nK cK) := blkR X3 rfl
      clear X3 HX2 HM2 HB2
      by_cases c1 : 1 ≤ mn
      · have tc1 : decide (1 ≤ mn) = true := by simp; omega
        have Hc1 := hide c1
        by_cases c2 : mn ≤ 4096
        · have tc2 : decide (mn ≤ 4096) = true := by simp; omega
          have Hc2 := hide c2
          have hz : z = 0 := by rw [← HZ.out]; simp [okM, Hc0.out, Hc1.out, Hc2.out]
          have HZ2 := hide hz
          clear hz
          go_wp2
          go_ret
          exact ⟨by rw [HZ2.out]; rfl, HB3.out⟩
        · have tc2 : decide (mn ≤ 4096) = false := by simp; omega
          have Hc2 := hide c2
          have hz : z = 9 := by rw [← HZ.out]; simp [okM, Hc0.out, Hc1.out, Hc2.out]
          have HZ2 := hide hz
          clear hz
          go_wp2
          go_ret
          exact ⟨by rw [HZ2.out]; rfl, HB3.out⟩
      · have tc1 : decide (1 ≤ mn) = false := by simp; omega
        have Hc1 := hide c1
        have hz : z = 9 := by rw [← HZ.out]; simp [okM, Hc0.out, Hc1.out]
        have HZ2 := hide hz
        clear hz
        go_wp2
        go_ret
        exact ⟨by rw [HZ2.out]; rfl, HB3.out⟩
    | false =>
      rw [c0] at HC
      have Hc0 := hide c0
      clear c0
      go_wp2_with fail
      refine HC.out.mono ?_
      rintro e w3 ⟨rfl, hb⟩
      have X3 := HX2.out.below hb HX2.out.lt
      have HB3 := hide (HB2.out.trans (hb.mono HB2.out.size))
      have M3 := HM2.out.grow hb
      have HV3 : Hid (IsV w3 S mv #[.int .i64 k, .bool b, .int .i64 n, .string s, .slice AL nL cL, .slice AK nK cK]) := hide (by obtain ⟨_, _, _, _, _, _, _, _, _, _, e, h, _⟩ := M3; cases e; exact h)
      clear x0 x1 x2 x3 x4 x5 x6 x7 x8 x9 HC hb M3
      have x0 : w3.cell? ⟨w.heap.size, 0, none⟩ = some (.int .i64 4) := blkR X3 rfl
      have x1 : w3.cell? ⟨w.heap.size, 1, none⟩ = some (.string ms) := blkR X3 rfl
      have x2 : w3.cell? ⟨w.heap.size, 2, none⟩ = some (.string mt) := blkR X3 rfl
      have x3 : w3.cell? ⟨w.heap.size, 3, none⟩ = some (.int .i64 mn) := blkR X3 rfl
      have x4 : w3.cell? ⟨w.heap.size, 4, none⟩ = some (.int .i64 k) := blkR X3 rfl
      have x5 : w3.cell? ⟨w.heap.size, 5, none⟩ = some (.bool b) := blkR X3 rfl
      have x6 : w3.cell? ⟨w.heap.size, 6, none⟩ = some (.int .i64 n) := blkR X3 rfl
      have x7 : w3.cell? ⟨w.heap.size, 7, none⟩ = some (.string s) := blkR X3 rfl
      have x8 : w3.cell? ⟨w.heap.size, 8, none⟩ = some (.slice AL nL cL) := blkR X3 rfl
      have x9 : w3.cell? ⟨w.heap.size, 9, none⟩ = some (.slice AK nK cK) := blkR X3 rfl
      clear X3 HX2 HM2 HB2
      have hz : z = 9 := by rw [← HZ.out]; simp [okM, Hc0.out]
      have HZ2 := hide hz
      clear hz
      go_wp2
      go_ret
      exact ⟨by rw [HZ2.out]; rfl, HB3.out⟩
  · go_enter Try.func26, Try.ntmps26
    go_wp2_with fail
    generalize w.alloc (.cells #[.int .i64 18, .string ms, .string mt, .int .i64 mn, .int .i64 k, .bool b, .int .i64 n, .string s, .slice AL nL cL, .slice AK nK cK] 41) = W at HX0 HB0 HM0 ⊢
    refine (show Calls Try.prog 47 #[.int .i64 18] W (fun e w' => e = .returned (.tuple #[.int .i64 6, .bool true]) ∧ Below W.heap.size W w') from parts_any 18 W).mono ?_
    rintro e w2 ⟨rfl, hb⟩
    have X2 := HX0.out.below hb HX0.out.lt
    have M2 := HM0.out.grow hb
    have HB2 := hide (HB0.out.trans (hb.mono HB0.out.size))
    have HX2 := hide X2
    have HM2 := hide M2
    have x0 : w2.cell? ⟨w.heap.size, 0, none⟩ = some (.int .i64 18) := blkR X2 rfl
    have x1 : w2.cell? ⟨w.heap.size, 1, none⟩ = some (.string ms) := blkR X2 rfl
    have x2 : w2.cell? ⟨w.heap.size, 2, none⟩ = some (.string mt) := blkR X2 rfl
    have x3 : w2.cell? ⟨w.heap.size, 3, none⟩ = some (.int .i64 mn) := blkR X2 rfl
    have x4 : w2.cell? ⟨w.heap.size, 4, none⟩ = some (.int .i64 k) := blkR X2 rfl
    have x5 : w2.cell? ⟨w.heap.size, 5, none⟩ = some (.bool b) := blkR X2 rfl
    have x6 : w2.cell? ⟨w.heap.size, 6, none⟩ = some (.int .i64 n) := blkR X2 rfl
    have x7 : w2.cell? ⟨w.heap.size, 7, none⟩ = some (.string s) := blkR X2 rfl
    have x8 : w2.cell? ⟨w.heap.size, 8, none⟩ = some (.slice AL nL cL) := blkR X2 rfl
    have x9 : w2.cell? ⟨w.heap.size, 9, none⟩ = some (.slice AK nK cK) := blkR X2 rfl
    clear X2 M2 hb HX0 HB0 HM0
    have HC := hide (mbare_any HM2.out false false true false)
    cases c0 : bareM ⟨18, ms, mt, mn, mv⟩ false false true false with
    | true =>
      rw [c0] at HC
      have Hc0 := hide c0
      clear c0
      go_wp2_with fail
      refine HC.out.mono ?_
      rintro e w3 ⟨rfl, hb⟩
      have X3 := HX2.out.below hb HX2.out.lt
      have HB3 := hide (HB2.out.trans (hb.mono HB2.out.size))
      have M3 := HM2.out.grow hb
      have HV3 : Hid (IsV w3 S mv #[.int .i64 k, .bool b, .int .i64 n, .string s, .slice AL nL cL, .slice AK nK cK]) := hide (by obtain ⟨_, _, _, _, _, _, _, _, _, _, e, h, _⟩ := M3; cases e; exact h)
      clear x0 x1 x2 x3 x4 x5 x6 x7 x8 x9 HC hb M3
      have x0 : w3.cell? ⟨w.heap.size, 0, none⟩ = some (.int .i64 18) := blkR X3 rfl
      have x1 : w3.cell? ⟨w.heap.size, 1, none⟩ = some (.string ms) := blkR X3 rfl
      have x2 : w3.cell? ⟨w.heap.size, 2, none⟩ = some (.string mt) := blkR X3 rfl
      have x3 : w3.cell? ⟨w.heap.size, 3, none⟩ = some (.int .i64 mn) := blkR X3 rfl
      have x4 : w3.cell? ⟨w.heap.size, 4, none⟩ = some (.int .i64 k) := blkR X3 rfl
      have x5 : w3.cell? ⟨w.heap.size, 5, none⟩ = some (.bool b) := blkR X3 rfl
      have x6 : w3.cell? ⟨w.heap.size, 6, none⟩ = some (.int .i64 n) := blkR X3 rfl
      have x7 : w3.cell? ⟨w.heap.size, 7, none⟩ = some (.string s) := blkR X3 rfl
      have x8 : w3.cell? ⟨w.heap.size, 8, none⟩ = some (.slice AL nL cL) := blkR X3 rfl
      have x9 : w3.cell? ⟨w.heap.size, 9, none⟩ = some (.slice AK nK cK) := blkR X3 rfl
      clear X3 HX2 HM2 HB2
      by_cases c1 : 1 ≤ mn
      · have tc1 : decide (1 ≤ mn) = true := by simp; omega
        have Hc1 := hide c1
        by_cases c2 : mn ≤ 9
        · have tc2 : decide (mn ≤ 9) = true := by simp; omega
          have Hc2 := hide c2
          have hz : z = 0 := by rw [← HZ.out]; simp [okM, Hc0.out, Hc1.out, Hc2.out]
          have HZ2 := hide hz
          clear hz
          go_wp2
          go_ret
          exact ⟨by rw [HZ2.out]; rfl, HB3.out⟩
        · have tc2 : decide (mn ≤ 9) = false := by simp; omega
          have Hc2 := hide c2
          have hz : z = 9 := by rw [← HZ.out]; simp [okM, Hc0.out, Hc1.out, Hc2.out]
          have HZ2 := hide hz
          clear hz
          go_wp2
          go_ret
          exact ⟨by rw [HZ2.out]; rfl, HB3.out⟩
      · have tc1 : decide (1 ≤ mn) = false := by simp; omega
        have Hc1 := hide c1
        have hz : z = 9 := by rw [← HZ.out]; simp [okM, Hc0.out, Hc1.out]
        have HZ2 := hide hz
        clear hz
        go_wp2
        go_ret
        exact ⟨by rw [HZ2.out]; rfl, HB3.out⟩
    | false =>
      rw [c0] at HC
      have Hc0 := hide c0
      clear c0
      go_wp2_with fail
      refine HC.out.mono ?_
      rintro e w3 ⟨rfl, hb⟩
      have X3 := HX2.out.below hb HX2.out.lt
      have HB3 := hide (HB2.out.trans (hb.mono HB2.out.size))
      have M3 := HM2.out.grow hb
      have HV3 : Hid (IsV w3 S mv #[.int .i64 k, .bool b, .int .i64 n, .string s, .slice AL nL cL, .slice AK nK cK]) := hide (by obtain ⟨_, _, _, _, _, _, _, _, _, _, e, h, _⟩ := M3; cases e; exact h)
      clear x0 x1 x2 x3 x4 x5 x6 x7 x8 x9 HC hb M3
      have x0 : w3.cell? ⟨w.heap.size, 0, none⟩ = some (.int .i64 18) := blkR X3 rfl
      have x1 : w3.cell? ⟨w.heap.size, 1, none⟩ = some (.string ms) := blkR X3 rfl
      have x2 : w3.cell? ⟨w.heap.size, 2, none⟩ = some (.string mt) := blkR X3 rfl
      have x3 : w3.cell? ⟨w.heap.size, 3, none⟩ = some (.int .i64 mn) := blkR X3 rfl
      have x4 : w3.cell? ⟨w.heap.size, 4, none⟩ = some (.int .i64 k) := blkR X3 rfl
      have x5 : w3.cell? ⟨w.heap.size, 5, none⟩ = some (.bool b) := blkR X3 rfl
      have x6 : w3.cell? ⟨w.heap.size, 6, none⟩ = some (.int .i64 n) := blkR X3 rfl
      have x7 : w3.cell? ⟨w.heap.size, 7, none⟩ = some (.string s) := blkR X3 rfl
      have x8 : w3.cell? ⟨w.heap.size, 8, none⟩ = some (.slice AL nL cL) := blkR X3 rfl
      have x9 : w3.cell? ⟨w.heap.size, 9, none⟩ = some (.slice AK nK cK) := blkR X3 rfl
      clear X3 HX2 HM2 HB2
      have hz : z = 9 := by rw [← HZ.out]; simp [okM, Hc0.out]
      have HZ2 := hide hz
      clear hz
      go_wp2
      go_ret
      exact ⟨by rw [HZ2.out]; rfl, HB3.out⟩
  · go_enter Try.func26, Try.ntmps26
    go_wp2_with fail
    generalize w.alloc (.cells #[.int .i64 16, .string ms, .string mt, .int .i64 mn, .int .i64 k, .bool b, .int .i64 n, .string s, .slice AL nL cL, .slice AK nK cK] 41) = W at HX0 HB0 HM0 ⊢
    refine (show Calls Try.prog 47 #[.int .i64 16] W (fun e w' => e = .returned (.tuple #[.int .i64 4, .bool true]) ∧ Below W.heap.size W w') from parts_any 16 W).mono ?_
    rintro e w2 ⟨rfl, hb⟩
    have X2 := HX0.out.below hb HX0.out.lt
    have M2 := HM0.out.grow hb
    have HB2 := hide (HB0.out.trans (hb.mono HB0.out.size))
    have HX2 := hide X2
    have HM2 := hide M2
    have x0 : w2.cell? ⟨w.heap.size, 0, none⟩ = some (.int .i64 16) := blkR X2 rfl
    have x1 : w2.cell? ⟨w.heap.size, 1, none⟩ = some (.string ms) := blkR X2 rfl
    have x2 : w2.cell? ⟨w.heap.size, 2, none⟩ = some (.string mt) := blkR X2 rfl
    have x3 : w2.cell? ⟨w.heap.size, 3, none⟩ = some (.int .i64 mn) := blkR X2 rfl
    have x4 : w2.cell? ⟨w.heap.size, 4, none⟩ = some (.int .i64 k) := blkR X2 rfl
    have x5 : w2.cell? ⟨w.heap.size, 5, none⟩ = some (.bool b) := blkR X2 rfl
    have x6 : w2.cell? ⟨w.heap.size, 6, none⟩ = some (.int .i64 n) := blkR X2 rfl
    have x7 : w2.cell? ⟨w.heap.size, 7, none⟩ = some (.string s) := blkR X2 rfl
    have x8 : w2.cell? ⟨w.heap.size, 8, none⟩ = some (.slice AL nL cL) := blkR X2 rfl
    have x9 : w2.cell? ⟨w.heap.size, 9, none⟩ = some (.slice AK nK cK) := blkR X2 rfl
    clear X2 M2 hb HX0 HB0 HM0
    have HC := hide (mbare_any HM2.out false false false true)
    cases c0 : bareM ⟨16, ms, mt, mn, mv⟩ false false false true with
    | true =>
      rw [c0] at HC
      have Hc0 := hide c0
      clear c0
      go_wp2_with fail
      refine HC.out.mono ?_
      rintro e w3 ⟨rfl, hb⟩
      have X3 := HX2.out.below hb HX2.out.lt
      have HB3 := hide (HB2.out.trans (hb.mono HB2.out.size))
      have M3 := HM2.out.grow hb
      have HV3 : Hid (IsV w3 S mv #[.int .i64 k, .bool b, .int .i64 n, .string s, .slice AL nL cL, .slice AK nK cK]) := hide (by obtain ⟨_, _, _, _, _, _, _, _, _, _, e, h, _⟩ := M3; cases e; exact h)
      clear x0 x1 x2 x3 x4 x5 x6 x7 x8 x9 HC hb M3
      have x0 : w3.cell? ⟨w.heap.size, 0, none⟩ = some (.int .i64 16) := blkR X3 rfl
      have x1 : w3.cell? ⟨w.heap.size, 1, none⟩ = some (.string ms) := blkR X3 rfl
      have x2 : w3.cell? ⟨w.heap.size, 2, none⟩ = some (.string mt) := blkR X3 rfl
      have x3 : w3.cell? ⟨w.heap.size, 3, none⟩ = some (.int .i64 mn) := blkR X3 rfl
      have x4 : w3.cell? ⟨w.heap.size, 4, none⟩ = some (.int .i64 k) := blkR X3 rfl
      have x5 : w3.cell? ⟨w.heap.size, 5, none⟩ = some (.bool b) := blkR X3 rfl
      have x6 : w3.cell? ⟨w.heap.size, 6, none⟩ = some (.int .i64 n) := blkR X3 rfl
      have x7 : w3.cell? ⟨w.heap.size, 7, none⟩ = some (.string s) := blkR X3 rfl
      have x8 : w3.cell? ⟨w.heap.size, 8, none⟩ = some (.slice AL nL cL) := blkR X3 rfl
      have x9 : w3.cell? ⟨w.heap.size, 9, none⟩ = some (.slice AK nK cK) := blkR X3 rfl
      clear X3 HX2 HM2 HB2
      have HPc1 := hide (mplain_any HV3.out 5)
      cases c1 : plainB mv 5 with
      | true =>
        rw [c1] at HPc1
        have Hc1 := hide c1
        clear c1
        go_wp2_with fail
        refine HPc1.out.mono ?_
        rintro e w9 ⟨rfl, hb⟩
        have HB9 := hide (HB3.out.trans (hb.mono HB3.out.size))
        clear hb HPc1 x0 x1 x2 x3 x4 x5 x6 x7 x8 x9
        have hz : z = 0 := by rw [← HZ.out]; simp [okM, Hc0.out, Hc1.out]
        have HZ2 := hide hz
        clear hz
        go_wp2
        go_ret
        exact ⟨by rw [HZ2.out]; rfl, HB9.out⟩
      | false =>
        rw [c1] at HPc1
        have Hc1 := hide c1
        clear c1
        go_wp2_with fail
        refine HPc1.out.mono ?_
        rintro e w9 ⟨rfl, hb⟩
        have HB9 := hide (HB3.out.trans (hb.mono HB3.out.size))
        clear hb HPc1 x0 x1 x2 x3 x4 x5 x6 x7 x8 x9
        have hz : z = 9 := by rw [← HZ.out]; simp [okM, Hc0.out, Hc1.out]
        have HZ2 := hide hz
        clear hz
        go_wp2
        go_ret
        exact ⟨by rw [HZ2.out]; rfl, HB9.out⟩
    | false =>
      rw [c0] at HC
      have Hc0 := hide c0
      clear c0
      go_wp2_with fail
      refine HC.out.mono ?_
      rintro e w3 ⟨rfl, hb⟩
      have X3 := HX2.out.below hb HX2.out.lt
      have HB3 := hide (HB2.out.trans (hb.mono HB2.out.size))
      have M3 := HM2.out.grow hb
      have HV3 : Hid (IsV w3 S mv #[.int .i64 k, .bool b, .int .i64 n, .string s, .slice AL nL cL, .slice AK nK cK]) := hide (by obtain ⟨_, _, _, _, _, _, _, _, _, _, e, h, _⟩ := M3; cases e; exact h)
      clear x0 x1 x2 x3 x4 x5 x6 x7 x8 x9 HC hb M3
      have x0 : w3.cell? ⟨w.heap.size, 0, none⟩ = some (.int .i64 16) := blkR X3 rfl
      have x1 : w3.cell? ⟨w.heap.size, 1, none⟩ = some (.string ms) := blkR X3 rfl
      have x2 : w3.cell? ⟨w.heap.size, 2, none⟩ = some (.string mt) := blkR X3 rfl
      have x3 : w3.cell? ⟨w.heap.size, 3, none⟩ = some (.int .i64 mn) := blkR X3 rfl
      have x4 : w3.cell? ⟨w.heap.size, 4, none⟩ = some (.int .i64 k) := blkR X3 rfl
      have x5 : w3.cell? ⟨w.heap.size, 5, none⟩ = some (.bool b) := blkR X3 rfl
      have x6 : w3.cell? ⟨w.heap.size, 6, none⟩ = some (.int .i64 n) := blkR X3 rfl
      have x7 : w3.cell? ⟨w.heap.size, 7, none⟩ = some (.string s) := blkR X3 rfl
      have x8 : w3.cell? ⟨w.heap.size, 8, none⟩ = some (.slice AL nL cL) := blkR X3 rfl
      have x9 : w3.cell? ⟨w.heap.size, 9, none⟩ = some (.slice AK nK cK) := blkR X3 rfl
      clear X3 HX2 HM2 HB2
      have hz : z = 9 := by rw [← HZ.out]; simp [okM, Hc0.out]
      have HZ2 := hide hz
      clear hz
      go_wp2
      go_ret
      exact ⟨by rw [HZ2.out]; rfl, HB3.out⟩
  · go_enter Try.func26, Try.ntmps26
    go_wp2_with fail
    generalize w.alloc (.cells #[.int .i64 17, .string ms, .string mt, .int .i64 mn, .int .i64 k, .bool b, .int .i64 n, .string s, .slice AL nL cL, .slice AK nK cK] 41) = W at HX0 HB0 HM0 ⊢
    refine (show Calls Try.prog 47 #[.int .i64 17] W (fun e w' => e = .returned (.tuple #[.int .i64 5, .bool true]) ∧ Below W.heap.size W w') from parts_any 17 W).mono ?_
    rintro e w2 ⟨rfl, hb⟩
    have X2 := HX0.out.below hb HX0.out.lt
    have M2 := HM0.out.grow hb
    have HB2 := hide (HB0.out.trans (hb.mono HB0.out.size))
    have HX2 := hide X2
    have HM2 := hide M2
    have x0 : w2.cell? ⟨w.heap.size, 0, none⟩ = some (.int .i64 17) := blkR X2 rfl
    have x1 : w2.cell? ⟨w.heap.size, 1, none⟩ = some (.string ms) := blkR X2 rfl
    have x2 : w2.cell? ⟨w.heap.size, 2, none⟩ = some (.string mt) := blkR X2 rfl
    have x3 : w2.cell? ⟨w.heap.size, 3, none⟩ = some (.int .i64 mn) := blkR X2 rfl
    have x4 : w2.cell? ⟨w.heap.size, 4, none⟩ = some (.int .i64 k) := blkR X2 rfl
    have x5 : w2.cell? ⟨w.heap.size, 5, none⟩ = some (.bool b) := blkR X2 rfl
    have x6 : w2.cell? ⟨w.heap.size, 6, none⟩ = some (.int .i64 n) := blkR X2 rfl
    have x7 : w2.cell? ⟨w.heap.size, 7, none⟩ = some (.string s) := blkR X2 rfl
    have x8 : w2.cell? ⟨w.heap.size, 8, none⟩ = some (.slice AL nL cL) := blkR X2 rfl
    have x9 : w2.cell? ⟨w.heap.size, 9, none⟩ = some (.slice AK nK cK) := blkR X2 rfl
    clear X2 M2 hb HX0 HB0 HM0
    have HC := hide (mbare_any HM2.out false false false true)
    cases c0 : bareM ⟨17, ms, mt, mn, mv⟩ false false false true with
    | true =>
      rw [c0] at HC
      have Hc0 := hide c0
      clear c0
      go_wp2_with fail
      refine HC.out.mono ?_
      rintro e w3 ⟨rfl, hb⟩
      have X3 := HX2.out.below hb HX2.out.lt
      have HB3 := hide (HB2.out.trans (hb.mono HB2.out.size))
      have M3 := HM2.out.grow hb
      have HV3 : Hid (IsV w3 S mv #[.int .i64 k, .bool b, .int .i64 n, .string s, .slice AL nL cL, .slice AK nK cK]) := hide (by obtain ⟨_, _, _, _, _, _, _, _, _, _, e, h, _⟩ := M3; cases e; exact h)
      clear x0 x1 x2 x3 x4 x5 x6 x7 x8 x9 HC hb M3
      have x0 : w3.cell? ⟨w.heap.size, 0, none⟩ = some (.int .i64 17) := blkR X3 rfl
      have x1 : w3.cell? ⟨w.heap.size, 1, none⟩ = some (.string ms) := blkR X3 rfl
      have x2 : w3.cell? ⟨w.heap.size, 2, none⟩ = some (.string mt) := blkR X3 rfl
      have x3 : w3.cell? ⟨w.heap.size, 3, none⟩ = some (.int .i64 mn) := blkR X3 rfl
      have x4 : w3.cell? ⟨w.heap.size, 4, none⟩ = some (.int .i64 k) := blkR X3 rfl
      have x5 : w3.cell? ⟨w.heap.size, 5, none⟩ = some (.bool b) := blkR X3 rfl
      have x6 : w3.cell? ⟨w.heap.size, 6, none⟩ = some (.int .i64 n) := blkR X3 rfl
      have x7 : w3.cell? ⟨w.heap.size, 7, none⟩ = some (.string s) := blkR X3 rfl
      have x8 : w3.cell? ⟨w.heap.size, 8, none⟩ = some (.slice AL nL cL) := blkR X3 rfl
      have x9 : w3.cell? ⟨w.heap.size, 9, none⟩ = some (.slice AK nK cK) := blkR X3 rfl
      clear X3 HX2 HM2 HB2
      have HPc1 := hide (mplain_any HV3.out 4)
      cases c1 : plainB mv 4 with
      | true =>
        rw [c1] at HPc1
        have Hc1 := hide c1
        clear c1
        go_wp2_with fail
        refine HPc1.out.mono ?_
        rintro e w9 ⟨rfl, hb⟩
        have HB9 := hide (HB3.out.trans (hb.mono HB3.out.size))
        clear hb HPc1 x0 x1 x2 x3 x4 x5 x6 x7 x8 x9
        have hz : z = 0 := by rw [← HZ.out]; simp [okM, Hc0.out, Hc1.out]
        have HZ2 := hide hz
        clear hz
        go_wp2
        go_ret
        exact ⟨by rw [HZ2.out]; rfl, HB9.out⟩
      | false =>
        rw [c1] at HPc1
        have Hc1 := hide c1
        clear c1
        go_wp2_with fail
        refine HPc1.out.mono ?_
        rintro e w9 ⟨rfl, hb⟩
        have HB9 := hide (HB3.out.trans (hb.mono HB3.out.size))
        clear hb HPc1 x0 x1 x2 x3 x4 x5 x6 x7 x8 x9
        have hz : z = 9 := by rw [← HZ.out]; simp [okM, Hc0.out, Hc1.out]
        have HZ2 := hide hz
        clear hz
        go_wp2
        go_ret
        exact ⟨by rw [HZ2.out]; rfl, HB9.out⟩
    | false =>
      rw [c0] at HC
      have Hc0 := hide c0
      clear c0
      go_wp2_with fail
      refine HC.out.mono ?_
      rintro e w3 ⟨rfl, hb⟩
      have X3 := HX2.out.below hb HX2.out.lt
      have HB3 := hide (HB2.out.trans (hb.mono HB2.out.size))
      have M3 := HM2.out.grow hb
      have HV3 : Hid (IsV w3 S mv #[.int .i64 k, .bool b, .int .i64 n, .string s, .slice AL nL cL, .slice AK nK cK]) := hide (by obtain ⟨_, _, _, _, _, _, _, _, _, _, e, h, _⟩ := M3; cases e; exact h)
      clear x0 x1 x2 x3 x4 x5 x6 x7 x8 x9 HC hb M3
      have x0 : w3.cell? ⟨w.heap.size, 0, none⟩ = some (.int .i64 17) := blkR X3 rfl
      have x1 : w3.cell? ⟨w.heap.size, 1, none⟩ = some (.string ms) := blkR X3 rfl
      have x2 : w3.cell? ⟨w.heap.size, 2, none⟩ = some (.string mt) := blkR X3 rfl
      have x3 : w3.cell? ⟨w.heap.size, 3, none⟩ = some (.int .i64 mn) := blkR X3 rfl
      have x4 : w3.cell? ⟨w.heap.size, 4, none⟩ = some (.int .i64 k) := blkR X3 rfl
      have x5 : w3.cell? ⟨w.heap.size, 5, none⟩ = some (.bool b) := blkR X3 rfl
      have x6 : w3.cell? ⟨w.heap.size, 6, none⟩ = some (.int .i64 n) := blkR X3 rfl
      have x7 : w3.cell? ⟨w.heap.size, 7, none⟩ = some (.string s) := blkR X3 rfl
      have x8 : w3.cell? ⟨w.heap.size, 8, none⟩ = some (.slice AL nL cL) := blkR X3 rfl
      have x9 : w3.cell? ⟨w.heap.size, 9, none⟩ = some (.slice AK nK cK) := blkR X3 rfl
      clear X3 HX2 HM2 HB2
      have hz : z = 9 := by rw [← HZ.out]; simp [okM, Hc0.out]
      have HZ2 := hide hz
      clear hz
      go_wp2
      go_ret
      exact ⟨by rw [HZ2.out]; rfl, HB3.out⟩
  · have HK := hide h0
    clear h0
    generalize hkn : knownK mk = kn
    have HKN := hide hkn
    clear hkn
    go_enter Try.func26, Try.ntmps26
    go_wp2_with fail
    generalize w.alloc (.cells #[.int .i64 mk, .string ms, .string mt, .int .i64 mn, .int .i64 k, .bool b, .int .i64 n, .string s, .slice AL nL cL, .slice AK nK cK] 41) = W at HX0 HB0 HM0 ⊢
    refine (show Calls Try.prog 47 #[.int .i64 mk] W (fun e w' => e = .returned (.tuple #[.int .i64 0, .bool kn]) ∧ Below W.heap.size W w') from by have := parts_any mk W; rw [part_0 HK.out, HKN.out] at this; exact this).mono ?_
    rintro e w2 ⟨rfl, hb⟩
    have X2 := HX0.out.below hb HX0.out.lt
    have M2 := HM0.out.grow hb
    have HB2 := hide (HB0.out.trans (hb.mono HB0.out.size))
    have HX2 := hide X2
    have HM2 := hide M2
    have x0 : w2.cell? ⟨w.heap.size, 0, none⟩ = some (.int .i64 mk) := blkR X2 rfl
    have x1 : w2.cell? ⟨w.heap.size, 1, none⟩ = some (.string ms) := blkR X2 rfl
    have x2 : w2.cell? ⟨w.heap.size, 2, none⟩ = some (.string mt) := blkR X2 rfl
    have x3 : w2.cell? ⟨w.heap.size, 3, none⟩ = some (.int .i64 mn) := blkR X2 rfl
    have x4 : w2.cell? ⟨w.heap.size, 4, none⟩ = some (.int .i64 k) := blkR X2 rfl
    have x5 : w2.cell? ⟨w.heap.size, 5, none⟩ = some (.bool b) := blkR X2 rfl
    have x6 : w2.cell? ⟨w.heap.size, 6, none⟩ = some (.int .i64 n) := blkR X2 rfl
    have x7 : w2.cell? ⟨w.heap.size, 7, none⟩ = some (.string s) := blkR X2 rfl
    have x8 : w2.cell? ⟨w.heap.size, 8, none⟩ = some (.slice AL nL cL) := blkR X2 rfl
    have x9 : w2.cell? ⟨w.heap.size, 9, none⟩ = some (.slice AK nK cK) := blkR X2 rfl
    clear X2 M2 hb HX0 HB0 HM0
    cases kn with
    | false =>
      have hz : z = 9 := by rw [← HZ.out]; simp [okM, HK.out.1, HK.out.2.1, HK.out.2.2.1, HK.out.2.2.2.1, HK.out.2.2.2.2.1, HK.out.2.2.2.2.2, HKN.out]
      have HZ2 := hide hz
      clear hz
      go_wp2
      go_ret
      exact ⟨by rw [HZ2.out]; rfl, HB2.out⟩
    | true =>
      have HC := hide (mbare_any HM2.out false false false false)
      cases c0 : bareM ⟨mk, ms, mt, mn, mv⟩ false false false false with
      | true =>
        rw [c0] at HC
        have Hc0 := hide c0
        clear c0
        go_wp2_with fail
        refine HC.out.mono ?_
        rintro e w3 ⟨rfl, hb⟩
        have X3 := HX2.out.below hb HX2.out.lt
        have HB3 := hide (HB2.out.trans (hb.mono HB2.out.size))
        have M3 := HM2.out.grow hb
        have HV3 : Hid (IsV w3 S mv #[.int .i64 k, .bool b, .int .i64 n, .string s, .slice AL nL cL, .slice AK nK cK]) := hide (by obtain ⟨_, _, _, _, _, _, _, _, _, _, e, h, _⟩ := M3; cases e; exact h)
        clear x0 x1 x2 x3 x4 x5 x6 x7 x8 x9 HC hb M3
        have x0 : w3.cell? ⟨w.heap.size, 0, none⟩ = some (.int .i64 mk) := blkR X3 rfl
        have x1 : w3.cell? ⟨w.heap.size, 1, none⟩ = some (.string ms) := blkR X3 rfl
        have x2 : w3.cell? ⟨w.heap.size, 2, none⟩ = some (.string mt) := blkR X3 rfl
        have x3 : w3.cell? ⟨w.heap.size, 3, none⟩ = some (.int .i64 mn) := blkR X3 rfl
        have x4 : w3.cell? ⟨w.heap.size, 4, none⟩ = some (.int .i64 k) := blkR X3 rfl
        have x5 : w3.cell? ⟨w.heap.size, 5, none⟩ = some (.bool b) := blkR X3 rfl
        have x6 : w3.cell? ⟨w.heap.size, 6, none⟩ = some (.int .i64 n) := blkR X3 rfl
        have x7 : w3.cell? ⟨w.heap.size, 7, none⟩ = some (.string s) := blkR X3 rfl
        have x8 : w3.cell? ⟨w.heap.size, 8, none⟩ = some (.slice AL nL cL) := blkR X3 rfl
        have x9 : w3.cell? ⟨w.heap.size, 9, none⟩ = some (.slice AK nK cK) := blkR X3 rfl
        clear X3 HX2 HM2 HB2
        have hz : z = 0 := by rw [← HZ.out]; simp [okM, HK.out.1, HK.out.2.1, HK.out.2.2.1, HK.out.2.2.2.1, HK.out.2.2.2.2.1, HK.out.2.2.2.2.2, HKN.out, Hc0.out]
        have HZ2 := hide hz
        clear hz
        go_wp2
        go_ret
        exact ⟨by rw [HZ2.out]; rfl, HB3.out⟩
      | false =>
        rw [c0] at HC
        have Hc0 := hide c0
        clear c0
        go_wp2_with fail
        refine HC.out.mono ?_
        rintro e w3 ⟨rfl, hb⟩
        have X3 := HX2.out.below hb HX2.out.lt
        have HB3 := hide (HB2.out.trans (hb.mono HB2.out.size))
        have M3 := HM2.out.grow hb
        have HV3 : Hid (IsV w3 S mv #[.int .i64 k, .bool b, .int .i64 n, .string s, .slice AL nL cL, .slice AK nK cK]) := hide (by obtain ⟨_, _, _, _, _, _, _, _, _, _, e, h, _⟩ := M3; cases e; exact h)
        clear x0 x1 x2 x3 x4 x5 x6 x7 x8 x9 HC hb M3
        have x0 : w3.cell? ⟨w.heap.size, 0, none⟩ = some (.int .i64 mk) := blkR X3 rfl
        have x1 : w3.cell? ⟨w.heap.size, 1, none⟩ = some (.string ms) := blkR X3 rfl
        have x2 : w3.cell? ⟨w.heap.size, 2, none⟩ = some (.string mt) := blkR X3 rfl
        have x3 : w3.cell? ⟨w.heap.size, 3, none⟩ = some (.int .i64 mn) := blkR X3 rfl
        have x4 : w3.cell? ⟨w.heap.size, 4, none⟩ = some (.int .i64 k) := blkR X3 rfl
        have x5 : w3.cell? ⟨w.heap.size, 5, none⟩ = some (.bool b) := blkR X3 rfl
        have x6 : w3.cell? ⟨w.heap.size, 6, none⟩ = some (.int .i64 n) := blkR X3 rfl
        have x7 : w3.cell? ⟨w.heap.size, 7, none⟩ = some (.string s) := blkR X3 rfl
        have x8 : w3.cell? ⟨w.heap.size, 8, none⟩ = some (.slice AL nL cL) := blkR X3 rfl
        have x9 : w3.cell? ⟨w.heap.size, 9, none⟩ = some (.slice AK nK cK) := blkR X3 rfl
        clear X3 HX2 HM2 HB2
        have hz : z = 9 := by rw [← HZ.out]; simp [okM, HK.out.1, HK.out.2.1, HK.out.2.2.1, HK.out.2.2.2.1, HK.out.2.2.2.2.1, HK.out.2.2.2.2.2, HKN.out, Hc0.out]
        have HZ2 := hide hz
        clear hz
        go_wp2
        go_ret
        exact ⟨by rw [HZ2.out]; rfl, HB3.out⟩
end Go.Proofs.Ytaapbiiiepdopaa
