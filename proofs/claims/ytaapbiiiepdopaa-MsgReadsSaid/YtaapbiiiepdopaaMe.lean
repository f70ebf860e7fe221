/- msg.bare, msg.plain. -/
import Derived.Test.YtaapbiiiepdopaaMd
import Derived.Test.YtaapbiiiepdopaaLo
namespace Go.Proofs.Ytaapbiiiepdopaa
open Go.RowKit Mem
set_option linter.unusedVariables false

theorem empL : ByteArray.empty.toList = [] := by rw [ByteArray.toList_eq]; rfl
theorem strNil (s : ByteArray) : (s.toList == []) = decide (s.size = 0) := by
  have := strEq s .empty
  rw [empL] at this
  rw [this, Bool.eq_iff_iff, decide_eq_true_eq, decide_eq_true_eq, size0]
  exact eq_comm
set_option maxHeartbeats 4000000 in
set_option maxRecDepth 100000 in
theorem mbare_any {m : M} {w : World} {S : Nat → Prop} {cs : Array Value} (hM : IsM w S m cs) (a b c d : Bool) :
    Calls Try.prog 49 #[.agg cs, .bool a, .bool b, .bool c, .bool d] w fun e w' => e = .returned (.bool (bareM m a b c d)) ∧ Below w.heap.size w w' := by
  obtain ⟨mk, ms, mt, mn, mv⟩ := m
  obtain ⟨k, bb, n, s, AL, nL, cL, AK, nK, cK, rfl, hV, _⟩ := hM
  dsimp only
  have HC := hide (fun o => vsame_nul (hV.alloc o))
  have hB0 := fun o => (Below.refl w.heap.size w).alloc (Nat.le_refl _) o
  have hsz := fun o => (show (w.alloc o).heap.size = w.heap.size + 1 by simp)
  have HB0 := hide (And.intro hB0 hsz)
  clear hB0 hsz hV
  dsimp only at HC
  have n1 := strNil ms
  have n2 := strNil mt
  generalize hq : bareM ⟨mk, ms, mt, mn, mv⟩ a b c d = q
  cases a with
  | true =>
    cases b with
    | true =>
      cases c with
      | true =>
        cases d with
        | true =>
          obtain rfl : q = true := by rw [← hq]; simp [bareM, bareM]
          clear hq n1 n2
          go_enter Try.func49, Try.ntmps49
          go_wp2
          go_ret
          exact ⟨rfl, HB0.out.1 _⟩
        | false =>
          obtain rfl : q = eqV mv nul := by rw [← hq]; simp [bareM, bareM]
          clear hq n1 n2
          go_enter Try.func49, Try.ntmps49
          go_wp2_with fail
          refine (HC.out _).mono ?_
          rintro e w5 ⟨rfl, hb⟩
          have HB := hide ((HB0.out.1 _).trans (hb.mono (by rw [HB0.out.2]; omega)))
          clear hb HC
          go_wp2
          go_ret
          exact ⟨rfl, HB.out⟩
      | false =>
        by_cases z2 : mn = 0
        · have t2 : (mn == 0) = true := by simp [z2]
          cases d with
          | true =>
            obtain rfl : q = true := by rw [← hq]; simp [bareM, z2]
            clear hq n1 n2 z2
            go_enter Try.func49, Try.ntmps49
            go_wp2
            go_ret
            exact ⟨rfl, HB0.out.1 _⟩
          | false =>
            obtain rfl : q = eqV mv nul := by rw [← hq]; simp [bareM, z2]
            clear hq n1 n2 z2
            go_enter Try.func49, Try.ntmps49
            go_wp2_with fail
            refine (HC.out _).mono ?_
            rintro e w5 ⟨rfl, hb⟩
            have HB := hide ((HB0.out.1 _).trans (hb.mono (by rw [HB0.out.2]; omega)))
            clear hb HC
            go_wp2
            go_ret
            exact ⟨rfl, HB.out⟩
        · have t2 : (mn == 0) = false := by simp [z2]
          obtain rfl : q = false := by rw [← hq]; simp [bareM, z2]
          clear hq n1 n2 z2
          go_enter Try.func49, Try.ntmps49
          go_wp2
          go_ret
          exact ⟨rfl, HB0.out.1 _⟩
    | false =>
      by_cases z1 : mt.size = 0
      · have t1 : (mt.toList == []) = true := by rw [n2]; simp [z1]
        cases c with
        | true =>
          cases d with
          | true =>
            obtain rfl : q = true := by rw [← hq]; simp [bareM, z1]
            clear hq n1 n2 z1
            go_enter Try.func49, Try.ntmps49
            go_wp2
            go_ret
            exact ⟨rfl, HB0.out.1 _⟩
          | false =>
            obtain rfl : q = eqV mv nul := by rw [← hq]; simp [bareM, z1]
            clear hq n1 n2 z1
            go_enter Try.func49, Try.ntmps49
            go_wp2_with fail
            refine (HC.out _).mono ?_
            rintro e w5 ⟨rfl, hb⟩
            have HB := hide ((HB0.out.1 _).trans (hb.mono (by rw [HB0.out.2]; omega)))
            clear hb HC
            go_wp2
            go_ret
            exact ⟨rfl, HB.out⟩
        | false =>
          by_cases z2 : mn = 0
          · have t2 : (mn == 0) = true := by simp [z2]
            cases d with
            | true =>
              obtain rfl : q = true := by rw [← hq]; simp [bareM, z1, z2]
              clear hq n1 n2 z1 z2
              go_enter Try.func49, Try.ntmps49
              go_wp2
              go_ret
              exact ⟨rfl, HB0.out.1 _⟩
            | false =>
              obtain rfl : q = eqV mv nul := by rw [← hq]; simp [bareM, z1, z2]
              clear hq n1 n2 z1 z2
              go_enter Try.func49, Try.ntmps49
              go_wp2_with fail
              refine (HC.out _).mono ?_
              rintro e w5 ⟨rfl, hb⟩
              have HB := hide ((HB0.out.1 _).trans (hb.mono (by rw [HB0.out.2]; omega)))
              clear hb HC
              go_wp2
              go_ret
              exact ⟨rfl, HB.out⟩
          · have t2 : (mn == 0) = false := by simp [z2]
            obtain rfl : q = false := by rw [← hq]; simp [bareM, z1, z2]
            clear hq n1 n2 z1 z2
            go_enter Try.func49, Try.ntmps49
            go_wp2
            go_ret
            exact ⟨rfl, HB0.out.1 _⟩
      · have t1 : (mt.toList == []) = false := by rw [n2]; simp [z1]
        obtain rfl : q = false := by rw [← hq]; simp [bareM, z1]
        clear hq n1 n2 z1
        go_enter Try.func49, Try.ntmps49
        go_wp2
        go_ret
        exact ⟨rfl, HB0.out.1 _⟩
  | false =>
    by_cases z0 : ms.size = 0
    · have t0 : (ms.toList == []) = true := by rw [n1]; simp [z0]
      cases b with
      | true =>
        cases c with
        | true =>
          cases d with
          | true =>
            obtain rfl : q = true := by rw [← hq]; simp [bareM, z0]
            clear hq n1 n2 z0
            go_enter Try.func49, Try.ntmps49
            go_wp2
            go_ret
            exact ⟨rfl, HB0.out.1 _⟩
          | false =>
            obtain rfl : q = eqV mv nul := by rw [← hq]; simp [bareM, z0]
            clear hq n1 n2 z0
            go_enter Try.func49, Try.ntmps49
            go_wp2_with fail
            refine (HC.out _).mono ?_
            rintro e w5 ⟨rfl, hb⟩
            have HB := hide ((HB0.out.1 _).trans (hb.mono (by rw [HB0.out.2]; omega)))
            clear hb HC
            go_wp2
            go_ret
            exact ⟨rfl, HB.out⟩
        | false =>
          by_cases z2 : mn = 0
          · have t2 : (mn == 0) = true := by simp [z2]
            cases d with
            | true =>
              obtain rfl : q = true := by rw [← hq]; simp [bareM, z0, z2]
              clear hq n1 n2 z0 z2
              go_enter Try.func49, Try.ntmps49
              go_wp2
              go_ret
              exact ⟨rfl, HB0.out.1 _⟩
            | false =>
              obtain rfl : q = eqV mv nul := by rw [← hq]; simp [bareM, z0, z2]
              clear hq n1 n2 z0 z2
              go_enter Try.func49, Try.ntmps49
              go_wp2_with fail
              refine (HC.out _).mono ?_
              rintro e w5 ⟨rfl, hb⟩
              have HB := hide ((HB0.out.1 _).trans (hb.mono (by rw [HB0.out.2]; omega)))
              clear hb HC
              go_wp2
              go_ret
              exact ⟨rfl, HB.out⟩
          · have t2 : (mn == 0) = false := by simp [z2]
            obtain rfl : q = false := by rw [← hq]; simp [bareM, z0, z2]
            clear hq n1 n2 z0 z2
            go_enter Try.func49, Try.ntmps49
            go_wp2
            go_ret
            exact ⟨rfl, HB0.out.1 _⟩
      | false =>
        by_cases z1 : mt.size = 0
        · have t1 : (mt.toList == []) = true := by rw [n2]; simp [z1]
          cases c with
          | true =>
            cases d with
            | true =>
              obtain rfl : q = true := by rw [← hq]; simp [bareM, z0, z1]
              clear hq n1 n2 z0 z1
              go_enter Try.func49, Try.ntmps49
              go_wp2
              go_ret
              exact ⟨rfl, HB0.out.1 _⟩
            | false =>
              obtain rfl : q = eqV mv nul := by rw [← hq]; simp [bareM, z0, z1]
              clear hq n1 n2 z0 z1
              go_enter Try.func49, Try.ntmps49
              go_wp2_with fail
              refine (HC.out _).mono ?_
              rintro e w5 ⟨rfl, hb⟩
              have HB := hide ((HB0.out.1 _).trans (hb.mono (by rw [HB0.out.2]; omega)))
              clear hb HC
              go_wp2
              go_ret
              exact ⟨rfl, HB.out⟩
          | false =>
            by_cases z2 : mn = 0
            · have t2 : (mn == 0) = true := by simp [z2]
              cases d with
              | true =>
                obtain rfl : q = true := by rw [← hq]; simp [bareM, z0, z1, z2]
                clear hq n1 n2 z0 z1 z2
                go_enter Try.func49, Try.ntmps49
                go_wp2
                go_ret
                exact ⟨rfl, HB0.out.1 _⟩
              | false =>
                obtain rfl : q = eqV mv nul := by rw [← hq]; simp [bareM, z0, z1, z2]
                clear hq n1 n2 z0 z1 z2
                go_enter Try.func49, Try.ntmps49
                go_wp2_with fail
                refine (HC.out _).mono ?_
                rintro e w5 ⟨rfl, hb⟩
                have HB := hide ((HB0.out.1 _).trans (hb.mono (by rw [HB0.out.2]; omega)))
                clear hb HC
                go_wp2
                go_ret
                exact ⟨rfl, HB.out⟩
            · have t2 : (mn == 0) = false := by simp [z2]
              obtain rfl : q = false := by rw [← hq]; simp [bareM, z0, z1, z2]
              clear hq n1 n2 z0 z1 z2
              go_enter Try.func49, Try.ntmps49
              go_wp2
              go_ret
              exact ⟨rfl, HB0.out.1 _⟩
        · have t1 : (mt.toList == []) = false := by rw [n2]; simp [z1]
          obtain rfl : q = false := by rw [← hq]; simp [bareM, z0, z1]
          clear hq n1 n2 z0 z1
          go_enter Try.func49, Try.ntmps49
          go_wp2
          go_ret
          exact ⟨rfl, HB0.out.1 _⟩
    · have t0 : (ms.toList == []) = false := by rw [n1]; simp [z0]
      obtain rfl : q = false := by rw [← hq]; simp [bareM, z0]
      clear hq n1 n2 z0
      go_enter Try.func49, Try.ntmps49
      go_wp2
      go_ret
      exact ⟨rfl, HB0.out.1 _⟩

set_option maxHeartbeats 1000000 in
theorem mplain_any {v : V} {w : World} {S : Nat → Prop} {cs : Array Value} (hV : IsV w S v cs) (z : Int) :
    Calls Try.prog 50 #[.agg cs, .int .i64 z] w fun e w' => e = .returned (.bool (plainB v z)) ∧ Below w.heap.size w w' := by
  obtain ⟨k, b, n, s, l, ks⟩ := v
  have hV' := hV
  rw [IsV] at hV'
  obtain ⟨AL, cL, AK, cK, xs, rfl, _⟩ := hV'
  have X0 := Blk.new w 25 #[.int .i64 k, .bool b, .int .i64 n, .string s, .slice AL l.length cL, .slice AK ks.length cK]
  have B0 := (Below.refl w.heap.size w).alloc (Nat.le_refl _) (.cells #[.int .i64 k, .bool b, .int .i64 n, .string s, .slice AL l.length cL, .slice AK ks.length cK] 25)
  have V0 := hV.alloc (.cells #[.int .i64 k, .bool b, .int .i64 n, .string s, .slice AL l.length cL, .slice AK ks.length cK] 25)
  have HX0 := hide X0
  have HB0 := hide B0
  have HV0 := hide V0
  clear X0 B0 V0 hV
  generalize hq : plainB (.mk k b n s l ks) z = q
  by_cases hk : k = z
  · subst hk
    cases hm : mayB (.mk k b n s l ks) with
    | true =>
      obtain rfl : q = plV (.mk k b n s l ks) := by rw [← hq]; simp [plainB, V.k, hm]
      have HC := fun W => hide (fun h => by have := check_any (w := W) (cs := #[.int .i64 k, .bool b, .int .i64 n, .string s, .slice AL l.length cL, .slice AK ks.length cK]) (S := S) (v := .mk k b n s l ks) h; rw [hm, if_pos rfl] at this; exact this)
      clear hq hm
      go_enter Try.func50, Try.ntmps50
      go_wp2_with fail
      generalize w.alloc (.cells #[.int .i64 k, .bool b, .int .i64 n, .string s, .slice AL l.length cL, .slice AK ks.length cK] 25) = W at HX0 HB0 HV0 ⊢
      refine ((HC W).out HV0.out).mono ?_
      rintro e w5 ⟨rfl, hb⟩
      have V5 := HV0.out.grow hb
      have X5 := HX0.out.below hb HX0.out.lt
      have x0 : w5.cell? ⟨w.heap.size, 0, none⟩ = some (.int .i64 k) := blkR X5 rfl
      have x1 : w5.cell? ⟨w.heap.size, 1, none⟩ = some (.bool b) := blkR X5 rfl
      have x2 : w5.cell? ⟨w.heap.size, 2, none⟩ = some (.int .i64 n) := blkR X5 rfl
      have x3 : w5.cell? ⟨w.heap.size, 3, none⟩ = some (.string s) := blkR X5 rfl
      have x4 : w5.cell? ⟨w.heap.size, 4, none⟩ = some (.slice AL l.length cL) := blkR X5 rfl
      have x5 : w5.cell? ⟨w.heap.size, 5, none⟩ = some (.slice AK ks.length cK) := blkR X5 rfl
      have HP := hide (plain_any _ V5)
      have HB5 := hide (HB0.out.trans (hb.mono HB0.out.size))
      clear V5 X5 hb
      go_wp2_with fail
      refine HP.out.mono ?_
      rintro e w6 ⟨rfl, hb⟩
      have HB6 := hide (HB5.out.trans (hb.mono HB5.out.size))
      clear hb HP x0 x1 x2 x3 x4 x5
      go_wp2
      go_ret
      exact ⟨rfl, HB6.out⟩
    | false =>
      obtain rfl : q = false := by rw [← hq]; simp [plainB, V.k, hm]
      have HC := fun W => hide (fun h => by have := check_any (w := W) (cs := #[.int .i64 k, .bool b, .int .i64 n, .string s, .slice AL l.length cL, .slice AK ks.length cK]) (S := S) (v := .mk k b n s l ks) h; rw [hm, if_neg (by decide)] at this; exact this)
      clear hq hm
      go_enter Try.func50, Try.ntmps50
      go_wp2_with fail
      generalize w.alloc (.cells #[.int .i64 k, .bool b, .int .i64 n, .string s, .slice AL l.length cL, .slice AK ks.length cK] 25) = W at HX0 HB0 HV0 ⊢
      refine ((HC W).out HV0.out).mono ?_
      rintro e w5 ⟨rfl, hb⟩
      have HB5 := hide (HB0.out.trans (hb.mono HB0.out.size))
      clear hb
      go_wp2
      go_ret
      exact ⟨rfl, HB5.out⟩
  · have e1 : (k == z) = false := by simp [hk]
    obtain rfl : q = false := by rw [← hq]; simp [plainB, V.k, hk]
    clear hq hk
    go_enter Try.func50, Try.ntmps50
    go_wp2
    go_ret
    exact ⟨rfl, HB0.out⟩
end Go.Proofs.Ytaapbiiiepdopaa
