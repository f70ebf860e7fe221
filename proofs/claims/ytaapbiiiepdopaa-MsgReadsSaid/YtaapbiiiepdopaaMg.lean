/- wattleref08.Same, wattleref08.own. -/
import Derived.Test.YtaapbiiiepdopaaMf
import Derived.Test.YtaapbiiiepdopaaL6
namespace Go.Proofs.Ytaapbiiiepdopaa
open Go.RowKit Mem
set_option linter.unusedVariables false

theorem eqM_mk (k k' : Int) (s s' t t' : ByteArray) (n n' : Int) (v v' : V) : eqM ⟨k, s, t, n, v⟩ ⟨k', s', t', n', v'⟩ = (decide (k = k') && decide (s = s') && decide (t = t') && decide (n = n') && eqV v v') := by
  rw [Bool.eq_iff_iff, eqM_iff]
  simp only [Bool.and_eq_true, decide_eq_true_eq, eqV_iff, and_assoc, M.mk.injEq]
set_option maxHeartbeats 4000000 in
set_option maxRecDepth 100000 in
theorem msame_any {m u : M} {w : World} {S T : Nat → Prop} {cs ds : Array Value} (hM : IsM w S m cs) (hU : IsM w T u ds) :
    Calls Try.prog 23 #[.agg cs, .agg ds] w fun e w' => e = .returned (.bool (eqM m u)) ∧ Below w.heap.size w w' := by
  obtain ⟨mk, ms, mt, mn, mv⟩ := m
  obtain ⟨mk', ms', mt', mn', mv'⟩ := u
  obtain ⟨k, b, n, s, AL, nL, cL, AK, nK, cK, rfl, hV, _⟩ := hM
  obtain ⟨k', b', n', s', AL', nL', cL', AK', nK', cK', rfl, hU, _⟩ := hU
  dsimp only at hV hU ⊢
  have B0 := ((Below.refl w.heap.size w).alloc (Nat.le_refl _) (.cells #[.int .i64 mk, .string ms, .string mt, .int .i64 mn, .int .i64 k, .bool b, .int .i64 n, .string s, .slice AL nL cL, .slice AK nK cK] 41)).alloc (by simp) (.cells #[.int .i64 mk', .string ms', .string mt', .int .i64 mn', .int .i64 k', .bool b', .int .i64 n', .string s', .slice AL' nL' cL', .slice AK' nK' cK'] 41)
  have HB := hide B0
  have HC := hide (same_any mv ((hV.alloc (.cells #[.int .i64 mk, .string ms, .string mt, .int .i64 mn, .int .i64 k, .bool b, .int .i64 n, .string s, .slice AL nL cL, .slice AK nK cK] 41)).alloc (.cells #[.int .i64 mk', .string ms', .string mt', .int .i64 mn', .int .i64 k', .bool b', .int .i64 n', .string s', .slice AL' nL' cL', .slice AK' nK' cK'] 41)) ((hU.alloc (.cells #[.int .i64 mk, .string ms, .string mt, .int .i64 mn, .int .i64 k, .bool b, .int .i64 n, .string s, .slice AL nL cL, .slice AK nK cK] 41)).alloc (.cells #[.int .i64 mk', .string ms', .string mt', .int .i64 mn', .int .i64 k', .bool b', .int .i64 n', .string s', .slice AL' nL' cL', .slice AK' nK' cK'] 41)))
  clear B0 hV hU
  generalize hq : eqM ⟨mk, ms, mt, mn, mv⟩ ⟨mk', ms', mt', mn', mv'⟩ = q
  rw [eqM_mk] at hq
  by_cases h1 : mk = mk'
  · subst h1
    by_cases h2 : ms = ms'
    · subst h2
      by_cases h3 : mt = mt'
      · subst h3
        by_cases h4 : mn = mn'
        · subst h4
          obtain rfl : q = eqV mv mv' := by rw [← hq]; simp
          clear hq
          go_enter Try.func23, Try.ntmps23
          go_wp2_with fail
          refine HC.out.mono ?_
          rintro e w5 ⟨rfl, hb⟩
          have HB5 := hide (HB.out.trans (hb.mono HB.out.size))
          clear hb HC HB
          go_wp2
          go_ret
          exact ⟨rfl, HB5.out⟩
        · have t4 : (mn == mn') = false := by simp [h4]
          obtain rfl : q = false := by rw [← hq]; simp [h4]
          clear hq h4 HC
          go_enter Try.func23, Try.ntmps23
          go_wp2
          go_ret
          exact ⟨rfl, HB.out⟩
      · have t3 : (mt.toList == mt'.toList) = false := by rw [strEq]; simp [h3]
        obtain rfl : q = false := by rw [← hq]; simp [h3]
        clear hq h3 HC
        go_enter Try.func23, Try.ntmps23
        go_wp2
        go_ret
        exact ⟨rfl, HB.out⟩
    · have t2 : (ms.toList == ms'.toList) = false := by rw [strEq]; simp [h2]
      obtain rfl : q = false := by rw [← hq]; simp [h2]
      clear hq h2 HC
      go_enter Try.func23, Try.ntmps23
      go_wp2
      go_ret
      exact ⟨rfl, HB.out⟩
  · have t1 : (mk == mk') = false := by simp [h1]
    obtain rfl : q = false := by rw [← hq]; simp [h1]
    clear hq h1 HC
    go_enter Try.func23, Try.ntmps23
    go_wp2
    go_ret
    exact ⟨rfl, HB.out⟩

def OwnP (m : M) (w : World) (S : Nat → Prop) (e : Ending) (w' : World) : Prop := ∃ cs, e = .returned (.agg cs) ∧ IsM w' S (ownM m) cs ∧ Below w.heap.size w w'
set_option maxHeartbeats 4000000 in
set_option maxRecDepth 100000 in
theorem own_any {m : M} {w : World} {S : Nat → Prop} {cs : Array Value} (hM : IsM w S m cs) :
    Calls Try.prog 65 #[.agg cs] w fun e w' => OwnP m w S e w' := by
  obtain ⟨mk, ms, mt, mn, mv⟩ := m
  obtain ⟨k, b, n, s, AL, nL, cL, AK, nK, cK, rfl, hV, hrange⟩ := hM
  dsimp only at hV hrange ⊢
  have HV := hide hV
  have HR := hide hrange
  clear hV hrange
  have X : ∀ (A R R' : Array Value), Blk (((w.alloc (.cells A 41)).alloc (.cells R 41)).alloc (.cells R' 41)) (w.heap.size + 1) 41 R := fun A R R' => by simpa using (Blk.new (w.alloc (.cells A 41)) 41 R).alloc (.cells R' 41)
  have B : ∀ (A R R' : Array Value), Below w.heap.size w (((w.alloc (.cells A 41)).alloc (.cells R 41)).alloc (.cells R' 41)) := fun A R R' => (((Below.refl w.heap.size w).alloc (Nat.le_refl _) _).alloc (by simp) _).alloc (by simp; omega) _
  have HX := hide X
  have HB := hide B
  clear X B
  obtain ⟨r1, r2, r3, r4, r5, r6⟩ := HR.out
  clear HR
  have HR := hide (And.intro r1 (And.intro r2 (And.intro r3 (And.intro r4 (And.intro r5 r6)))))
  clear r1 r2 r3 r4 r5 r6
  have emp : ByteArray.empty.size ≤ 9223372036854775807 := by decide
  have zlo : (-9223372036854775808 : Int) ≤ 0 := by decide
  have zhi : (0 : Int) ≤ 9223372036854775807 := by decide
  rcases kind_cases mk with rfl | rfl | rfl | rfl | rfl | rfl | h0
  · go_enter Try.func65, Try.ntmps65
    go_wp2
    refine bodyPost_ret (results_cell1 rfl _ _ (w.heap.size + 1) 41 _ _ rfl (HX.out _ _ _) Try.underlying41 rfl (by kernel_rfl)) rfl ?_
    exact ⟨_, rfl, ⟨_, _, _, _, _, _, _, _, _, _, rfl, nulV, HR.out.1, HR.out.2.1, zlo, zhi, HR.out.2.2.2.2.1, emp⟩, HB.out _ _ _⟩
  · go_enter Try.func65, Try.ntmps65
    go_wp2
    refine bodyPost_ret (results_cell1 rfl _ _ (w.heap.size + 1) 41 _ _ rfl (HX.out _ _ _) Try.underlying41 rfl (by kernel_rfl)) rfl ?_
    exact ⟨_, rfl, ⟨_, _, _, _, _, _, _, _, _, _, rfl, ((HV.out.alloc _).alloc _).alloc _, HR.out.1, HR.out.2.1, zlo, zhi, emp, HR.out.2.2.2.2.2⟩, HB.out _ _ _⟩
  · go_enter Try.func65, Try.ntmps65
    go_wp2
    refine bodyPost_ret (results_cell1 rfl _ _ (w.heap.size + 1) 41 _ _ rfl (HX.out _ _ _) Try.underlying41 rfl (by kernel_rfl)) rfl ?_
    exact ⟨_, rfl, ⟨_, _, _, _, _, _, _, _, _, _, rfl, nulV, HR.out.1, HR.out.2.1, HR.out.2.2.1, HR.out.2.2.2.1, emp, emp⟩, HB.out _ _ _⟩
  · go_enter Try.func65, Try.ntmps65
    go_wp2
    refine bodyPost_ret (results_cell1 rfl _ _ (w.heap.size + 1) 41 _ _ rfl (HX.out _ _ _) Try.underlying41 rfl (by kernel_rfl)) rfl ?_
    exact ⟨_, rfl, ⟨_, _, _, _, _, _, _, _, _, _, rfl, nulV, HR.out.1, HR.out.2.1, HR.out.2.2.1, HR.out.2.2.2.1, emp, emp⟩, HB.out _ _ _⟩
  · go_enter Try.func65, Try.ntmps65
    go_wp2
    refine bodyPost_ret (results_cell1 rfl _ _ (w.heap.size + 1) 41 _ _ rfl (HX.out _ _ _) Try.underlying41 rfl (by kernel_rfl)) rfl ?_
    exact ⟨_, rfl, ⟨_, _, _, _, _, _, _, _, _, _, rfl, ((HV.out.alloc _).alloc _).alloc _, HR.out.1, HR.out.2.1, zlo, zhi, emp, emp⟩, HB.out _ _ _⟩
  · go_enter Try.func65, Try.ntmps65
    go_wp2
    refine bodyPost_ret (results_cell1 rfl _ _ (w.heap.size + 1) 41 _ _ rfl (HX.out _ _ _) Try.underlying41 rfl (by kernel_rfl)) rfl ?_
    exact ⟨_, rfl, ⟨_, _, _, _, _, _, _, _, _, _, rfl, ((HV.out.alloc _).alloc _).alloc _, HR.out.1, HR.out.2.1, zlo, zhi, emp, emp⟩, HB.out _ _ _⟩
  · have e1 : (mk == 1) = false := by simp; omega
    have e3 : (mk == 3) = false := by simp; omega
    have e4 : (mk == 4) = false := by simp; omega
    have e18 : (mk == 18) = false := by simp; omega
    have e16 : (mk == 16) = false := by simp; omega
    have e17 : (mk == 17) = false := by simp; omega
    have ho := own_0 (m := ⟨mk, ms, mt, mn, mv⟩) h0
    have HO := hide ho
    clear h0 ho
    go_enter Try.func65, Try.ntmps65
    go_wp2
    refine bodyPost_ret (results_cell1 rfl _ _ (w.heap.size + 1) 41 _ _ rfl (HX.out _ _ _) Try.underlying41 rfl (by kernel_rfl)) rfl ?_
    refine ⟨_, rfl, ?_, HB.out _ _ _⟩
    rw [HO.out]
    exact ⟨_, _, _, _, _, _, _, _, _, _, rfl, nulV, HR.out.1, HR.out.2.1, zlo, zhi, emp, emp⟩
end Go.Proofs.Ytaapbiiiepdopaa
