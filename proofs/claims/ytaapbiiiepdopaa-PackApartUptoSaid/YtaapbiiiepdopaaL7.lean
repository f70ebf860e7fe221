/- PackBack, PackCuts, PackApart. -/
import Derived.Test.YtaapbiiiepdopaaL6
namespace Go.Proofs.Ytaapbiiiepdopaa
open Go.RowKit Mem Go.Deep Go.ChangeShapes Go.WideShapes
set_option linter.unusedVariables false

set_option maxRecDepth 100000 in
set_option maxHeartbeats 1000000 in
theorem apart_law {w : World} {v u : V} {cs ds : Array Value} (hV : IsV w (fun b => b < w.heap.size) v cs) (hU : IsV w (fun b => b < w.heap.size) u ds) (hn : bulk v + bulk u ≤ 1048576) :
    Calls Try.prog 8 #[.agg cs, .agg ds] w fun e w' => e = .returned (.bool true) ∧ Below w.heap.size w w' := by
  obtain ⟨k, b, n, s, AL, nL, cL, AK, nK, cK, rfl⟩ := hV.shape
  obtain ⟨k', b', n', s', AL', nL', cL', AK', nK', cK', rfl⟩ := hU.shape
  have wv := hV.wf
  have wu := hU.wf
  have X0 := (Blk.new w 25 #[.int .i64 k, .bool b, .int .i64 n, .string s, .slice AL nL cL, .slice AK nK cK]).alloc (.cells #[.int .i64 k', .bool b', .int .i64 n', .string s', .slice AL' nL' cL', .slice AK' nK' cK'] 25)
  have Y0 := Blk.new (w.alloc (.cells #[.int .i64 k, .bool b, .int .i64 n, .string s, .slice AL nL cL, .slice AK nK cK] 25)) 25 #[.int .i64 k', .bool b', .int .i64 n', .string s', .slice AL' nL' cL', .slice AK' nK' cK']
  have V0 := (hV.alloc (.cells #[.int .i64 k, .bool b, .int .i64 n, .string s, .slice AL nL cL, .slice AK nK cK] 25)).alloc (.cells #[.int .i64 k', .bool b', .int .i64 n', .string s', .slice AL' nL' cL', .slice AK' nK' cK'] 25)
  have U0 := (hU.alloc (.cells #[.int .i64 k, .bool b, .int .i64 n, .string s, .slice AL nL cL, .slice AK nK cK] 25)).alloc (.cells #[.int .i64 k', .bool b', .int .i64 n', .string s', .slice AL' nL' cL', .slice AK' nK' cK'] 25)
  have B0 := ((Below.refl w.heap.size w).alloc (Nat.le_refl _) (.cells #[.int .i64 k, .bool b, .int .i64 n, .string s, .slice AL nL cL, .slice AK nK cK] 25)).alloc (by simp) (.cells #[.int .i64 k', .bool b', .int .i64 n', .string s', .slice AL' nL' cL', .slice AK' nK' cK'] 25)
  clear hV hU
  go_enter Try.func8, Try.ntmps8
  go_wp2_with fail
  simp only [World.size_alloc] at Y0
  generalize (w.alloc (.cells #[.int .i64 k, .bool b, .int .i64 n, .string s, .slice AL nL cL, .slice AK nK cK] 25)).alloc (.cells #[.int .i64 k', .bool b', .int .i64 n', .string s', .slice AL' nL' cL', .slice AK' nK' cK'] 25) = W at X0 Y0 V0 U0 B0 ⊢
  have HX := hide X0
  have HY := hide Y0
  have HV := hide V0
  have HU := hide U0
  have HB := hide B0
  have lv : mayB v = true → (byt v).length ≤ 35184372088832 := fun h => by have := mayB_len h wv; omega
  have lu : mayB u = true → (byt u).length ≤ 35184372088832 := fun h => by have := mayB_len h wu; omega
  clear X0 Y0 V0 U0 B0
  refine (encode_any HV.out lv).mono ?_
  intro e w1 h1
  have b1 := h1.1
  have s1 := b1.size
  have HB1 := hide (HB.out.trans (b1.mono HB.out.size))
  have Y1 := HY.out.below b1 HY.out.lt
  have x0 : w1.cell? ⟨w.heap.size + 1, 0, none⟩ = some (.int .i64 k') := blkR Y1 rfl
  have x1 : w1.cell? ⟨w.heap.size + 1, 1, none⟩ = some (.bool b') := blkR Y1 rfl
  have x2 : w1.cell? ⟨w.heap.size + 1, 2, none⟩ = some (.int .i64 n') := blkR Y1 rfl
  have x3 : w1.cell? ⟨w.heap.size + 1, 3, none⟩ = some (.string s') := blkR Y1 rfl
  have x4 : w1.cell? ⟨w.heap.size + 1, 4, none⟩ = some (.slice AL' nL' cL') := blkR Y1 rfl
  have x5 : w1.cell? ⟨w.heap.size + 1, 5, none⟩ = some (.slice AK' nK' cK') := blkR Y1 rfl
  have X1 := HX.out.below b1 HX.out.lt
  have HX1 := hide X1
  have HY1 := hide Y1
  have V1 := HV.out.below b1 (fun b h => Nat.lt_of_lt_of_le h HB.out.size)
  have U1 := HU.out.below b1 (fun b h => Nat.lt_of_lt_of_le h HB.out.size)
  have HV1 := hide V1
  have HU1 := hide U1
  have HE := hide h1
  clear X1 Y1 V1 U1 h1 b1
  by_cases hv : mayB v = true
  · obtain ⟨hb, A1, c1, rfl, o1⟩ := EncP_ok HE.out hv
    clear hb HE
    go_wp2_with fail
    refine (encode_any HU1.out lu).mono ?_
    intro e w2 h2
    have b2 := h2.1
    have s2 := b2.size
    have HB2 := hide (HB1.out.trans (b2.mono HB1.out.size))
    by_cases hu : mayB u = true
    · obtain ⟨hb, A2, c2, rfl, o2⟩ := EncP_ok h2 hu
      have r1 := (Reads.of_own o1).below b2 (Nat.le_refl _)
      have r2 := Reads.of_own o2
      have X2 := HX1.out.below b2 HX1.out.lt
      have Y2 := HY1.out.below b2 HY1.out.lt
      have V2 := HV1.out.below b2 (fun b h => Nat.lt_of_lt_of_le h HB1.out.size)
      have U2 := HU1.out.below b2 (fun b h => Nat.lt_of_lt_of_le h HB1.out.size)
      have t1 : ∀ W, Below w2.heap.size w2 W → (convert 27 9 (.slice A1 (byt v).length c1)).run Try.prog W = .ok (.string (ofL (byt v))) W := fun W hW => (r1.below hW s2).str 27 9 5 Try.underlying27 Try.underlying5 Try.underlying9 c1
      have t2 : ∀ W, Below w2.heap.size w2 W → (convert 27 9 (.slice A2 (byt u).length c2)).run Try.prog W = .ok (.string (ofL (byt u))) W := fun W hW => (r2.below hW (Nat.le_refl _)).str 27 9 5 Try.underlying27 Try.underlying5 Try.underlying9 c2
      have p0 : ∀ W, Below w2.heap.size w2 W → W.cell? ⟨w.heap.size, 0, none⟩ = some (.int .i64 k) := fun W hW => blkR (X2.below hW X2.lt) rfl
      have p1 : ∀ W, Below w2.heap.size w2 W → W.cell? ⟨w.heap.size, 1, none⟩ = some (.bool b) := fun W hW => blkR (X2.below hW X2.lt) rfl
      have p2 : ∀ W, Below w2.heap.size w2 W → W.cell? ⟨w.heap.size, 2, none⟩ = some (.int .i64 n) := fun W hW => blkR (X2.below hW X2.lt) rfl
      have p3 : ∀ W, Below w2.heap.size w2 W → W.cell? ⟨w.heap.size, 3, none⟩ = some (.string s) := fun W hW => blkR (X2.below hW X2.lt) rfl
      have p4 : ∀ W, Below w2.heap.size w2 W → W.cell? ⟨w.heap.size, 4, none⟩ = some (.slice AL nL cL) := fun W hW => blkR (X2.below hW X2.lt) rfl
      have p5 : ∀ W, Below w2.heap.size w2 W → W.cell? ⟨w.heap.size, 5, none⟩ = some (.slice AK nK cK) := fun W hW => blkR (X2.below hW X2.lt) rfl
      have q0 : ∀ W, Below w2.heap.size w2 W → W.cell? ⟨w.heap.size + 1, 0, none⟩ = some (.int .i64 k') := fun W hW => blkR (Y2.below hW Y2.lt) rfl
      have q1 : ∀ W, Below w2.heap.size w2 W → W.cell? ⟨w.heap.size + 1, 1, none⟩ = some (.bool b') := fun W hW => blkR (Y2.below hW Y2.lt) rfl
      have q2 : ∀ W, Below w2.heap.size w2 W → W.cell? ⟨w.heap.size + 1, 2, none⟩ = some (.int .i64 n') := fun W hW => blkR (Y2.below hW Y2.lt) rfl
      have q3 : ∀ W, Below w2.heap.size w2 W → W.cell? ⟨w.heap.size + 1, 3, none⟩ = some (.string s') := fun W hW => blkR (Y2.below hW Y2.lt) rfl
      have q4 : ∀ W, Below w2.heap.size w2 W → W.cell? ⟨w.heap.size + 1, 4, none⟩ = some (.slice AL' nL' cL') := fun W hW => blkR (Y2.below hW Y2.lt) rfl
      have q5 : ∀ W, Below w2.heap.size w2 W → W.cell? ⟨w.heap.size + 1, 5, none⟩ = some (.slice AK' nK' cK') := fun W hW => blkR (Y2.below hW Y2.lt) rfl
      have hsame : ∀ W, Below w2.heap.size w2 W → Calls Try.prog 17 #[.agg #[.int .i64 k, .bool b, .int .i64 n, .string s, .slice AL nL cL, .slice AK nK cK], .agg #[.int .i64 k', .bool b', .int .i64 n', .string s', .slice AL' nL' cL', .slice AK' nK' cK']] W fun e w' => e = .returned (.bool (eqV v u)) ∧ Below W.heap.size W w' :=
        fun W hW => same_any v (V2.below hW (fun b h => Nat.lt_of_lt_of_le h HB2.out.size)) (U2.below hW (fun b h => Nat.lt_of_lt_of_le h HB2.out.size))
      have HS := hide hsame
      clear hsame V2 U2 X2 Y2 r1 r2 o1 o2 hb b2 h2 x0 x1 x2 x3 x4 x5
      by_cases hvu : v = u
      · subst hvu
        have ht : eqV v v = true := eqV_iff.2 rfl
        rw [ht] at HS
        go_wp2_with fail
        go_region_held3 (fun W => Below w2.heap.size w2 W) (first | exact (Below.refl _ w2).drew | (have hx := ‹Below w2.heap.size w2 _›; exact hx.trans (hb5.mono hx.size))) (first | (go_at_call 18; refine works_any.mono ?_; rintro e w5 ⟨rfl, hb5⟩) | (go_at_call 17; refine (HS.out _ (by assumption)).mono ?_; rintro e w5 ⟨rfl, hb5⟩))
        all_goals go_wp2_with fail
        all_goals go_ret
        all_goals exact ⟨rfl, HB2.out.trans (Below.mono ‹Below w2.heap.size w2 _› HB2.out.size)⟩
      · have hbb : ¬ byt v = byt u := fun e => hvu (byt_inj hv wv hu wu e)
        have hss : ¬ ofL (byt v) = ofL (byt u) := fun e => hbb (by simpa [ofL] using e)
        have ht : eqV v u = false := by
          cases h : eqV v u with
          | true => exact absurd (eqV_iff.1 h) hvu
          | false => rfl
        rw [ht] at HS
        have n2 : decide (ofL (byt v) = ofL (byt u)) = false := decide_eq_false hss
        have n3 : ((ofL (byt v)).toList == (ofL (byt u)).toList) = false := by rw [strEq]; exact n2
        clear hvu hbb
        go_wp2_with fail
        go_region_held3 (fun W => Below w2.heap.size w2 W) (first | exact (Below.refl _ w2).drew | (have hx := ‹Below w2.heap.size w2 _›; exact hx.trans (hb5.mono hx.size))) (first | (go_at_call 18; refine works_any.mono ?_; rintro e w5 ⟨rfl, hb5⟩) | (go_at_call 17; refine (HS.out _ (by assumption)).mono ?_; rintro e w5 ⟨rfl, hb5⟩))
        all_goals go_wp2_with fail
        all_goals go_ret
        all_goals exact ⟨rfl, HB2.out.trans (Below.mono ‹Below w2.heap.size w2 _› HB2.out.size)⟩
    · obtain ⟨hb, rfl⟩ := EncP_no h2 hu
      clear hb b2 h2
      clear x0 x1 x2 x3 x4 x5
      go_wp2_with fail
      refine works_any.mono ?_
      rintro e w3 ⟨rfl, hb3⟩
      have HB3 := hide (HB2.out.trans (hb3.mono HB2.out.size))
      clear hb3
      go_wp2
      go_ret
      exact ⟨rfl, HB3.out⟩
  · obtain ⟨hb, rfl⟩ := EncP_no HE.out hv
    clear hb HE
    go_wp2_with fail
    refine (encode_any HU1.out lu).mono ?_
    intro e w2 h2
    have b2 := h2.1
    have HB2 := hide (HB1.out.trans (b2.mono HB1.out.size))
    clear x0 x1 x2 x3 x4 x5
    by_cases hu : mayB u = true
    · obtain ⟨hb, A2, c2, rfl, o2⟩ := EncP_ok h2 hu
      clear hb o2 b2 h2
      go_wp2_with fail
      refine works_any.mono ?_
      rintro e w3 ⟨rfl, hb3⟩
      have HB3 := hide (HB2.out.trans (hb3.mono HB2.out.size))
      clear hb3
      go_wp2
      go_ret
      exact ⟨rfl, HB3.out⟩
    · obtain ⟨hb, rfl⟩ := EncP_no h2 hu
      clear hb b2 h2
      go_wp2_with fail
      refine works_any.mono ?_
      rintro e w3 ⟨rfl, hb3⟩
      have HB3 := hide (HB2.out.trans (hb3.mono HB2.out.size))
      clear hb3
      go_wp2
      go_ret
      exact ⟨rfl, HB3.out⟩
theorem packApart_walk (H : Type) (enc : TypeId × Value → H) (W : World) (base : Nat) (v0 : Value) (d0 : DataW H) (p0 : List MemPlace) (v1 : Value) (d1 : DataW H) (p1 : List MemPlace)
    (x0 : Value.okWide Try.prog W .any base 25 v0) (h0 : DataW.Trod enc Try.prog W 0 (fun _ => true) true 25 v0 d0 p0) (x1 : Value.okWide Try.prog W .any base 25 v1) (h1 : DataW.Trod enc Try.prog W 0 (fun _ => true) true 25 v1 d1 p1) (hk : Rows.uptoSmall H ([d0, d1] ++ []) = true) :
    Calls Try.prog 8 #[v0, v1] W fun e W' => e = .returned (.bool true) ∧ Below W.heap.size W W' := by
  obtain ⟨v, cs, rfl, hV, hb⟩ := arg_val x0 h0
  obtain ⟨u, ds, rfl, hU, hb'⟩ := arg_val x1 h1
  have hs := small2 hk
  exact apart_law hV hU (by omega)
end Go.Proofs.Ytaapbiiiepdopaa
