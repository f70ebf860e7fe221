/- PackWrites. -/
import Derived.Test.YtaapbiiiepdopaaCo
import Derived.Test.YtaapbiiiepdopaaRe
import Derived.Test.YtaapbiiiepdopaaAv
namespace Go.Proofs.Ytaapbiiiepdopaa
open Go.RowKit Mem Go.Deep Go.ChangeShapes Go.WideShapes
set_option linter.unusedVariables false

set_option maxRecDepth 100000 in
set_option maxHeartbeats 1000000 in
theorem writes_law {w : World} {v : V} {cs : Array Value} (hV : IsV w (fun b => b < w.heap.size) v cs) (hn : bulk v ≤ 1048576) :
    Calls Try.prog 3 #[.agg cs] w fun e w' => e = .returned (.bool true) ∧ Below w.heap.size w w' := by
  obtain ⟨k, b, m, s, AL, nL, cL, AK, nK, cK, rfl⟩ := hV.shape
  have wv := hV.wf
  have X0 := Blk.new w 25 #[.int .i64 k, .bool b, .int .i64 m, .string s, .slice AL nL cL, .slice AK nK cK]
  have V0 := hV.alloc (.cells #[.int .i64 k, .bool b, .int .i64 m, .string s, .slice AL nL cL, .slice AK nK cK] 25)
  have B0 := (Below.refl w.heap.size w).alloc (Nat.le_refl _) (.cells #[.int .i64 k, .bool b, .int .i64 m, .string s, .slice AL nL cL, .slice AK nK cK] 25)
  clear hV
  go_enter Try.func3, Try.ntmps3
  go_wp2_with fail
  generalize w.alloc (.cells #[.int .i64 k, .bool b, .int .i64 m, .string s, .slice AL nL cL, .slice AK nK cK] 25) = W at X0 V0 B0 ⊢
  have lv : mayB v = true → (byt v).length ≤ 35184372088832 := fun h => by have := mayB_len h wv; omega
  have HV := hide V0
  have HB := hide B0
  have HX := hide X0
  clear V0 B0 X0
  refine (copy_any v hn HV.out).mono ?_
  rintro e w1 ⟨cs', rfl, V1, b1⟩
  obtain ⟨k2, bb2, m2, s2, AL2, nL2, cL2, AK2, nK2, cK2, rfl⟩ := V1.shape
  have s1 := b1.size
  have HB1 := hide ((HB.out.trans (b1.mono HB.out.size)).alloc (Nat.le_trans HB.out.size s1) (.cells #[.int .i64 k2, .bool bb2, .int .i64 m2, .string s2, .slice AL2 nL2 cL2, .slice AK2 nK2 cK2] 25))
  have Y1 := Blk.new w1 25 #[.int .i64 k2, .bool bb2, .int .i64 m2, .string s2, .slice AL2 nL2 cL2, .slice AK2 nK2 cK2]
  have X1 := (HX.out.below b1 HX.out.lt).alloc (.cells #[.int .i64 k2, .bool bb2, .int .i64 m2, .string s2, .slice AL2 nL2 cL2, .slice AK2 nK2 cK2] 25)
  have U1 := (HV.out.below b1 (fun b h => Nat.lt_of_lt_of_le h HB.out.size)).alloc (.cells #[.int .i64 k2, .bool bb2, .int .i64 m2, .string s2, .slice AL2 nL2 cL2, .slice AK2 nK2 cK2] 25)
  have V1' := (V1.mono (S' := fun b => b < w1.heap.size) (fun b _ h => h)).alloc (.cells #[.int .i64 k2, .bool bb2, .int .i64 m2, .string s2, .slice AL2 nL2 cL2, .slice AK2 nK2 cK2] 25)
  have sz1 : (w1.alloc (.cells #[.int .i64 k2, .bool bb2, .int .i64 m2, .string s2, .slice AL2 nL2 cL2, .slice AK2 nK2 cK2] 25)).heap.size = w1.heap.size + 1 := by simp
  clear V1 b1
  go_wp2_with fail
  generalize w1.alloc (.cells #[.int .i64 k2, .bool bb2, .int .i64 m2, .string s2, .slice AL2 nL2 cL2, .slice AK2 nK2 cK2] 25) = W1 at HB1 Y1 X1 U1 V1' sz1 ⊢
  generalize w1.heap.size = Y at Y1 V1' sz1 s1 ⊢
  refine (encode_any V1' lv).mono ?_
  intro e w2 h2
  have b2 := h2.1
  have sb2 := b2.size
  have HB2 := hide (HB1.out.trans (b2.mono HB1.out.size))
  have Y2 := Y1.below b2 Y1.lt
  have X2 := X1.below b2 X1.lt
  have U2 := U1.below b2 (fun b h => Nat.lt_of_lt_of_le h HB1.out.size)
  have V2 := V1'.below b2 (fun b h => by have h : b < Y := h; omega)
  have x0 : w2.cell? ⟨w.heap.size, 0, none⟩ = some (.int .i64 k) := blkR X2 rfl
  have x1 : w2.cell? ⟨w.heap.size, 1, none⟩ = some (.bool b) := blkR X2 rfl
  have x2 : w2.cell? ⟨w.heap.size, 2, none⟩ = some (.int .i64 m) := blkR X2 rfl
  have x3 : w2.cell? ⟨w.heap.size, 3, none⟩ = some (.string s) := blkR X2 rfl
  have x4 : w2.cell? ⟨w.heap.size, 4, none⟩ = some (.slice AL nL cL) := blkR X2 rfl
  have x5 : w2.cell? ⟨w.heap.size, 5, none⟩ = some (.slice AK nK cK) := blkR X2 rfl
  have HY2 := hide Y2
  have HX2 := hide X2
  have HU2 := hide U2
  have HV2 := hide V2
  have H2 := hide h2
  clear Y1 X1 U1 V1' Y2 X2 U2 V2 h2 HX HV HB
  by_cases hm : mayB v = true
  · obtain ⟨b2', A1, c1, rfl, o1⟩ := EncP_ok H2.out hm
    have r1 := Reads.of_own o1
    clear o1 b2' H2 b2
    go_wp2_with fail
    refine (refenc_any HU2.out lv).mono ?_
    intro e w3 h3
    obtain ⟨b3, A2, c2, rfl, r2⟩ := EncR_ok h3 hm
    have HB3 := hide (HB2.out.trans (b3.mono HB2.out.size))
    have Y3 := HY2.out.below b3 HY2.out.lt
    have X3 := HX2.out.below b3 HX2.out.lt
    have V3 := HV2.out.below b3 (fun b h => by have h : b < Y := h; omega)
    have U3 := HU2.out.below b3 (fun b h => Nat.lt_of_lt_of_le h HB2.out.size)
    have t1 : (convert 27 9 (.slice A1 (byt v).length c1)).run Try.prog w3 = .ok (.string (ofL (byt v))) w3 := (r1.below b3 (Nat.le_refl _)).str 27 9 5 Try.underlying27 Try.underlying5 Try.underlying9 c1
    have t2 : (convert 27 9 (.slice A2 (byt v).length c2)).run Try.prog w3 = .ok (.string (ofL (byt v))) w3 := r2.str 27 9 5 Try.underlying27 Try.underlying5 Try.underlying9 c2
    have y0 : w3.cell? ⟨Y, 0, none⟩ = some (.int .i64 k2) := blkR Y3 rfl
    have y1 : w3.cell? ⟨Y, 1, none⟩ = some (.bool bb2) := blkR Y3 rfl
    have y2 : w3.cell? ⟨Y, 2, none⟩ = some (.int .i64 m2) := blkR Y3 rfl
    have y3 : w3.cell? ⟨Y, 3, none⟩ = some (.string s2) := blkR Y3 rfl
    have y4 : w3.cell? ⟨Y, 4, none⟩ = some (.slice AL2 nL2 cL2) := blkR Y3 rfl
    have y5 : w3.cell? ⟨Y, 5, none⟩ = some (.slice AK2 nK2 cK2) := blkR Y3 rfl
    have z0 : w3.cell? ⟨w.heap.size, 0, none⟩ = some (.int .i64 k) := blkR X3 rfl
    have z1 : w3.cell? ⟨w.heap.size, 1, none⟩ = some (.bool b) := blkR X3 rfl
    have z2 : w3.cell? ⟨w.heap.size, 2, none⟩ = some (.int .i64 m) := blkR X3 rfl
    have z3 : w3.cell? ⟨w.heap.size, 3, none⟩ = some (.string s) := blkR X3 rfl
    have z4 : w3.cell? ⟨w.heap.size, 4, none⟩ = some (.slice AL nL cL) := blkR X3 rfl
    have z5 : w3.cell? ⟨w.heap.size, 5, none⟩ = some (.slice AK nK cK) := blkR X3 rfl
    have HV3 := hide V3
    have HU3 := hide U3
    clear V3 U3 X3 Y3 b3 h3 r1 r2 x0 x1 x2 x3 x4 x5
    go_wp2_with fail
    refine (same_any v HV3.out HU3.out).mono ?_
    rintro e w5 ⟨he, hb5⟩
    rw [eqV_iff.2 rfl] at he
    subst he
    have HB5 := hide (HB3.out.trans (hb5.mono HB3.out.size))
    clear hb5 y0 y1 y2 y3 y4 y5 z0 z1 z2 z3 z4 z5
    go_wp2_with fail
    refine works_any.mono ?_
    rintro e w6 ⟨rfl, hb6⟩
    have HB6 := hide (HB5.out.trans (hb6.mono HB5.out.size))
    clear hb6
    go_wp2
    go_ret
    exact ⟨rfl, HB6.out⟩
  · obtain ⟨b2', rfl⟩ := EncP_no H2.out hm
    clear b2' H2 b2
    go_wp2_with fail
    refine (refenc_any HU2.out lv).mono ?_
    intro e w3 h3
    obtain ⟨b3, rfl⟩ := EncR_no h3 hm
    have HB3 := hide (HB2.out.trans (b3.mono HB2.out.size))
    have Y3 := HY2.out.below b3 HY2.out.lt
    have X3 := HX2.out.below b3 HX2.out.lt
    have V3 := HV2.out.below b3 (fun b h => by have h : b < Y := h; omega)
    have U3 := HU2.out.below b3 (fun b h => Nat.lt_of_lt_of_le h HB2.out.size)
    have t1 : (convert 27 9 (.slice none 0 0)).run Try.prog w3 = .ok (.string (ofL [])) w3 := (Reads.none_ (w := w3) (lo := 0) (hi := 0) (size := 1) (A := none) |> fun h => Reads.str (xs := []) h 27 9 5 Try.underlying27 Try.underlying5 Try.underlying9 0)
    have y0 : w3.cell? ⟨Y, 0, none⟩ = some (.int .i64 k2) := blkR Y3 rfl
    have y1 : w3.cell? ⟨Y, 1, none⟩ = some (.bool bb2) := blkR Y3 rfl
    have y2 : w3.cell? ⟨Y, 2, none⟩ = some (.int .i64 m2) := blkR Y3 rfl
    have y3 : w3.cell? ⟨Y, 3, none⟩ = some (.string s2) := blkR Y3 rfl
    have y4 : w3.cell? ⟨Y, 4, none⟩ = some (.slice AL2 nL2 cL2) := blkR Y3 rfl
    have y5 : w3.cell? ⟨Y, 5, none⟩ = some (.slice AK2 nK2 cK2) := blkR Y3 rfl
    have z0 : w3.cell? ⟨w.heap.size, 0, none⟩ = some (.int .i64 k) := blkR X3 rfl
    have z1 : w3.cell? ⟨w.heap.size, 1, none⟩ = some (.bool b) := blkR X3 rfl
    have z2 : w3.cell? ⟨w.heap.size, 2, none⟩ = some (.int .i64 m) := blkR X3 rfl
    have z3 : w3.cell? ⟨w.heap.size, 3, none⟩ = some (.string s) := blkR X3 rfl
    have z4 : w3.cell? ⟨w.heap.size, 4, none⟩ = some (.slice AL nL cL) := blkR X3 rfl
    have z5 : w3.cell? ⟨w.heap.size, 5, none⟩ = some (.slice AK nK cK) := blkR X3 rfl
    have HV3 := hide V3
    have HU3 := hide U3
    clear V3 U3 X3 Y3 b3 h3 x0 x1 x2 x3 x4 x5
    go_wp2_with fail
    refine (same_any v HV3.out HU3.out).mono ?_
    rintro e w5 ⟨he, hb5⟩
    rw [eqV_iff.2 rfl] at he
    subst he
    have HB5 := hide (HB3.out.trans (hb5.mono HB3.out.size))
    clear hb5 y0 y1 y2 y3 y4 y5 z0 z1 z2 z3 z4 z5
    go_wp2_with fail
    refine works_any.mono ?_
    rintro e w6 ⟨rfl, hb6⟩
    have HB6 := hide (HB5.out.trans (hb6.mono HB5.out.size))
    clear hb6
    go_wp2
    go_ret
    exact ⟨rfl, HB6.out⟩
theorem packWrites_walk (H : Type) (enc : TypeId × Value → H) (W : World) (base : Nat) (v0 : Value) (d0 : DataW H) (p0 : List MemPlace)
    (x0 : Value.okWide Try.prog W .any base 25 v0) (h0 : DataW.Trod enc Try.prog W 0 (fun _ => true) true 25 v0 d0 p0) (hk : Rows.uptoSmall H ([d0] ++ []) = true) :
    Calls Try.prog 3 #[v0] W fun e W' => e = .returned (.bool true) ∧ Below W.heap.size W W' := by
  obtain ⟨v, cs, rfl, hV, hb⟩ := arg_val x0 h0
  have hs := small1 hk
  exact writes_law hV (by omega)
end Go.Proofs.Ytaapbiiiepdopaa
