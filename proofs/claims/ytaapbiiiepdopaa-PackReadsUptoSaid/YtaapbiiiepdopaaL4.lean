/- PackBack. -/
import Derived.Test.YtaapbiiiepdopaaL6
namespace Go.Proofs.Ytaapbiiiepdopaa
open Go.RowKit Mem Go.Deep Go.ChangeShapes Go.WideShapes
set_option linter.unusedVariables false

theorem B8_one' (xs : List UInt8) : ∀ u ∈ xs.map B8, u.oneCell' = true := by
  intro u hu
  obtain ⟨x, _, rfl⟩ := List.mem_map.1 hu
  rfl
set_option maxRecDepth 100000 in
set_option maxHeartbeats 1000000 in
theorem back_law {w : World} {v : V} {cs : Array Value} {A : Option Addr} {n c : Nat} {bs : List UInt8} (hV : IsV w (fun b => b < w.heap.size) v cs) (hr : Reads w 0 w.heap.size 1 A n (bs.map B8)) (hc : n ≤ c ∧ c ≤ 9223372036854775807) (hn : bulk v + n ≤ 1048576) :
    Calls Try.prog 5 #[.agg cs, .slice A n c] w fun e w' => e = .returned (.bool true) ∧ Below w.heap.size w w' := by
  obtain ⟨k, b, m, s, AL, nL, cL, AK, nK, cK, rfl⟩ := hV.shape
  have wv := hV.wf
  have X0 := Blk.new w 25 #[.int .i64 k, .bool b, .int .i64 m, .string s, .slice AL nL cL, .slice AK nK cK]
  have V0 := hV.alloc (.cells #[.int .i64 k, .bool b, .int .i64 m, .string s, .slice AL nL cL, .slice AK nK cK] 25)
  have B0 := (Below.refl w.heap.size w).alloc (Nat.le_refl _) (.cells #[.int .i64 k, .bool b, .int .i64 m, .string s, .slice AL nL cL, .slice AK nK cK] 25)
  clear hV
  go_enter Try.func5, Try.ntmps5
  go_wp2_with fail
  generalize w.alloc (.cells #[.int .i64 k, .bool b, .int .i64 m, .string s, .slice AL nL cL, .slice AK nK cK] 25) = W at X0 V0 B0 ⊢
  have lv : mayB v = true → (byt v).length ≤ 35184372088832 := fun h => by have := mayB_len h wv; omega
  have HV := hide V0
  have HB := hide B0
  have HX := hide X0
  have HR := hide hr
  clear V0 B0 X0 hr
  refine (encode_any HV.out lv).mono ?_
  intro e w1 h1
  have b1 := h1.1
  have s1 := b1.size
  have s1' : w.heap.size ≤ w1.heap.size := Nat.le_trans HB.out.size s1
  have HB1 := hide (HB.out.trans (b1.mono HB.out.size))
  by_cases hv : mayB v = true
  · obtain ⟨hb, A1, c1, rfl, o1⟩ := EncP_ok h1 hv
    have hL := mayB_len hv wv
    obtain ⟨q, hq⟩ := dec_back hv wv bs
    have hbl : bs.length = n := by simpa using HR.out.1
    have X1 := HX.out.below b1 HX.out.lt
    have V1 := HV.out.below b1 (fun b h => Nat.lt_of_lt_of_le h HB.out.size)
    have r1 := Reads.of_own o1
    have HX1 := hide X1
    have HV1 := hide V1
    have HQ := hide hq
    clear hb b1 h1 X1 V1 hq HX HV o1
    go_wp2_with (at_builtin; refine pause ?_)
    refine unpause ?_
    refine wpList_app el27 (.tmp 24) (.tmp 25) (World.ownsRow_lit (base := w1.heap.size) (e := 5) (size := 1) w1 #[] 0 (Nat.le_refl _) (by decide) rfl) (r1.alloc (Nat.le_refl _) _) (B8_one' _) (N := (byt v).length) (ys := (byt v).map B8) (by omega) rfl (by unfold maxLen; omega) (by omega) (by simp) rfl rfl rfl rfl ?_
    intro A2 c2 w2 o2 g2 hb2
    have b2 : Below w1.heap.size w1 w2 := ((Below.refl _ w1).alloc (Nat.le_refl _) _).grown g2 (by simp) (by simp [Value.ownBlock])
    have s2 := b2.size
    have HB2 := hide (HB1.out.trans (b2.mono HB1.out.size))
    go_wp2_with (at_builtin; refine pause ?_)
    refine unpause ?_
    refine wpList_app el27 (.tmp 26) (.tmp 27) o2 ((HR.out.below HB2.out (Nat.le_refl _)).more (Nat.zero_le _) (Nat.le_refl _)) (B8_one' _) (N := (byt v).length + n) (ys := (byt v ++ bs).map B8) rfl (by simp) (by unfold maxLen; omega) (by omega) s2 rfl rfl rfl rfl ?_
    intro A3 c3 w3 o3 g3 hb3
    have b3 : Below w1.heap.size w2 w3 := (Below.refl _ w2).grown g3 s2 (by intro g hg; exact own_lo o2 hg)
    have s3 := b3.size
    have HB3 := hide (HB2.out.trans (b3.mono s1'))
    have c3' := own_cap o3
    have r3 := Reads.of_own o3
    have X3 := (HX1.out.below b2 HX1.out.lt).below b3 (by have := HX1.out.lt; omega)
    have V3 := (HV1.out.below b2 (fun b h => Nat.lt_of_lt_of_le h HB1.out.size)).below b3 (fun b h => Nat.lt_of_lt_of_le h HB1.out.size)
    have HX3 := hide X3
    have HV3 := hide V3
    clear X3 V3 o3 o2 g3 g2 hb2 hb3 b2 b3 r1 HX1 HV1
    go_wp2_with fail
    have hlb : (byt v ++ bs).length = (byt v).length + n := by simp [hbl]
    refine (decode_any (bs := byt v ++ bs) (r3.more (Nat.zero_le _) (Nat.le_refl _)) c3').mono ?_
    rintro e w4 ⟨cs, hb4, he⟩
    rw [HQ.out] at he
    obtain ⟨rfl, V4⟩ := he
    obtain ⟨k2, bb2, m2, z2, AL2, nL2, cL2, AK2, nK2, cK2, rfl⟩ := V4.shape
    have HB4 := hide (HB3.out.trans (hb4.mono HB3.out.size))
    have X4 := HX3.out.below hb4 HX3.out.lt
    have U4 := HV3.out.below hb4 (fun b h => Nat.lt_of_lt_of_le h HB3.out.size)
    have p0 : ∀ o, (w4.alloc o).cell? ⟨w.heap.size, 0, none⟩ = some (.int .i64 k) := fun o => blkR (X4.alloc o) rfl
    have p1 : ∀ o, (w4.alloc o).cell? ⟨w.heap.size, 1, none⟩ = some (.bool b) := fun o => blkR (X4.alloc o) rfl
    have p2 : ∀ o, (w4.alloc o).cell? ⟨w.heap.size, 2, none⟩ = some (.int .i64 m) := fun o => blkR (X4.alloc o) rfl
    have p3 : ∀ o, (w4.alloc o).cell? ⟨w.heap.size, 3, none⟩ = some (.string s) := fun o => blkR (X4.alloc o) rfl
    have p4 : ∀ o, (w4.alloc o).cell? ⟨w.heap.size, 4, none⟩ = some (.slice AL nL cL) := fun o => blkR (X4.alloc o) rfl
    have p5 : ∀ o, (w4.alloc o).cell? ⟨w.heap.size, 5, none⟩ = some (.slice AK nK cK) := fun o => blkR (X4.alloc o) rfl
    have HV4 := hide V4
    have HU4 := hide U4
    clear V4 U4 X4 hb4 r3 HQ
    go_wp2_with fail
    refine (same_any v (HV4.out.alloc _) (HU4.out.alloc _)).mono ?_
    rintro e w5 ⟨he, hb5⟩
    rw [eqV_iff.2 rfl] at he
    subst he
    have HB5 := hide ((HB4.out.alloc HB4.out.size _).trans (hb5.mono (by have := HB4.out.size; simp; omega)))
    clear hb5 p0 p1 p2 p3 p4 p5
    go_wp2_with fail
    refine works_any.mono ?_
    rintro e w6 ⟨rfl, hb6⟩
    have HB6 := hide (HB5.out.trans (hb6.mono HB5.out.size))
    clear hb6
    go_wp2
    go_ret
    exact ⟨rfl, HB6.out⟩
  · obtain ⟨hb, rfl⟩ := EncP_no h1 hv
    clear hb b1 h1
    go_wp2_with fail
    refine works_any.mono ?_
    rintro e w3 ⟨rfl, hb3⟩
    have HB3 := hide (HB1.out.trans (hb3.mono HB1.out.size))
    clear hb3
    go_wp2
    go_ret
    exact ⟨rfl, HB3.out⟩
theorem packBack_walk (H : Type) (enc : TypeId × Value → H) (W : World) (base : Nat) (v0 : Value) (d0 : DataW H) (p0 : List MemPlace) (v1 : Value) (d1 : DataW H) (p1 : List MemPlace)
    (x0 : Value.okWide Try.prog W .any base 25 v0) (h0 : DataW.Trod enc Try.prog W 0 (fun _ => true) true 25 v0 d0 p0) (x1 : Value.okWide Try.prog W .any base 27 v1) (h1 : DataW.Trod enc Try.prog W 0 (fun _ => true) true 27 v1 d1 p1) (hk : Rows.uptoSmall H ([d0, d1] ++ []) = true) :
    Calls Try.prog 5 #[v0, v1] W fun e W' => e = .returned (.bool true) ∧ Below W.heap.size W W' := by
  obtain ⟨v, cs, rfl, hV, hb⟩ := arg_val x0 h0
  obtain ⟨A, n, c, bs, rfl, hc, hr, hb'⟩ := arg_bytes x1 h1
  have hs := small2 hk
  exact back_law hV hr hc (by omega)
end Go.Proofs.Ytaapbiiiepdopaa
