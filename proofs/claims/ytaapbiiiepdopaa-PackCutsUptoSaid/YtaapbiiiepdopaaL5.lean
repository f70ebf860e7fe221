/- PackBack, PackCuts. -/
import Derived.Test.YtaapbiiiepdopaaL6
namespace Go.Proofs.Ytaapbiiiepdopaa
open Go.RowKit Mem Go.Deep Go.ChangeShapes Go.WideShapes
set_option linter.unusedVariables false

theorem byt_pos {v : V} (hm : mayB v = true) (hw : wf v) (hl : (byt v).length ≤ 9223372036854775807) : 1 ≤ (byt v).length := by
  obtain ⟨q, hq⟩ := dec_back hm hw []
  rw [List.append_nil] at hq
  exact (dec_one hl hq).2.2.2.2.2.2
theorem B8_one (xs : List UInt8) : ∀ u ∈ xs.map B8, u.oneCell' = true := by
  intro u hu
  obtain ⟨x, _, rfl⟩ := List.mem_map.1 hu
  rfl
set_option maxRecDepth 100000 in
set_option maxHeartbeats 1000000 in
theorem cuts_law {w : World} {v : V} {cs : Array Value} {z : Int} (hV : IsV w (fun b => b < w.heap.size) v cs) (hn : bulk v ≤ 1048576) :
    Calls Try.prog 7 #[.agg cs, .int .i64 z] w fun e w' => e = .returned (.bool true) ∧ Below w.heap.size w w' := by
  obtain ⟨k, b, n, s, AL, nL, cL, AK, nK, cK, rfl⟩ := hV.shape
  have wv := hV.wf
  have V0 := hV.alloc (.cells #[.int .i64 k, .bool b, .int .i64 n, .string s, .slice AL nL cL, .slice AK nK cK] 25)
  have B0 := (Below.refl w.heap.size w).alloc (Nat.le_refl _) (.cells #[.int .i64 k, .bool b, .int .i64 n, .string s, .slice AL nL cL, .slice AK nK cK] 25)
  clear hV
  go_enter Try.func7, Try.ntmps7
  go_wp2_with fail
  generalize w.alloc (.cells #[.int .i64 k, .bool b, .int .i64 n, .string s, .slice AL nL cL, .slice AK nK cK] 25) = W at V0 B0 ⊢
  have lv : mayB v = true → (byt v).length ≤ 35184372088832 := fun h => by have := mayB_len h wv; omega
  have HV := hide V0
  have HB := hide B0
  clear V0 B0
  refine (encode_any HV.out lv).mono ?_
  intro e w1 h1
  have b1 := h1.1
  have s1 := b1.size
  have HB1 := hide (HB.out.trans (b1.mono HB.out.size))
  by_cases hv : mayB v = true
  · obtain ⟨hb, A1, c1, rfl, o1⟩ := EncP_ok h1 hv
    have hL := lv hv
    have hp := byt_pos hv wv (by omega)
    have hU0 : ∃ U : Nat, IntKind.u64.wrap z = (U : Int) := ⟨(IntKind.u64.wrap z).toNat, by rw [wr64]; omega⟩
    obtain ⟨U, hU⟩ := hU0
    have hc1 := own_cap o1
    have r1 := Reads.of_own o1
    generalize hLL : (byt v).length = L at hL hp hc1 r1 ⊢
    have wl : IntKind.u64.wrap (L : Int) = (L : Int) := by rw [wr64]; omega
    have hjl : U % L < L := Nat.mod_lt _ (by omega)
    have wj : IntKind.i64.wrap ((U % L : Nat) : Int) = ((U % L : Nat) : Int) := IntWalk.i64_in _ (by omega)
    have wj' : IntKind.u64.wrap ((U % L : Nat) : Int) = ((U % L : Nat) : Int) := by rw [wr64]; omega
    have tj : ((U : Int).tmod (L : Int)) = ((U % L : Nat) : Int) := by rw [Int.tmod_eq_emod_of_nonneg (by omega)]; simp
    have L0 : decide (L = 0) = false := by simp; omega
    have L1 : ¬ L = 0 := by omega
    have hsl := run_sh (A := A1) (c := c1) (Nat.le_of_lt hjl) hc1.1
    have HR := hide r1
    clear o1 r1 hb b1 h1
    go_wp2_with fail
    have hcut : dec ((byt v).take (U % L)) = .error 22 := dec_cut hv wv (by rw [hLL]; exact hjl) (by omega)
    have r2 := HR.out.take (Nat.le_of_lt hjl)
    rw [Nat.mul_one, ← List.map_take] at r2
    refine (decode_any (r2.more (Nat.zero_le _) (Nat.le_refl _)) ⟨by omega, hc1.2⟩).mono ?_
    rintro e w2 ⟨cs, hb2, he⟩
    rw [hcut] at he
    obtain ⟨rfl, rfl⟩ := he
    have HB2 := hide (HB1.out.trans (hb2.mono HB1.out.size))
    clear hb2 r2 hcut hsl
    unfold nulCells
    go_wp2_with fail
    refine works_any.mono ?_
    rintro e w3 ⟨rfl, hb3⟩
    have HB3 := hide ((HB2.out.alloc HB2.out.size _).trans (hb3.mono (by have := HB2.out.size; simp; omega)))
    clear hb3
    go_wp2
    go_ret
    exact ⟨rfl, HB3.out⟩
  · obtain ⟨hb, rfl⟩ := EncP_no h1 hv
    clear hb b1 h1
    go_wp2_with fail
    refine works_any.mono ?_
    rintro e w3 ⟨rfl, hb3⟩
    have HB3 := hide (HB1.out.trans (hb3.mono HB1.out.size))
    clear hb3
    go_wp2
    go_ret
    exact ⟨rfl, HB3.out⟩
theorem packCuts_walk (H : Type) (enc : TypeId × Value → H) (W : World) (base : Nat) (v0 : Value) (d0 : DataW H) (p0 : List MemPlace) (v1 : Value) (d1 : DataW H) (p1 : List MemPlace)
    (x0 : Value.okWide Try.prog W .any base 25 v0) (h0 : DataW.Trod enc Try.prog W 0 (fun _ => true) true 25 v0 d0 p0) (x1 : Value.okWide Try.prog W .any base 3 v1) (h1 : DataW.Trod enc Try.prog W 0 (fun _ => true) true 3 v1 d1 p1) (hk : Rows.uptoSmall H ([d0, d1] ++ []) = true) :
    Calls Try.prog 7 #[v0, v1] W fun e W' => e = .returned (.bool true) ∧ Below W.heap.size W W' := by
  obtain ⟨v, cs, rfl, hV, hb⟩ := arg_val x0 h0
  obtain ⟨z, rfl, _⟩ := arg_int x1 h1
  have hs := small2 hk
  exact cuts_law hV (by omega)
end Go.Proofs.Ytaapbiiiepdopaa
