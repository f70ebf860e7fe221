/- MsgReads. -/
import Derived.Test.YtaapbiiiepdopaaMn
import Derived.Test.YtaapbiiiepdopaaMm
namespace Go.Proofs.Ytaapbiiiepdopaa
open Go.RowKit Mem Go.Deep Go.ChangeShapes Go.WideShapes
set_option linter.unusedVariables false

set_option maxRecDepth 100000 in
set_option maxHeartbeats 4000000 in
theorem mreads_law {w : World} {A : Option Addr} {n c : Nat} {bs : List UInt8} (hr : Reads w 0 w.heap.size 1 A n (bs.map B8)) (hc : n ≤ c ∧ c ≤ 9223372036854775807) :
    Calls Try.prog 9 #[.slice A n c] w fun e w' => e = .returned (.bool true) ∧ Below w.heap.size w w' := by
  have hlen : bs.length = n := by simpa using hr.1
  have hbo := hide (dec_both (bs := bs) (by omega))
  have H1 := hide (mdecode_any hr hc)
  have HR := hide hr
  clear hr hlen
  go_enter Try.func9, Try.ntmps9
  go_wp2_with fail
  refine H1.out.mono ?_
  rintro e w1 ⟨m, cs, z, rfl, hM, hb, hd⟩
  obtain ⟨mk1, ms1, mt1, mn1, k1, b1, n1, s1, AL1, nL1, cL1, AK1, nK1, cK1, rfl⟩ := hM.ten
  have HM := hide (hM.alloc (.cells #[.int .i64 mk1, .string ms1, .string mt1, .int .i64 mn1, .int .i64 k1, .bool b1, .int .i64 n1, .string s1, .slice AL1 nL1 cL1, .slice AK1 nK1 cK1] 41))
  have HB := hide (hb.alloc hb.size (.cells #[.int .i64 mk1, .string ms1, .string mt1, .int .i64 mn1, .int .i64 k1, .bool b1, .int .i64 n1, .string s1, .slice AL1 nL1 cL1, .slice AK1 nK1 cK1] 41))
  have HN := hide (Blk.new w1 41 #[.int .i64 mk1, .string ms1, .string mt1, .int .i64 mn1, .int .i64 k1, .bool b1, .int .i64 n1, .string s1, .slice AL1 nL1 cL1, .slice AK1 nK1 cK1])
  have HD := hide hd
  clear hM hb hd
  go_upto_region 2 with (fail)
  generalize w1.alloc (.cells #[.int .i64 mk1, .string ms1, .string mt1, .int .i64 mn1, .int .i64 k1, .bool b1, .int .i64 n1, .string s1, .slice AL1 nL1 cL1, .slice AK1 nK1 cK1] 41) = w2 at HM HB HN ⊢
  have H2 := hide (rdecode_any ((HR.out.below HB.out (Nat.le_refl _)).more (Nat.le_refl _) HB.out.size) hc)
  go_wp2_with fail
  refine H2.out.mono ?_
  rintro e w3 ⟨u, ds, y, rfl, hU, hb3, hd3⟩
  rw [hbo.out] at hd3
  obtain ⟨e1, e2⟩ := DecMP_same HD.out hd3


  subst e1 e2
  obtain ⟨mk5, ms5, mt5, mn5, k5, b5, n5, s5, AL5, nL5, cL5, AK5, nK5, cK5, rfl⟩ := hU.ten
  have HB4 := hide ((HB.out.trans (hb3.mono HB.out.size)).alloc (Nat.le_trans HB.out.size hb3.size) (.cells #[.int .i64 mk5, .string ms5, .string mt5, .int .i64 mn5, .int .i64 k5, .bool b5, .int .i64 n5, .string s5, .slice AL5 nL5 cL5, .slice AK5 nK5 cK5] 41))
  have HM4 := hide ((HM.out.grow hb3).alloc (.cells #[.int .i64 mk5, .string ms5, .string mt5, .int .i64 mn5, .int .i64 k5, .bool b5, .int .i64 n5, .string s5, .slice AL5 nL5 cL5, .slice AK5 nK5 cK5] 41))
  have HU4 := hide (hU.alloc (.cells #[.int .i64 mk5, .string ms5, .string mt5, .int .i64 mn5, .int .i64 k5, .bool b5, .int .i64 n5, .string s5, .slice AL5 nL5 cL5, .slice AK5 nK5 cK5] 41))
  have HN4 := hide ((HN.out.below hb3 HN.out.lt).alloc (.cells #[.int .i64 mk5, .string ms5, .string mt5, .int .i64 mn5, .int .i64 k5, .bool b5, .int .i64 n5, .string s5, .slice AL5 nL5 cL5, .slice AK5 nK5 cK5] 41))
  have HX4 := hide (Blk.new w3 41 #[.int .i64 mk5, .string ms5, .string mt5, .int .i64 mn5, .int .i64 k5, .bool b5, .int .i64 n5, .string s5, .slice AL5 nL5 cL5, .slice AK5 nK5 cK5])
  clear hU hb3 hd3 HD H2 H1
  go_upto_region 3 with (fail)
  generalize w3.alloc (.cells #[.int .i64 mk5, .string ms5, .string mt5, .int .i64 mn5, .int .i64 k5, .bool b5, .int .i64 n5, .string s5, .slice AL5 nL5 cL5, .slice AK5 nK5 cK5] 41) = w4 at HB4 HM4 HU4 HN4 HX4 ⊢
  have HS := hide (msame_any HM4.out HU4.out)
  have he : eqM m m = true := eqM_iff.2 rfl
  rw [he] at HS
  clear he
  have tz : (z == z) = true := by simp
  have x0 : w4.cell? ⟨w1.heap.size, 0, none⟩ = some (.int .i64 mk1) := blkR HN4.out rfl
  have x1 : w4.cell? ⟨w1.heap.size, 1, none⟩ = some (.string ms1) := blkR HN4.out rfl
  have x2 : w4.cell? ⟨w1.heap.size, 2, none⟩ = some (.string mt1) := blkR HN4.out rfl
  have x3 : w4.cell? ⟨w1.heap.size, 3, none⟩ = some (.int .i64 mn1) := blkR HN4.out rfl
  have x4 : w4.cell? ⟨w1.heap.size, 4, none⟩ = some (.int .i64 k1) := blkR HN4.out rfl
  have x5 : w4.cell? ⟨w1.heap.size, 5, none⟩ = some (.bool b1) := blkR HN4.out rfl
  have x6 : w4.cell? ⟨w1.heap.size, 6, none⟩ = some (.int .i64 n1) := blkR HN4.out rfl
  have x7 : w4.cell? ⟨w1.heap.size, 7, none⟩ = some (.string s1) := blkR HN4.out rfl
  have x8 : w4.cell? ⟨w1.heap.size, 8, none⟩ = some (.slice AL1 nL1 cL1) := blkR HN4.out rfl
  have x9 : w4.cell? ⟨w1.heap.size, 9, none⟩ = some (.slice AK1 nK1 cK1) := blkR HN4.out rfl
  have y0 : w4.cell? ⟨w3.heap.size, 0, none⟩ = some (.int .i64 mk5) := blkR HX4.out rfl
  have y1 : w4.cell? ⟨w3.heap.size, 1, none⟩ = some (.string ms5) := blkR HX4.out rfl
  have y2 : w4.cell? ⟨w3.heap.size, 2, none⟩ = some (.string mt5) := blkR HX4.out rfl
  have y3 : w4.cell? ⟨w3.heap.size, 3, none⟩ = some (.int .i64 mn5) := blkR HX4.out rfl
  have y4 : w4.cell? ⟨w3.heap.size, 4, none⟩ = some (.int .i64 k5) := blkR HX4.out rfl
  have y5 : w4.cell? ⟨w3.heap.size, 5, none⟩ = some (.bool b5) := blkR HX4.out rfl
  have y6 : w4.cell? ⟨w3.heap.size, 6, none⟩ = some (.int .i64 n5) := blkR HX4.out rfl
  have y7 : w4.cell? ⟨w3.heap.size, 7, none⟩ = some (.string s5) := blkR HX4.out rfl
  have y8 : w4.cell? ⟨w3.heap.size, 8, none⟩ = some (.slice AL5 nL5 cL5) := blkR HX4.out rfl
  have y9 : w4.cell? ⟨w3.heap.size, 9, none⟩ = some (.slice AK5 nK5 cK5) := blkR HX4.out rfl
  go_wp2_with fail
  refine HS.out.mono ?_
  rintro e w5 ⟨rfl, hb5⟩
  have HB5 := hide (HB4.out.trans (hb5.mono HB4.out.size))
  clear hb5 x0 y0 x1 y1 x2 y2 x3 y3 x4 y4 x5 y5 x6 y6 x7 y7 x8 y8 x9 y9 HS
  go_wp2_with fail
  refine mworks_any.mono ?_
  rintro e w6 ⟨rfl, hb6⟩
  have HB6 := hide (HB5.out.trans (hb6.mono HB5.out.size))
  clear hb6
  go_wp2
  go_ret
  exact ⟨rfl, HB6.out⟩
theorem msgReads_walk (H : Type) (enc : TypeId × Value → H) (W : World) (base : Nat) (v0 : Value) (d0 : DataW H) (p0 : List MemPlace)
    (x0 : Value.okWide Try.prog W .any base 27 v0) (h0 : DataW.Trod enc Try.prog W 0 (fun _ => true) true 27 v0 d0 p0) :
    Calls Try.prog 9 #[v0] W fun e W' => e = .returned (.bool true) ∧ Below W.heap.size W W' := by
  obtain ⟨A, n, c, bs, rfl, hc, hr, hb⟩ := arg_bytes x0 h0
  exact mreads_law hr hc
end Go.Proofs.Ytaapbiiiepdopaa
