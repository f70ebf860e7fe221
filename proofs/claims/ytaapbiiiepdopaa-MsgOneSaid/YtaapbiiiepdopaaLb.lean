/- MsgOne. -/
import Derived.Test.YtaapbiiiepdopaaMn
namespace Go.Proofs.Ytaapbiiiepdopaa
open Go.RowKit Mem Go.Deep Go.ChangeShapes Go.WideShapes
set_option linter.unusedVariables false

set_option maxRecDepth 100000 in
set_option maxHeartbeats 2000000 in
theorem mone_law {w : World} {A : Option Addr} {n c : Nat} {bs : List UInt8} (hr : Reads w 0 w.heap.size 1 A n (bs.map B8)) (hc : n ≤ c ∧ c ≤ 9223372036854775807) :
    Calls Try.prog 11 #[.slice A n c] w fun e w' => e = .returned (.bool true) ∧ Below w.heap.size w w' := by
  have hlen : bs.length = n := by simpa using hr.1
  have H1 := hide (mdecode_any hr hc)
  have HR := hide hr
  clear hr
  go_enter Try.func11, Try.ntmps11
  go_wp2_with fail
  refine H1.out.mono ?_
  rintro e w1 ⟨m, cs, z, rfl, hM, hb, hd⟩
  obtain ⟨mk, ms, mt, mn, k2, b2, n2, s2, AL2, nL2, cL2, AK2, nK2, cK2, rfl⟩ := hM.ten
  have HM := hide (hM.alloc (.cells #[.int .i64 mk, .string ms, .string mt, .int .i64 mn, .int .i64 k2, .bool b2, .int .i64 n2, .string s2, .slice AL2 nL2 cL2, .slice AK2 nK2 cK2] 41))
  have HB := hide (hb.alloc hb.size (.cells #[.int .i64 mk, .string ms, .string mt, .int .i64 mn, .int .i64 k2, .bool b2, .int .i64 n2, .string s2, .slice AL2 nL2 cL2, .slice AK2 nK2 cK2] 41))
  have HN := hide (Blk.new w1 41 #[.int .i64 mk, .string ms, .string mt, .int .i64 mn, .int .i64 k2, .bool b2, .int .i64 n2, .string s2, .slice AL2 nL2 cL2, .slice AK2 nK2 cK2])
  have HLEN := hide hlen
  clear hM hb hlen
  cases hdm : decM bs with
  | none =>
    rw [hdm] at hd
    obtain ⟨rfl, rfl⟩ := hd
    clear hdm
    go_upto_region 2 with (fail)
    generalize w1.alloc (.cells #[.int .i64 mk, .string ms, .string mt, .int .i64 mn, .int .i64 k2, .bool b2, .int .i64 n2, .string s2, .slice AL2 nL2 cL2, .slice AK2 nK2 cK2] 41) = w2 at HM HB HN ⊢
    have HS := hide (msame_any HM.out (nulM_is (S := fun _ => True)))
    have he : eqM nulM nulM = true := eqM_iff.2 rfl
    rw [he] at HS
    clear he
    have x0 : w2.cell? ⟨w1.heap.size, 0, none⟩ = some (.int .i64 mk) := blkR HN.out rfl
    have x1 : w2.cell? ⟨w1.heap.size, 1, none⟩ = some (.string ms) := blkR HN.out rfl
    have x2 : w2.cell? ⟨w1.heap.size, 2, none⟩ = some (.string mt) := blkR HN.out rfl
    have x3 : w2.cell? ⟨w1.heap.size, 3, none⟩ = some (.int .i64 mn) := blkR HN.out rfl
    have x4 : w2.cell? ⟨w1.heap.size, 4, none⟩ = some (.int .i64 k2) := blkR HN.out rfl
    have x5 : w2.cell? ⟨w1.heap.size, 5, none⟩ = some (.bool b2) := blkR HN.out rfl
    have x6 : w2.cell? ⟨w1.heap.size, 6, none⟩ = some (.int .i64 n2) := blkR HN.out rfl
    have x7 : w2.cell? ⟨w1.heap.size, 7, none⟩ = some (.string s2) := blkR HN.out rfl
    have x8 : w2.cell? ⟨w1.heap.size, 8, none⟩ = some (.slice AL2 nL2 cL2) := blkR HN.out rfl
    have x9 : w2.cell? ⟨w1.heap.size, 9, none⟩ = some (.slice AK2 nK2 cK2) := blkR HN.out rfl
    go_wp2_with fail
    refine HS.out.mono ?_
    rintro e w3 ⟨rfl, hb3⟩
    have HB3 := hide (HB.out.trans (hb3.mono HB.out.size))
    clear hb3 x0 x1 x2 x3 x4 x5 x6 x7 x8 x9 HS
    go_wp2_with fail
    refine mworks_any.mono ?_
    rintro e w4 ⟨rfl, hb4⟩
    have HB4 := hide (HB3.out.trans (hb4.mono HB3.out.size))
    clear hb4
    go_wp2
    go_ret
    exact ⟨rfl, HB4.out⟩
  | some m' =>
    rw [hdm] at hd
    obtain ⟨rfl, rfl⟩ := hd
    obtain ⟨h1, h2, h3, h4⟩ := decM_ok (by rw [HLEN.out]; omega) hdm
    have HENC := hide (encM_of h1 h2 h3 h4)
    have hlv : mayB (listM m) = true → (byt (listM m)).length ≤ 35184372088832 := fun _ => by rw [h3]; omega
    have HOK := hide h1
    clear hdm h1 h2
    go_upto_region 2 with (fail)
    generalize w1.alloc (.cells #[.int .i64 mk, .string ms, .string mt, .int .i64 mn, .int .i64 k2, .bool b2, .int .i64 n2, .string s2, .slice AL2 nL2 cL2, .slice AK2 nK2 cK2] 41) = w2 at HM HB HN ⊢
    have HE := hide (encodeM_any HM.out hlv)
    clear hlv h3 h4
    have x0 : w2.cell? ⟨w1.heap.size, 0, none⟩ = some (.int .i64 mk) := blkR HN.out rfl
    have x1 : w2.cell? ⟨w1.heap.size, 1, none⟩ = some (.string ms) := blkR HN.out rfl
    have x2 : w2.cell? ⟨w1.heap.size, 2, none⟩ = some (.string mt) := blkR HN.out rfl
    have x3 : w2.cell? ⟨w1.heap.size, 3, none⟩ = some (.int .i64 mn) := blkR HN.out rfl
    have x4 : w2.cell? ⟨w1.heap.size, 4, none⟩ = some (.int .i64 k2) := blkR HN.out rfl
    have x5 : w2.cell? ⟨w1.heap.size, 5, none⟩ = some (.bool b2) := blkR HN.out rfl
    have x6 : w2.cell? ⟨w1.heap.size, 6, none⟩ = some (.int .i64 n2) := blkR HN.out rfl
    have x7 : w2.cell? ⟨w1.heap.size, 7, none⟩ = some (.string s2) := blkR HN.out rfl
    have x8 : w2.cell? ⟨w1.heap.size, 8, none⟩ = some (.slice AL2 nL2 cL2) := blkR HN.out rfl
    have x9 : w2.cell? ⟨w1.heap.size, 9, none⟩ = some (.slice AK2 nK2 cK2) := blkR HN.out rfl
    go_wp2_with fail
    refine HE.out.mono ?_
    intro e w3 he
    obtain ⟨hb3, A3, c3, rfl, hr3⟩ := EncMP_get he HENC.out
    have HB3 := hide (HB.out.trans (hb3.mono HB.out.size))
    have hn2 : bs.length = n := HLEN.out
    have t1 : (convert 27 9 (.slice A3 bs.length c3)).run Try.prog w3 = .ok (.string (ofL bs)) w3 := hr3.str 27 9 5 Try.underlying27 Try.underlying5 Try.underlying9 c3
    have t2 : (convert 27 9 (.slice A n c)).run Try.prog w3 = .ok (.string (ofL bs)) w3 := (HR.out.below HB3.out (Nat.le_refl _)).str 27 9 5 Try.underlying27 Try.underlying5 Try.underlying9 c
    have HN3 := hide (HN.out.below hb3 HN.out.lt)
    have HM3 := hide (HM.out.grow hb3)
    have HC := hide (mcheck_any HM3.out)
    rw [HOK.out, if_pos rfl] at HC
    clear he hr3 hb3 HE x0 x1 x2 x3 x4 x5 x6 x7 x8 x9 hn2
    have x0 : w3.cell? ⟨w1.heap.size, 0, none⟩ = some (.int .i64 mk) := blkR HN3.out rfl
    have x1 : w3.cell? ⟨w1.heap.size, 1, none⟩ = some (.string ms) := blkR HN3.out rfl
    have x2 : w3.cell? ⟨w1.heap.size, 2, none⟩ = some (.string mt) := blkR HN3.out rfl
    have x3 : w3.cell? ⟨w1.heap.size, 3, none⟩ = some (.int .i64 mn) := blkR HN3.out rfl
    have x4 : w3.cell? ⟨w1.heap.size, 4, none⟩ = some (.int .i64 k2) := blkR HN3.out rfl
    have x5 : w3.cell? ⟨w1.heap.size, 5, none⟩ = some (.bool b2) := blkR HN3.out rfl
    have x6 : w3.cell? ⟨w1.heap.size, 6, none⟩ = some (.int .i64 n2) := blkR HN3.out rfl
    have x7 : w3.cell? ⟨w1.heap.size, 7, none⟩ = some (.string s2) := blkR HN3.out rfl
    have x8 : w3.cell? ⟨w1.heap.size, 8, none⟩ = some (.slice AL2 nL2 cL2) := blkR HN3.out rfl
    have x9 : w3.cell? ⟨w1.heap.size, 9, none⟩ = some (.slice AK2 nK2 cK2) := blkR HN3.out rfl
    go_wp2_with fail
    refine HC.out.mono ?_
    rintro e w5 ⟨rfl, hb5⟩
    have HB5 := hide (HB3.out.trans (hb5.mono HB3.out.size))
    clear hb5 x0 x1 x2 x3 x4 x5 x6 x7 x8 x9 HC t1 t2
    go_wp2_with fail
    refine mworks_any.mono ?_
    rintro e w4 ⟨rfl, hb4⟩
    have HB4 := hide (HB5.out.trans (hb4.mono HB5.out.size))
    clear hb4
    go_wp2
    go_ret
    exact ⟨rfl, HB4.out⟩
theorem msgOne_walk (H : Type) (enc : TypeId × Value → H) (W : World) (base : Nat) (v0 : Value) (d0 : DataW H) (p0 : List MemPlace)
    (x0 : Value.okWide Try.prog W .any base 27 v0) (h0 : DataW.Trod enc Try.prog W 0 (fun _ => true) true 27 v0 d0 p0) :
    Calls Try.prog 11 #[v0] W fun e W' => e = .returned (.bool true) ∧ Below W.heap.size W W' := by
  obtain ⟨A, n, c, bs, rfl, hc, hr, hb⟩ := arg_bytes x0 h0
  exact mone_law hr hc
end Go.Proofs.Ytaapbiiiepdopaa
