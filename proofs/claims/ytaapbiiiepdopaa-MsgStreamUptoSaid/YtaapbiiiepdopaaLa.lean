/- MsgBack. -/
import Derived.Test.YtaapbiiiepdopaaMn
namespace Go.Proofs.Ytaapbiiiepdopaa
open Go.RowKit Mem Go.Deep Go.ChangeShapes Go.WideShapes
set_option linter.unusedVariables false

theorem bulk_rest (m : M) : bulk (listM m) ≤ 4 + m.s.size + m.t.size + bulk m.v := by
  have h0 : bulks (restM m) ≤ 2 + m.s.size + m.t.size + bulk m.v := by
    unfold restM vI vS
    split
    · (simp [bulks, bulk]; try omega)
    split
    · (simp [bulks, bulk]; try omega)
    split
    · (simp [bulks, bulk]; try omega)
    split
    · (simp [bulks]; try omega)
    · (simp [bulks]; try omega)
  unfold listM vI
  simp only [bulk, bulks, List.map_nil, List.sum_nil, sz0]
  omega
set_option maxRecDepth 100000 in
set_option maxHeartbeats 2000000 in
theorem mback_law {w : World} {m : M} {cs : Array Value} (hM : IsM w (fun b => b < w.heap.size) m cs) (hn : m.s.size + m.t.size + bulk m.v ≤ 1048576) :
    Calls Try.prog 10 #[.agg cs] w fun e w' => e = .returned (.bool true) ∧ Below w.heap.size w w' := by
  obtain ⟨mk, ms, mt, mn, k2, b2, n2, s2, AL2, nL2, cL2, AK2, nK2, cK2, rfl⟩ := hM.ten
  have hwf := hM.wf
  have HB := hide ((Below.refl w.heap.size w).alloc (Nat.le_refl _) (.cells #[.int .i64 mk, .string ms, .string mt, .int .i64 mn, .int .i64 k2, .bool b2, .int .i64 n2, .string s2, .slice AL2 nL2 cL2, .slice AK2 nK2 cK2] 41))
  have HM := hide (hM.alloc (.cells #[.int .i64 mk, .string ms, .string mt, .int .i64 mn, .int .i64 k2, .bool b2, .int .i64 n2, .string s2, .slice AL2 nL2 cL2, .slice AK2 nK2 cK2] 41))
  have HN := hide (Blk.new w 41 #[.int .i64 mk, .string ms, .string mt, .int .i64 mn, .int .i64 k2, .bool b2, .int .i64 n2, .string s2, .slice AL2 nL2 cL2, .slice AK2 nK2 cK2])
  have hlv : mayB (listM m) = true → (byt (listM m)).length ≤ 35184372088832 := fun h => by
    have h1 := mayB_len h (wf_list hwf)
    have h2 := bulk_rest m
    omega
  clear hM
  go_enter Try.func10, Try.ntmps10
  go_wp2_with fail
  generalize w.alloc (.cells #[.int .i64 mk, .string ms, .string mt, .int .i64 mn, .int .i64 k2, .bool b2, .int .i64 n2, .string s2, .slice AL2 nL2 cL2, .slice AK2 nK2 cK2] 41) = W at HB HM HN ⊢
  refine (encodeM_any HM.out hlv).mono ?_
  intro e w1 he
  have hb1 := he.1
  have HB1 := hide (HB.out.trans (hb1.mono HB.out.size))
  cases hen : encM m with
  | error z =>
    obtain ⟨_, rfl⟩ := EncMP_err he.p hen
    have hz : ¬ z = 0 := by
      unfold encM at hen
      split at hen
      · split at hen
        · cases hen
        · cases hen; decide
      · cases hen; decide
    have tz : (z == 0) = false := by simp [hz]
    have tz2 : (z != 0) = true := by simp [hz]
    have HZ := hide hz
    clear he hen hb1 hlv hwf hz
    go_wp2_with fail
    refine mworks_any.mono ?_
    rintro e w4 ⟨rfl, hb4⟩
    have HB4 := hide (HB1.out.trans (hb4.mono HB1.out.size))
    clear hb4
    go_wp2
    go_ret
    exact ⟨rfl, HB4.out⟩
  | ok bs =>
    obtain ⟨_, A, c, rfl, hr, hcap⟩ := EncMQ_get he hen
    have hde := dec_enc hen hwf
    obtain ⟨_, _, hby, hle⟩ := encM_ok hen
    have hpos : 1 ≤ bs.length := by rw [← hby]; unfold listM; rw [byt]; simp
    have HR := hide hr
    have HN1 := hide (HN.out.below hb1 HN.out.lt)
    have HM1 := hide (HM.out.below hb1 (fun b h => Nat.lt_of_lt_of_le h HB.out.size))
    have hrl : bs.length ≤ 9223372036854775807 := by omega
    clear he hen hb1 hlv hby hr
    go_wp2_with fail
    refine (mdecode_any HR.out hcap).mono ?_
    rintro e w2 ⟨u, ds, z, rfl, hU, hb2, hd⟩
    rw [hde] at hd
    obtain ⟨rfl, rfl⟩ := hd
    obtain ⟨mk3, ms3, mt3, mn3, k3, b3, n3, s3, AL3, nL3, cL3, AK3, nK3, cK3, rfl⟩ := hU.ten
    have HB2 := hide ((HB1.out.trans (hb2.mono HB1.out.size)).alloc (Nat.le_trans HB1.out.size hb2.size) (.cells #[.int .i64 mk3, .string ms3, .string mt3, .int .i64 mn3, .int .i64 k3, .bool b3, .int .i64 n3, .string s3, .slice AL3 nL3 cL3, .slice AK3 nK3 cK3] 41))
    have HN2 := hide ((HN1.out.below hb2 HN1.out.lt).alloc (.cells #[.int .i64 mk3, .string ms3, .string mt3, .int .i64 mn3, .int .i64 k3, .bool b3, .int .i64 n3, .string s3, .slice AL3 nL3 cL3, .slice AK3 nK3 cK3] 41))
    have HM2 := hide ((HM1.out.below hb2 (fun b h => Nat.lt_of_lt_of_le h HB1.out.size)).alloc (.cells #[.int .i64 mk3, .string ms3, .string mt3, .int .i64 mn3, .int .i64 k3, .bool b3, .int .i64 n3, .string s3, .slice AL3 nL3 cL3, .slice AK3 nK3 cK3] 41))
    have HU2 := hide (hU.alloc (.cells #[.int .i64 mk3, .string ms3, .string mt3, .int .i64 mn3, .int .i64 k3, .bool b3, .int .i64 n3, .string s3, .slice AL3 nL3 cL3, .slice AK3 nK3 cK3] 41))
    have HD2 := hide (Blk.new w2 41 #[.int .i64 mk3, .string ms3, .string mt3, .int .i64 mn3, .int .i64 k3, .bool b3, .int .i64 n3, .string s3, .slice AL3 nL3 cL3, .slice AK3 nK3 cK3])
    have hE : eqM u u = true := eqM_iff.2 rfl
    have hle' : decide ((bs.length : Int) ≤ 32768) = true := by simp; omega
    have hle2 : (bs.length : Int) ≤ 32768 := by omega
    have hpo' : decide ((1 : Int) ≤ (bs.length : Int)) = true := by simp; omega
    have hpo2 : (1 : Int) ≤ (bs.length : Int) := by omega
    clear hU hb2 hde hwf HM1 HN1 HR HM HN
    go_upto_region 5 with (fail)
    generalize w2.alloc (.cells #[.int .i64 mk3, .string ms3, .string mt3, .int .i64 mn3, .int .i64 k3, .bool b3, .int .i64 n3, .string s3, .slice AL3 nL3 cL3, .slice AK3 nK3 cK3] 41) = w3 at HB2 HN2 HM2 HU2 HD2 ⊢
    have HS := hide (msame_any HU2.out HM2.out)
    rw [hE] at HS
    clear hE
    have x0 : w3.cell? ⟨w.heap.size, 0, none⟩ = some (.int .i64 mk) := blkR HN2.out rfl
    have x1 : w3.cell? ⟨w.heap.size, 1, none⟩ = some (.string ms) := blkR HN2.out rfl
    have x2 : w3.cell? ⟨w.heap.size, 2, none⟩ = some (.string mt) := blkR HN2.out rfl
    have x3 : w3.cell? ⟨w.heap.size, 3, none⟩ = some (.int .i64 mn) := blkR HN2.out rfl
    have x4 : w3.cell? ⟨w.heap.size, 4, none⟩ = some (.int .i64 k2) := blkR HN2.out rfl
    have x5 : w3.cell? ⟨w.heap.size, 5, none⟩ = some (.bool b2) := blkR HN2.out rfl
    have x6 : w3.cell? ⟨w.heap.size, 6, none⟩ = some (.int .i64 n2) := blkR HN2.out rfl
    have x7 : w3.cell? ⟨w.heap.size, 7, none⟩ = some (.string s2) := blkR HN2.out rfl
    have x8 : w3.cell? ⟨w.heap.size, 8, none⟩ = some (.slice AL2 nL2 cL2) := blkR HN2.out rfl
    have x9 : w3.cell? ⟨w.heap.size, 9, none⟩ = some (.slice AK2 nK2 cK2) := blkR HN2.out rfl
    have y0 : w3.cell? ⟨w2.heap.size, 0, none⟩ = some (.int .i64 mk3) := blkR HD2.out rfl
    have y1 : w3.cell? ⟨w2.heap.size, 1, none⟩ = some (.string ms3) := blkR HD2.out rfl
    have y2 : w3.cell? ⟨w2.heap.size, 2, none⟩ = some (.string mt3) := blkR HD2.out rfl
    have y3 : w3.cell? ⟨w2.heap.size, 3, none⟩ = some (.int .i64 mn3) := blkR HD2.out rfl
    have y4 : w3.cell? ⟨w2.heap.size, 4, none⟩ = some (.int .i64 k3) := blkR HD2.out rfl
    have y5 : w3.cell? ⟨w2.heap.size, 5, none⟩ = some (.bool b3) := blkR HD2.out rfl
    have y6 : w3.cell? ⟨w2.heap.size, 6, none⟩ = some (.int .i64 n3) := blkR HD2.out rfl
    have y7 : w3.cell? ⟨w2.heap.size, 7, none⟩ = some (.string s3) := blkR HD2.out rfl
    have y8 : w3.cell? ⟨w2.heap.size, 8, none⟩ = some (.slice AL3 nL3 cL3) := blkR HD2.out rfl
    have y9 : w3.cell? ⟨w2.heap.size, 9, none⟩ = some (.slice AK3 nK3 cK3) := blkR HD2.out rfl
    generalize bs.length = L at hle hle' hle2 hpo' hpo2 hpos hrl hcap ⊢
    go_wp2_with fail
    refine HS.out.mono ?_
    rintro e w5 ⟨rfl, hb5⟩
    have HB5 := hide (HB2.out.trans (hb5.mono HB2.out.size))
    clear hb5 HS x0 x1 x2 x3 x4 x5 x6 x7 x8 x9 y0 y1 y2 y3 y4 y5 y6 y7 y8 y9
    go_wp2_with fail
    refine mworks_any.mono ?_
    rintro e w4 ⟨rfl, hb4⟩
    have HB4 := hide (HB5.out.trans (hb4.mono HB5.out.size))
    clear hb4
    go_wp2
    go_ret
    exact ⟨rfl, HB4.out⟩
end Go.Proofs.Ytaapbiiiepdopaa
