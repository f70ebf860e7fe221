/- PackReads. -/
import Derived.Test.YtaapbiiiepdopaaQe
import Derived.Test.YtaapbiiiepdopaaL4
namespace Go.Proofs.Ytaapbiiiepdopaa
open Go.RowKit Mem Go.Deep Go.ChangeShapes Go.WideShapes
set_option linter.unusedVariables false

def DecV (R : Rd) (v : V) (at' : Nat) (z : Int) : Prop := match R with
  | .ok (u, a, _) => v = u ∧ at' = a ∧ z = 0
  | .error y => v = nul ∧ at' = 0 ∧ z = y
theorem DecP_un {R : Rd} {w w' : World} {e : Ending} (h : DecP R w e w') : Below w.heap.size w w' ∧ ∃ (v : V) (cs : Array Value) (at' : Nat) (z : Int),
    e = .returned (.tuple #[.agg cs, .int .i64 (at' : Int), .int .i64 z]) ∧ IsV w' (fun b => w.heap.size ≤ b) v cs ∧ DecV R v at' z := by
  obtain ⟨cs, hb, h⟩ := h
  refine ⟨hb, ?_⟩
  cases R with
  | error y =>
    obtain ⟨rfl, rfl⟩ := h
    exact ⟨nul, nulCells, 0, y, rfl, nulV, rfl, rfl, rfl⟩
  | ok q =>
    obtain ⟨u, a, q⟩ := q
    obtain ⟨rfl, hV⟩ := h
    exact ⟨u, cs, a, 0, rfl, hV, rfl, rfl, rfl⟩
theorem DecP_same {R : Rd} {v u : V} {a b : Nat} {y z : Int} (h : DecV R v a y) (h' : DecV R u b z) : v = u ∧ a = b ∧ y = z := by
  cases R with
  | error w => obtain ⟨rfl, rfl, rfl⟩ := h; obtain ⟨rfl, rfl, rfl⟩ := h'; exact ⟨rfl, rfl, rfl⟩
  | ok q => obtain ⟨u', a', q⟩ := q; obtain ⟨rfl, rfl, rfl⟩ := h; obtain ⟨rfl, rfl, rfl⟩ := h'; exact ⟨rfl, rfl, rfl⟩

set_option maxRecDepth 100000 in
set_option maxHeartbeats 1000000 in
theorem reads_law {w : World} {A : Option Addr} {n c : Nat} {bs : List UInt8} (hr : Reads w 0 w.heap.size 1 A n (bs.map B8)) (hc : n ≤ c ∧ c ≤ 9223372036854775807) (hn : n ≤ 1048576) :
    Calls Try.prog 4 #[.slice A n c] w fun e w' => e = .returned (.bool true) ∧ Below w.heap.size w w' := by
  have hlen : bs.length = n := by simpa using hr.1
  have HR := hide hr
  clear hr
  go_enter Try.func4, Try.ntmps4
  go_wp2_with (at_builtin; refine pause ?_)
  refine unpause ?_
  refine wpList_app el27 (.tmp 10) (.tmp 11) (World.ownsRow_lit (base := w.heap.size) (e := 5) (size := 1) w #[] 0 (Nat.le_refl _) (by decide) rfl) (HR.out.alloc (Nat.le_refl _) _) (B8_one' _) (N := n) (ys := bs.map B8) (by omega) rfl (by unfold maxLen; omega) (by omega) (by simp) rfl rfl rfl rfl ?_
  intro A1 c1 w1 o1 g1 hb1
  have b1 : Below w.heap.size w w1 := ((Below.refl _ w).alloc (Nat.le_refl _) _).grown g1 (by simp) (by simp [Value.ownBlock])
  have hc1 := own_cap o1
  have R1 := (Reads.of_own o1).more (Nat.zero_le _) (Nat.le_refl _)
  have HB1 := hide b1
  have HR1 := hide R1
  clear b1 R1 o1 g1 hb1
  go_wp2_with fail
  refine (decode_any HR1.out hc1).mono ?_
  intro e w2 he
  obtain ⟨b2, v, cs, at1, z1, rfl, V2, h1⟩ := DecP_un he
  obtain ⟨k2, bb2, m2, s2, AL2, nL2, cL2, AK2, nK2, cK2, rfl⟩ := V2.shape
  have B2 := HB1.out.trans (b2.mono HB1.out.size)
  have L2 : w1.heap.size ≤ w2.heap.size := b2.size
  have Y3 := Blk.new w2 25 #[.int .i64 k2, .bool bb2, .int .i64 m2, .string s2, .slice AL2 nL2 cL2, .slice AK2 nK2 cK2]
  have B3 := B2.alloc B2.size (.cells #[.int .i64 k2, .bool bb2, .int .i64 m2, .string s2, .slice AL2 nL2 cL2, .slice AK2 nK2 cK2] 25)
  have V3 := (V2.mono (S' := fun b => b < w2.heap.size) (fun b _ h => h)).alloc (.cells #[.int .i64 k2, .bool bb2, .int .i64 m2, .string s2, .slice AL2 nL2 cL2, .slice AK2 nK2 cK2] 25)
  have R3 := (HR1.out.below b2 (Nat.le_refl _)).alloc L2 (.cells #[.int .i64 k2, .bool bb2, .int .i64 m2, .string s2, .slice AL2 nL2 cL2, .slice AK2 nK2 cK2] 25)
  have HY3 := hide Y3
  have HB3 := hide B3
  have HV3 := hide V3
  have HR3 := hide R3
  have H1 := hide h1
  clear he b2 V2 h1 B2 Y3 B3 V3 R3
  go_wp2_with fail
  generalize w2.alloc (.cells #[.int .i64 k2, .bool bb2, .int .i64 m2, .string s2, .slice AL2 nL2 cL2, .slice AK2 nK2 cK2] 25) = w3 at HY3 HB3 HV3 HR3 ⊢
  have hL3 := HY3.out.lt
  refine (refdec_any ((HR.out.below HB3.out (Nat.le_refl _)).more (Nat.le_refl _) HB3.out.size) hc hn).mono ?_
  intro e w4 he
  obtain ⟨b4, u, ds, at2, z2, rfl, U4, h2⟩ := DecP_un he
  obtain ⟨rfl, rfl, rfl⟩ := DecP_same H1.out h2
  obtain ⟨k3, bb3, m3, s3, AL3, nL3, cL3, AK3, nK3, cK3, rfl⟩ := U4.shape
  have B4 := HB3.out.trans (b4.mono HB3.out.size)
  have Y4 := HY3.out.below b4 hL3
  have V4 := (HV3.out.below b4 (fun b h => Nat.lt_trans h hL3))
  have L4 : w3.heap.size ≤ w4.heap.size := b4.size
  have R4 := HR3.out.below b4 (by omega)
  have x0 : ∀ o, (w4.alloc o).cell? ⟨w2.heap.size, 0, none⟩ = some (.int .i64 k2) := fun o => blkR (Y4.alloc o) rfl
  have x1 : ∀ o, (w4.alloc o).cell? ⟨w2.heap.size, 1, none⟩ = some (.bool bb2) := fun o => blkR (Y4.alloc o) rfl
  have x2 : ∀ o, (w4.alloc o).cell? ⟨w2.heap.size, 2, none⟩ = some (.int .i64 m2) := fun o => blkR (Y4.alloc o) rfl
  have x3 : ∀ o, (w4.alloc o).cell? ⟨w2.heap.size, 3, none⟩ = some (.string s2) := fun o => blkR (Y4.alloc o) rfl
  have x4 : ∀ o, (w4.alloc o).cell? ⟨w2.heap.size, 4, none⟩ = some (.slice AL2 nL2 cL2) := fun o => blkR (Y4.alloc o) rfl
  have x5 : ∀ o, (w4.alloc o).cell? ⟨w2.heap.size, 5, none⟩ = some (.slice AK2 nK2 cK2) := fun o => blkR (Y4.alloc o) rfl
  have HB4 := hide B4
  have HV4 := hide V4
  have HU4 := hide U4
  have HR4 := hide R4
  clear B4 Y4 V4 R4 b4 he H1 h2 HB3 HY3 HV3 HR3 U4
  go_wp2_with fail
  refine (same_any v (HV4.out.alloc _) (HU4.out.alloc _)).mono ?_
  rintro e w5 ⟨he, hb5⟩
  rw [eqV_iff.2 rfl] at he
  subst he
  have hL4 : w.heap.size ≤ w4.heap.size := HB4.out.size
  have B5 := (HB4.out.alloc hL4 (.cells #[.int .i64 k3, .bool bb3, .int .i64 m3, .string s3, .slice AL3 nL3 cL3, .slice AK3 nK3 cK3] 25)).trans (hb5.mono (by simp; omega))
  have R5 := (HR4.out.alloc (by omega) (.cells #[.int .i64 k3, .bool bb3, .int .i64 m3, .string s3, .slice AL3 nL3 cL3, .slice AK3 nK3 cK3] 25)).below hb5 (by simp; omega)
  have t1 : (convert 27 9 (.slice A1 n c1)).run Try.prog w5 = .ok (.string (ofL bs)) w5 := R5.str 27 9 5 Try.underlying27 Try.underlying5 Try.underlying9 c1
  have t2 : (convert 27 9 (.slice A n c)).run Try.prog w5 = .ok (.string (ofL bs)) w5 := (HR.out.below B5 (Nat.le_refl _)).str 27 9 5 Try.underlying27 Try.underlying5 Try.underlying9 c
  have HB5 := hide B5
  clear B5 R5 hb5 x0 x1 x2 x3 x4 x5
  go_wp2_with fail
  refine works_any.mono ?_
  rintro e w6 ⟨rfl, hb6⟩
  have HB6 := hide (HB5.out.trans (hb6.mono HB5.out.size))
  clear hb6
  go_wp2
  go_ret
  exact ⟨rfl, HB6.out⟩
theorem packReads_walk (H : Type) (enc : TypeId × Value → H) (W : World) (base : Nat) (v0 : Value) (d0 : DataW H) (p0 : List MemPlace)
    (x0 : Value.okWide Try.prog W .any base 27 v0) (h0 : DataW.Trod enc Try.prog W 0 (fun _ => true) true 27 v0 d0 p0) (hk : Rows.uptoSmall H ([d0] ++ []) = true) :
    Calls Try.prog 4 #[v0] W fun e W' => e = .returned (.bool true) ∧ Below W.heap.size W W' := by
  obtain ⟨A, n, c, bs, rfl, hc, hr, hb⟩ := arg_bytes x0 h0
  have hs := small1 hk
  exact reads_law hr hc (by omega)
end Go.Proofs.Ytaapbiiiepdopaa
