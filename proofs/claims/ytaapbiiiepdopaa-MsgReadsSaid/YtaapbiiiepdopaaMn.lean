/- wattlelaw08.works. -/
import Derived.Test.YtaapbiiiepdopaaMl
namespace Go.Proofs.Ytaapbiiiepdopaa
open Go.RowKit Mem Go.Deep
set_option linter.unusedVariables false
set_option linter.unusedSimpArgs false

def mPull : M := ⟨4, .empty, .empty, 3, nul⟩
def mBegin : M := ⟨2, .empty, .empty, 0, nul⟩
theorem sz0 : ByteArray.empty.size = 0 := rfl
theorem ok_pull : okM mPull = true := by simp [okM, mPull, bareM, eqV_iff.2 (rfl : nul = nul), sz0]
theorem ok_begin : okM mBegin = true := by simp [okM, mBegin, bareM, knownK, eqV_iff.2 (rfl : nul = nul), sz0]
theorem may_pull : mayB (listM mPull) = true := by decide
theorem may_begin : mayB (listM mBegin) = true := by decide
theorem byt_pull : byt (listM mPull) = [5, 2, 3, 8, 3, 6] := by simp [listM, restM, mPull, vI, byt, byts, key1, tagOf, zz, num]
theorem byt_begin : byt (listM mBegin) = [5, 1, 3, 4] := by simp [listM, restM, mBegin, vI, byt, byts, key1, tagOf, zz, num]
theorem enc_pull : encM mPull = .ok [5, 2, 3, 8, 3, 6] := encM_of ok_pull may_pull byt_pull (by decide)
theorem dec_begin : decM [5, 1, 3, 4] = some mBegin := dec_enc (encM_of ok_begin may_begin byt_begin (by decide)) ⟨by decide, by decide, by decide, by decide, wf_nul⟩
theorem EncMP_get {m : M} {w w' : World} {e : Ending} {bs : List UInt8} (h : EncMP m w e w') (hm : encM m = .ok bs) : Below w.heap.size w w' ∧ ∃ A c, e = .returned (.tuple #[.slice A bs.length c, .int .i64 0]) ∧ Reads w' 0 w'.heap.size 1 A bs.length (bs.map B8) := by
  obtain ⟨h1, h2⟩ := h
  rw [hm] at h2
  exact ⟨h1, h2⟩
theorem EncMQ_get {m : M} {w w' : World} {e : Ending} {bs : List UInt8} (h : EncMQ m w e w') (hm : encM m = .ok bs) : Below w.heap.size w w' ∧ ∃ A c, e = .returned (.tuple #[.slice A bs.length c, .int .i64 0]) ∧ Reads w' 0 w'.heap.size 1 A bs.length (bs.map B8) ∧ bs.length ≤ c ∧ c ≤ 9223372036854775807 := by
  obtain ⟨h1, h2⟩ := h
  rw [hm] at h2
  exact ⟨h1, h2⟩
theorem EncMP_err {m : M} {w w' : World} {e : Ending} {z : Int} (h : EncMP m w e w') (hm : encM m = .error z) : Below w.heap.size w w' ∧ e = .returned (.tuple #[.slice none 0 0, .int .i64 z]) := by
  obtain ⟨h1, h2⟩ := h
  rw [hm] at h2
  exact ⟨h1, h2⟩
theorem IsM_mk' {w : World} {S : Nat → Prop} {m : M} {k n k2 m2 : Int} {b2 : Bool} {s t s2 : ByteArray} {AL AK : Option Addr} {nL cL nK cK : Nat} (hm : wfM m)
    (e1 : m.k = k) (e2 : m.s = s) (e3 : m.t = t) (e4 : m.n = n) (hv : IsV w S m.v #[.int .i64 k2, .bool b2, .int .i64 m2, .string s2, .slice AL nL cL, .slice AK nK cK]) :
    IsM w S m #[.int .i64 k, .string s, .string t, .int .i64 n, .int .i64 k2, .bool b2, .int .i64 m2, .string s2, .slice AL nL cL, .slice AK nK cK] := by
  subst e1 e2 e3 e4
  exact ⟨_, _, _, _, _, _, _, _, _, _, rfl, hv, hm.1.1, hm.1.2, hm.2.1.1, hm.2.1.2, hm.2.2.1, hm.2.2.2.1⟩
set_option maxHeartbeats 1000000 in
theorem mworks_any {w : World} : Calls Try.prog 24 #[] w fun e w' => e = .returned (.bool true) ∧ Below w.heap.size w w' := by
  have hM : IsM w (fun _ => True) mPull #[.int .i64 4, .string ⟨#[]⟩, .string ⟨#[]⟩, .int .i64 3, .int .i64 0, .bool false, .int .i64 0, .string ⟨#[]⟩, .slice none 0 0, .slice none 0 0] :=
    IsM_mk' ⟨by decide, by decide, by decide, by decide, wf_nul⟩ rfl rfl rfl rfl nulV
  have H1 := hide (encodeM_any hM (by intro _; rw [byt_pull]; decide))
  clear hM
  go_enter Try.func24, Try.ntmps24
  go_wp2_with fail
  refine H1.out.mono ?_
  intro e w1 he
  obtain ⟨hb1, A, c, rfl, hr1⟩ := EncMP_get he.p enc_pull
  have HB1 := hide hb1
  have HR1 := hide hr1
  clear he H1 hb1 hr1
  go_wp2_with fail
  have hr : Reads (w1.alloc (.cells #[.int .u8 5, .int .u8 1, .int .u8 3, .int .u8 4] 5)) 0 (w1.alloc (.cells #[.int .u8 5, .int .u8 1, .int .u8 3, .int .u8 4] 5)).heap.size 1 (some ⟨w1.heap.size, 0, none⟩) 4 (([5, 1, 3, 4] : List UInt8).map B8) :=
    (Reads.lit w1 #[.int .u8 5, .int .u8 1, .int .u8 3, .int .u8 4] 5 4 1 rfl).more (Nat.zero_le _) (by simp)
  have HR2 := hide (HR1.out.alloc (Nat.le_refl _) (.cells #[.int .u8 5, .int .u8 1, .int .u8 3, .int .u8 4] 5))
  have HB2 := hide (HB1.out.alloc HB1.out.size (.cells #[.int .u8 5, .int .u8 1, .int .u8 3, .int .u8 4] 5))
  have hs2 : (w1.alloc (.cells #[.int .u8 5, .int .u8 1, .int .u8 3, .int .u8 4] 5)).heap.size = w1.heap.size + 1 := by simp
  have HD := hide (mdecode_any (c := 4) hr (by decide))
  clear hr
  generalize w1.alloc (.cells #[.int .u8 5, .int .u8 1, .int .u8 3, .int .u8 4] 5) = w2 at HR2 HB2 HD hs2 ⊢
  refine HD.out.mono ?_
  rintro e w3 ⟨m, cs, z, rfl, hM, hb, hd⟩
  rw [dec_begin] at hd
  obtain ⟨rfl, rfl⟩ := hd
  obtain ⟨k, b, n, s, AL, nL, cL, AK, nK, cK, rfl, hV, _⟩ := hM
  have HB3 := hide (HB2.out.trans (hb.mono HB2.out.size))
  have s1 : ∀ o, (convert 27 9 (.slice A 6 c)).run Try.prog (w3.alloc o) = .ok (.string ⟨#[5, 2, 3, 8, 3, 6]⟩) (w3.alloc o) := fun o => ((HR2.out.below hb (by omega)).alloc (by have := hb.size; omega) o).str 27 9 5 Try.underlying27 Try.underlying5 Try.underlying9 c
  have HB4 := hide (HB3.out.alloc HB3.out.size)
  clear hb hV HD HR1 HR2
  unfold mBegin
  go_wp2_with fail
  go_ret
  exact ⟨rfl, HB4.out _⟩
end Go.Proofs.Ytaapbiiiepdopaa
