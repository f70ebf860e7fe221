/- PackOne. -/
import Derived.Test.YtaapbiiiepdopaaWk
import Derived.Test.YtaapbiiiepdopaaSa
import Derived.Test.YtaapbiiiepdopaaPz
import Derived.Test.YtaapbiiiepdopaaAv
namespace Go.Proofs.Ytaapbiiiepdopaa
open Go.RowKit Mem Go.Deep Go.ChangeShapes Go.WideShapes
set_option linter.unusedVariables false

theorem map_add0 (A : Option Addr) : A.map (·.add 0) = A := by
  cases A with
  | none => rfl
  | some a =>
    obtain ⟨b, o, m⟩ := a
    unfold Addr.add
    cases m <;> simp
theorem run_sh {n c m : Nat} {A : Option Addr} (hm : m ≤ n) (hc : n ≤ c) (W : World) :
    (Instr.slice 27 (.slice A n c) none (some (.int .i64 (m : Int))) none).run Try.prog W = .ok (.slice A m c) W := by
  obtain ⟨i, hi, hz, hsz, hby⟩ := info_parts el27.info
  have he : Try.prog.elem 27 = 5 := by unfold Program.elem; rw [Try.underlying27]
  rw [run_slice_h W 27 A n c (by rw [he]; exact Try.underlying27) .i64 _ (by omega) (by omega), he]
  simp only [sizeOf, typeInfo, Sem.run_bind, Sem.run_pure, Result.andThen]
  simp [sliced, hsz, hi, map_add0]
theorem nulV {w : World} {S : Nat → Prop} : IsV w S nul nulCells := leaf (by decide) (by decide) (by decide)
theorem eqV_refl_nul : eqV nul nul = true := eqV_iff.2 rfl

set_option maxRecDepth 100000 in
set_option maxHeartbeats 1000000 in
theorem one_law {w : World} {A : Option Addr} {n c : Nat} {bs : List UInt8} (hr : Reads w 0 w.heap.size 1 A n (bs.map B8)) (hc : n ≤ c ∧ c ≤ 9223372036854775807) (hn : n ≤ 1048576) :
    Calls Try.prog 6 #[.slice A n c] w fun e w' => e = .returned (.bool true) ∧ Below w.heap.size w w' := by
  have hlen : bs.length = n := by simpa using hr.1
  have H1 := hide (decode_any hr hc)
  go_enter Try.func6, Try.ntmps6
  go_wp2_with fail
  refine H1.out.mono ?_
  rintro e w1 ⟨cs, hb1, he⟩
  cases hd : dec bs with
  | error z =>
    rw [hd] at he
    obtain ⟨rfl, rfl⟩ := he
    have hz : ¬ z = 0 := by rcases dec_err hd with h | h <;> omega
    have HB := hide hb1
    unfold nulCells
    go_wp2_with fail
    refine (same_any nul (nulV (S := fun _ => True)) (nulV (S := fun _ => True))).mono ?_
    rintro e w2 ⟨he, hb2⟩
    rw [eqV_refl_nul] at he
    subst he
    have HB2 := hide ((HB.out.alloc HB.out.size _).trans (hb2.mono (by have := HB.out.size; simp; omega)))
    clear hb2 hb1
    go_wp2_with fail
    refine works_any.mono ?_
    rintro e w3 ⟨rfl, hb3⟩
    have HB3 := hide (HB2.out.trans (hb3.mono HB2.out.size))
    clear hb3
    go_wp2
    go_ret
    exact ⟨rfl, HB3.out⟩
  | ok q =>
    obtain ⟨v, k, q⟩ := q
    rw [hd] at he
    obtain ⟨rfl, hV⟩ := he
    obtain ⟨hm, hw, hk, _, htk, hkn, hk1⟩ := dec_one (by omega) hd
    obtain ⟨k2, bb2, m2, s2, AL2, nL2, cL2, AK2, nK2, cK2, rfl⟩ := hV.shape
    have hkL : (byt v).length ≤ n := by omega
    have hs1 := hb1.size
    have hE := fun o => encode_any (v := v) (hV.alloc o) (w := w1.alloc o) (fun _ => by omega)
    have HE := hide hE
    have HB := hide hb1
    have HR := hide hr
    clear hE hb1 hr hV hd
    go_wp2_with fail
    refine (HE.out _).mono ?_
    intro e w2 he
    obtain ⟨hb2, A2, c2, rfl, ho2⟩ := EncP_ok he hm
    clear he
    have hB2 := (HB.out.alloc HB.out.size (.cells #[.int .i64 k2, .bool bb2, .int .i64 m2, .string s2, .slice AL2 nL2 cL2, .slice AK2 nK2 cK2] 25)).trans (hb2.mono (by have := HB.out.size; simp; omega))
    have hs2 := hB2.size
    have r1 := Reads.of_own ho2
    have r2 := (HR.out.below hB2 (Nat.le_refl _)).take hkL
    rw [Nat.mul_one, ← List.map_take, ← hk, htk, hk] at r2
    have s1 : ∀ W, Below w2.heap.size w2 W → (convert 27 9 (.slice A2 (byt v).length c2)).run Try.prog W = .ok (.string ⟨(byt v).toArray⟩) W := fun W hW => (r1.below hW (Nat.le_refl _)).str 27 9 5 Try.underlying27 Try.underlying5 Try.underlying9 c2
    have s2 : ∀ W, Below w2.heap.size w2 W → (convert 27 9 (.slice A (byt v).length c)).run Try.prog W = .ok (.string ⟨(byt v).toArray⟩) W := fun W hW => (r2.below hW hs2).str 27 9 5 Try.underlying27 Try.underlying5 Try.underlying9 c
    have HB2 := hide hB2
    clear hB2 r1 r2 hb2 ho2 HE
    go_wp2_with fail
    have hsl := run_sh (A := A) (c := c) hkL hc.1
    go_region_held3 (fun W => Below w2.heap.size w2 W) (first | exact (Below.refl _ w2).drew | (have hx := ‹Below w2.heap.size w2 _›; exact hx.trans (hb5.mono hx.size))) (first | (go_at_call 18; refine works_any.mono ?_; rintro e w5 ⟨rfl, hb5⟩))
    all_goals go_wp2_with fail
    all_goals go_ret
    all_goals exact ⟨rfl, HB2.out.trans (Below.mono ‹Below w2.heap.size w2 _› HB2.out.size)⟩
theorem packOne_walk (H : Type) (enc : TypeId × Value → H) (W : World) (base : Nat) (v0 : Value) (d0 : DataW H) (p0 : List MemPlace)
    (x0 : Value.okWide Try.prog W .any base 27 v0) (h0 : DataW.Trod enc Try.prog W 0 (fun _ => true) true 27 v0 d0 p0) (hk : Rows.uptoSmall H ([d0] ++ []) = true) :
    Calls Try.prog 6 #[v0] W fun e W' => e = .returned (.bool true) ∧ Below W.heap.size W W' := by
  obtain ⟨A, n, c, bs, rfl, hc, hr, hb⟩ := arg_bytes x0 h0
  have hs := small1 hk
  exact one_law hr hc (by omega)
end Go.Proofs.Ytaapbiiiepdopaa
