/- SlabOnce: no handle is given twice; one that was freed leads nowhere; one that was not leads to what was laid there last. -/
import Derived.Test.YtnfaaaehpfddgaaPy
namespace Go.Proofs.Ytnfaaaehpfddgaa
open Go.RowKit Mem Go.Deep Go.ChangeShapes Go.WideShapes
set_option linter.unusedVariables false

theorem count50 (z : Int) : ∃ m : Nat, wrap64 (1 + wrap64 ((IntKind.u64.wrap z).tmod 50)) = (m : Int) ∧ 1 ≤ m ∧ m ≤ 50 := by
  have h0 : 0 ≤ IntKind.u64.wrap z := by
    have e : IntKind.u64.wrap z = z % 18446744073709551616 := by simp [IntKind.wrap, IntKind.bits, IntKind.signed]
    omega
  generalize IntKind.u64.wrap z = u at h0
  have h1 : u.tmod 50 = u % 50 := Int.tmod_eq_emod_of_nonneg h0
  rw [h1]
  have h2 : wrap64 (u % 50) = u % 50 := by unfold wrap64; omega
  rw [h2]
  refine ⟨(1 + u % 50).toNat, ?_, by omega, by omega⟩
  have h3 : wrap64 (1 + u % 50) = 1 + u % 50 := by unfold wrap64; omega
  rw [h3]
  omega
theorem PlayS.same {w wr w2 : World} {B g k : Nat} {N : Int} {sl : List S3} {ps : List Pd} {v1 v2 v3 : Value} (h : PlayS w wr B g N k sl ps v1 v2 v3) (ho : Only (fun _ => False) wr w2) : PlayS w w2 B g N k sl ps v1 v2 v3 :=
  h.left (left_same h.s ho)
/-- how many of the first i live -/
def alive (ps : List Pd) (i : Nat) : Nat := (ps.take i).countP (·.2.2.1)
theorem alive_succ {ps : List Pd} {i : Nat} {p : Pd} (h : ps[i]? = some p) : alive ps (i + 1) = alive ps i + (if p.2.2.1 then 1 else 0) := by
  unfold alive
  rw [List.take_add_one, h, List.countP_append]
  simp [List.countP_cons]
theorem alive_le (ps : List Pd) (i : Nat) : alive ps i ≤ i := by
  have h := List.countP_le_length (p := fun p : Pd => p.2.2.1) (l := ps.take i)
  rw [List.length_take] at h
  unfold alive
  omega

set_option maxRecDepth 100000 in
set_option maxHeartbeats 8000000 in
theorem once_any (z : Int) (l : List Op6) (n c : Nat) (A : Option Addr) (w : World) (hr : Reads w 0 w.heap.size 6 A n (op6 l)) :
    Calls Try.prog 5 #[.int .i64 z, .slice A n c] w fun e w' => e = .returned (.bool true) ∧ Below w.heap.size w w' := by
  obtain ⟨m, hm, hm1, hm3⟩ := count50 z
  go_enter Try.func5, Try.ntmps5
  go_wp2_with fail
  rw [hm]
  clear hm
  generalize wrap64 ((IntKind.u64.wrap z).tmod 50) = z1
  generalize (IntKind.u64.wrap z).tmod 50 = z2
  generalize IntKind.u64.wrap z = z3
  refine (new_any w m (by omega) (by omega)).mono ?_
  rintro e w1 ⟨rfl, h1, b1, s1⟩
  go_wp2_with fail
  refine (play_any l n c w.heap.size w.heap.size m A w1 (hr.below b1 (Nat.le_refl _)) b1.size h1 (by omega)).mono ?_
  rintro e w3 ⟨sl, ps, A1, c1, A2, c2, A3, c3, rfl, hP⟩
  have HP := hide hP
  have HB := hide b1
  have hp3 := hP.pk
  have hs3 := hP.sk
  clear hr h1 s1 hP b1
  go_wp2_with fail
  go_loopw [11, 12] (fun kk i wr => ∃ i' : Nat, i' ≤ ps.length ∧ kk = .int .i64 (alive ps i' : Nat) ∧ i = .int .i64 (i' : Nat) ∧ Hid (PlayS w1 wr w.heap.size w.heap.size m 300 sl ps (.slice A1 ps.length c1) (.slice A2 ps.length c2) (.slice A3 ps.length c3))) (fun _ i _ => 300 - (intOf i).toNat)
  case atStart => exact ⟨0, Nat.zero_le _, by unfold alive; rfl, rfl, HP.out⟩
  case round =>
    clear HP
    obtain ⟨i, hi, rfl, rfl, hP⟩ := hrel
    have hal := alive_le ps i
    by_cases hlt : i < ps.length
    · obtain ⟨p, hpi⟩ : ∃ p, ps[i]? = some p := ⟨_, List.getElem?_eq_getElem hlt⟩
      obtain ⟨si, gi, lv, vi⟩ := p
      obtain ⟨b1, d1, e1⟩ := own_slice hP.out.r1 (by omega)
      cases e1
      obtain ⟨b2, d2, e2⟩ := own_slice hP.out.r2 (by omega)
      cases e2
      obtain ⟨b3, d3, e3⟩ := own_slice hP.out.r3 (by omega)
      cases e3
      obtain ⟨y0, y1⟩ := hsC_at hpi
      dsimp only at y0 y1
      have HPI := hide (And.intro hpi (And.intro y0 y1))
      clear hpi y0 y1
      go_wp2_with fail
      go_loopw [13] (fun j wr2 => ∃ j' : Nat, j' ≤ i ∧ j = .int .i64 (j' : Nat) ∧ Hid (PlayS w1 wr2 w.heap.size w.heap.size m 300 sl ps (.slice (some ⟨b1, 0, none⟩) ps.length c1) (.slice (some ⟨b2, 0, none⟩) ps.length c2) (.slice (some ⟨b3, 0, none⟩) ps.length c3))) (fun j _ => 300 - (intOf j).toNat)
      case atStart => exact ⟨0, Nat.zero_le _, rfl, hP⟩
      case round =>
        clear hP
        obtain ⟨j, hj, rfl, hP⟩ := hrel
        rename_i wr2 _
        obtain ⟨hpi, y0, y1⟩ := HPI.out
        by_cases hji : j < i
        · obtain ⟨q, hqj⟩ : ∃ q, ps[j]? = some q := ⟨_, List.getElem?_eq_getElem (by omega)⟩
          obtain ⟨sj, gj, lj, vj⟩ := q
          obtain ⟨u0, u1⟩ := hsC_at hqj
          dsimp only at u0 u1
          have t0 := own_at hP.out.r1 y0
          have t1 := own_at hP.out.r1 y1
          have t2 := own_at hP.out.r1 u0
          have t3 := own_at hP.out.r1 u1
          have hne : si = sj → ¬ gi = gj := fun e1 e2 => by
            subst e1; subst e2
            have := hP.out.p.inj i j si gi lv lj vi vj hpi hqj
            omega
          clear hpi y0 y1 hqj u0 u1
          by_cases hss : si = sj
          · have hgg : ¬ ((gi : Int) = (gj : Int)) := fun e => hne hss (by omega)
            clear hne
            go_wp2_with fail
            go_quiet (fail)
            go_wp2_with fail
            go_roundw
            case rel => exact ⟨j + 1, by omega, by go_num, hP.out.drewN _⟩
            case measure => simp [intOf]; omega
          · have hss' : ¬ ((si : Int) = (sj : Int)) := fun e => hss (by omega)
            clear hne hss
            go_wp2_with fail
            go_quiet (fail)
            go_wp2_with fail
            go_roundw
            case rel => exact ⟨j + 1, by omega, by go_num, hP.out.drewN _⟩
            case measure => simp [intOf]; omega
        · have t0 := own_at hP.out.r1 y0
          have t1 := own_at hP.out.r1 y1
          obtain ⟨pg1, pg2⟩ := pinv_get hP.out.p hpi
          have hge := get_any (si : Int) (gi : Int) hP.out.s (by omega)
          have ha := alive_succ hpi
          go_wp2_with fail
          refine hge.mono ?_
          rintro e w5 ⟨rfl, o5⟩
          have P5 := hide (hP.out.same o5)
          have k2 : w5.cell? ⟨b2, i, none⟩ = some (.bool lv) := own_at P5.out.r2 (by unfold lvC; rw [List.getElem?_map, hpi]; rfl)
          have k3 : w5.cell? ⟨b3, i, none⟩ = some (.int .i64 vi) := own_at P5.out.r3 (by unfold vlC; rw [List.getElem?_map, hpi]; rfl)
          clear hge o5 t0 t1 y0 y1 hpi hP
          cases lv with
          | true =>
            obtain ⟨f1, f2⟩ := pg1 rfl
            rw [f1, f2]
            clear f1 f2 pg1 pg2
            have HA := hide ha
            clear ha
            go_wp2_with fail
            go_roundw
            case rel => exact ⟨i + 1, hlt, by rw [HA.out]; simp only [if_true]; go_num, by go_num, P5⟩
            case measure => simp [intOf]; omega
          | false =>
            obtain ⟨f1, f2⟩ := pg2 rfl
            rw [f1, f2]
            clear f1 f2 pg1 pg2
            have HA := hide ha
            clear ha
            go_wp2_with fail
            go_roundw
            case rel => exact ⟨i + 1, hlt, by rw [HA.out]; simp, by go_num, P5⟩
            case measure => simp [intOf]; omega
    · have hil : i = ps.length := by omega
      subst hil
      have hcnt : alive ps ps.length = lives sl := by
        unfold alive
        rw [List.take_length, hP.out.p.cnt]
      have hlN := hP.out.lN
      have hlv := live_any hP.out.s
      rw [hcnt]
      clear hcnt hal
      go_wp2_with fail
      refine hlv.mono ?_
      rintro e w5 ⟨rfl, rfl⟩
      go_wp2_with fail
      refine (works_any _).mono ?_
      rintro e w6 ⟨rfl, b6⟩
      go_wp2
      go_ret
      have bb := HB.out.trans hP.out.b
      exact ⟨rfl, bb.trans (b6.mono bb.size)⟩

theorem slabOnce_walk (H : Type) (enc : TypeId × Value → H) (W : World) (base : Nat) (v0 : Value) (d0 : DataW H) (p0 : List MemPlace) (v1 : Value) (d1 : DataW H) (p1 : List MemPlace)
    (x0 : Value.okWide Try.prog W .any base 3 v0) (h0 : DataW.Trod enc Try.prog W 0 (fun _ => true) true 3 v0 d0 p0) (x1 : Value.okWide Try.prog W .any base 36 v1) (h1 : DataW.Trod enc Try.prog W 0 (fun _ => true) true 36 v1 d1 p1) :
    Calls Try.prog 5 #[v0, v1] W fun e W' => e = .returned (.bool true) ∧ Below W.heap.size W W' := by
  obtain ⟨z, rfl, _⟩ := open_int Try.underlying3 x0 h0
  obtain ⟨A, n, c, l, rfl, _, hr⟩ := arg_op6 x1 h1
  exact once_any z l n c A W hr
end Go.Proofs.Ytnfaaaehpfddgaa
