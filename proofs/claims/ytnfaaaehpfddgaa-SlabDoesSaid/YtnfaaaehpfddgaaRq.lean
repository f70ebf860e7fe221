/- The reference's Put where there is room. -/
import Derived.Test.YtnfaaaehpfddgaaRo
namespace Go.Proofs.Ytnfaaaehpfddgaa
open Go.RowKit Mem
set_option linter.unusedVariables false

theorem RsR.drewN {w0 w : World} {B r R nG nV nL : Nat} {most : Int} {vG vV vL : Value} {xG xV xL : List Value} {cR : Array Value} (h : RsR w0 w B r R most nG nV nL vG vV vL xG xV xL cR) (k : Nat) : RsR w0 (w.drewN k) B r R most nG nV nL vG vV vL xG xV xL cR :=
  ⟨h.blk.drewN k, own_drewN h.oG k, own_drewN h.oV k, own_drewN h.oL k, h.sep, h.lo, h.sz, h.rb.drewN k, h.f.drewN k, ⟨h.b.os, h.b.tape, h.b.output, h.b.size, h.b.block⟩⟩
theorem gnC_set (rl : List S3) (k : Nat) (s : S3) : (gnC rl).set k (.int .i64 (s.1 : Int)) = gnC (rl.set k s) := by unfold gnC; rw [List.map_set]
theorem vaC_set (rl : List S3) (k : Nat) (s : S3) : (vaC rl).set k (.int .i64 s.2.1) = vaC (rl.set k s) := by unfold vaC; rw [List.map_set]
theorem liC_set (rl : List S3) (k : Nat) (s : S3) : (liC rl).set k (.bool s.2.2) = liC (rl.set k s) := by unfold liC; rw [List.map_set]
theorem refput_end {w W : World} {B r R n2 m z0 : Nat} {most x : Int} {rl2 : List S3} {vG vV vL : Value} {cR : Array Value} (hR : w.heap.size = R) (hB : B ≤ w.heap.size) (hl2 : rl2.length = n2)
    (T : RsR w W B r R most n2 n2 n2 vG vV vL ((gnC rl2).set m (.int .i64 ((z0 : Int) + 1))) ((vaC rl2).set m (.int .i64 x)) ((liC rl2).set m (.bool true)) cR) {u0 u1 : Value} :
    RLeft w B r most (rl2.set m (z0 + 1, x, true)) ((W.setCell ⟨R, 0, none⟩ u0).setCell ⟨R, 1, none⟩ u1) := by
  have OR := ((Only.refl (fun k => k = R) W).setCell (p := ⟨R, 0, none⟩) (.inl rfl) u0).setCell (p := ⟨R, 1, none⟩) (.inl rfl) u1
  have e1 := gnC_set rl2 m (z0 + 1, x, true)
  have e2 := vaC_set rl2 m (z0 + 1, x, true)
  have e3 := liC_set rl2 m (z0 + 1, x, true)
  have hl : (rl2.set m (z0 + 1, x, true)).length = n2 := by rw [List.length_set]; exact hl2
  refine ⟨⟨vG, vV, vL, ?_⟩, fr_fresh T.f OR (fun k hk => .inl (by rw [hk, hR]; exact Nat.le_refl _)), ?_⟩
  · rw [hl]
    refine ⟨T.blk.only OR (fun e => Blk.ne_ T.rb T.blk (by decide) e.symm), ?_, ?_, ?_, T.sep, T.lo, Nat.le_trans T.sz OR.size⟩
    · rw [← e1]
      exact own_only (by simpa using T.oG) OR (own_far T.oG T.rb (by decide))
    · rw [← e2]
      exact own_only T.oV OR (own_far T.oV T.rb (by decide))
    · rw [← e3]
      exact own_only T.oL OR (own_far T.oL T.rb (by decide))
  · have hb := T.b
    refine ⟨OR.os.trans hb.os, OR.tape.trans hb.tape, OR.output.trans hb.output, Nat.le_trans hb.size OR.size, fun k hk => ?_⟩
    have hbs := hb.size
    exact (OR.block k (by omega) (fun e => by omega)).trans (hb.block k hk)

set_option maxHeartbeats 4000000 in
set_option maxRecDepth 100000 in
theorem refput_ok {w : World} {B r : Nat} {most : Int} {rl : List S3} (x : Int) (h : Rs w B r most rl) (hf : (lives rl : Int) < most) (hn : rl.length ≤ 65536) (hgen : ∀ s ∈ rl, s.1 ≤ 4294967296) :
    Calls Try.prog 17 #[.pointer (some ⟨r, 0, none⟩), .int .i64 x] w fun e w' => e = .returned (.tuple #[.agg #[.int .i64 (ff (grown rl) : Int), .int .i64 ((genOf (grown rl) (ff (grown rl)) : Int) + 1)], .int .i64 0]) ∧ RLeft w B r most (putS rl x) w' := by
  have ha := h.alloc (.cells #[.int .i64 0, .int .i64 0] 29)
  have f0 : (w.alloc (.cells #[.int .i64 0, .int .i64 0] 29)).cell? ⟨r, 0, none⟩ = some (.int .i64 most) := by
    obtain ⟨a, b, c, hv⟩ := ha
    rw [hv.blk.cell]; rfl
  have C22 : Hid (∀ n, Calls Try.prog 22 #[.pointer (some ⟨r, 0, none⟩)] ((w.alloc (.cells #[.int .i64 0, .int .i64 0] 29)).drewN n) fun e w'' => e = .returned (.int .i64 (lives rl : Int)) ∧ ∃ m, w'' = (w.alloc (.cells #[.int .i64 0, .int .i64 0] 29)).drewN m) := by
    intro n
    refine (refcount_any (ha.drewN n) (by omega)).mono ?_
    rintro e w' ⟨rfl, rfl⟩
    exact ⟨rfl, n, rfl⟩
  obtain ⟨vG, vV, vL, hV⟩ := h
  have T0 : Hid (∀ n, RsR w ((w.alloc (.cells #[.int .i64 0, .int .i64 0] 29)).drewN n) B r w.heap.size most rl.length rl.length rl.length vG vV vL (gnC rl) (vaC rl) (liC rl) #[.int .i64 0, .int .i64 0]) := by
    intro n
    have h1 := (hV.alloc (.cells #[.int .i64 0, .int .i64 0] 29)).drewN n
    have b1 := (Below.refl B w).alloc hV.sz (.cells #[.int .i64 0, .int .i64 0] 29)
    exact ⟨h1.blk, h1.oG, h1.oV, h1.oL, h1.sep, h1.lo, h1.sz, (Blk.new w 29 _).drewN n, ((Fr.refl RT w).alloc _).drewN n, ⟨b1.os, b1.tape, b1.output, b1.size, b1.block⟩⟩
  obtain ⟨AG, cG, rfl, _⟩ := own_form hV.oG
  obtain ⟨AV, cV, rfl, _⟩ := own_form hV.oV
  obtain ⟨AL, cL, rfl, _⟩ := own_form hV.oL
  have hlv := lives_le rl
  have hBw := hV.sz
  clear ha hV
  go_enter Try.func17, Try.ntmps17
  go_wp2
  go_quiet ((go_at_call 22; exact C22.out _))
  go_wp2_with fail
  have T := T0.out nq
  generalize (w.alloc (.cells #[.int .i64 0, .int .i64 0] 29)).drewN nq = W at T ⊢
  clear T0 C22 f0
  generalize hRe : w.heap.size = R at T ⊢
  have f3 : W.cell? ⟨r, 3, none⟩ = some (.slice AL rl.length cL) := by rw [T.blk.cell]; rfl
  have f1 : W.cell? ⟨r, 1, none⟩ = some (.slice AG rl.length cG) := by rw [T.blk.cell]; rfl
  by_cases hfl : lives rl = rl.length
  · obtain ⟨hg1, hg2, hg3, hg4⟩ := put_full_spec hfl x
    have HG := hide (And.intro hg1 (And.intro hg2 (And.intro hg3 hg4)))
    have hall : ∀ (k : Nat) (s : S3), rl[k]? = some s → s.2.2 = true := fun k s hs => by
      have := List.countP_eq_length.1 hfl s (List.mem_of_getElem? hs)
      simpa using this
    clear hg1 hg2 hg3 hg4 hfl
    go_loopw [6] (fun i wr => ∃ k, k ≤ rl.length ∧ i = .int .i64 (k : Nat) ∧ wr = W) (fun i _ => rl.length - (intOf i).toNat)
    case atStart => exact ⟨0, Nat.zero_le _, rfl, rfl⟩
    case round =>
      obtain ⟨k, hk, rfl, rfl⟩ := hrel
      by_cases hlt : k < rl.length
      · have hs : rl[k]? = some rl[k] := List.getElem?_eq_getElem hlt
        have hz := hall k _ hs
        obtain ⟨bL, cL', e1⟩ := own_slice T.oL (by omega)
        cases e1
        have a2 := own_at T.oL (liC_at hs)
        rw [hz] at a2
        clear hs hz hall
        go_wp2_with fail
        go_roundw
        case rel => exact ⟨k + 1, by omega, by go_num, trivial⟩
        case measure => simp [intOf]; omega
      · have hkl : k = rl.length := by omega
        subst hkl
        clear hall
        go_wp2_with (first | (at_builtin; refine pause ?_) | go_in)
        have T1 := T.alloc (.cells #[.int .i64 0] 2)
        refine unpause (wpList_app el41 (.tmp 44) (.tmp 45) T1.oG (Reads.lit wr #[.int .i64 0] 2 1 1 rfl) (by intro u hu; rcases List.mem_cons.1 hu with rfl | hu; rfl; cases hu) (N := rl.length + 1) (ys := gnC (rl ++ [(0, 0, false)])) rfl (by simp [gnC]) (by unfold maxLen; omega) (by omega) T1.sz rfl rfl rfl rfl ?_)
        intro A4 c4 w4 hown4 hgr4 hb4
        have G4 := T1.blk.grown hgr4 (fun e1 => own_blk_ne T1.oG T1.blk (by decide) e1.symm)
        have k4 : w4.cell? ⟨r, 1, none⟩ = some (.slice AG rl.length cG) := by rw [G4.cell]; rfl
        have p4 := G4.frozen 1
        have T2 := T1.appG hgr4 hown4 hb4
        have f5 : (w4.setCell ⟨r, 1, none⟩ (.slice A4 (rl.length + 1) c4)).cell? ⟨r, 2, none⟩ = some (.slice AV rl.length cV) := by rw [T2.blk.cell]; rfl
        clear T1 hown4 hgr4 hb4 G4
        go_wp2_with (first | (at_builtin; refine pause ?_) | go_in)
        clear k4 p4 f5 f3 f1 T
        generalize hv4 : Value.slice A4 (rl.length + 1) c4 = v4 at T2 ⊢
        have hz4 : (w4.setCell ⟨r, 1, none⟩ v4).heap.size = w4.heap.size := by simp [World.setCell]
        have hlit := Reads.lit (w4.setCell ⟨r, 1, none⟩ v4) #[.int .i64 0] 2 1 1 rfl
        rw [hz4] at hlit
        have T3 := T2.alloc (.cells #[.int .i64 0] 2)
        refine unpause (wpList_app el41 (.tmp 53) (.tmp 54) T3.oV hlit (by intro u hu; rcases List.mem_cons.1 hu with rfl | hu; rfl; cases hu) (N := rl.length + 1) (ys := vaC (rl ++ [(0, 0, false)])) rfl (by simp [vaC]) (by unfold maxLen; omega) (by omega) T3.sz rfl rfl rfl rfl ?_)
        intro A5 c5 w5 hown5 hgr5 hb5
        have G5 := T3.blk.grown hgr5 (fun e1 => own_blk_ne T3.oV T3.blk (by decide) e1.symm)
        have k5 : w5.cell? ⟨r, 2, none⟩ = some (.slice AV rl.length cV) := by rw [G5.cell]; rfl
        have p5 := G5.frozen 2
        have T4 := T3.appV hgr5 hown5 hb5
        have f6 : (w5.setCell ⟨r, 2, none⟩ (.slice A5 (rl.length + 1) c5)).cell? ⟨r, 3, none⟩ = some (.slice AL rl.length cL) := by rw [T4.blk.cell]; rfl
        clear T2 T3 hown5 hgr5 hb5 G5 hlit hz4
        go_wp2_with (first | (at_builtin; refine pause ?_) | go_in)
        clear k5 p5 f6
        generalize hv5 : Value.slice A5 (rl.length + 1) c5 = v5 at T4 ⊢
        have hz5 : (w5.setCell ⟨r, 2, none⟩ v5).heap.size = w5.heap.size := by simp [World.setCell]
        have hlit := Reads.lit (w5.setCell ⟨r, 2, none⟩ v5) #[.bool false] 4 1 1 rfl
        rw [hz5] at hlit
        have T5 := T4.alloc (.cells #[.bool false] 4)
        refine unpause (wpList_app el40 (.tmp 62) (.tmp 63) T5.oL hlit (by intro u hu; rcases List.mem_cons.1 hu with rfl | hu; rfl; cases hu) (N := rl.length + 1) (ys := liC (rl ++ [(0, 0, false)])) rfl (by simp [liC]) (by unfold maxLen; omega) (by omega) T5.sz rfl rfl rfl rfl ?_)
        intro A6 c6 w6 hown6 hgr6 hb6
        have G6 := T5.blk.grown hgr6 (fun e1 => own_blk_ne T5.oL T5.blk (by decide) e1.symm)
        have k6 : w6.cell? ⟨r, 3, none⟩ = some (.slice AL rl.length cL) := by rw [G6.cell]; rfl
        have p6 := G6.frozen 3
        have T := T5.appL hgr6 hown6
        clear T4 T5 hown6 hgr6 hb6 G6 hlit hz5
        go_wp2_with fail
        clear k6 p6
        generalize hv6 : Value.slice A6 (rl.length + 1) c6 = v6 at T ⊢
        generalize w6.setCell ⟨r, 3, none⟩ v6 = W8 at T ⊢
        have hs : (rl ++ [(0, 0, false)])[rl.length]? = some ((0 : Nat), (0 : Int), false) := by simp
        have hl2 : (rl ++ [((0 : Nat), (0 : Int), false)]).length = rl.length + 1 := by simp
        replace HG : Hid (True ∧ ff (grown rl) = rl.length ∧ genOf (grown rl) (ff (grown rl)) = 0 ∧ putS rl x = (rl ++ [(0, 0, false)]).set rl.length (0 + 1, x, true)) := ⟨trivial, HG.out.2.1, HG.out.2.2.1, by rw [HG.out.2.2.2, set_app]⟩
        clear hv4 hv5 hv6
        generalize rl ++ [((0 : Nat), (0 : Int), false)] = rl2 at T hs hl2 HG
        generalize hm : rl.length = m at hs HG ⊢
        have hmm : m ≤ 65536 := by omega
        generalize hn2 : rl.length + 1 = n2 at T hl2
        have hmn : m < n2 := by omega
        obtain ⟨z0, hz0⟩ : ∃ z : Nat, z = 0 := ⟨0, rfl⟩
        obtain ⟨z1, hz1⟩ : ∃ z : Int, z = 0 := ⟨0, rfl⟩
        obtain ⟨z2, hz2⟩ : ∃ z : Bool, z = false := ⟨false, rfl⟩
        replace hs : rl2[m]? = some (z0, z1, z2) := by rw [hz0, hz1, hz2]; exact hs
        replace HG : Hid (True ∧ ff (grown rl) = m ∧ genOf (grown rl) (ff (grown rl)) = z0 ∧ putS rl x = rl2.set m (z0 + 1, x, true)) := by rw [hz0]; exact HG
        have hzb : z0 ≤ 4294967296 := by omega
        clear hz0 hz1 hz2 hn2 hm
        obtain ⟨bG, cG', e1⟩ := own_slice T.oG (by omega)
        cases e1
        obtain ⟨bV, cV', e1⟩ := own_slice T.oV (by omega)
        cases e1
        obtain ⟨bL, cL', e1⟩ := own_slice T.oL (by omega)
        cases e1
        have e1 : W8.cell? ⟨r, 1, none⟩ = some (.slice (some ⟨bG, 0, none⟩) n2 cG') := by rw [T.blk.cell]; rfl
        have a0 := own_at T.oG (gnC_at hs)
        have p0 := T.oG.frozenAt m
        dsimp only at a0
        have T1 := hide (T.setG (k := m) (.int .i64 ((z0 : Int) + 1)))
        have HT := hide T
        clear T
        go_region
        all_goals (try rename_i K hK; try refine hK _ _ ?_)
        all_goals
          have T2 := T1.out.drewN 1
          change Code.wp _ _ _ _ ((W8.setCell ⟨bG, m, none⟩ (.int .i64 ((z0 : Int) + 1))).drewN 1)
          generalize (W8.setCell ⟨bG, m, none⟩ (.int .i64 ((z0 : Int) + 1))).drewN 1 = W9 at T2 ⊢
          clear T1 e1 a0 p0 HT
          have d2 : W9.cell? ⟨r, 2, none⟩ = some (.slice (some ⟨bV, 0, none⟩) n2 cV') := by rw [T2.blk.cell]; rfl
          have a1 := own_at T2.oV (vaC_at hs)
          have p1 := T2.oV.frozenAt m
          have T3 := T2.setV (k := m) (.int .i64 x)
          have d3 : (W9.setCell ⟨bV, m, none⟩ (.int .i64 x)).cell? ⟨r, 3, none⟩ = some (.slice (some ⟨bL, 0, none⟩) n2 cL') := by rw [T3.blk.cell]; rfl
          have a2 := own_at T3.oL (liC_at hs)
          have p2 := T3.oL.frozenAt m
          have T4 := T3.setL (k := m) (.bool true)
          have d1 : ((W9.setCell ⟨bV, m, none⟩ (.int .i64 x)).setCell ⟨bL, m, none⟩ (.bool true)).cell? ⟨r, 1, none⟩ = some (.slice (some ⟨bG, 0, none⟩) n2 cG') := by rw [T4.blk.cell]; rfl
          have a3 := own_at T4.oG (j := m) (u := .int .i64 ((z0 : Int) + 1)) (by rw [List.getElem?_set_self (by unfold gnC; rw [List.length_map]; omega)])
          have q0 : ((W9.setCell ⟨bV, m, none⟩ (.int .i64 x)).setCell ⟨bL, m, none⟩ (.bool true)).cell? ⟨R, 0, none⟩ = some (.int .i64 0) := by rw [T4.rb.cell]; rfl
          have q0f := T4.rb.frozen 0
          have R5 := T4.rb.set_ 0 (.int .i64 (m : Int))
          have q1 : (((W9.setCell ⟨bV, m, none⟩ (.int .i64 x)).setCell ⟨bL, m, none⟩ (.bool true)).setCell ⟨R, 0, none⟩ (.int .i64 (m : Int))).cell? ⟨R, 1, none⟩ = some (.int .i64 0) := by rw [R5.cell]; rfl
          have q1f := R5.frozen 1
          have R6 := hide (R5.set_ 1 (.int .i64 ((z0 : Int) + 1)))
          have HE : Hid (RLeft w B r most (rl2.set m (z0 + 1, x, true)) ((((W9.setCell ⟨bV, m, none⟩ (.int .i64 x)).setCell ⟨bL, m, none⟩ (.bool true)).setCell ⟨R, 0, none⟩ (.int .i64 (m : Int))).setCell ⟨R, 1, none⟩ (.int .i64 ((z0 : Int) + 1)))) := refput_end hRe hBw hl2 T4
          dsimp only at a1 a2
          clear T2 T3 T4 R5 hs
          go_wp2
          refine bodyPost_ret (results_row_tmp rfl _ _ R 29 #[.int .i64 (m : Int), .int .i64 ((z0 : Int) + 1)] _ rfl (by simpa using R6.out) Try.underlying29 rfl (by kernel_rfl)) rfl ?_
          rw [HG.out.2.2.1, HG.out.2.1, HG.out.2.2.2]
          exact ⟨rfl, HE.out⟩

  · obtain ⟨z0, z1, hs, hg1, hg2, hg3⟩ := putS_hole (sl := rl) (by omega) x
    have hzb : z0 ≤ 4294967296 := hgen _ (List.mem_of_getElem? hs)
    have hmn := (List.getElem?_eq_some_iff.1 hs).1
    have hbf : ∀ (u : Nat) (s : S3), u < ff rl → rl[u]? = some s → s.2.2 = true := fun u s hu hs => ff_before hu hs
    have HG : Hid (True ∧ ff (grown rl) = ff rl ∧ genOf (grown rl) (ff (grown rl)) = z0 ∧ putS rl x = rl.set (ff rl) (z0 + 1, x, true)) := ⟨trivial, by rw [hg1], by rw [hg1, hg2], hg3⟩
    clear hg1 hg2 hg3
    generalize ff rl = m at hs hmn hbf HG
    have hmm : m ≤ 65536 := by omega
    go_loopw [6] (fun i wr => ∃ k, k ≤ m ∧ i = .int .i64 (k : Nat) ∧ wr = W) (fun i _ => m - (intOf i).toNat)
    case atStart => exact ⟨0, Nat.zero_le _, rfl, rfl⟩
    case round =>
      obtain ⟨k, hk, rfl, rfl⟩ := hrel
      by_cases hlt : k < m
      · have hsk : rl[k]? = some (rl[k]'(by omega)) := List.getElem?_eq_getElem (by omega)
        have hz := hbf k _ hlt hsk
        obtain ⟨bL, cL', e1⟩ := own_slice T.oL (by omega)
        cases e1
        have a2 := own_at T.oL (liC_at hsk)
        rw [hz] at a2
        clear hsk hz hbf hs
        go_wp2_with fail
        go_roundw
        case rel => exact ⟨k + 1, by omega, by go_num, trivial⟩
        case measure => simp [intOf]; omega
      · have hkl : k = m := by omega
        subst hkl
        obtain ⟨bL0, cL', e1⟩ := own_slice T.oL (by omega)
        cases e1
        have a2 := own_at T.oL (liC_at hs)
        have HS := hide hs
        clear hbf hs
        dsimp only at a2
        go_wp2_with fail
        have hs := HS.out
        clear HS a2 f3 f1
        have hTe : ∃ vG vV vL, RsR w wr B r R most rl.length rl.length rl.length vG vV vL (gnC rl) (vaC rl) (liC rl) #[.int .i64 0, .int .i64 0] := ⟨_, _, _, T⟩
        clear T
        obtain ⟨vG, vV, vL, T⟩ := hTe
        generalize hrl2 : rl = rl2 at T hs
        replace HG : Hid (True ∧ ff (grown rl) = k ∧ genOf (grown rl) (ff (grown rl)) = z0 ∧ putS rl x = rl2.set k (z0 + 1, x, true)) := by rw [← hrl2]; exact HG.out
        have hl2 : rl2.length = rl.length := by rw [hrl2]
        clear hrl2
        generalize hn2 : rl2.length = n2 at T hl2
        replace hmn : k < n2 := by omega
        have hnb : n2 ≤ 65536 := by omega
        replace hl2 : rl2.length = n2 := hn2
        clear hn2
        obtain ⟨bG, cG', e1⟩ := own_slice T.oG (by omega)
        cases e1
        obtain ⟨bV, cV', e1⟩ := own_slice T.oV (by omega)
        cases e1
        obtain ⟨bL, cL', e1⟩ := own_slice T.oL (by omega)
        cases e1
        have e1 : wr.cell? ⟨r, 1, none⟩ = some (.slice (some ⟨bG, 0, none⟩) n2 cG') := by rw [T.blk.cell]; rfl
        have a0 := own_at T.oG (gnC_at hs)
        have p0 := T.oG.frozenAt k
        dsimp only at a0
        have T1 := hide (T.setG (k := k) (.int .i64 ((z0 : Int) + 1)))
        have HT := hide T
        clear T
        go_region
        all_goals (try rename_i K hK; try refine hK _ _ ?_)
        all_goals
          have T2 := T1.out.drewN 1
          change Code.wp _ _ _ _ ((wr.setCell ⟨bG, k, none⟩ (.int .i64 ((z0 : Int) + 1))).drewN 1)
          generalize (wr.setCell ⟨bG, k, none⟩ (.int .i64 ((z0 : Int) + 1))).drewN 1 = W9 at T2 ⊢
          clear T1 e1 a0 p0 HT
          have d2 : W9.cell? ⟨r, 2, none⟩ = some (.slice (some ⟨bV, 0, none⟩) n2 cV') := by rw [T2.blk.cell]; rfl
          have a1 := own_at T2.oV (vaC_at hs)
          have p1 := T2.oV.frozenAt k
          have T3 := T2.setV (k := k) (.int .i64 x)
          have d3 : (W9.setCell ⟨bV, k, none⟩ (.int .i64 x)).cell? ⟨r, 3, none⟩ = some (.slice (some ⟨bL, 0, none⟩) n2 cL') := by rw [T3.blk.cell]; rfl
          have a2 := own_at T3.oL (liC_at hs)
          have p2 := T3.oL.frozenAt k
          have T4 := T3.setL (k := k) (.bool true)
          have d1 : ((W9.setCell ⟨bV, k, none⟩ (.int .i64 x)).setCell ⟨bL, k, none⟩ (.bool true)).cell? ⟨r, 1, none⟩ = some (.slice (some ⟨bG, 0, none⟩) n2 cG') := by rw [T4.blk.cell]; rfl
          have a3 := own_at T4.oG (j := k) (u := .int .i64 ((z0 : Int) + 1)) (by rw [List.getElem?_set_self (by unfold gnC; rw [List.length_map]; omega)])
          have q0 : ((W9.setCell ⟨bV, k, none⟩ (.int .i64 x)).setCell ⟨bL, k, none⟩ (.bool true)).cell? ⟨R, 0, none⟩ = some (.int .i64 0) := by rw [T4.rb.cell]; rfl
          have q0f := T4.rb.frozen 0
          have R5 := T4.rb.set_ 0 (.int .i64 (k : Int))
          have q1 : (((W9.setCell ⟨bV, k, none⟩ (.int .i64 x)).setCell ⟨bL, k, none⟩ (.bool true)).setCell ⟨R, 0, none⟩ (.int .i64 (k : Int))).cell? ⟨R, 1, none⟩ = some (.int .i64 0) := by rw [R5.cell]; rfl
          have q1f := R5.frozen 1
          have R6 := hide (R5.set_ 1 (.int .i64 ((z0 : Int) + 1)))
          have HE : Hid (RLeft w B r most (rl2.set k (z0 + 1, x, true)) ((((W9.setCell ⟨bV, k, none⟩ (.int .i64 x)).setCell ⟨bL, k, none⟩ (.bool true)).setCell ⟨R, 0, none⟩ (.int .i64 (k : Int))).setCell ⟨R, 1, none⟩ (.int .i64 ((z0 : Int) + 1)))) := refput_end hRe hBw hl2 T4
          dsimp only at a1 a2
          clear T2 T3 T4 R5 hs
          go_wp2
          refine bodyPost_ret (results_row_tmp rfl _ _ R 29 #[.int .i64 (k : Int), .int .i64 ((z0 : Int) + 1)] _ rfl (by simpa using R6.out) Try.underlying29 rfl (by kernel_rfl)) rfl ?_
          rw [HG.out.2.2.1, HG.out.2.1, HG.out.2.2.2]
          exact ⟨rfl, HE.out⟩

end Go.Proofs.Ytnfaaaehpfddgaa
