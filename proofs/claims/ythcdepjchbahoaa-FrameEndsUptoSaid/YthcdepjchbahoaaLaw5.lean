/- FrameEnds: behind a frame that may not be nothing is told, what stood ahead of it was; where what comes in is of small bulk. -/
import Derived.Test.YthcdepjchbahoaaLaw4
namespace Go.Proofs.Ythcdepjchbahoaa
open Go.RowKit Go.WideShapes Mem
set_option linter.unusedVariables false

theorem stream_end (xs : List (List UInt8)) : parse (stream xs ++ [0, 0, 0, 0]) = (xs.filter good, none) := by
  have h := (parse_append _ (stream xs) [0, 0, 0, 0] (Nat.le_refl _)).1 [] (by rw [stream_parse])
  rw [h, stream_parse]
  have e : parse ([] ++ [0, 0, 0, 0]) = ([], none) := by decide +kernel
  rw [e]
  simp

/-- what stands at each round's head of the first loop -/
def EndInv (n : Nat) (xss : List (List UInt8)) (w : World) (b cnt i : Value) (wr : World) : Prop :=
  ∃ (j : Nat) (BA : Option Addr) (bc : Nat), j ≤ n ∧ i = .int .i64 (j : Int) ∧ b = .slice BA (stream (xss.take j)).length bc ∧ cnt = .int .i64 (((xss.take j).filter good).length : Int) ∧
    wr.ownsRow w.heap.size 5 1 (.slice BA (stream (xss.take j)).length bc) (stream (xss.take j)).length ((stream (xss.take j)).map B8) ∧ Below w.heap.size w wr

set_option maxRecDepth 100000 in
set_option maxHeartbeats 4000000 in
theorem ends_any (n c mn mc : Nat) (A MA : Option Addr) (vs mvs : List Value) (xss mxs : List (List UInt8)) (w : World) (hr : Reads w 0 w.heap.size 1 A n vs) (hx : Rows2 w 0 w.heap.size vs xss)
    (hm : Reads w 0 w.heap.size 1 MA mn mvs) (hmx : Rows2 w 0 w.heap.size mvs mxs) (hsz : (xss.map fun x => x.length + 1).sum ≤ 1048576) (hmn : mn ≤ 1048576) :
    Calls Try.prog 7 #[.slice A n c, .slice MA mn mc] w fun e w' => e = .returned (.bool true) ∧ Below w.heap.size w w' := by
  have hl : vs.length = n := by simpa using hr.1
  have hxl := hx.length
  have hn : n ≤ 1048576 := by have := sum_len xss; omega
  have hl2 : mvs.length = mn := by simpa using hm.1
  have HL := hide (And.intro hl hxl)
  have HX := hide (And.intro hr (And.intro hx hsz))
  have HM := hide (And.intro hm (And.intro hmx hl2))
  clear hl hxl hr hx hsz hm hmx hl2
  go_enter Try.func7, Try.ntmps7
  go_wp2_with fail
  go_loopw [5, 6, 7] (fun b cnt i wr => EndInv n xss w b cnt i wr) (fun _ _ i _ => n - (intOf i).toNat)
  case atStart => exact ⟨0, none, 0, Nat.zero_le _, rfl, rfl, rfl, World.ownsRow_nil _ _ _ _, Below.refl _ _⟩
  case round =>
    obtain ⟨j, BA, bc, hj, rfl, rfl, rfl, hb, hB⟩ := hrel
    have hS := hB.size
    by_cases hlt : j < n
    · obtain ⟨e1, e2⟩ := HL.out
      obtain ⟨hr, hx, hsz⟩ := HX.out
      obtain ⟨Ap, np, cp, x, g1, g2, hcp, hrp⟩ := hx.at_ (k := j) (by omega)
      obtain ⟨b0, o0, rfl, _, hb0, _, hcell⟩ := hr.plain (by omega) (by omega)
      have c0 : wr.cell? ⟨b0, o0 + j, none⟩ = some (.slice Ap np cp) := by rw [hB.cell (p := ⟨b0, o0 + j, none⟩) hb0, hcell j (by omega), g1]
      have hnp : x.length = np := by simpa using hrp.1
      have hst := stream_len (xss.take j)
      have hst' := take_sum xss j
      have hst2 : (stream (xss.take j)).length ≤ 5242880 := by omega
      have hfl : ((xss.take j).filter good).length ≤ 1048576 := by
        have h1 := List.length_filter_le good (xss.take j)
        rw [List.length_take] at h1
        omega
      have hb0' : b0 < wr.heap.size := by omega
      obtain ⟨s1, s2⟩ := stream_snoc g2
      by_cases hg : 1 ≤ np ∧ np ≤ 32768
      · obtain ⟨hg1, hg2⟩ := hg
        have hgx : good x = true := by simp [good]; omega
        rw [if_pos hgx] at s1 s2
        have HS := hide (And.intro s1 s2)
        have HN := hide hnp
        clear g1 g2 hcell e1 e2 hnp hr hx hsz hst hst' s1 s2 hgx
        go_wp2_with fail
        refine (enc_ok w.heap.size np cp Ap x wr (hrp.below hB (Nat.le_refl _)) hg1 hg2 hS).mono ?_
        rintro e w1 ⟨A1, c1, rfl, hown1, hB1⟩
        obtain ⟨_, _, e, _, r1⟩ := own_form hown1
        cases e
        have hs1 := hB1.size
        have hb1 := own_only hb (Only.ofBelow (S := fun _ => False) hB1) (by simp)
        go_wp2_with (at_builtin; refine pause ?_)
        refine unpause ?_
        refine wpList_app el22 (.tmp 30) (.tmp 31) hb1 r1 (B8_one _) (N := (stream (xss.take (j + 1))).length) (ys := (stream (xss.take (j + 1))).map B8) (by rw [HS.out.1, List.length_append, encB_len, HN.out]) (by rw [HS.out.1, List.map_append]) ?_ ?_ (by omega) rfl rfl rfl rfl ?_
        · rw [HS.out.1, List.length_append, encB_len]; unfold maxLen; have := HN.out; omega
        · rw [HS.out.1, List.length_append, encB_len]; have := HN.out; omega
        intro A2 c2 w2 hown2 hg2' hb2
        have hB2 : Below w.heap.size w w2 := (hB.trans (hB1.mono hS)).grown hg2' (by omega) (fun k hk => (hb1.lt k hk).1)
        have HF := hide (And.intro hown2 hB2)
        clear hB2 hg2' hb2 hown2 hb1 hown1 r1 hb
        go_wp2_with fail
        go_roundw
        case rel => exact ⟨j + 1, A2, c2, hlt, by go_num, rfl, by rw [HS.out.2, List.length_append]; go_num, HF.out.1, HF.out.2⟩
        case measure => simp [intOf]; omega
      · have hgx : ¬ good x = true := by simp [good]; omega
        rw [if_neg hgx, List.append_nil] at s1 s2
        have hbad : np < 1 ∨ 32768 < np := by omega
        have HF : Hid (EndInv n xss w (.slice BA (stream (xss.take j)).length bc) (.int .i64 (((xss.take j).filter good).length : Int)) (.int .i64 ((j : Int) + 1)) wr) := by
          refine ⟨j + 1, BA, bc, hlt, by go_num, ?_⟩
          rw [s1, s2]
          exact ⟨rfl, rfl, hb, hB⟩
        clear g1 g2 hcell e1 e2 hnp hr hx hsz hst hst' s1 s2 hgx hb hg
        rcases hbad with hbad | hbad
        all_goals
          go_wp2_with fail
          refine (enc_no np cp Ap wr (by omega)).mono ?_
          rintro e w1 ⟨rfl, rfl⟩
          go_wp2_with fail
          go_roundw
          case rel => exact HF.out
          case measure => simp [intOf]; omega
    · have hjn : j = n := by omega
      subst hjn
      have ex : xss.take j = xss := List.take_of_length_le (by have := HL.out; omega)
      rw [ex] at hb
      have eb : stream (xss.take j) = stream xss := by rw [ex]
      have eg : (xss.take j).filter good = xss.filter good := by rw [ex]
      have hst := stream_len xss
      have hst2 : (stream xss).length ≤ 5242880 := by have := HX.out.2.2; omega
      have hfl : (xss.filter good).length ≤ 1048576 := by
        have h1 := List.length_filter_le good xss
        have h2 := HL.out
        omega
      clear hst ex
      go_wp2_with (at_builtin; refine pause ?_)
      refine unpause ?_
      refine wpList_app el22 (.tmp 35) (.tmp 36) (hb.alloc _) (Reads.lit _ _ _ 4 1 rfl) (by simp [Value.oneCell']) (N := (stream xss).length + 4) (ys := (stream xss ++ [0, 0, 0, 0]).map B8) rfl (by simp [B8]) (by unfold maxLen; omega) (by omega) (by simp; omega) rfl rfl (by show Value.slice BA (stream (xss.take j)).length bc = _; rw [eb]) rfl ?_
      intro A2 c2 w2 hown2 hg2' hb2
      have hB2 : Below w.heap.size w w2 := (hB.alloc hS _).grown hg2' (by simp; omega) (fun k hk => (hb.lt k hk).1)
      have hS2 := hB2.size
      obtain ⟨_, _, e, hbc, rb⟩ := own_form hown2
      cases e
      clear hown2 hg2' hb2 hb
      go_wp2_with (go_at_call 11; refine (new_any _).mono ?_; rintro e w1 ⟨rfl, rfl⟩)
      obtain ⟨W2, hW2⟩ : ∃ W2, W2 = w2.alloc (.cells #[.slice none 0 0, .bool false] 45) := ⟨_, rfl⟩
      have hB3 : Below w2.heap.size w2 W2 := by rw [hW2]; exact (Below.refl _ w2).alloc (Nat.le_refl _) _
      have hy2 : Blk W2 w2.heap.size 45 #[.slice none 0 0, .bool false] := by rw [hW2]; exact Blk.new w2 45 _
      rw [← hW2]
      clear hW2
      refine (feed_ok w2.heap.size W2.heap.size w.heap.size w2.heap.size 0 ((stream xss).length + 4) c2 (.slice none 0 0) A2 [] (stream xss ++ [0, 0, 0, 0]) W2 hy2 (World.ownsRow_nil _ _ _ _) (rb.below hB3 (Nat.le_refl _)) (by omega) (Nat.le_refl _)).mono ?_
      intro e w3 hf
      rw [List.nil_append] at hf
      obtain ⟨fs, r, A3, A4, c3, c4, mid, us, hp, rfl, f1, f2, f3, f4, f5, f6, f7, f8, f9, f10⟩ := feed_open hf
      rw [stream_end] at hp
      cases hp
      have hB4 : Below w.heap.size w w3 := (hB2.trans (hB3.mono hS2)).trans (f8.below (fun k _ h => by
        rcases h with rfl | h
        · exact hS2
        · cases h) (by have := hB3.size; omega))
      have e0 : errOf (none : Option (List UInt8)) = 9 := rfl
      have hg3 : Blk w3 w2.heap.size 45 #[.slice A4 0 c4, .bool true] := f6
      have HG := hide hg3
      clear hf f1 f2 f3 f4 f5 f6 f7 f8 f9 f10 hg3 hy2 rb
      go_wp2_with fail
      refine (broken_any _ _ _ _ HG.out).mono ?_
      rintro e w5 ⟨rfl, rfl⟩
      go_wp2_with fail
      obtain ⟨wo, rfl⟩ : ∃ wo : World, wo = wr := ⟨_, rfl⟩
      go_loopw [13] (fun i wr => ∃ k : Nat, k ≤ mn ∧ i = .int .i64 k ∧ w3 = wr) (fun i _ => mn - (intOf i).toNat)
      case atStart => exact ⟨0, Nat.zero_le _, rfl, rfl⟩
      case round =>
        obtain ⟨k, hk, rfl, rfl⟩ := hrel
        by_cases hkn : k < mn
        · obtain ⟨hm, hmx, hl2⟩ := HM.out
          obtain ⟨Ap, np, cp, x, g1, g2, hcp, hrp⟩ := hmx.at_ (k := k) (by omega)
          obtain ⟨b0, o0, rfl, _, hb0, _, hcell⟩ := hm.plain (by omega) (by omega)
          have c0 : w3.cell? ⟨b0, o0 + k, none⟩ = some (.slice Ap np cp) := by rw [hB4.cell (p := ⟨b0, o0 + k, none⟩) hb0, hcell k (by omega), g1]
          clear g1 g2 hcell hrp hm hmx hl2
          go_wp2_with fail
          refine (feed_no w2.heap.size np cp Ap _ w3 HG.out).mono ?_
          rintro e w5 ⟨rfl, rfl⟩
          go_wp2_with fail
          refine (held_any _ _ _ _ _ _ HG.out).mono ?_
          rintro e w5 ⟨rfl, rfl⟩
          go_wp2_with fail
          go_roundw
          case rel => exact ⟨k + 1, by omega, by go_num, by trivial⟩
          case measure => simp [intOf]; omega
        · go_wp2_with fail
          refine (works_any _).mono ?_
          rintro e w5 ⟨rfl, hb5⟩
          go_wp2_with fail
          go_ret
          exact ⟨rfl, hB4.trans (hb5.mono hB4.size)⟩

theorem frameEnds_walk (H : Type) (enc : TypeId × Value → H) (W : World) (base : Nat) (v0 : Value) (d0 : DataW H) (p0 : List MemPlace) (v1 : Value) (d1 : DataW H) (p1 : List MemPlace) (x0 : Value.okWide Try.prog W .any base 28 v0) (h0 : DataW.Trod enc Try.prog W 0 (fun _ => true) true 28 v0 d0 p0)
    (x1 : Value.okWide Try.prog W .any base 28 v1) (h1 : DataW.Trod enc Try.prog W 0 (fun _ => true) true 28 v1 d1 p1)
    (hk : Rows.uptoSmall H ([d0, d1] ++ []) = true) : Calls Try.prog 7 #[v0, v1] W fun e W' => e = .returned (.bool true) ∧ Below W.heap.size W W' := by
  obtain ⟨A, n, c, vs, xss, rfl, hc, hr, hx, hb⟩ := arg_rows x0 h0
  obtain ⟨A1, n1, c1, vs1, xss1, rfl, hc1, hr1, hx1, hb1⟩ := arg_rows x1 h1
  have h : Rows.uptoBulkAll [d0, d1] ≤ 1048576 := of_decide_eq_true hk
  simp only [Rows.uptoBulkAll] at h
  have h2 : n1 = xss1.length := by have := hr1.1; have := hx1.length; omega
  have h3 := sum_len xss1
  exact ends_any n c n1 c1 A A1 vs vs1 xss xss1 W hr hx hr1 hx1 (by omega) (by omega)

end Go.Proofs.Ythcdepjchbahoaa
