/- FrameBack: loads sent in frames come as they were, in any pieces; where what comes in is of small bulk. -/
import Derived.Test.YthcdepjchbahoaaLaw3
namespace Go.Proofs.Ythcdepjchbahoaa
open Go.RowKit Go.WideShapes Mem
set_option linter.unusedVariables false

def good (x : List UInt8) : Bool := decide (1 ≤ x.length) && decide (x.length ≤ 32768)
/-- the frames of the loads that may be, one behind the other -/
def stream (xs : List (List UInt8)) : List UInt8 := (xs.filter good).flatMap encB

theorem stream_parse (xs : List (List UInt8)) : parse (stream xs) = (xs.filter good, some []) := by
  unfold stream
  induction xs with
  | nil => rfl
  | cons x r ih =>
    by_cases h : good x = true
    · rw [List.filter_cons_of_pos h, List.flatMap_cons]
      have h' := h
      simp [good] at h'
      rw [parse_enc x _ h'.1 h'.2, ih]
    · rw [List.filter_cons_of_neg h]
      exact ih
theorem stream_len (xs : List (List UInt8)) : (stream xs).length ≤ 5 * (xs.map fun x => x.length + 1).sum := by
  unfold stream
  induction xs with
  | nil => simp
  | cons x r ih =>
    simp only [List.map_cons, List.sum_cons]
    by_cases h : good x = true
    · rw [List.filter_cons_of_pos h, List.flatMap_cons, List.length_append, encB_len]
      have h' := h
      simp [good] at h'
      omega
    · rw [List.filter_cons_of_neg h]
      omega
theorem stream_snoc {xs : List (List UInt8)} {k : Nat} {x : List UInt8} (h : xs[k]? = some x) : stream (xs.take (k + 1)) = stream (xs.take k) ++ (if good x = true then encB x else []) ∧
    (xs.take (k + 1)).filter good = (xs.take k).filter good ++ (if good x = true then [x] else []) := by
  rw [List.take_add_one, h]
  unfold stream
  rw [List.filter_append]
  by_cases hg : good x = true <;> simp [hg]
theorem take_sum (xs : List (List UInt8)) (k : Nat) : ((xs.take k).map fun x => x.length + 1).sum ≤ (xs.map fun x => x.length + 1).sum := by
  induction xs generalizing k with
  | nil => simp
  | cons x r ih =>
    cases k with
    | zero => simp
    | succ k =>
      have := ih k
      simp only [List.take_succ_cons, List.map_cons, List.sum_cons]
      omega
/-- no part of the front of such a stream is broken -/
theorem stream_front (xs : List (List UInt8)) (t : Nat) : ∃ r, (parse ((stream xs).take t)).2 = some r := by
  cases h : (parse ((stream xs).take t)).2 with
  | some r => exact ⟨r, rfl⟩
  | none =>
    have e := (parse_append _ ((stream xs).take t) ((stream xs).drop t) (Nat.le_refl _)).2 h
    rw [List.take_append_drop, stream_parse] at e
    rw [← e] at h
    cases h

/-- what stands at each round's head of the second loop -/
def BackInv (N g : Nat) (bs : List UInt8) (B : World) (k : Nat) (told i at_ : Value) (wr : World) : Prop :=
  ∃ t j : Nat, i = .int .i64 j ∧ at_ = .int .i64 t ∧ t ≤ N ∧ k = N - t ∧ j ≤ t ∧ StInv g B (bs.take t) told wr
/-- what stands at each round's head of the first loop -/
def EncInv (n : Nat) (xss : List (List UInt8)) (w : World) (b want i : Value) (wr : World) : Prop :=
  ∃ (j : Nat) (BA WA : Option Addr) (bc wc : Nat) (wvs : List Value), j ≤ n ∧ i = .int .i64 (j : Int) ∧ b = .slice BA (stream (xss.take j)).length bc ∧ want = .slice WA ((xss.take j).filter good).length wc ∧
    wr.ownsRow w.heap.size 5 1 (.slice BA (stream (xss.take j)).length bc) (stream (xss.take j)).length ((stream (xss.take j)).map B8) ∧
    wr.ownsRow w.heap.size 22 1 (.slice WA ((xss.take j).filter good).length wc) ((xss.take j).filter good).length wvs ∧ Rows2 wr 0 w.heap.size wvs ((xss.take j).filter good) ∧ Below w.heap.size w wr

set_option maxRecDepth 100000 in
set_option maxHeartbeats 4000000 in
theorem back_any (n c cn cc : Nat) (A CA : Option Addr) (vs : List Value) (xss : List (List UInt8)) (zs : List Int) (w : World) (hr : Reads w 0 w.heap.size 1 A n vs) (hx : Rows2 w 0 w.heap.size vs xss)
    (hz : Reads w 0 w.heap.size 1 CA cn (zs.map (Value.int .i64))) (hsz : (xss.map fun x => x.length + 1).sum ≤ 1048576) :
    Calls Try.prog 6 #[.slice A n c, .slice CA cn cc] w fun e w' => e = .returned (.bool true) ∧ Below w.heap.size w w' := by
  have hl : vs.length = n := by simpa using hr.1
  have hxl := hx.length
  have hn : n ≤ 1048576 := by have := sum_len xss; omega
  have HL := hide (And.intro hl hxl)
  have HX := hide (And.intro hr (And.intro hx hsz))
  have HZ := hide hz
  clear hl hxl hr hx hsz hz
  go_enter Try.func6, Try.ntmps6
  go_wp2_with fail
  go_loopw [5, 6, 7] (fun b want i wr => EncInv n xss w b want i wr) (fun _ _ i _ => n - (intOf i).toNat)
  case atStart => exact ⟨0, none, none, 0, 0, [], Nat.zero_le _, rfl, rfl, rfl, World.ownsRow_nil _ _ _ _, World.ownsRow_nil _ _ _ _, trivial, Below.refl _ _⟩
  case round =>
    obtain ⟨j, BA, WA, bc, wc, wvs, hj, rfl, rfl, rfl, hb, hw, hwr, hB⟩ := hrel
    have hS := hB.size
    by_cases hlt : j < n
    · obtain ⟨e1, e2⟩ := HL.out
      obtain ⟨hr, hx, hsz⟩ := HX.out
      obtain ⟨Ap, np, cp, x, g1, g2, hcp, hrp⟩ := hx.at_ (k := j) (by omega)
      obtain ⟨b0, o0, rfl, _, hb0, _, hcell⟩ := hr.plain (by omega) (by omega)
      have c0 : wr.cell? ⟨b0, o0 + j, none⟩ = some (.slice Ap np cp) := by rw [hB.cell (p := ⟨b0, o0 + j, none⟩) hb0, hcell j (by omega), g1]
      have hnp : x.length = np := by simpa using hrp.1
      have hst := stream_len (xss.take j)
      have hst' := take_sum xss j
      have hst2 : (stream (xss.take j)).length ≤ 5242880 := by omega
      have hfl : ((xss.take j).filter good).length ≤ 1048576 := by
        have h1 := List.length_filter_le good (xss.take j)
        rw [List.length_take] at h1
        omega
      have hb0' : b0 < wr.heap.size := by omega
      obtain ⟨s1, s2⟩ := stream_snoc g2
      by_cases hg : 1 ≤ np ∧ np ≤ 32768
      · obtain ⟨hg1, hg2⟩ := hg
        have hgx : good x = true := by simp [good]; omega
        rw [if_pos hgx] at s1 s2
        have HS := hide (And.intro s1 s2)
        have HN := hide hnp
        clear g1 g2 hcell e1 e2 hnp hr hx hsz hst hst' s1 s2 hgx
        go_wp2_with fail
        refine (enc_ok w.heap.size np cp Ap x wr (hrp.below hB (Nat.le_refl _)) hg1 hg2 hS).mono ?_
        rintro e w1 ⟨A1, c1, rfl, hown1, hB1⟩
        obtain ⟨_, _, e, _, r1⟩ := own_form hown1
        cases e
        have hs1 := hB1.size
        have hb1 := own_only hb (Only.ofBelow (S := fun _ => False) hB1) (by simp)
        have hw1 := own_only hw (Only.ofBelow (S := fun _ => False) hB1) (by simp)
        have c1x : w1.cell? ⟨b0, o0 + j, none⟩ = some (.slice Ap np cp) := by rw [hB1.cell (p := ⟨b0, o0 + j, none⟩) hb0', c0]
        go_wp2_with (at_builtin; refine pause ?_)
        refine unpause ?_
        refine wpList_app el22 (.tmp 33) (.tmp 34) hb1 r1 (B8_one _) (N := (stream (xss.take (j + 1))).length) (ys := (stream (xss.take (j + 1))).map B8) (by rw [HS.out.1, List.length_append, encB_len, HN.out]) (by rw [HS.out.1, List.map_append]) ?_ ?_ (by omega) rfl rfl rfl rfl ?_
        · rw [HS.out.1, List.length_append, encB_len]; unfold maxLen; have := HN.out; omega
        · rw [HS.out.1, List.length_append, encB_len]; have := HN.out; omega
        intro A2 c2 w2 hown2 hg2' hb2
        have c2x : w2.cell? ⟨b0, o0 + j, none⟩ = some (.slice Ap np cp) := by
          rw [World.cell?_of_block (w := w1) (hg2'.block b0 (by omega) (fun h => by have := (hb1.lt b0 h.symm).1; omega)), c1x]
        have hw2 := (own_grown hw1 hg2' (own_own_ne hw1 hb1 (by decide))).alloc (.cells #[.slice Ap np cp] 22)
        have hs2 := hg2'.size
        go_wp2_with (at_builtin; refine pause ?_)
        refine unpause ?_
        refine wpList_app el28 (.tmp 36) (.tmp 41) hw2 (Reads.lit _ _ _ 1 1 rfl) (by simp [Value.oneCell']) (N := ((xss.take (j + 1)).filter good).length) (ys := wvs ++ [.slice Ap np cp]) (by rw [HS.out.2, List.length_append]; rfl) rfl ?_ ?_ (by simp; omega) rfl rfl rfl rfl ?_
        · rw [HS.out.2, List.length_append]; unfold maxLen; simp; omega
        · rw [HS.out.2, List.length_append]; simp; omega
        intro A3 c3 w3 hown3 hg3 hb3
        have hB2 : Below w.heap.size w w2 := (hB.trans (hB1.mono hS)).grown hg2' (by omega) (fun k hk => (hb1.lt k hk).1)
        have hB3 : Below w.heap.size w w3 := (hB2.alloc hB2.size (.cells #[.slice Ap np cp] 22)).grown hg3 (by simp; omega) (fun k hk => (hw2.lt k hk).1)
        have ho3 := own_grown (hown2.alloc (.cells #[.slice Ap np cp] 22)) hg3 (own_own_ne (hown2.alloc _) hw2 (by decide))
        have hR : Rows2 w3 0 w.heap.size (wvs ++ [.slice Ap np cp]) ((xss.take (j + 1)).filter good) := by
          rw [HS.out.2]
          have h1 : Rows2 w 0 w.heap.size wvs ((xss.take j).filter good) := hwr.keep (fun p _ h2 => (hB.cell h2).symm)
          exact (h1.append (show Rows2 w 0 w.heap.size [.slice Ap np cp] [x] from ⟨⟨Ap, np, cp, rfl, hcp, hrp⟩, trivial⟩)).keep (fun p _ h2 => hB3.cell h2)
        have HF := hide (And.intro ho3 (And.intro hown3 (And.intro hR hB3)))
        clear ho3 hown3 hR hB3 hg3 hb3 hg2' hb2 hown2 hw2 hb1 hw1 hown1 r1 hb hw hwr
        go_wp2_with fail
        go_roundw
        case rel => exact ⟨j + 1, A2, A3, c2, c3, _, hlt, by go_num, rfl, rfl, HF.out.1, HF.out.2.1, HF.out.2.2.1, HF.out.2.2.2⟩
        case measure => simp [intOf]; omega
      · have hgx : ¬ good x = true := by simp [good]; omega
        rw [if_neg hgx, List.append_nil] at s1 s2
        have hbad : np < 1 ∨ 32768 < np := by omega
        have HF : Hid (EncInv n xss w (.slice BA (stream (xss.take j)).length bc) (.slice WA ((xss.take j).filter good).length wc) (.int .i64 ((j : Int) + 1)) wr) := by
          refine ⟨j + 1, BA, WA, bc, wc, wvs, hlt, by go_num, ?_⟩
          rw [s1, s2]
          exact ⟨rfl, rfl, hb, hw, hwr, hB⟩
        clear g1 g2 hcell e1 e2 hnp hr hx hsz hst hst' s1 s2 hgx hb hw hwr hg
        rcases hbad with hbad | hbad
        all_goals
          go_wp2_with fail
          refine (enc_no np cp Ap wr (by omega)).mono ?_
          rintro e w1 ⟨rfl, rfl⟩
          go_wp2_with fail
          go_roundw
          case rel => exact HF.out
          case measure => simp [intOf]; omega
    · have hjn : j = n := by omega
      subst hjn
      have ex : xss.take j = xss := List.take_of_length_le (by have := HL.out; omega)
      rw [ex] at hb hw hwr
      have eb : stream (xss.take j) = stream xss := by rw [ex]
      have eg : (xss.take j).filter good = xss.filter good := by rw [ex]
      have hst := stream_len xss
      have hst2 : (stream xss).length ≤ 5242880 := by have := HX.out.2.2; omega
      have hfl : (xss.filter good).length ≤ 1048576 := by
        have h1 := List.length_filter_le good xss
        have h2 := HL.out
        omega
      obtain ⟨_, _, e, hbc, rb⟩ := own_form hb
      cases e
      clear hst ex
      go_wp2_with (go_at_call 11; refine (new_any _).mono ?_; rintro e w1 ⟨rfl, rfl⟩)
      obtain ⟨W2, hW2⟩ : ∃ W2, W2 = wr.alloc (.cells #[.slice none 0 0, .bool false] 45) := ⟨_, rfl⟩
      have hB2 : Below wr.heap.size wr W2 := by rw [hW2]; exact (Below.refl _ wr).alloc (Nat.le_refl _) _
      have hy2 : Blk W2 wr.heap.size 45 #[.slice none 0 0, .bool false] := by rw [hW2]; exact Blk.new wr 45 _
      have hs2 : W2.heap.size = wr.heap.size + 1 := by rw [hW2]; simp
      rw [← hW2]
      clear hW2
      have rb2 : Reads W2 w.heap.size wr.heap.size 1 BA (stream xss).length ((stream xss).map B8) := rb.below hB2 (Nat.le_refl _)
      have rz2 := HZ.out.below (hB.trans (hB2.mono hS)) (Nat.le_refl _)
      obtain ⟨_, _, e, hwc, rw0⟩ := own_form hw
      cases e
      have rw2 := rw0.below hB2 (Nat.le_refl _)
      have hwr2 := hwr.keep (w' := W2) (fun p _ h2 => hB2.cell (by omega))
      have HY := hide hy2
      have HS := hide hs2
      clear hs2 hy2 rb hb hw hwr rw0
      obtain ⟨wo, rfl⟩ : ∃ wo : World, wo = wr := ⟨_, rfl⟩
      go_loopg [11, 12, 13] (stream xss).length (fun k told i at_ wx => BackInv (stream xss).length wo.heap.size (stream xss) W2 k told i at_ wx)
      case atStart => exact ⟨0, 0, rfl, rfl, Nat.zero_le _, rfl, Nat.le_refl _, st_start rfl HY.out⟩
      case round =>
        obtain ⟨t, jj, rfl, rfl, ht, rfl, hjj, hst⟩ := hrel
        obtain ⟨HA, TA, hc, tc, M, ts, rfl, h1, h2, h3, h4, h5, h6, h7, h8⟩ := hst
        have hs7 := h7.size
        have hsw : W2.heap.size = wo.heap.size + 1 := HS.out
        have HSW := hide hsw
        by_cases hlt : t < (stream xss).length
        · obtain ⟨rest, hrb⟩ : ∃ rest, (parse ((stream xss).take t)).2 = some rest := by
            exact stream_front xss t
          rw [hrb] at h1 h2
          have HB := hide hrb
          have hrest : rest.length ≤ 32771 := by
            have := parse_rest _ ((stream xss).take t) (Nat.le_refl _)
            rw [hrb] at this
            exact this
          have hwo : wo.heap.size ≤ W2.heap.size := by omega
          clear hrb hsw
          go_wp2_with fail
          rw [show (((stream xss).length : Int) - (t : Int)) = (((stream xss).length - t : Nat) : Int) from by omega]
          refine (piece_any 0 w.heap.size cn cc jj ((stream xss).length - t) CA zs wr (rz2.below (h7.below (fun k _ h => by omega) (by omega)) (Nat.le_refl _)) (by omega) (by omega)).mono ?_
          rintro e w4 ⟨rfl, rfl⟩
          obtain ⟨m, hm⟩ : ∃ m, m = pieceOf zs jj ((stream xss).length - t) := ⟨_, rfl⟩
          have hm1 : 1 ≤ m ∧ m ≤ (stream xss).length - t := by rw [hm]; exact pieceOf_bounds _ _ _ (by omega)
          rw [← hm]
          obtain ⟨hm1, hm2⟩ := hm1
          have hmn : t + m ≤ (stream xss).length := by omega
          clear hm
          have hpc : Reads wr w.heap.size wo.heap.size 1 (BA.map (·.add t)) m ((((stream xss).drop t).take m).map B8) := by
            have h := ((rb2.only h7 (fun k _ h2 h => by omega) hwo).cut_ (k := t) (by omega)).take (k := m) (by omega)
            rw [Nat.mul_one, Nat.mul_one, ← List.map_drop, ← List.map_take] at h
            exact h
          have hpre : (stream xss).take t ++ ((stream xss).drop t).take m = (stream xss).take (t + m) := List.take_add.symm
          have HQ := hide hpre
          clear hpre
          have hcnt := parse_count _ ((stream xss).take t) (Nat.le_refl _)
          rw [List.length_take] at hcnt
          have hcnt' : (parse ((stream xss).take t)).1.length ≤ (stream xss).length := by omega
          clear hcnt
          go_wp2_with fail
          refine (feed_ok wo.heap.size M w.heap.size wo.heap.size rest.length m _ _ _ rest (((stream xss).drop t).take m) wr h1 h2 hpc (by omega) h6).mono ?_
          intro e w4 hf
          obtain ⟨fs4, r4, A6, A7, c6, c7, mid4, us4, hp4, rfl, k1, k2, k3, k4, k5, k6, k7, k8, k9, k10⟩ := feed_open hf
          have h31 : w4.ownsRow W2.heap.size 22 1 (.slice TA (parse ((stream xss).take t)).1.length tc) (parse ((stream xss).take t)).1.length ts := own_only h3 k8 (fun k hk h => by
            rcases h with rfl | h
            · exact own_ne_blk h3 h1 (by decide) _ hk rfl
            · exact own_own_ne h3 h2 (by decide) k hk h)
          have hs4 := k8.size
          have k9' : fs4.length ≤ 5275651 := by
            rw [List.length_append, List.length_take] at k9
            omega
          obtain ⟨_, _, e, _, rk⟩ := own_form k3
          cases e
          have e9 : errOf r4 = 0 := by
            have h9 := (parse_append _ ((stream xss).take t) (((stream xss).drop t).take m) (Nat.le_refl _)).1 rest HB.out
            rw [HQ.out, ← hp4] at h9
            obtain ⟨r9, h10⟩ : ∃ r, (parse ((stream xss).take (t + m))).2 = some r := by
              exact stream_front xss (t + m)
            rw [h9] at h10
            simp only at h10
            rw [h10]
            rfl
          have HP4 := hide hp4
          clear hp4 hf k9
          go_wp2_with (at_builtin; refine pause ?_)
          refine unpause ?_
          refine wpList_app el28 (.tmp 91) (.tmp 92) h31 rk (k5.one) (N := (parse ((stream xss).take t)).1.length + fs4.length) (ys := ts ++ us4) rfl rfl (by unfold maxLen; omega) (by omega) (by omega) rfl rfl rfl rfl ?_
          intro A5 c5 w5 hown5 hg5 hb5
          have hst := st_step HB.out HP4.out h1 h2 h3 h4 h5 h6 h7 h8 k1 k2 k5 k6 k7 k8 rfl hown5 hg5
          rw [HQ.out] at hst
          have HST := hide hst
          clear hst e9 hown5 hg5 hb5 h1 h2 h3 h4 h31 k3 k4 k5 k6 k7 k8 rk
          go_wp2_with fail
          go_roundg ((stream xss).length - (t + m))
          case measure => omega
          case rel => exact ⟨t + m, jj + 1, by go_num, by go_num, hmn, rfl, by omega, HST.out⟩
        · have htn : t = (stream xss).length := by omega
          have eP : parse ((stream xss).take t) = (xss.filter good, some []) := by
            rw [htn, List.take_of_length_le (Nat.le_refl _)]
            exact stream_parse xss
          rw [eP] at h1 h2 h3 h4
          have rk := Reads.of_own h3
          have rk5 := (h4.reads h6).more (Nat.zero_le _) h6
          have rw3 := rw2.only h7 (fun k _ h2 h => by omega) (by omega)
          have rx3 := (hwr2.only h7 (fun k _ h2 h => by omega) (by omega)).more (Nat.zero_le _) (show w.heap.size ≤ wr.heap.size by omega)
          have HT := hide htn
          clear htn hsw h2 h3 h4
          have hh0 : Blk wr wo.heap.size 45 #[.slice HA 0 hc, .bool false] := h1
          clear h1
          go_wp2_with fail
          refine (same_any 0 wr.heap.size _ _ _ _ (xss.filter good).length tc (xss.filter good).length wc TA WA ts wvs (xss.filter good) (xss.filter good) wr rk rw3 rk5 rx3 (by omega) (by omega)).mono ?_
          rintro e w5 ⟨rfl, q, rfl⟩
          go_wp2_with fail
          refine (held_any _ _ _ _ _ _ (hh0.drewN q)).mono ?_
          rintro e w5 ⟨rfl, rfl⟩
          go_wp2_with fail
          refine (broken_any _ _ _ _ (hh0.drewN q)).mono ?_
          rintro e w5 ⟨rfl, rfl⟩
          go_wp2_with fail
          refine (works_any _).mono ?_
          rintro e w5 ⟨rfl, hb5⟩
          go_wp2_with fail
          go_ret
          refine ⟨rfl, hB.trans ((hB2.mono hS).trans (Below.trans (h7.below (fun k _ h => by omega) (by omega)) ?_))⟩
          have h9 : Below wr.heap.size wr w5 := ⟨hb5.os, hb5.tape, hb5.output, hb5.size, hb5.block⟩
          exact h9.mono (by omega)

theorem frameBack_walk (H : Type) (enc : TypeId × Value → H) (W : World) (base : Nat) (v0 : Value) (d0 : DataW H) (p0 : List MemPlace) (v1 : Value) (d1 : DataW H) (p1 : List MemPlace) (x0 : Value.okWide Try.prog W .any base 28 v0) (h0 : DataW.Trod enc Try.prog W 0 (fun _ => true) true 28 v0 d0 p0)
    (x1 : Value.okWide Try.prog W .any base 39 v1) (h1 : DataW.Trod enc Try.prog W 0 (fun _ => true) true 39 v1 d1 p1)
    (hk : Rows.uptoSmall H ([d0, d1] ++ []) = true) : Calls Try.prog 6 #[v0, v1] W fun e W' => e = .returned (.bool true) ∧ Below W.heap.size W W' := by
  obtain ⟨A, n, c, vs, xss, rfl, hc, hr, hx, hb⟩ := arg_rows x0 h0
  obtain ⟨A1, n1, c1, zs, rfl, hc1, hr1, _, hb1⟩ := arg_ints x1 h1
  have h : Rows.uptoBulkAll [d0, d1] ≤ 1048576 := of_decide_eq_true hk
  simp only [Rows.uptoBulkAll] at h
  exact back_any n c n1 c1 A A1 vs xss zs W hr hx hr1 (by omega)

end Go.Proofs.Ythcdepjchbahoaa
