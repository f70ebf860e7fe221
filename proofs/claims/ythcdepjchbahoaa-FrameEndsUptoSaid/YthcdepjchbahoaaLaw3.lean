/- FrameCuts: in any pieces a stream tells what it tells as one piece; where what comes in is of small bulk. -/
import Derived.Test.YthcdepjchbahoaaStr
namespace Go.Proofs.Ythcdepjchbahoaa
open Go.RowKit Go.WideShapes Mem
set_option linter.unusedVariables false

def CutInv (n g : Nat) (bs : List UInt8) (B : World) (k : Nat) (told f i at_ : Value) (wr : World) : Prop :=
  ∃ t j : Nat, i = .int .i64 j ∧ at_ = .int .i64 t ∧ t ≤ n ∧ k = n - t ∧ j ≤ t ∧ f = .int .i64 (errOf (parse (bs.take t)).2) ∧ StInv g B (bs.take t) told wr

set_option maxRecDepth 100000 in
set_option maxHeartbeats 4000000 in
theorem cuts_any (n c cn cc : Nat) (A CA : Option Addr) (bs : List UInt8) (zs : List Int) (w : World) (hr : Reads w 0 w.heap.size 1 A n (bs.map B8)) (hnc : n ≤ c) (hz : Reads w 0 w.heap.size 1 CA cn (zs.map (Value.int .i64))) (hsz : n ≤ 1048576) :
    Calls Try.prog 5 #[.slice A n c, .slice CA cn cc] w fun e w' => e = .returned (.bool true) ∧ Below w.heap.size w w' := by
  have hl : bs.length = n := by simpa using hr.1
  have HL := hide hl
  clear hl
  go_enter Try.func5, Try.ntmps5
  go_wp2_with (go_at_call 11; refine (new_any _).mono ?_; rintro e w1 ⟨rfl, rfl⟩)
  obtain ⟨W2, hW2⟩ : ∃ W2, W2 = (w.alloc (.cells #[.slice none 0 0, .bool false] 45)).alloc (.cells #[.slice none 0 0, .bool false] 45) := ⟨_, rfl⟩
  have hB2 : Below w.heap.size w W2 := by rw [hW2]; exact ((Below.refl _ w).alloc (Nat.le_refl _) _).alloc (by simp) _
  have hx2 : Blk W2 w.heap.size 45 #[.slice none 0 0, .bool false] := by rw [hW2]; exact (Blk.new w 45 _).alloc _
  have hy2 : Blk W2 (w.heap.size + 1) 45 #[.slice none 0 0, .bool false] := by
    have h := Blk.new (w.alloc (.cells #[.slice none 0 0, .bool false] 45)) 45 #[.slice none 0 0, .bool false]
    simp only [World.size_alloc] at h
    rw [hW2]
    exact h
  have hs2 : W2.heap.size = w.heap.size + 2 := by rw [hW2]; simp
  rw [← hW2]
  clear hW2
  refine (feed_ok w.heap.size W2.heap.size 0 w.heap.size 0 n c (.slice none 0 0) A [] bs W2 hx2 (World.ownsRow_nil _ _ _ _) (hr.below hB2 (Nat.le_refl _)) (by omega) (Nat.le_refl _)).mono ?_
  intro e w3 hf
  rw [List.nil_append] at hf
  obtain ⟨fs, r, A3, A4, c3, c4, mid, us, hp, rfl, f1, f2, f3, f4, f5, f6, f7, f8, f9, f10⟩ := feed_open hf
  have HP := hide hp
  clear hp hf
  have hs3 := f8.size
  have hB3 : Below w.heap.size w w3 := hB2.trans (f8.below (fun k _ h => by
    rcases h with rfl | h
    · exact Nat.le_refl _
    · cases h) (by omega))
  have hy3 := hy2.only f8 (by
    rintro (h | h)
    · omega
    · cases h)
  have hr3 := hr.below hB3 (Nat.le_refl _)
  have hz3 := hz.below hB3 (Nat.le_refl _)
  have HS := hide hs2
  have H3 := hide (And.intro f3 (And.intro f4 (And.intro f5 (And.intro f6 (And.intro f7 f8)))))
  have hs3' : w.heap.size + 2 ≤ w3.heap.size := by omega
  have HY := hide hy3
  clear f3 f4 f5 f6 f7 f8 hy2 hx2 hs2 hr hz hy3
  go_wp2_with fail
  go_loopg [9, 10, 11, 12] n (fun k told f i at_ wr => CutInv n (w.heap.size + 1) bs w3 k told f i at_ wr)
  case atStart => exact ⟨0, 0, rfl, rfl, Nat.zero_le _, rfl, Nat.le_refl _, rfl, st_start rfl HY.out⟩
  case round =>
    obtain ⟨t, j, rfl, rfl, ht, rfl, hj, rfl, hst⟩ := hrel
    obtain ⟨HA, TA, hc, tc, M, ts, rfl, h1, h2, h3, h4, h5, h6, h7, h8⟩ := hst
    by_cases hlt : t < n
    · have hB : Below w.heap.size w3 w3 := Below.refl _ _
      go_wp2_with fail
      rw [show ((n : Int) - (t : Int)) = ((n - t : Nat) : Int) from by omega]
      refine (piece_any 0 w.heap.size cn cc j (n - t) CA zs wr (hz3.below (h7.below (fun k _ h => by omega) (by omega)) (Nat.le_refl _)) (by omega) (by omega)).mono ?_
      rintro e w4 ⟨rfl, rfl⟩
      obtain ⟨m, hm⟩ : ∃ m, m = pieceOf zs j (n - t) := ⟨_, rfl⟩
      have hm1 : 1 ≤ m ∧ m ≤ n - t := by rw [hm]; exact pieceOf_bounds _ _ _ (by omega)
      rw [← hm]
      obtain ⟨hm1, hm2⟩ := hm1
      have hmn : t + m ≤ n := by omega
      clear hm
      go_wp2_with fail
      have hpc : Reads wr 0 w.heap.size 1 (A.map (·.add t)) m (((bs.drop t).take m).map B8) := by
        have h := ((hr3.below (h7.below (fun k _ h => by omega) (by omega)) (Nat.le_refl _)).cut_ (k := t) (by omega)).take (k := m) (by omega)
        rw [Nat.mul_one, Nat.mul_one, ← List.map_drop, ← List.map_take] at h
        exact h
      have hpre : bs.take t ++ (bs.drop t).take m = bs.take (t + m) := List.take_add.symm
      have HQ := hide hpre
      clear hpre
      have hcnt := parse_count _ (bs.take t) (Nat.le_refl _)
      rw [List.length_take] at hcnt
      have hcnt' : (parse (bs.take t)).1.length ≤ n := by omega
      clear hcnt
      cases hb : (parse (bs.take t)).2 with
      | none =>
        rw [hb] at h1
        have HB := hide hb
        clear hb
        refine (feed_no (w.heap.size + 1) m (c - t) _ _ wr h1).mono ?_
        rintro e w4 ⟨rfl, rfl⟩
        go_wp2_with (at_builtin; refine pause ?_)
        refine unpause ?_
        refine wpList_app el28 (.tmp 54) (.tmp 55) h3 (Reads.none_ (lo := 0) (hi := 0)) (by simp) (N := (parse (bs.take t)).1.length) (ys := ts) (by omega) (by simp) (by unfold maxLen; omega) (by omega) (by omega) rfl rfl rfl rfl ?_
        intro A5 c5 w5 hown5 hg5 hb5
        have hst := st_no (p := (bs.drop t).take m) HB.out (by rw [HB.out]; exact h1) h2 h3 h4 h5 h6 h7 h8 hown5 hg5
        rw [HQ.out] at hst
        have HST := hide hst
        have e9 : errOf (parse (bs.take (t + m))).2 = 9 := by
          rw [← HQ.out, (parse_append _ (bs.take t) ((bs.drop t).take m) (Nat.le_refl _)).2 HB.out, HB.out]
          rfl
        have E9 := hide e9
        have eN : (parse (bs.take (t + m))).1.length = (parse (bs.take t)).1.length := by
          rw [← HQ.out, (parse_append _ (bs.take t) ((bs.drop t).take m) (Nat.le_refl _)).2 HB.out]
        have EN := hide eN
        clear hst e9 eN hown5 hg5 hb5 h1 h2 h3 h4
        go_wp2_with fail
        go_roundg (n - (t + m))
        case measure => omega
        case rel => exact ⟨t + m, j + 1, by go_num, by go_num, hmn, rfl, by omega, by rw [E9.out], HST.out⟩
      | some rest =>
        rw [hb] at h1 h2
        have HB := hide hb
        clear hb
        have hrest : rest.length ≤ 32771 := by
          have := parse_rest _ (bs.take t) (Nat.le_refl _)
          rw [HB.out] at this
          exact this
        refine (feed_ok (w.heap.size + 1) M 0 w.heap.size rest.length m (c - t) _ _ rest ((bs.drop t).take m) wr h1 h2 hpc (by omega) h6).mono ?_
        intro e w4 hf
        obtain ⟨fs4, r4, A6, A7, c6, c7, mid4, us4, hp4, rfl, k1, k2, k3, k4, k5, k6, k7, k8, k9, k10⟩ := feed_open hf
        have h31 : w4.ownsRow w3.heap.size 22 1 (.slice TA (parse (bs.take t)).1.length tc) (parse (bs.take t)).1.length ts := own_only h3 k8 (fun k hk h => by
          rcases h with rfl | h
          · exact own_ne_blk h3 h1 (by decide) _ hk rfl
          · exact own_own_ne h3 h2 (by decide) k hk h)
        have hs4 := k8.size
        have k9' : fs4.length ≤ 1081347 := by
          rw [List.length_append, List.length_take] at k9
          omega
        obtain ⟨_, _, e, _, rk⟩ := own_form k3
        cases e
        have HP4 := hide hp4
        clear hp4 hf k9
        go_wp2_with (at_builtin; refine pause ?_)
        refine unpause ?_
        refine wpList_app el28 (.tmp 54) (.tmp 55) h31 rk (k5.one) (N := (parse (bs.take t)).1.length + fs4.length) (ys := ts ++ us4) rfl rfl (by unfold maxLen; omega) (by omega) (by omega) rfl rfl rfl rfl ?_
        intro A5 c5 w5 hown5 hg5 hb5
        have hst := st_step HB.out HP4.out h1 h2 h3 h4 h5 h6 h7 h8 k1 k2 k5 k6 k7 k8 rfl hown5 hg5
        rw [HQ.out] at hst
        have HST := hide hst
        have e9 : errOf (parse (bs.take (t + m))).2 = errOf r4 := by
          rw [← HQ.out, (parse_append _ (bs.take t) ((bs.drop t).take m) (Nat.le_refl _)).1 rest HB.out, ← HP4.out]
        have E9 := hide e9
        clear hst e9 hown5 hg5 hb5 h1 h2 h3 h4 h31 k3 k4 k5 k6 k7 k8 rk
        go_wp2_with fail
        go_roundg (n - (t + m))
        case measure => omega
        case rel => exact ⟨t + m, j + 1, by go_num, by go_num, hmn, rfl, by omega, by rw [E9.out], HST.out⟩
    · have htn : t = n := by omega
      subst htn
      have eb : bs.take t = bs := List.take_of_length_le (by rw [HL.out]; exact Nat.le_refl _)
      have eP : parse (bs.take t) = (fs, r) := by rw [eb]; exact HP.out.symm
      rw [eP] at h1 h2 h3 h4
      clear eb
      obtain ⟨g3, g4, g5, g6, g7, g8⟩ := H3.out
      have hs7 := h7.size
      have nS : ∀ k, k < w3.heap.size → W2.heap.size ≤ k → ¬ k = w.heap.size + 1 := by
        intro k _ hk e
        rw [HS.out] at hk
        omega
      have hx : Blk wr w.heap.size 45 #[.slice A4 (r.getD []).length c4, .bool r.isNone] := g6.only h7 (by omega)
      obtain ⟨_, _, e, _, rg3⟩ := own_form g3
      cases e
      have rg3' := rg3.only h7 (fun k h1 h2 => nS k h2 h1) (Nat.le_refl _)
      have rg5' := ((g5.reads f2).only h7 (fun k h1 h2 => nS k (by omega) h1) f2).more (Nat.zero_le _) (show mid ≤ wr.heap.size by omega)
      have rk := Reads.of_own h3
      have rk5 := (h4.reads h6).more (Nat.zero_le _) h6
      have hfl : fs.length ≤ 1048576 := by rw [HL.out] at f9; omega
      have HN := hide nS
      clear nS g3 g4 g5 g6 g7 g8 rg3 h2 h3 h4
      go_wp2_with fail
      refine (same_any 0 wr.heap.size _ _ _ _ fs.length c3 fs.length tc A3 TA us ts fs fs wr rg3' rk rg5' rk5 (by omega) (by omega)).mono ?_
      rintro e w5 ⟨rfl, q, rfl⟩
      go_wp2_with fail
      refine (held_any _ _ _ _ _ _ (hx.drewN q)).mono ?_
      rintro e w5 ⟨rfl, rfl⟩
      go_wp2_with fail
      refine (held_any _ _ _ _ _ _ (h1.drewN q)).mono ?_
      rintro e w5 ⟨rfl, rfl⟩
      go_wp2_with fail
      refine (broken_any _ _ _ _ (hx.drewN q)).mono ?_
      rintro e w5 ⟨rfl, rfl⟩
      go_wp2_with fail
      refine (broken_any _ _ _ _ (h1.drewN q)).mono ?_
      rintro e w5 ⟨rfl, rfl⟩
      go_wp2_with fail
      refine (works_any _).mono ?_
      rintro e w5 ⟨rfl, hb5⟩
      go_wp2_with fail
      go_ret
      refine ⟨rfl, hB3.trans (Below.trans (h7.below (fun k _ h => by omega) (by omega)) ?_)⟩
      have h9 : Below wr.heap.size wr w5 := ⟨hb5.os, hb5.tape, hb5.output, hb5.size, hb5.block⟩
      exact h9.mono (by omega)

theorem arg_bytes {H : Type} {enc : TypeId × Value → H} {W : World} {base : Nat} {v : Value} {d : DataW H} {p : List MemPlace} (x : Value.okWide Try.prog W .any base 22 v) (h : DataW.Trod enc Try.prog W 0 (fun _ => true) true 22 v d p) :
    ∃ (A : Option Addr) (n c : Nat) (xs : List UInt8), v = .slice A n c ∧ n ≤ c ∧ Reads W 0 W.heap.size 1 A n (xs.map B8) ∧ n + 1 ≤ Rows.uptoBulk d := by
  obtain ⟨a, n, c, rfl⟩ := okWide_slice Try.underlying22 x
  obtain ⟨fuel, hf⟩ := h
  exact rd_bytes Try.underlying22 Try.underlying5 (by kernel_rfl) hf
theorem arg_ints {H : Type} {enc : TypeId × Value → H} {W : World} {base : Nat} {v : Value} {d : DataW H} {p : List MemPlace} (x : Value.okWide Try.prog W .any base 39 v) (h : DataW.Trod enc Try.prog W 0 (fun _ => true) true 39 v d p) :
    ∃ (A : Option Addr) (n c : Nat) (zs : List Int), v = .slice A n c ∧ n ≤ c ∧ Reads W 0 W.heap.size 1 A n (zs.map (Value.int .i64)) ∧ (∀ z ∈ zs, (Lit.int .i64 z).wf = true) ∧ n + 1 ≤ Rows.uptoBulk d := by
  obtain ⟨a, n, c, rfl⟩ := okWide_slice Try.underlying39 x
  obtain ⟨fuel, hf⟩ := h
  exact rd_ints Try.underlying39 Try.underlying3 (by kernel_rfl) hf

theorem frameCuts_walk (H : Type) (enc : TypeId × Value → H) (W : World) (base : Nat) (v0 : Value) (d0 : DataW H) (p0 : List MemPlace) (v1 : Value) (d1 : DataW H) (p1 : List MemPlace) (x0 : Value.okWide Try.prog W .any base 22 v0) (h0 : DataW.Trod enc Try.prog W 0 (fun _ => true) true 22 v0 d0 p0)
    (x1 : Value.okWide Try.prog W .any base 39 v1) (h1 : DataW.Trod enc Try.prog W 0 (fun _ => true) true 39 v1 d1 p1)
    (hk : Rows.uptoSmall H ([d0, d1] ++ []) = true) : Calls Try.prog 5 #[v0, v1] W fun e W' => e = .returned (.bool true) ∧ Below W.heap.size W W' := by
  obtain ⟨A, n, c, xs, rfl, hc, hr, hb⟩ := arg_bytes x0 h0
  obtain ⟨A1, n1, c1, zs, rfl, hc1, hr1, _, hb1⟩ := arg_ints x1 h1
  have h : Rows.uptoBulkAll [d0, d1] ≤ 1048576 := of_decide_eq_true hk
  simp only [Rows.uptoBulkAll] at h
  exact cuts_any n c n1 c1 A A1 xs zs W hr hc hr1 (by omega)

end Go.Proofs.Ythcdepjchbahoaa
