/- A reader of bytes: lists. -/
import Derived.Test.YtaapbiiiepdopaaRx
import Derived.Deep.CutRange
namespace Go.Proofs.Ytaapbiiiepdopaa
open Go.RowKit Mem
set_option linter.unusedVariables false

/-- what value does so deep -/
def ValC (g : Nat) (A : Option Addr) (n c : Nat) (bs : List UInt8) (d : Nat) : Prop := ∀ {w : World} {at_ p : Nat}, RS w g A n c bs at_ p → p ≤ 4096 →
  Calls Try.prog 41 #[.pointer (some ⟨g, 0, none⟩), .int .i64 (d : Int)] w fun e w' => ValP (rd bs d p at_) g A n c bs w e w'
theorem rows_next {bs : List UInt8} {f : Nat → Nat → Rd} {m : Bool} {j : Nat} {vs : List V} {ks ks' : List ByteArray} {p at_ c : Nat} {v : V} {at' q : Nat} (h1 : rkeys m ks (bs.drop at_) = .ok (ks', c)) (h2 : f p (at_ + c) = .ok (v, at', q)) : rows bs f m (j + 1) vs ks p at_ = rows bs f m j (vs ++ [v]) ks' q at' := by
  rw [rows, h1]
  dsimp only
  rw [h2]
theorem rows_val {bs : List UInt8} {f : Nat → Nat → Rd} {m : Bool} {j : Nat} {vs : List V} {ks ks' : List ByteArray} {p at_ c : Nat} {z : Int} (h1 : rkeys m ks (bs.drop at_) = .ok (ks', c)) (h2 : f p (at_ + c) = .error z) : rows bs f m (j + 1) vs ks p at_ = .error z := by
  rw [rows, h1]
  dsimp only
  rw [h2]
theorem rows_key {bs : List UInt8} {f : Nat → Nat → Rd} {m : Bool} {j : Nat} {vs : List V} {ks : List ByteArray} {p at_ : Nat} {z : Int} (h1 : rkeys m ks (bs.drop at_) = .error z) : rows bs f m (j + 1) vs ks p at_ = .error z := by rw [rows, h1]

set_option maxHeartbeats 600000 in
set_option maxRecDepth 100000 in
theorem val_t5 {w : World} {g n c at_ p d : Nat} {A : Option Addr} {bs : List UInt8} (h : RS w g A n c bs at_ p) (hp : p + 1 ≤ 4096) (hd : d + 1 ≤ 32) (hx : bs[at_]? = some 5) (ih : ValC g A n c bs d) :
    Calls Try.prog 41 #[.pointer (some ⟨g, 0, none⟩), .int .i64 ((d + 1 : Nat) : Int)] w fun e w' => ValP (rd bs (d + 1) p at_) g A n c bs w e w' := by
  have hr : rd bs (d + 1) p at_ = rdT bs (rd bs d) 5 (p + 1) (at_ + 1) := by
    rw [rd, hx]
    dsimp only
    rw [if_neg (by rw [show (5 : UInt8).toNat = 5 from rfl]; omega)]
    rfl
  have HQ := hide hr
  clear hr
  have e2 : decide ((0 : Int) < ((d + 1 : Nat) : Int)) = true := decide_eq_true (by omega)
  have e2' : decide ((0 : Int) < (d : Int) + 1) = true := decide_eq_true (by omega)
  have e3 : decide ((p : Int) + 1 ≤ 4096) = true := decide_eq_true (by omega)
  have H := hide h
  have hlt := h.blk.lt
  have H0 := h.grow ((Below.refl w.heap.size w).alloc (Nat.le_refl _) (.cells #[.int .i64 0, .bool false, .int .i64 0, .string ⟨#[]⟩, .slice none 0 0, .slice none 0 0] 25))
  have T0 : Rt g w (w.alloc (.cells #[.int .i64 0, .bool false, .int .i64 0, .string ⟨#[]⟩, .slice none 0 0, .slice none 0 0] 25)) := (Rt.refl g w).alloc _
  have X0 := Blk.new w 25 #[.int .i64 0, .bool false, .int .i64 0, .string ⟨#[]⟩, .slice none 0 0, .slice none 0 0]
  clear h
  go_enter Try.func41, Try.ntmps41
  go_wp2_with fail
  generalize w.alloc (.cells #[.int .i64 0, .bool false, .int .i64 0, .string ⟨#[]⟩, .slice none 0 0, .slice none 0 0] 25) = W0 at H0 T0 X0 ⊢
  generalize hX : w.heap.size = X at X0 ⊢
  have hXg : X ≠ g := by omega
  have HX := hide hX
  clear hX
  refine (next_ok H0 hx).mono ?_
  rintro e w1 ⟨he, hR1, hT1⟩
  rw [show (((5 : UInt8).toNat : Nat) : Int) = 5 by decide] at he
  subst he
  have X1 := X0.only hT1 hXg
  have T1 := T0.trans hT1
  have f2 : w1.cell? ⟨g, 2, none⟩ = some (.int .i64 (p : Int)) := blkR hR1.blk rfl
  have p2 : w1.frozen? ⟨g, 2, none⟩ = false := hR1.blk.frozen 2
  clear H0 T0 X0 hT1
  go_wp2_with fail
  have hB := hR1.blk.set_ 2 (.int .i64 ((p : Int) + 1))
  have hO : Only (fun k => k = g) w1 (w1.setCell ⟨g, 2, none⟩ (.int .i64 ((p : Int) + 1))) := (Only.refl (fun k => k = g) w1).setCell (p := ⟨g, 2, none⟩) (.inl rfl) _
  have hR2 : RS (w1.setCell ⟨g, 2, none⟩ (.int .i64 ((p : Int) + 1))) g A n c bs (at_ + 1) (p + 1) := ⟨by simpa using hB, hR1.rd.only hO (fun k _ hk => by omega) (Nat.le_of_lt hR1.blk.lt), hR1.le, hR1.nc, hR1.cm⟩
  have X2 := X1.only hO hXg
  have T2 : Rt g w _ := T1.trans hO
  generalize w1.setCell ⟨g, 2, none⟩ (.int .i64 ((p : Int) + 1)) = W at hR2 X2 T2 ⊢
  clear hR1 X1 T1 hB hO f2 p2
  refine (must_ok _ _ _).mono ?_
  rintro e w5 ⟨rfl, rfl⟩
  go_wp2_with fail
  have Y0 := Blk.new w5 25 #[.int .i64 4, .bool false, .int .i64 0, .string ⟨#[]⟩, .slice none 0 0, .slice none 0 0]
  have bY := (Below.refl w5.heap.size w5).alloc (Nat.le_refl _) (.cells #[.int .i64 4, .bool false, .int .i64 0, .string ⟨#[]⟩, .slice none 0 0, .slice none 0 0] 25)
  have hR2 := hR2.grow bY
  have hXY : X ≠ w5.heap.size := by have := X2.lt; omega
  have X2 := X2.alloc (.cells #[.int .i64 4, .bool false, .int .i64 0, .string ⟨#[]⟩, .slice none 0 0, .slice none 0 0] 25)
  have hYg : w5.heap.size ≠ g := by have := Only.size T2; omega
  have hBY : w.heap.size ≤ w5.heap.size := Only.size T2
  have T2 := T2.alloc (.cells #[.int .i64 4, .bool false, .int .i64 0, .string ⟨#[]⟩, .slice none 0 0, .slice none 0 0] 25)
  generalize w5.alloc (.cells #[.int .i64 4, .bool false, .int .i64 0, .string ⟨#[]⟩, .slice none 0 0, .slice none 0 0] 25) = w5' at Y0 hR2 X2 T2 ⊢
  generalize w5.heap.size = Y at Y0 hXY hYg hBY ⊢
  clear bY
  refine (rnum_any hR2).mono ?_
  intro e w6 he
  cases hn : rn 0 (bs.drop (at_ + 1)) with
  | error z =>
    rw [hn] at he
    obtain ⟨rfl, ht⟩ := he
    exact ⟨rfl, ValP_no (by rw [HQ.out, rdT, if_neg (by decide), if_neg (by decide), hn]) (T2.trans ht)⟩
  | ok q =>
    obtain ⟨m, k⟩ := q
    rw [hn] at he
    obtain ⟨rfl, hR3, ht⟩ := he
    have hm64 := (rn_of hn).1
    have X3 := X2.only ht hXg
    have T3 := T2.trans ht
    have hrd : rd bs (d + 1) p at_ = match rows bs (rd bs d) false m [] [] (p + 1) (at_ + 1 + k) with
      | .error e => .error e
      | .ok (vs, ks, at', q) => .ok (.mk 4 false 0 .empty vs ks, at', q) := by
      rw [HQ.out, rdT, if_neg (by decide), if_neg (by decide), hn]
      dsimp only
      rw [if_neg (by decide), if_neg (by decide), if_neg (by decide)]
      rfl
    have HRD := hide hrd
    have Y3 := Y0.only ht hYg
    have hXw := HX.out
    have L3 : LS w w6 g X Y A n c bs 4 (at_ + 1 + k) (p + 1) none 0 0 none 0 0 [] [] [] := ⟨hR3, Y3, X3, World.ownsRow_nil _ _ _ _, World.ownsRow_nil _ _ _ _, IsVs.nil, ⟨by simp [Value.ownBlock], by simp [Value.ownBlock], by simp [Value.ownBlock], by simp [Value.ownBlock], by simp [Value.ownBlock]⟩, T3, ⟨hlt, by omega, by omega, hXY⟩, rfl, rfl, Nat.zero_le _, Nat.zero_le _, hp, (by intro x hx; cases hx)⟩
    have HL3 := hide L3
    clear hn hrd X2 hR2 ht T2 X3 T3 Y0 Y3 hR3 L3
    go_wp2_with fail
    go_loopg [9] m (fun gj nv wr => ∃ (j at' p' : Nat) (AL : Option Addr) (nL cL : Nat) (AK : Option Addr) (nK cK : Nat) (vs : List V) (ks : List ByteArray) (xs : List Value), gj = j ∧ nv = .int .u64 (j : Nat) ∧ j ≤ m ∧ Hid (rows bs (rd bs d) false m [] [] (p + 1) (at_ + 1 + k) = rows bs (rd bs d) false j vs ks p' at') ∧ Hid (LS w wr g X Y A n c bs 4 at' p' AL nL cL AK nK cK vs ks xs))
    case atStart => exact ⟨m, _, _, none, 0, 0, none, 0, 0, [], [], [], rfl, rfl, Nat.le_refl _, rfl, HL3⟩
    case round =>
      obtain ⟨j, at', p', AL, nL, cL, AK, nK, cK, vs, ks, xs, rfl, rfl, hjm, hE, hL⟩ := hrel
      have f0 : wr.cell? ⟨Y, 0, none⟩ = some (.int .i64 4) := blkR hL.out.y rfl
      have f4 : wr.cell? ⟨Y, 4, none⟩ = some (.slice AL nL cL) := blkR hL.out.y rfl
      have q4 : wr.frozen? ⟨Y, 4, none⟩ = false := hL.out.y.frozen 4
      rcases Nat.eq_zero_or_pos gk with h0 | h0
      · subst h0
        have e7 : decide ((0 : Int) < ((0 : Nat) : Int)) = false := by decide
        have f1 : wr.cell? ⟨Y, 1, none⟩ = some (.bool false) := blkR hL.out.y rfl
        have f2 : wr.cell? ⟨Y, 2, none⟩ = some (.int .i64 0) := blkR hL.out.y rfl
        have f3 : wr.cell? ⟨Y, 3, none⟩ = some (.string ⟨#[]⟩) := blkR hL.out.y rfl
        have f5 : wr.cell? ⟨Y, 5, none⟩ = some (.slice AK nK cK) := blkR hL.out.y rfl
        have hfin : rd bs (d + 1) p at_ = .ok (.mk 4 false 0 .empty vs ks, at', p') := by rw [HRD.out, hE.out]; rfl
        have HR := hide hfin
        have XB := hL.out.x
        clear hfin hE q4
        have y0 : wr.cell? ⟨X, 0, none⟩ = some (.int .i64 0) := blkR XB rfl
        have y1 : wr.cell? ⟨X, 1, none⟩ = some (.bool false) := blkR XB rfl
        have y2 : wr.cell? ⟨X, 2, none⟩ = some (.int .i64 0) := blkR XB rfl
        have y3 : wr.cell? ⟨X, 3, none⟩ = some (.string ⟨#[]⟩) := blkR XB rfl
        have y4 : wr.cell? ⟨X, 4, none⟩ = some (.slice none 0 0) := blkR XB rfl
        have y5 : wr.cell? ⟨X, 5, none⟩ = some (.slice none 0 0) := blkR XB rfl
        have yf : ∀ i, wr.frozen? ⟨X, i, none⟩ = false := fun i => XB.frozen i
        have XE := set6 XB (.int .i64 4) (.bool false) (.int .i64 0) (.string ⟨#[]⟩) (.slice AL nL cL) (.slice AK nK cK)
        have OE := only6 (Only.refl (fun b => b = X) wr) (.inl rfl) (.int .i64 4) (.bool false) (.int .i64 0) (.string ⟨#[]⟩) (.slice AL nL cL) (.slice AK nK cK)
        have LE := hL.out.fin (by decide) OE
        have HLE := hide LE
        clear LE OE
        go_wp2
        refine bodyPost_ret (results_cell1 rfl _ _ X 25 _ _ rfl XE Try.underlying25 rfl (by kernel_rfl)) rfl ?_
        exact ValP_ok HR.out HLE.out.1 HLE.out.2.1 HLE.out.2.2
      · obtain ⟨j, rfl⟩ : ∃ j, gk = j + 1 := ⟨gk - 1, by omega⟩
        have e7 : decide ((0 : Int) < ((j + 1 : Nat) : Int)) = true := decide_eq_true (by omega)
        have e8 : decide ((0 : Int) < (j : Int) + 1) = true := decide_eq_true (by omega)
        have bL := hL.out.bL
        have bP := hL.out.bP
        have hk0 : rkeys false ks (bs.drop at') = .ok (ks, 0) := rfl
        have hcall := ih (w := wr.drew) (hL.out.rs.drewN 1) hL.out.bP
        have qd : IntKind.i64.wrap ((d : Int) + 1 - 1) = (d : Int) := by rw [show ((d : Int) + 1 - 1) = (d : Int) by omega]; exact IntWalk.i64_in _ (by omega)
        have qd2 : IntKind.i64.wrap (d : Int) = (d : Int) := IntWalk.i64_in _ (by omega)
        cases hv : rd bs d p' at' with
        | error z =>
          rw [hv] at hcall
          have hfin : rd bs (d + 1) p at_ = .error z := by rw [HRD.out, hE.out, rows_val hk0 hv]
          have HR := hide hfin
          have HC := hide hcall
          clear hfin hE hcall hv q4
          go_wp2_with fail
          refine wp_region_held_drew (S := fun W => W.cell? ⟨Y, 4, none⟩ = some (.slice AL nL cL)) (by kernel_rfl) f4 (fun hHeld => ?_)
          refine wpAnyH_take (i := 0) (v := ?_) rfl (by kernel_rfl) (by kernel_rfl) (by kernel_rfl) (fun _ _ _ h => h) (Or.inl ⟨by rfl, ?_⟩) (by assumption) ?_
          rotate_left
          · ((intro w hSw); (try dsimp only at hSw); first | (go_simp; done) | (go_simp; with_reducible rfl))
          refine wpAnyH_take (i := 1) (v := ?_) rfl (by kernel_rfl) (by kernel_rfl) (by kernel_rfl) (fun _ _ _ h => h) (Or.inl ⟨by rfl, ?_⟩) (by assumption) ?_
          rotate_left
          · ((intro w hSw); (try dsimp only at hSw); first | (go_simp; done) | (go_simp; with_reducible rfl))
          refine wpAnyH_take (i := 2) (v := ?_) rfl (by kernel_rfl) (by kernel_rfl) (by kernel_rfl) (fun _ _ _ h => h) (Or.inl ⟨by rfl, ?_⟩) (by assumption) ?_
          rotate_left
          · ((intro w hSw); (try dsimp only at hSw); first | (go_simp; done) | (go_simp; with_reducible rfl))
          refine wpAnyH_take (i := 3) (v := ?_) rfl (by kernel_rfl) (by kernel_rfl) (by kernel_rfl) (fun _ _ _ h => h) (Or.inl ⟨by rfl, ?_⟩) (by assumption) ?_
          rotate_left
          · ((intro w hSw); (try dsimp only at hSw); first | (go_simp; done) | (go_simp; with_reducible rfl))
          refine wpAnyH_take (i := 4) (v := ?_) rfl (by kernel_rfl) (by kernel_rfl) (by kernel_rfl) (fun _ _ _ h => h) (Or.inl ⟨by rfl, ?_⟩) (by assumption) ?_
          rotate_left
          · ((intro w hSw); (try dsimp only at hSw); first | (go_simp; done) | (go_simp; with_reducible rfl))
          simp only [Act.put, List.setIfInBounds_toArray]
          refine wpAnyH_ready (rs := [5]) (by kernel_rfl) (by simp) ?_
          refine AllReadyH.cons rfl (fun K hK => ?_) AllReadyH.nil
          go_simp
          refine HC.out.mono ?_
          trace_state
          rintro e w9 ⟨rfl, ht⟩
          exact ⟨rfl, ValP_no HR.out ((Rt.drewN hL.out.rt 1).trans ht)⟩
        | ok q3 =>
          obtain ⟨v, at2, q⟩ := q3
          rw [hv] at hcall
          have hnext := hE.out.trans (rows_next hk0 hv)
          have hge := may_ge _ _ _ _ (rd_one bs (by rw [hL.out.rs.len]; have := hL.out.rs.nc; have := hL.out.rs.cm; omega) d p' at' v at2 q hv).1
          have HN := hide hnext
          have HC := hide hcall
          clear hnext hE hcall hv
          go_wp2_with fail
          go_region_law (first
            | (refine step_app el22 (.tmp 108) (.tmp 113) (L7.alloc (.cells #[.int .i64 k2, .bool bb2, .int .i64 m2, .string s2, .slice AL2 nL2 cL2, .slice AK2 nK2 cK2] 25)).ol (Reads.lit w7 #[.int .i64 k2, .bool bb2, .int .i64 m2, .string s2, .slice AL2 nL2 cL2, .slice AK2 nK2 cK2] 25 1 6 rfl) hV7.oneCell rfl rfl (by unfold maxLen; omega) (by omega) (L7.alloc _).szle rfl rfl rfl rfl ?_; intro A8 c8 w8 ho8 hg8 hb8; have G8 := (L7.alloc (.cells #[.int .i64 k2, .bool bb2, .int .i64 m2, .string s2, .slice AL2 nL2 cL2, .slice AK2 nK2 cK2] 25)).y.grown hg8 (fun e => L7.lx.2.1 e.symm); have f8 : w8.cell? ⟨Y, 4, none⟩ = some (.slice AL nL cL) := blkR G8 rfl; have q8 : w8.frozen? ⟨Y, 4, none⟩ = false := G8.frozen 4)
            | (go_simp; go_at_call 41; (with_reducible refine HC.out.mono ?_); rintro e w7 ⟨cs, rfl, hV7, hR7, ht7⟩; have L7 := (hL.out.drewN 1).step ht7 hR7 (by omega) hge.2; obtain ⟨k2, bb2, m2, s2, AL2, nL2, cL2, AK2, nK2, cK2, rfl⟩ := hV7.shape; have f7 : w7.cell? ⟨Y, 4, none⟩ = some (.slice AL nL cL) := blkR L7.y rfl; have f7' : ∀ o, (w7.alloc o).cell? ⟨Y, 4, none⟩ = some (.slice AL nL cL) := fun o => blkR (L7.alloc o).y rfl))
          all_goals (have hX := hL.out.x.lt; have hY := hL.out.y.lt; have hsz := hL.out.szle; have LV := (L7.alloc (.cells #[.int .i64 k2, .bool bb2, .int .i64 m2, .string s2, .slice AL2 nL2 cL2, .slice AK2 nK2 cK2] 25)).val (hV7.alloc _) ⟨hX, hY, hsz, fun b hb => own_lt hL.out.ol hb, fun b hb => own_lt hL.out.ok hb⟩ ho8 hg8 hb8 (by omega))
          all_goals (have HLV := hide LV; clear LV ho8 hg8 hb8 G8 f8 q8 L7 hV7 hR7 ht7)
          all_goals go_wp2_with fail
          all_goals go_roundg j
          all_goals first
            | exact ⟨j, at2, q, A8, nL + 1, c8, AK, nK, cK, vs ++ [v], ks, _, rfl, by go_num, by omega, HN, HLV⟩
            | omega
end Go.Proofs.Ytaapbiiiepdopaa
