/- wattleref04's rows: maps. -/
import Derived.Test.YtaapbiiiepdopaaQaA
namespace Go.Proofs.Ytaapbiiiepdopaa
open Go.RowKit Mem
set_option linter.unusedVariables false

theorem TS.zero {w wr : World} {X Y : Nat} {AL AK : Option Addr} {nL cL nK cK : Nat} {k : Int} {vs : List V} {ks : List ByteArray} {xs : List Value} (h : TS w wr X Y k AL nL cL AK nK cK vs ks xs) :
    Blk ((((((wr.setCell ⟨X, 0, none⟩ (.int .i64 0)).setCell ⟨X, 1, none⟩ (.bool false)).setCell ⟨X, 2, none⟩ (.int .i64 0)).setCell ⟨X, 3, none⟩ (.string ⟨#[]⟩)).setCell ⟨X, 4, none⟩ (.slice none 0 0)).setCell ⟨X, 5, none⟩ (.slice none 0 0)) X 25 #[.int .i64 0, .bool false, .int .i64 0, .string ⟨#[]⟩, .slice none 0 0, .slice none 0 0] ∧
    Below w.heap.size w ((((((wr.setCell ⟨X, 0, none⟩ (.int .i64 0)).setCell ⟨X, 1, none⟩ (.bool false)).setCell ⟨X, 2, none⟩ (.int .i64 0)).setCell ⟨X, 3, none⟩ (.string ⟨#[]⟩)).setCell ⟨X, 4, none⟩ (.slice none 0 0)).setCell ⟨X, 5, none⟩ (.slice none 0 0)) := by
  have hlt := h.lt
  refine ⟨set6 h.x _ _ _ _ _ _, h.be.trans ((only6 (Only.refl (fun b => b = X) wr) (.inl rfl) _ _ _ _ _ _).below (B := w.heap.size) (by intro b _ e; have e : b = X := e; omega) h.be.size)⟩
theorem rkeys_no {ks : List ByteArray} {l : List UInt8} {z : Int} (h : rkey ks.getLast? l = .error z) : rkeys true ks l = .error z := by unfold rkeys; rw [h]; rfl
theorem rkeys_ok {ks : List ByteArray} {l : List UInt8} {k : ByteArray} {c : Nat} (h : rkey ks.getLast? l = .ok (k, c)) : rkeys true ks l = .ok (ks ++ [k], c) := by unfold rkeys; rw [h]; rfl
set_option maxHeartbeats 8000000 in
set_option maxRecDepth 100000 in
theorem rows_m {w : World} {n c at_ p d m : Nat} {A : Option Addr} {bs : List UInt8} (hr : Reads w 0 w.heap.size 1 A n (bs.map B8)) (hat : at_ ≤ n) (hc : n ≤ c ∧ c ≤ 9223372036854775807) (hn : n ≤ 9223372036854775807) (hp : p ≤ 4096) (hd : d + 1 ≤ 32) (hm : m < 18446744073709551616) (ih : RefC A n c bs d) :
    Calls Try.prog 64 #[.slice A n c, .int .i64 (at_ : Int), .int .i64 ((d + 1 : Nat) : Int), .int .i64 (p : Int), .bool true, .int .u64 (m : Int)] w fun e w' => RefP (rowsR bs (rd bs d) true m p at_) w e w' := by
  have HRD := hide hr
  have hlen : bs.length = n := by simpa using hr.1
  clear hr
  have X0 : ∀ (w : World) (cs ds : Array Value), Blk ((w.alloc (.cells cs 25)).alloc (.cells ds 25)) w.heap.size 25 cs := fun w cs ds => (Blk.new w 25 cs).alloc _
  have Y0 : ∀ (w : World) (cs ds : Array Value), Blk ((w.alloc (.cells cs 25)).alloc (.cells ds 25)) (w.heap.size + 1) 25 ds := fun w cs ds => by simpa using Blk.new (w.alloc (.cells cs 25)) 25 ds
  have B0 : ∀ (w : World) (cs ds : Array Value), Below w.heap.size w ((w.alloc (.cells cs 25)).alloc (.cells ds 25)) := fun w cs ds => ((Below.refl w.heap.size w).alloc (Nat.le_refl _) _).alloc (by simp) _
  have T0 : TS w _ w.heap.size (w.heap.size + 1) 5 none 0 0 none 0 0 [] [] [] := ⟨Y0 w nulCells #[.int .i64 5, .bool false, .int .i64 0, .string ⟨#[]⟩, .slice none 0 0, .slice none 0 0], X0 w nulCells _, World.ownsRow_nil _ _ _ _, World.ownsRow_nil _ _ _ _, IsVs.nil, ⟨by simp [Value.ownBlock], by simp [Value.ownBlock], by simp [Value.ownBlock], by simp [Value.ownBlock], by simp [Value.ownBlock]⟩, B0 _ _ _, ⟨Nat.le_refl _, by omega, by omega⟩, rfl, rfl, (by intro x hx; cases hx)⟩
  have HT0 := hide T0
  unfold nulCells at HT0
  clear T0 X0 Y0 B0
  go_enter Try.func64, Try.ntmps64
  go_wp2_with fail
  go_loopg [1, 3, 17] m (fun gj av pv nv wr => ∃ (j at' p' : Nat) (AL : Option Addr) (nL cL : Nat) (AK : Option Addr) (cK : Nat) (vs : List V) (ks : List ByteArray) (xs : List Value), gj = m - j ∧ av = .int .i64 (at' : Nat) ∧ pv = .int .i64 (p' : Nat) ∧ nv = .int .u64 (j : Nat) ∧ j ≤ m ∧ at' ≤ n ∧ p' ≤ 4096 ∧ nL ≤ p' ∧ Hid (rows bs (rd bs d) true m [] [] p at_ = rows bs (rd bs d) true (m - j) vs ks p' at') ∧ Hid (TS w wr w.heap.size (w.heap.size + 1) 5 AL nL cL AK nL cK vs ks xs))
  case atStart => exact ⟨0, at_, p, none, 0, 0, none, 0, [], [], [], rfl, rfl, rfl, rfl, Nat.zero_le _, hat, hp, Nat.zero_le _, rfl, HT0⟩
  case round =>
    obtain ⟨j, at', p', AL, nL, cL, AK, cK, vs, ks, xs, rfl, rfl, rfl, rfl, hjm, hat', hp', hnL, hE, hL⟩ := hrel
    have y0 : wr.cell? ⟨w.heap.size, 0, none⟩ = some (.int .i64 0) := blkR hL.out.x rfl
    have y1 : wr.cell? ⟨w.heap.size, 1, none⟩ = some (.bool false) := blkR hL.out.x rfl
    have y2 : wr.cell? ⟨w.heap.size, 2, none⟩ = some (.int .i64 0) := blkR hL.out.x rfl
    have y3 : wr.cell? ⟨w.heap.size, 3, none⟩ = some (.string ⟨#[]⟩) := blkR hL.out.x rfl
    have y4 : wr.cell? ⟨w.heap.size, 4, none⟩ = some (.slice none 0 0) := blkR hL.out.x rfl
    have y5 : wr.cell? ⟨w.heap.size, 5, none⟩ = some (.slice none 0 0) := blkR hL.out.x rfl
    have yf : ∀ i, wr.frozen? ⟨w.heap.size, i, none⟩ = false := fun i => hL.out.x.frozen i
    rcases Nat.lt_or_ge j m with hlt | hge
    · have e1 : decide ((j : Int) < (m : Int)) = true := by simp; omega
      have hx1 : (j : Int) < (m : Int) := by omega
      have HZ := hide hL.out.zero
      obtain ⟨J, hJ⟩ : ∃ J, m - j = J + 1 := ⟨m - j - 1, by omega⟩
      have qd : IntKind.i64.wrap ((d : Int) + 1 - 1) = (d : Int) := by rw [show ((d : Int) + 1 - 1) = (d : Int) by omega]; exact IntWalk.i64_in _ (by omega)
      have qj : IntKind.u64.wrap ((j : Int) + 1) = (j : Int) + 1 := by rw [wr64]; omega
      have hRr := (HRD.out.below hL.out.be (Nat.le_refl _)).more (Nat.le_refl _) hL.out.be.size
      have hnum := rdnum_any hRr hat' hc hn
      cases hr0 : rn 0 (bs.drop at') with
      | error z =>
        rw [hr0] at hnum
        have hz : ¬ z = 0 := by rcases rn_err _ _ _ hr0 with h | h <;> omega
        have hk : rkey ks.getLast? (bs.drop at') = .error z := by unfold rkey; rw [hr0]
        have hfin : rowsR bs (rd bs d) true m p at_ = .error z := by unfold rowsR; rw [hE.out, hJ, rows_key (rkeys_no hk)]
        have HR := hide hfin
        have HC := hide hnum
        clear hfin hE hnum hr0 hk hJ hRr
        go_wp2_with fail
        refine HC.out.mono ?_
        rintro e w5 ⟨he, rfl⟩
        have he' : e = .returned (.tuple #[.int .u64 0, .int .i64 0, .int .i64 z]) := he
        subst he'
        clear HC he
        go_wp2
        refine bodyPost_ret (results_cell4 rfl _ _ w.heap.size 25 _ _ rfl HZ.out.1 Try.underlying25 rfl (by kernel_rfl)) rfl ?_
        exact RefP_no HR.out HZ.out.2 (leaf (by decide) (by decide) (by decide))
      | ok q =>
        obtain ⟨mk, c1⟩ := q
        rw [hr0] at hnum
        have hrl := rn_len hr0
        have hm64 := (rn_of hr0).1
        rw [List.length_drop, hlen] at hrl
        have hk : rkey ks.getLast? (bs.drop at') = if mk < 1 ∨ 64 < mk then .error 1 else if n - at' - c1 < mk then .error 22 else if behind ks.getLast? (ofL ((bs.drop (at' + c1)).take mk)) = true then .ok (ofL ((bs.drop (at' + c1)).take mk), c1 + mk) else .error 1 := by
          unfold rkey
          rw [hr0]
          dsimp only
          rw [List.length_drop, hlen, List.drop_drop]
        have HN := hide hnum
        clear hnum hr0
        have hcase : mk < 1 ∨ (¬ mk < 1 ∧ 64 < mk) ∨ (¬ mk < 1 ∧ mk ≤ 64 ∧ n - at' - c1 < mk) ∨ (¬ mk < 1 ∧ mk ≤ 64 ∧ ¬ n - at' - c1 < mk) := by omega
        rcases hcase with b1 | ⟨b1, b2⟩ | ⟨b1, b2, b3⟩ | ⟨b1, b2, b3⟩
        · rw [if_pos (by omega)] at hk
          have hfin : rowsR bs (rd bs d) true m p at_ = .error 1 := by unfold rowsR; rw [hE.out, hJ, rows_key (rkeys_no hk)]
          have HR := hide hfin
          have e2 : decide ((mk : Int) < 1) = true := by simp; omega
          clear hfin hE hk hJ hRr
          go_wp2_with fail
          refine HN.out.mono ?_
          rintro e w5 ⟨he, rfl⟩
          have he' : e = .returned (.tuple #[.int .u64 (mk : Int), .int .i64 ((at' + c1 : Nat) : Int), .int .i64 0]) := he
          subst he'
          clear HN he
          go_wp2
          refine bodyPost_ret (results_cell4 rfl _ _ w.heap.size 25 _ _ rfl HZ.out.1 Try.underlying25 rfl (by kernel_rfl)) rfl ?_
          exact RefP_no HR.out HZ.out.2 (leaf (by decide) (by decide) (by decide))
        · rw [if_pos (by omega)] at hk
          have hfin : rowsR bs (rd bs d) true m p at_ = .error 1 := by unfold rowsR; rw [hE.out, hJ, rows_key (rkeys_no hk)]
          have HR := hide hfin
          have e2 : decide ((mk : Int) < 1) = false := by simp; omega
          have e3 : decide ((64 : Int) < (mk : Int)) = true := by simp; omega
          clear hfin hE hk hJ hRr
          go_wp2_with fail
          refine HN.out.mono ?_
          rintro e w5 ⟨he, rfl⟩
          have he' : e = .returned (.tuple #[.int .u64 (mk : Int), .int .i64 ((at' + c1 : Nat) : Int), .int .i64 0]) := he
          subst he'
          clear HN he
          go_wp2
          refine bodyPost_ret (results_cell4 rfl _ _ w.heap.size 25 _ _ rfl HZ.out.1 Try.underlying25 rfl (by kernel_rfl)) rfl ?_
          exact RefP_no HR.out HZ.out.2 (leaf (by decide) (by decide) (by decide))
        · rw [if_neg (by omega), if_pos b3] at hk
          have hfin : rowsR bs (rd bs d) true m p at_ = .error 22 := by unfold rowsR; rw [hE.out, hJ, rows_key (rkeys_no hk)]
          have HR := hide hfin
          have e2 : decide ((mk : Int) < 1) = false := by simp; omega
          have e3 : decide ((64 : Int) < (mk : Int)) = false := by simp; omega
          have htx : Calls Try.prog 63 #[.slice A n c, .int .i64 ((at' + c1 : Nat) : Int), .int .u64 (mk : Int)] wr fun e w' => e = .returned (.tuple #[.string ⟨#[]⟩, .int .i64 0, .int .i64 22]) ∧ wr = w' := rdtext_no (by omega) hn (by omega) hm64
          have HX := hide htx
          clear hfin hE hk hJ hRr htx
          go_wp2_with fail
          refine HN.out.mono ?_
          rintro e w5 ⟨he, rfl⟩
          have he' : e = .returned (.tuple #[.int .u64 (mk : Int), .int .i64 ((at' + c1 : Nat) : Int), .int .i64 0]) := he
          subst he'
          clear HN he
          go_wp2_with fail
          refine HX.out.mono ?_
          rintro e w6 ⟨rfl, rfl⟩
          clear HX
          go_wp2
          refine bodyPost_ret (results_cell4 rfl _ _ w.heap.size 25 _ _ rfl HZ.out.1 Try.underlying25 rfl (by kernel_rfl)) rfl ?_
          exact RefP_no HR.out HZ.out.2 (leaf (by decide) (by decide) (by decide))
        · rw [if_neg (by omega), if_neg b3] at hk
          have e2 : decide ((mk : Int) < 1) = false := by simp; omega
          have e3 : decide ((64 : Int) < (mk : Int)) = false := by simp; omega
          have htx := rdtext_ok (at_ := at' + c1) (m := mk) (c := c) hRr (by omega) hc.1 hn (by omega)
          generalize hkk : ofL ((bs.drop (at' + c1)).take mk) = kk at hk htx
          have hks : kk.size ≤ 9223372036854775807 := by rw [← hkk, size_ofL, List.length_take, List.length_drop, hlen]; omega
          have HX := hide htx
          clear hkk htx
          have heK := hL.out.eK
          have f5 : wr.cell? ⟨w.heap.size + 1, 5, none⟩ = some (.slice AK nL cK) := blkR hL.out.y rfl
          have q5 : wr.frozen? ⟨w.heap.size + 1, 5, none⟩ = false := hL.out.y.frozen 5
          by_cases b4 : nL = 0
          · have hlast : ks.getLast? = none := by rw [List.eq_nil_of_length_eq_zero (heK.trans b4)]; rfl
            have e4 : decide ((0 : Int) < (nL : Int)) = false := by simp; omega
            have e4a : decide (0 < nL) = false := by simp; omega
            have e4b : ¬ 0 < nL := by omega
            have e4c : ¬ (0 : Int) < (nL : Int) := by omega
            have hk' : rkey ks.getLast? (bs.drop at') = .ok (kk, c1 + mk) := by rw [hk, hlast]; rfl
            have HK0 := hide (rkeys_ok hk')
            clear hk' hlast hk
            have HE := hide hE.out
            have HJ := hide hJ
            have HKL := hide heK
            clear hE hJ heK b4
            go_wp2_with fail
            refine HN.out.mono ?_
            rintro e w5 ⟨he, rfl⟩
            have he' : e = .returned (.tuple #[.int .u64 (mk : Int), .int .i64 ((at' + c1 : Nat) : Int), .int .i64 0]) := he
            subst he'
            clear HN he
            go_wp2_with fail
            refine HX.out.mono ?_
            rintro e w6 ⟨rfl, rfl⟩
            clear HX
            go_wp2_with (at_builtin; refine pause ?_)
            refine unpause ?_
            have L6 := hL.out.step ((Below.refl wr.heap.size wr).alloc (Nat.le_refl _) (.cells #[.string kk] 9))
            refine wpList_app el23 (.tmp 89) (.tmp 91) L6.ok (Reads.lit wr #[.string kk] 9 1 1 rfl) (by intro u hu; rcases List.mem_cons.1 hu with rfl | hu; rfl; cases hu) (N := nL + 1) (ys := (ks ++ [kk]).map .string) rfl (by simp) (by unfold maxLen; omega) (by omega) L6.be.size rfl rfl rfl rfl ?_
            intro A8 c8 w8 ho8 hg8 hb8
            have LK := L6.key ho8 hg8 hb8 hks
            have G8 := L6.y.grown hg8 (fun e => L6.lx.2.2.2.1 e.symm)
            have f8 : w8.cell? ⟨w.heap.size + 1, 5, none⟩ = some (.slice AK nL cK) := blkR G8 rfl
            have q8 : w8.frozen? ⟨w.heap.size + 1, 5, none⟩ = false := G8.frozen 5
            have HLK := hide LK
            clear LK L6 ho8 hg8 hb8 G8 y0 y1 y2 y3 y4 y5 yf
            go_wp2_with fail
            generalize hW2 : w8.setCell ⟨w.heap.size + 1, 5, none⟩ (.slice A8 (nL + 1) c8) = W2 at HLK ⊢
            clear hW2
            have g4 : W2.cell? ⟨w.heap.size + 1, 4, none⟩ = some (.slice AL nL cL) := blkR HLK.out.y rfl
            clear f5 q5 f8 q8
            have hcall := ih (w := W2) (p := p') ((HRD.out.below HLK.out.be (Nat.le_refl _)).more (Nat.le_refl _) HLK.out.be.size) (show at' + (c1 + mk) ≤ n by omega) hp'
            have harg : ((at' + (c1 + mk) : Nat) : Int) = (at' : Int) + (c1 : Int) + (mk : Int) := by omega
            rw [harg] at hcall
            rcases hv : rd bs d p' (at' + (c1 + mk)) with z | ⟨v, at2, q⟩
            · rw [hv] at hcall
              have hfin : rowsR bs (rd bs d) true m p at_ = .error z := by unfold rowsR; rw [HE.out, HJ.out, rows_val HK0.out hv]
              have hz : ¬ z = 0 := by rcases rd_err _ _ _ _ _ hv with h | h <;> omega
              have HR := hide hfin
              have HC := hide hcall
              clear hfin hcall hv harg HK0
              refine HC.out.mono ?_
              rintro e w7 ⟨hb7, cs, a, q, rfl, hV7⟩
              obtain ⟨k7, b7, n7, s7, AL7, nL7, cL7, AK7, nK7, cK7, rfl⟩ := hV7.shape
              have L7 := HLK.out.step hb7
              have L8 := fun o => L7.step ((Below.refl w7.heap.size w7).alloc (Nat.le_refl _) o)
              have y0 : ∀ o, (w7.alloc o).cell? ⟨w.heap.size, 0, none⟩ = some (.int .i64 0) := fun o => blkR (L8 o).x rfl
              have y1 : ∀ o, (w7.alloc o).cell? ⟨w.heap.size, 1, none⟩ = some (.bool false) := fun o => blkR (L8 o).x rfl
              have y2 : ∀ o, (w7.alloc o).cell? ⟨w.heap.size, 2, none⟩ = some (.int .i64 0) := fun o => blkR (L8 o).x rfl
              have y3 : ∀ o, (w7.alloc o).cell? ⟨w.heap.size, 3, none⟩ = some (.string ⟨#[]⟩) := fun o => blkR (L8 o).x rfl
              have y4 : ∀ o, (w7.alloc o).cell? ⟨w.heap.size, 4, none⟩ = some (.slice none 0 0) := fun o => blkR (L8 o).x rfl
              have y5 : ∀ o, (w7.alloc o).cell? ⟨w.heap.size, 5, none⟩ = some (.slice none 0 0) := fun o => blkR (L8 o).x rfl
              have yf : ∀ o i, (w7.alloc o).frozen? ⟨w.heap.size, i, none⟩ = false := fun o i => (L8 o).x.frozen i
              have HZ := hide (fun o => (L8 o).zero)
              clear L7 L8 hV7 hb7 HC g4
              go_wp2
              refine bodyPost_ret (results_cell4 rfl _ _ w.heap.size 25 _ _ rfl (HZ.out _).1 Try.underlying25 rfl (by kernel_rfl)) rfl ?_
              exact RefP_no HR.out (HZ.out _).2 (leaf (by decide) (by decide) (by decide))
            · rw [hv] at hcall
              have hnext : rows bs (rd bs d) true (m - j) vs ks p' at' = rows bs (rd bs d) true (m - (j + 1)) (vs ++ [v]) (ks ++ [kk]) q at2 := by rw [HJ.out, show m - (j + 1) = J by have := HJ.out; omega]; exact rows_next HK0.out hv
              have hN := HE.out.trans hnext
              have hone := rd_one bs (by rw [hlen]; omega) d p' (at' + (c1 + mk)) v at2 q hv
              have hge := may_ge _ _ _ _ hone.1
              have hat2 : at2 ≤ n := by
                have e := len_of hone.2.1
                have := hone.2.2.1
                rw [hlen] at e
                omega
              have HN := hide hN
              have HC := hide hcall
              clear hnext hN hone hcall hv harg HK0 g4
              refine HC.out.mono ?_
              rintro e w7 ⟨hb7, cs, rfl, hV7⟩
              obtain ⟨k2, bb2, m2, s2, AL2, nL2, cL2, AK2, nK2, cK2, rfl⟩ := hV7.shape
              have L7 := HLK.out.step hb7
              have f4 : ∀ o, (w7.alloc o).cell? ⟨w.heap.size + 1, 4, none⟩ = some (.slice AL nL cL) := fun o => blkR (L7.step ((Below.refl w7.heap.size w7).alloc (Nat.le_refl _) o)).y rfl
              go_wp2_with (at_builtin; refine pause ?_)
              refine unpause ?_
              have L9 := (L7.step ((Below.refl w7.heap.size w7).alloc (Nat.le_refl _) (.cells #[.int .i64 k2, .bool bb2, .int .i64 m2, .string s2, .slice AL2 nL2 cL2, .slice AK2 nK2 cK2] 25))).step ((Below.refl _ _).alloc (Nat.le_refl _) (.cells #[.int .i64 k2, .bool bb2, .int .i64 m2, .string s2, .slice AL2 nL2 cL2, .slice AK2 nK2 cK2] 25))
              have RL := Reads.lit (w7.alloc (.cells #[.int .i64 k2, .bool bb2, .int .i64 m2, .string s2, .slice AL2 nL2 cL2, .slice AK2 nK2 cK2] 25)) #[.int .i64 k2, .bool bb2, .int .i64 m2, .string s2, .slice AL2 nL2 cL2, .slice AK2 nK2 cK2] 25 1 6 rfl
              rw [show (w7.alloc (.cells #[.int .i64 k2, .bool bb2, .int .i64 m2, .string s2, .slice AL2 nL2 cL2, .slice AK2 nK2 cK2] 25)).heap.size = w7.heap.size + 1 by simp] at RL
              refine wpList_app el22 (.tmp 111) (.tmp 113) L9.ol RL hV7.oneCell (N := nL + 1) rfl rfl (by unfold maxLen; omega) (by omega) L9.be.size rfl rfl rfl rfl ?_
              intro A9 c9 w9 ho9 hg9 hb9
              have hX := HLK.out.x.lt
              have hY := HLK.out.y.lt
              have hsz := HLK.out.be.size
              have LV := L9.val ((hV7.alloc _).alloc _) ⟨hX, hY, hsz, fun b hb => own_lt HLK.out.ol hb, fun b hb => own_lt HLK.out.ok hb⟩ ho9 hg9 hb9
              have G9 := L9.y.grown hg9 (fun e => L9.lx.2.1 e.symm)
              have g9 : w9.cell? ⟨w.heap.size + 1, 4, none⟩ = some (.slice AL nL cL) := blkR G9 rfl
              have q9 : w9.frozen? ⟨w.heap.size + 1, 4, none⟩ = false := G9.frozen 4
              have HLV := hide LV
              clear RL LV L9 L7 hV7 hb7 ho9 hg9 hb9 G9 HC f4
              go_wp2_with fail
              go_roundg (m - (j + 1))
              case measure => omega
              case rel => exact ⟨j + 1, at2, q, A9, nL + 1, c9, A8, c8, vs ++ [v], ks ++ [kk], _, rfl, rfl, rfl, by go_num, by omega, hat2, hge.2, by omega, HN, HLV⟩
          · have hpos : 0 < nL := by omega
            have hown := hL.out.ok
            have hkl : 0 < ks.length := by omega
            have hlast : ks.getLast? = some (ks[nL - 1]'(by omega)) := by rw [List.getLast?_eq_getElem?, List.getElem?_eq_getElem (by omega)]; simp [heK]
            obtain ⟨bA, oA, rfl⟩ := own_some hown hpos
            have fA : wr.cell? ⟨bA, oA + (nL - 1), none⟩ = some (.string (ks[nL - 1]'(by omega))) := by rw [own_cell hown (by omega)]; simp [show nL - 1 < ks.length by omega]
            have hx2 : (nL : Int) - 1 < (nL : Int) := by omega
            have hx3 : 0 ≤ (nL : Int) - 1 := by omega
            have hx4 : ((nL : Int) - 1).toNat = nL - 1 := by omega
            have qn : IntKind.i64.wrap ((nL : Int) - 1) = (nL : Int) - 1 := IntWalk.i64_in _ (by omega)
            have e4 : decide ((0 : Int) < (nL : Int)) = true := by simp; omega
            rw [hlast] at hk
            generalize (ks[nL - 1]'(by omega)) = k0 at fA hk hlast
            have HE := hide hE.out
            have HJ := hide hJ
            have HKL := hide heK
            have HL0 := hide hlast
            clear hE hJ heK hown hlast
            by_cases b5 : less k0 kk = true
            · have e5 : Op.bytesLess k0.toList kk.toList = true := b5
              have hk' : rkey ks.getLast? (bs.drop at') = .ok (kk, c1 + mk) := by rw [HL0.out, hk]; exact if_pos b5
              have HK0 := hide (rkeys_ok hk')
              clear hk hk' b5 HL0
              go_wp2_with fail
              refine HN.out.mono ?_
              rintro e w5 ⟨he, rfl⟩
              have he' : e = .returned (.tuple #[.int .u64 (mk : Int), .int .i64 ((at' + c1 : Nat) : Int), .int .i64 0]) := he
              subst he'
              clear HN he
              go_wp2_with fail
              refine HX.out.mono ?_
              rintro e w6 ⟨rfl, rfl⟩
              clear HX
              go_wp2_with (at_builtin; refine pause ?_)
              refine unpause ?_
              have L6 := hL.out.step ((Below.refl wr.heap.size wr).alloc (Nat.le_refl _) (.cells #[.string kk] 9))
              refine wpList_app el23 (.tmp 89) (.tmp 91) L6.ok (Reads.lit wr #[.string kk] 9 1 1 rfl) (by intro u hu; rcases List.mem_cons.1 hu with rfl | hu; rfl; cases hu) (N := nL + 1) (ys := (ks ++ [kk]).map .string) rfl (by simp) (by unfold maxLen; omega) (by omega) L6.be.size rfl rfl rfl rfl ?_
              intro A8 c8 w8 ho8 hg8 hb8
              have LK := L6.key ho8 hg8 hb8 hks
              have G8 := L6.y.grown hg8 (fun e => L6.lx.2.2.2.1 e.symm)
              have f8 : w8.cell? ⟨w.heap.size + 1, 5, none⟩ = some (.slice (some ⟨bA, oA, none⟩) nL cK) := blkR G8 rfl
              have q8 : w8.frozen? ⟨w.heap.size + 1, 5, none⟩ = false := G8.frozen 5
              have HLK := hide LK
              clear LK L6 ho8 hg8 hb8 G8 y0 y1 y2 y3 y4 y5 yf
              go_wp2_with fail
              generalize hW2 : w8.setCell ⟨w.heap.size + 1, 5, none⟩ (.slice A8 (nL + 1) c8) = W2 at HLK ⊢
              clear hW2
              have g4 : W2.cell? ⟨w.heap.size + 1, 4, none⟩ = some (.slice AL nL cL) := blkR HLK.out.y rfl
              clear f5 q5 f8 q8
              have hcall := ih (w := W2) (p := p') ((HRD.out.below HLK.out.be (Nat.le_refl _)).more (Nat.le_refl _) HLK.out.be.size) (show at' + (c1 + mk) ≤ n by omega) hp'
              have harg : ((at' + (c1 + mk) : Nat) : Int) = (at' : Int) + (c1 : Int) + (mk : Int) := by omega
              rw [harg] at hcall
              rcases hv : rd bs d p' (at' + (c1 + mk)) with z | ⟨v, at2, q⟩
              · rw [hv] at hcall
                have hfin : rowsR bs (rd bs d) true m p at_ = .error z := by unfold rowsR; rw [HE.out, HJ.out, rows_val HK0.out hv]
                have hz : ¬ z = 0 := by rcases rd_err _ _ _ _ _ hv with h | h <;> omega
                have HR := hide hfin
                have HC := hide hcall
                clear hfin hcall hv harg HK0
                refine HC.out.mono ?_
                rintro e w7 ⟨hb7, cs, a, q, rfl, hV7⟩
                obtain ⟨k7, b7, n7, s7, AL7, nL7, cL7, AK7, nK7, cK7, rfl⟩ := hV7.shape
                have L7 := HLK.out.step hb7
                have L8 := fun o => L7.step ((Below.refl w7.heap.size w7).alloc (Nat.le_refl _) o)
                have y0 : ∀ o, (w7.alloc o).cell? ⟨w.heap.size, 0, none⟩ = some (.int .i64 0) := fun o => blkR (L8 o).x rfl
                have y1 : ∀ o, (w7.alloc o).cell? ⟨w.heap.size, 1, none⟩ = some (.bool false) := fun o => blkR (L8 o).x rfl
                have y2 : ∀ o, (w7.alloc o).cell? ⟨w.heap.size, 2, none⟩ = some (.int .i64 0) := fun o => blkR (L8 o).x rfl
                have y3 : ∀ o, (w7.alloc o).cell? ⟨w.heap.size, 3, none⟩ = some (.string ⟨#[]⟩) := fun o => blkR (L8 o).x rfl
                have y4 : ∀ o, (w7.alloc o).cell? ⟨w.heap.size, 4, none⟩ = some (.slice none 0 0) := fun o => blkR (L8 o).x rfl
                have y5 : ∀ o, (w7.alloc o).cell? ⟨w.heap.size, 5, none⟩ = some (.slice none 0 0) := fun o => blkR (L8 o).x rfl
                have yf : ∀ o i, (w7.alloc o).frozen? ⟨w.heap.size, i, none⟩ = false := fun o i => (L8 o).x.frozen i
                have HZ := hide (fun o => (L8 o).zero)
                clear L7 L8 hV7 hb7 HC g4
                go_wp2
                refine bodyPost_ret (results_cell4 rfl _ _ w.heap.size 25 _ _ rfl (HZ.out _).1 Try.underlying25 rfl (by kernel_rfl)) rfl ?_
                exact RefP_no HR.out (HZ.out _).2 (leaf (by decide) (by decide) (by decide))
              · rw [hv] at hcall
                have hnext : rows bs (rd bs d) true (m - j) vs ks p' at' = rows bs (rd bs d) true (m - (j + 1)) (vs ++ [v]) (ks ++ [kk]) q at2 := by rw [HJ.out, show m - (j + 1) = J by have := HJ.out; omega]; exact rows_next HK0.out hv
                have hN := HE.out.trans hnext
                have hone := rd_one bs (by rw [hlen]; omega) d p' (at' + (c1 + mk)) v at2 q hv
                have hge := may_ge _ _ _ _ hone.1
                have hat2 : at2 ≤ n := by
                  have e := len_of hone.2.1
                  have := hone.2.2.1
                  rw [hlen] at e
                  omega
                have HN := hide hN
                have HC := hide hcall
                clear hnext hN hone hcall hv harg HK0 g4
                refine HC.out.mono ?_
                rintro e w7 ⟨hb7, cs, rfl, hV7⟩
                obtain ⟨k2, bb2, m2, s2, AL2, nL2, cL2, AK2, nK2, cK2, rfl⟩ := hV7.shape
                have L7 := HLK.out.step hb7
                have f4 : ∀ o, (w7.alloc o).cell? ⟨w.heap.size + 1, 4, none⟩ = some (.slice AL nL cL) := fun o => blkR (L7.step ((Below.refl w7.heap.size w7).alloc (Nat.le_refl _) o)).y rfl
                go_wp2_with (at_builtin; refine pause ?_)
                refine unpause ?_
                have L9 := (L7.step ((Below.refl w7.heap.size w7).alloc (Nat.le_refl _) (.cells #[.int .i64 k2, .bool bb2, .int .i64 m2, .string s2, .slice AL2 nL2 cL2, .slice AK2 nK2 cK2] 25))).step ((Below.refl _ _).alloc (Nat.le_refl _) (.cells #[.int .i64 k2, .bool bb2, .int .i64 m2, .string s2, .slice AL2 nL2 cL2, .slice AK2 nK2 cK2] 25))
                have RL := Reads.lit (w7.alloc (.cells #[.int .i64 k2, .bool bb2, .int .i64 m2, .string s2, .slice AL2 nL2 cL2, .slice AK2 nK2 cK2] 25)) #[.int .i64 k2, .bool bb2, .int .i64 m2, .string s2, .slice AL2 nL2 cL2, .slice AK2 nK2 cK2] 25 1 6 rfl
                rw [show (w7.alloc (.cells #[.int .i64 k2, .bool bb2, .int .i64 m2, .string s2, .slice AL2 nL2 cL2, .slice AK2 nK2 cK2] 25)).heap.size = w7.heap.size + 1 by simp] at RL
                refine wpList_app el22 (.tmp 111) (.tmp 113) L9.ol RL hV7.oneCell (N := nL + 1) rfl rfl (by unfold maxLen; omega) (by omega) L9.be.size rfl rfl rfl rfl ?_
                intro A9 c9 w9 ho9 hg9 hb9
                have hX := HLK.out.x.lt
                have hY := HLK.out.y.lt
                have hsz := HLK.out.be.size
                have LV := L9.val ((hV7.alloc _).alloc _) ⟨hX, hY, hsz, fun b hb => own_lt HLK.out.ol hb, fun b hb => own_lt HLK.out.ok hb⟩ ho9 hg9 hb9
                have G9 := L9.y.grown hg9 (fun e => L9.lx.2.1 e.symm)
                have g9 : w9.cell? ⟨w.heap.size + 1, 4, none⟩ = some (.slice AL nL cL) := blkR G9 rfl
                have q9 : w9.frozen? ⟨w.heap.size + 1, 4, none⟩ = false := G9.frozen 4
                have HLV := hide LV
                clear RL LV L9 L7 hV7 hb7 ho9 hg9 hb9 G9 HC f4
                go_wp2_with fail
                go_roundg (m - (j + 1))
                case measure => omega
                case rel => exact ⟨j + 1, at2, q, A9, nL + 1, c9, A8, c8, vs ++ [v], ks ++ [kk], _, rfl, rfl, rfl, by go_num, by omega, hat2, hge.2, by omega, HN, HLV⟩
            · have e5 : Op.bytesLess k0.toList kk.toList = false := by simpa [less] using b5
              have hk' : rkey ks.getLast? (bs.drop at') = .error 1 := by rw [HL0.out, hk]; exact if_neg b5
              have hfin : rowsR bs (rd bs d) true m p at_ = .error 1 := by unfold rowsR; rw [HE.out, HJ.out, rows_key (rkeys_no hk')]
              have HR := hide hfin
              clear hk hk' b5 HL0 hfin
              go_wp2_with fail
              refine HN.out.mono ?_
              rintro e w5 ⟨he, rfl⟩
              have he' : e = .returned (.tuple #[.int .u64 (mk : Int), .int .i64 ((at' + c1 : Nat) : Int), .int .i64 0]) := he
              subst he'
              clear HN he
              go_wp2_with fail
              refine HX.out.mono ?_
              rintro e w6 ⟨rfl, rfl⟩
              clear HX
              go_wp2
              refine bodyPost_ret (results_cell4 rfl _ _ w.heap.size 25 _ _ rfl HZ.out.1 Try.underlying25 rfl (by kernel_rfl)) rfl ?_
              exact RefP_no HR.out HZ.out.2 (leaf (by decide) (by decide) (by decide))
    · have e1 : decide ((j : Int) < (m : Int)) = false := by simp; omega
      have e2 : ¬ j < m := by omega
      have e3 : ¬ (j : Int) < (m : Int) := by omega
      have hj0 : m - j = 0 := by omega
      have hfin : rowsR bs (rd bs d) true m p at_ = .ok (.mk 5 false 0 .empty vs ks, at', p') := by unfold rowsR; rw [hE.out, hj0, rows]; rfl
      have HR := hide hfin
      have XB := hL.out.x
      have YB := hL.out.y
      have f0 : wr.cell? ⟨w.heap.size + 1, 0, none⟩ = some (.int .i64 5) := blkR YB rfl
      have f1 : wr.cell? ⟨w.heap.size + 1, 1, none⟩ = some (.bool false) := blkR YB rfl
      have f2 : wr.cell? ⟨w.heap.size + 1, 2, none⟩ = some (.int .i64 0) := blkR YB rfl
      have f3 : wr.cell? ⟨w.heap.size + 1, 3, none⟩ = some (.string ⟨#[]⟩) := blkR YB rfl
      have f4 : wr.cell? ⟨w.heap.size + 1, 4, none⟩ = some (.slice AL nL cL) := blkR YB rfl
      have f5 : wr.cell? ⟨w.heap.size + 1, 5, none⟩ = some (.slice AK nL cK) := blkR YB rfl
      have XE := set6 XB (.int .i64 5) (.bool false) (.int .i64 0) (.string ⟨#[]⟩) (.slice AL nL cL) (.slice AK nL cK)
      have OE := only6 (Only.refl (fun b => b = w.heap.size) wr) (.inl rfl) (.int .i64 5) (.bool false) (.int .i64 0) (.string ⟨#[]⟩) (.slice AL nL cL) (.slice AK nL cK)
      have HLE := hide (hL.out.fin (by decide) OE)
      have HXE := hide XE
      clear hfin OE XB YB XE
      clear hE hjm hge hj0
      go_wp2
      refine bodyPost_ret (results_cell4 rfl _ _ w.heap.size 25 _ _ rfl HXE.out Try.underlying25 rfl (by kernel_rfl)) rfl ?_
      exact RefP_ok HR.out HLE.out.2 HLE.out.1 (by simp) (by simp)
end Go.Proofs.Ytaapbiiiepdopaa
