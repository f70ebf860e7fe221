/- A value's bytes, laid behind bytes: kinds without parts. -/
import Derived.Test.YtaapbiiiepdopaaNu
import Derived.Deep.RegionHeld3
import Derived.Deep.CutRange
import Derived.WalkLawsBesides
import Derived.Laws.BitsAllLaws
namespace Go.Proofs.Ytaapbiiiepdopaa
open Go.RowKit Mem
set_option linter.unusedVariables false

section
variable {w w' wr wr0 : World} {base N c : Nat} {A : Option Addr} {xs : List UInt8} {ops : Array Oper} {o : Oper} {a : Act} {K : Act → World → Prop} {Q : Exit → Act → World → Prop} {E : Prop}
theorem step_lay1 (s x : Operand) (h : Lay w base wr0 A N c xs) (b : UInt8) (u : Value) (hu : u = B8 b) {n0 : Nat} (hw : wr = wr0.alloc (.cells #[u] 5)) (hN : N + 1 ≤ 70368744177664)
    (hgd : o.guard = none) (ho : o.op = .call { callee := .builtin .append, args := #[s, x], argTypes := #[27, 27] }) (hs : a.eval s = .slice A N c) (hx : a.eval x = .slice (some ⟨n0, 0, none⟩) 1 1) (hn0 : n0 = wr0.heap.size)
    (hK : ∀ A' N' c' w', N' ≤ N + 1 → Lay w base w' A' N' c' (xs ++ [b]) → Fr BT wr0 w' → K (a.put o.dst (.slice A' N' c')) w') : if Region.wanted o (yielded ops a.tmps) = true then Oper.wp Try.prog o a wr K Q else E := by
  subst hu
  subst hw
  subst hn0
  have hr : Reads (wr0.alloc (.cells #[B8 b] 5)) wr0.heap.size (wr0.heap.size + 1) 1 (some ⟨wr0.heap.size, 0, none⟩) 1 ([b].map B8) := Reads.lit wr0 #[B8 b] 5 1 1 rfl
  refine step_app el27 s x (h.alloc (.cells #[B8 b] 5)).own hr (B8_one [b]) (N := N + 1) (ys := (xs ++ [b]).map B8) rfl (by rw [List.map_append]) (by unfold maxLen; omega) (by omega) (h.alloc (.cells #[B8 b] 5)).sz' hgd ho hs hx ?_
  intro A' c' w' h1 h2 _
  have h3 := (h.alloc (.cells #[B8 b] 5)).next h1 h2
  exact hK A' _ c' w' (Nat.le_refl _) h3 (fr_grown ((Fr.refl _ wr0).alloc _) (h.own.alloc _) h2 (fun cs fr => ⟨_, _, rfl⟩))
theorem step_layS (s x : Operand) (h : Lay w base wr A N c xs) {y : ByteArray} (hN : N + y.size ≤ 70368744177664)
    (hgd : o.guard = none) (ho : o.op = .call { callee := .builtin .append, args := #[s, x], argTypes := #[27, 9] }) (hs : a.eval s = .slice A N c) (hx : a.eval x = .string y)
    (hK : ∀ A' N' c' w', N' ≤ N + y.size → Lay w base w' A' N' c' (xs ++ str y) → Fr BT wr w' → K (a.put o.dst (.slice A' N' c')) w') : if Region.wanted o (yielded ops a.tmps) = true then Oper.wp Try.prog o a wr K Q else E := by
  obtain ⟨i, hi, hz, hsz, hby⟩ := info_parts el27.info
  have hw : Region.wanted o (yielded ops a.tmps) = true := by simp [Region.wanted, hgd]
  rw [if_pos hw]
  obtain ⟨v', w', hrun, h2, h3, h4⟩ := Go.Lib.run_append_own_string (P := Try.prog) wr base 27 9 o.type 5 i Try.underlying27 Try.underlying9 hi hz hsz hby _ N _ h.own y (by unfold maxLen; omega) (by omega) h.sz'
  unfold Oper.wp execOp
  simp only [ho, resolve, invoke, builtin, Sem.run_bind, Sem.run_pure, Result.andThen_ok, List.map_toArray, List.map_cons, List.map_nil, hs, hx, hrun]
  obtain ⟨A', c', rfl, _, _⟩ := own_form h2
  have e : xs.map B8 ++ Go.Lib.strCells y = (xs ++ str y).map B8 := by rw [List.map_append]; rfl
  rw [e] at h2
  exact hK A' _ c' w' (Nat.le_refl _) (h.next h2 h3) (fr_grown (Fr.refl _ wr) h.own h3 (fun cs fr => ⟨_, _, rfl⟩))
end

theorem blkc {w : World} {g t i : Nat} {cs : Array Value} {u : Value} (h : Blk w g t cs) (hi : cs[i]? = some u) : w.cell? ⟨g, i, none⟩ = some u := (h.cell i).trans hi
theorem xor_ones {x : Nat} (h : x < 18446744073709551616) : x ^^^ 18446744073709551615 = 18446744073709551615 - x := by
  have h1 := congrArg BitVec.toNat (BitVec.xor_allOnes (x := BitVec.ofNat 64 x))
  rw [BitVec.toNat_xor, BitVec.toNat_not, BitVec.toNat_ofNat, BitVec.toNat_allOnes, Nat.mod_eq_of_lt h] at h1
  exact h1
theorem zigz {m : Int} (h1 : -9223372036854775808 ≤ m) (h2 : m ≤ 9223372036854775807) : bits .xor .u64 (IntKind.u64.wrap (IntKind.u64.wrap m * 2)) (IntKind.u64.wrap (m / 9223372036854775808)) = ((zz m : Nat) : Int) := by
  have e : ∀ z, IntKind.u64.wrap z = z % 18446744073709551616 := by intro z; simp [IntKind.wrap, IntKind.bits, IntKind.signed]
  rw [e, e, e]
  by_cases h : m < 0
  · rw [show m % 18446744073709551616 * 2 % 18446744073709551616 = ((2 * m + 18446744073709551616).toNat : Nat) by omega, show m / 9223372036854775808 % 18446744073709551616 = ((18446744073709551615 : Nat) : Int) by omega,
      u64_xor_nat _ _ (by omega) (by omega), xor_ones (by omega)]
    unfold zz
    rw [if_pos h]
    omega
  · rw [show m % 18446744073709551616 * 2 % 18446744073709551616 = ((2 * m).toNat : Nat) by omega, show m / 9223372036854775808 % 18446744073709551616 = ((0 : Nat) : Int) by omega,
      u64_xor_nat _ _ (by omega) (by omega), Nat.xor_zero]
    unfold zz
    rw [if_neg h]

theorem lay0 {w : World} {base n c : Nat} {A : Option Addr} {xs : List UInt8} {cs : Array Value} {S : Nat → Prop} {b : Bool} {m : Int} {s : ByteArray} {l : List V} {ks : List ByteArray}
    (hV : IsV w S (.mk 0 b m s l ks) cs) (hown : w.ownsRow base 5 1 (.slice A n c) n (xs.map B8)) (hB : base ≤ w.heap.size) (hn : n ≤ 35184372088832) :
    Calls Try.prog 35 #[.slice A n c, .agg cs] w fun e w' => ∃ A' c' N, e = .returned (.slice A' N c') ∧ Lay w base w' A' N c' (xs ++ byt (.mk 0 b m s l ks)) := by
  rw [IsV] at hV
  obtain ⟨AL, cL, AK, cK, ls, rfl, _⟩ := hV
  go_enter Try.func35, Try.ntmps35
  go_wp2_with (first | (at_builtin; refine pause ?_) | fail)
  refine unpause ?_
  refine wpList_lay1 (.tmp 11) (.tmp 12) ((Lay.start hown hB).alloc _) 0 _ rfl rfl (by omega) rfl rfl rfl rfl (by simp) ?_
  intro A' N' c' w' _ hL'
  go_wp2
  go_ret
  exact ⟨A', c', N', rfl, by rw [byt]; exact hL'⟩

set_option maxHeartbeats 1000000 in
theorem lay2 {w : World} {base n c : Nat} {A : Option Addr} {xs : List UInt8} {cs : Array Value} {S : Nat → Prop} {b : Bool} {m : Int} {s : ByteArray} {l : List V} {ks : List ByteArray}
    (hV : IsV w S (.mk 2 b m s l ks) cs) (hown : w.ownsRow base 5 1 (.slice A n c) n (xs.map B8)) (hB : base ≤ w.heap.size) (hn : n ≤ 35184372088832) :
    Calls Try.prog 35 #[.slice A n c, .agg cs] w fun e w' => ∃ A' c' N, e = .returned (.slice A' N c') ∧ Lay w base w' A' N c' (xs ++ byt (.mk 2 b m s l ks)) := by
  rw [IsV] at hV
  obtain ⟨AL, cL, AK, cK, ls, rfl, _, ⟨hm1, hm2, _⟩, _⟩ := hV
  have R1 := Blk.new w 25 #[.int .i64 2, .bool b, .int .i64 m, .string s, .slice AL l.length cL, .slice AK ks.length cK]
  have L1 := (Lay.start hown hB).alloc (.cells #[.int .i64 2, .bool b, .int .i64 m, .string s, .slice AL l.length cL, .slice AK ks.length cK] 25)
  go_enter Try.func35, Try.ntmps35
  go_wp2_with fail
  generalize w.alloc (.cells #[.int .i64 2, .bool b, .int .i64 m, .string s, .slice AL l.length cL, .slice AK ks.length cK] 25) = W at R1 L1 ⊢
  generalize w.heap.size = R at R1 ⊢
  go_region_held3 (fun w' => w'.cell? ⟨R, 2, none⟩ = some (.int .i64 m)) (first | exact blkc R1 rfl | exact blkc (R1.alloc _) rfl | exact blkc hR2 rfl | exact blkc (hL2.blk hR2 (by decide)) rfl) (first
    | (refine step_lay1 (.tmp 26) (.tmp 27) (L1.drewN 1) 3 _ rfl rfl (by omega) rfl rfl rfl rfl (by simp) ?_; intro A1 N1 c1 w1 h1 hL1 hF1; have hR2 : Blk w1 R 25 _ := hF1.block _ _ (R1.drewN 1) (by rintro ⟨_, _, e⟩; cases e))
    | (go_at_call 53; rw [zigz hm1 hm2]; refine (number_any (k := zz m) hL1.own (zz_lt hm1 hm2) (by omega) hL1.sz').mono ?_; rintro e w2 ⟨A2, c2, N2, rfl, hL2⟩))
  go_wp2_with fail
  go_ret
  exact ⟨A2, c2, N2, rfl, by rw [byt]; simpa [tagOf] using hL1.trans hL2⟩


theorem u64n {n : Nat} (h : n < 18446744073709551616) : IntKind.u64.wrap (n : Int) = (n : Int) := by
  have e : IntKind.u64.wrap (n : Int) = (n : Int) % 18446744073709551616 := by simp [IntKind.wrap, IntKind.bits, IntKind.signed]
  omega
theorem u64p {m : Int} (h1 : 1 ≤ m) (h2 : m ≤ 9223372036854775807) : IntKind.u64.wrap m = ((m.toNat : Nat) : Int) := by
  have e : IntKind.u64.wrap m = m % 18446744073709551616 := by simp [IntKind.wrap, IntKind.bits, IntKind.signed]
  omega

theorem lay1 {w : World} {base n c : Nat} {A : Option Addr} {xs : List UInt8} {cs : Array Value} {S : Nat → Prop} {b : Bool} {m : Int} {s : ByteArray} {l : List V} {ks : List ByteArray}
    (hV : IsV w S (.mk 1 b m s l ks) cs) (hown : w.ownsRow base 5 1 (.slice A n c) n (xs.map B8)) (hB : base ≤ w.heap.size) (hn : n ≤ 35184372088832) :
    Calls Try.prog 35 #[.slice A n c, .agg cs] w fun e w' => ∃ A' c' N, e = .returned (.slice A' N c') ∧ Lay w base w' A' N c' (xs ++ byt (.mk 1 b m s l ks)) := by
  rw [IsV] at hV
  obtain ⟨AL, cL, AK, cK, ls, rfl, _⟩ := hV
  cases b
  · go_enter Try.func35, Try.ntmps35
    go_wp2_with (first | (at_builtin; refine pause ?_) | fail)
    refine unpause ?_
    refine wpList_lay1 (.tmp 21) (.tmp 22) ((Lay.start hown hB).alloc _) 1 _ rfl rfl (by omega) rfl rfl rfl rfl (by simp) ?_
    intro A' N' c' w' _ hL'
    go_wp2
    go_ret
    exact ⟨A', c', N', rfl, by rw [byt]; exact hL'⟩
  · go_enter Try.func35, Try.ntmps35
    go_wp2_with (first | (at_builtin; refine pause ?_) | fail)
    refine unpause ?_
    refine wpList_lay1 (.tmp 18) (.tmp 19) ((Lay.start hown hB).alloc _) 2 _ rfl rfl (by omega) rfl rfl rfl rfl (by simp) ?_
    intro A' N' c' w' _ hL'
    go_wp2
    go_ret
    exact ⟨A', c', N', rfl, by rw [byt]; exact hL'⟩

set_option maxHeartbeats 1000000 in
theorem lay3 {w : World} {base n c : Nat} {A : Option Addr} {xs : List UInt8} {cs : Array Value} {S : Nat → Prop} {b : Bool} {m : Int} {s : ByteArray} {l : List V} {ks : List ByteArray}
    (hV : IsV w S (.mk 3 b m s l ks) cs) (hown : w.ownsRow base 5 1 (.slice A n c) n (xs.map B8)) (hB : base ≤ w.heap.size) (hn : n + s.size ≤ 35184372088832) :
    Calls Try.prog 35 #[.slice A n c, .agg cs] w fun e w' => ∃ A' c' N, e = .returned (.slice A' N c') ∧ Lay w base w' A' N c' (xs ++ byt (.mk 3 b m s l ks)) := by
  rw [IsV] at hV
  obtain ⟨AL, cL, AK, cK, ls, rfl, _, ⟨hm1, hm2, _⟩, _⟩ := hV
  have R1 := Blk.new w 25 #[.int .i64 3, .bool b, .int .i64 m, .string s, .slice AL l.length cL, .slice AK ks.length cK]
  have L1 := (Lay.start hown hB).alloc (.cells #[.int .i64 3, .bool b, .int .i64 m, .string s, .slice AL l.length cL, .slice AK ks.length cK] 25)
  go_enter Try.func35, Try.ntmps35
  go_wp2_with fail
  generalize w.alloc (.cells #[.int .i64 3, .bool b, .int .i64 m, .string s, .slice AL l.length cL, .slice AK ks.length cK] 25) = W at R1 L1 ⊢
  generalize w.heap.size = R at R1 ⊢
  have hs : s.size < 18446744073709551616 := by omega
  have hs10 := num_len10 hs
  go_region_held3 (fun w' => w'.cell? ⟨R, 3, none⟩ = some (.string s)) (first | exact blkc R1 rfl | exact blkc (R1.alloc _) rfl | exact blkc hR2 rfl | exact blkc (hL2.blk hR2 (by decide)) rfl | exact blkc (hF3.block _ _ (hL2.blk hR2 (by decide)) (by rintro ⟨_, _, e⟩; cases e)) rfl) (first
    | (refine step_layS (.tmp 48) (.tmp 50) (hL1.trans hL2) (by have := hL1.len; have := hL2.len; simp only [List.length_append] at *; omega) rfl rfl rfl rfl ?_; intro A3 N3 c3 w3 h3 hL3 hF3)
    | (go_at_call 53; (try rw [u64n hs]); refine (number_any (k := s.size) hL1.own hs (by omega) hL1.sz').mono ?_; rintro e w2 ⟨A2, c2, N2, rfl, hL2⟩)
    | (refine step_lay1 (.tmp 41) (.tmp 42) (L1.drewN 1) 4 _ rfl rfl (by omega) rfl rfl rfl rfl (by simp) ?_; intro A1 N1 c1 w1 h1 hL1 hF1; have hR2 : Blk w1 R 25 _ := hF1.block _ _ (R1.drewN 1) (by rintro ⟨_, _, e⟩; cases e)))
  go_wp2_with fail
  go_ret
  exact ⟨A3, c3, N3, rfl, by rw [byt]; simpa [tagOf] using hL3⟩

set_option maxHeartbeats 1000000 in
theorem lay6 {w : World} {base n c : Nat} {A : Option Addr} {xs : List UInt8} {cs : Array Value} {S : Nat → Prop} {b : Bool} {m : Int} {s : ByteArray} {l : List V} {ks : List ByteArray}
    (hV : IsV w S (.mk 6 b m s l ks) cs) (hm : 1 ≤ m) (hown : w.ownsRow base 5 1 (.slice A n c) n (xs.map B8)) (hB : base ≤ w.heap.size) (hn : n ≤ 35184372088832) :
    Calls Try.prog 35 #[.slice A n c, .agg cs] w fun e w' => ∃ A' c' N, e = .returned (.slice A' N c') ∧ Lay w base w' A' N c' (xs ++ byt (.mk 6 b m s l ks)) := by
  rw [IsV] at hV
  obtain ⟨AL, cL, AK, cK, ls, rfl, _, ⟨hm1, hm2, _⟩, _⟩ := hV
  have R1 := Blk.new w 25 #[.int .i64 6, .bool b, .int .i64 m, .string s, .slice AL l.length cL, .slice AK ks.length cK]
  have L1 := (Lay.start hown hB).alloc (.cells #[.int .i64 6, .bool b, .int .i64 m, .string s, .slice AL l.length cL, .slice AK ks.length cK] 25)
  go_enter Try.func35, Try.ntmps35
  go_wp2_with fail
  generalize w.alloc (.cells #[.int .i64 6, .bool b, .int .i64 m, .string s, .slice AL l.length cL, .slice AK ks.length cK] 25) = W at R1 L1 ⊢
  generalize w.heap.size = R at R1 ⊢
  go_region_held3 (fun w' => w'.cell? ⟨R, 2, none⟩ = some (.int .i64 m)) (first | exact blkc R1 rfl | exact blkc (R1.alloc _) rfl | exact blkc hR2 rfl | exact blkc (hL2.blk hR2 (by decide)) rfl) (first
    | (refine step_lay1 (.tmp 54) (.tmp 55) (L1.drewN 1) 7 _ rfl rfl (by omega) rfl rfl rfl rfl (by simp) ?_; intro A1 N1 c1 w1 h1 hL1 hF1; have hR2 : Blk w1 R 25 _ := hF1.block _ _ (R1.drewN 1) (by rintro ⟨_, _, e⟩; cases e))
    | (go_at_call 53; rw [u64p hm hm2]; refine (number_any (k := m.toNat) hL1.own (by omega) (by omega) hL1.sz').mono ?_; rintro e w2 ⟨A2, c2, N2, rfl, hL2⟩))
  go_wp2_with fail
  go_ret
  exact ⟨A2, c2, N2, rfl, by rw [byt]; simpa [tagOf] using hL1.trans hL2⟩

set_option maxHeartbeats 1000000 in
theorem lay7 {w : World} {base n c : Nat} {A : Option Addr} {xs : List UInt8} {cs : Array Value} {S : Nat → Prop} {b : Bool} {m : Int} {s : ByteArray} {l : List V} {ks : List ByteArray}
    (hV : IsV w S (.mk 7 b m s l ks) cs) (hm : 1 ≤ m) (hown : w.ownsRow base 5 1 (.slice A n c) n (xs.map B8)) (hB : base ≤ w.heap.size) (hn : n ≤ 35184372088832) :
    Calls Try.prog 35 #[.slice A n c, .agg cs] w fun e w' => ∃ A' c' N, e = .returned (.slice A' N c') ∧ Lay w base w' A' N c' (xs ++ byt (.mk 7 b m s l ks)) := by
  rw [IsV] at hV
  obtain ⟨AL, cL, AK, cK, ls, rfl, _, ⟨hm1, hm2, _⟩, _⟩ := hV
  have R1 := Blk.new w 25 #[.int .i64 7, .bool b, .int .i64 m, .string s, .slice AL l.length cL, .slice AK ks.length cK]
  have L1 := (Lay.start hown hB).alloc (.cells #[.int .i64 7, .bool b, .int .i64 m, .string s, .slice AL l.length cL, .slice AK ks.length cK] 25)
  go_enter Try.func35, Try.ntmps35
  go_wp2_with fail
  generalize w.alloc (.cells #[.int .i64 7, .bool b, .int .i64 m, .string s, .slice AL l.length cL, .slice AK ks.length cK] 25) = W at R1 L1 ⊢
  generalize w.heap.size = R at R1 ⊢
  go_region_held3 (fun w' => w'.cell? ⟨R, 2, none⟩ = some (.int .i64 m)) (first | exact blkc R1 rfl | exact blkc (R1.alloc _) rfl | exact blkc hR2 rfl | exact blkc (hL2.blk hR2 (by decide)) rfl) (first
    | (refine step_lay1 (.tmp 63) (.tmp 64) (L1.drewN 1) 8 _ rfl rfl (by omega) rfl rfl rfl rfl (by simp) ?_; intro A1 N1 c1 w1 h1 hL1 hF1; have hR2 : Blk w1 R 25 _ := hF1.block _ _ (R1.drewN 1) (by rintro ⟨_, _, e⟩; cases e))
    | (go_at_call 53; rw [u64p hm hm2]; refine (number_any (k := m.toNat) hL1.own (by omega) (by omega) hL1.sz').mono ?_; rintro e w2 ⟨A2, c2, N2, rfl, hL2⟩))
  go_wp2_with fail
  go_ret
  exact ⟨A2, c2, N2, rfl, by rw [byt]; simpa [tagOf] using hL1.trans hL2⟩
end Go.Proofs.Ytaapbiiiepdopaa
