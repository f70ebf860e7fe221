/- A value's bytes, laid behind bytes: lists and maps; every value that may be. -/
import Derived.Test.YtaapbiiiepdopaaLy
namespace Go.Proofs.Ytaapbiiiepdopaa
open Go.RowKit Mem
set_option linter.unusedVariables false

/-- what lay does at a value -/
def LayC (v : V) : Prop := (∃ d p q, may d p v = some q) → ∀ {w : World} {base n c : Nat} {A : Option Addr} {xs : List UInt8} {cs : Array Value} {S : Nat → Prop},
    IsV w S v cs → (∀ b, S b → b < base) → w.ownsRow base 5 1 (.slice A n c) n (xs.map B8) → base ≤ w.heap.size → n + (byt v).length ≤ 35184372088832 →
    Calls Try.prog 35 #[.slice A n c, .agg cs] w fun e w' => ∃ A' c' N, e = .returned (.slice A' N c') ∧ Lay w base w' A' N c' (xs ++ byt v)

theorem byts_step (m : Bool) {l : List V} {ks : List ByteArray} {i : Nat} (h : i < l.length) : byts m (l.drop i) (ks.drop i) = key1 m (ks.drop i) ++ (byt l[i] ++ byts m (l.drop (i + 1)) (ks.drop (i + 1))) := by
  rw [List.drop_eq_getElem_cons h, byts, List.tail_drop]

set_option maxHeartbeats 4000000 in
set_option maxRecDepth 100000 in
theorem lay4 {w : World} {base n c : Nat} {A : Option Addr} {xs : List UInt8} {cs : Array Value} {S : Nat → Prop} {b : Bool} {m : Int} {s : ByteArray} {l : List V} {ks : List ByteArray}
    (ih : ∀ v ∈ l, LayC v) (hmay : ∃ d p q, mays d p l = some q) (hV : IsV w S (.mk 4 b m s l ks) cs) (hS : ∀ b, S b → b < base) (hown : w.ownsRow base 5 1 (.slice A n c) n (xs.map B8)) (hB : base ≤ w.heap.size) (hn : n + (byt (.mk 4 b m s l ks)).length ≤ 35184372088832) :
    Calls Try.prog 35 #[.slice A n c, .agg cs] w fun e w' => ∃ A' c' N, e = .returned (.slice A' N c') ∧ Lay w base w' A' N c' (xs ++ byt (.mk 4 b m s l ks)) := by
  rw [IsV] at hV
  obtain ⟨AL, cL, AK, cK, ls, rfl, ⟨hl1, hl2, _⟩, ⟨hm1, hm2, _⟩, hR, hI, _⟩ := hV
  have hbt : byt (.mk 4 b m s l ks) = 5 :: (num l.length ++ byts false l ks) := by rw [byt]; simp [tagOf]
  have R1 := Blk.new w 25 #[.int .i64 4, .bool b, .int .i64 m, .string s, .slice AL l.length cL, .slice AK ks.length cK]
  have L0 := (Lay.start hown hB).alloc (.cells #[.int .i64 4, .bool b, .int .i64 m, .string s, .slice AL l.length cL, .slice AK ks.length cK] 25)
  have L1 : Lay (w.alloc (.cells #[.int .i64 4, .bool b, .int .i64 m, .string s, .slice AL l.length cL, .slice AK ks.length cK] 25)) base (w.alloc (.cells #[.int .i64 4, .bool b, .int .i64 m, .string s, .slice AL l.length cL, .slice AK ks.length cK] 25)) A n c xs := Lay.start L0.own L0.sz'
  rw [hbt] at hn
  rw [List.length_cons, List.length_append] at hn
  have HBT := hide hbt
  clear hbt
  go_enter Try.func35, Try.ntmps35
  go_wp2_with (first | (at_builtin; refine pause ?_) | fail)
  refine unpause ?_
  refine wpList_lay1 (.tmp 70) (.tmp 76) L1 5 _ rfl rfl (by omega) rfl rfl rfl rfl (by simp) ?_
  intro A1 N1 c1 w1 h1 hL1
  have hI1 := hI.alloc (.cells #[.int .i64 4, .bool b, .int .i64 m, .string s, .slice AL l.length cL, .slice AK ks.length cK] 25)
  have hR1 : RdS (w.alloc (.cells #[.int .i64 4, .bool b, .int .i64 m, .string s, .slice AL l.length cL, .slice AK ks.length cK] 25)) S 6 AL l.length ls := hR.below L0.bel hS
  clear L1 hI hR
  generalize w.alloc (.cells #[.int .i64 4, .bool b, .int .i64 m, .string s, .slice AL l.length cL, .slice AK ks.length cK] 25) = W at R1 L0 hL1 hI1 hR1 ⊢
  generalize w.heap.size = R at R1 ⊢
  have R2 := hL1.blk R1 (by decide)
  have f4 : w1.cell? ⟨R, 4, none⟩ = some (.slice AL l.length cL) := blkc R2 rfl
  go_wp2_with fail
  refine (number_any (k := l.length) hL1.own (by omega) (by omega) hL1.sz').mono ?_
  rintro e w2 ⟨A2, c2, N2, rfl, hL2⟩
  have R3 := hL2.blk R2 (by decide)
  have L2 := hL1.trans hL2
  have f4 : w2.cell? ⟨R, 4, none⟩ = some (.slice AL l.length cL) := blkc R3 rfl
  have HR3 := hide R3
  have HL2 := hide L2
  have hxs : xs.length = n := by simpa using hown.1
  have HX := hide hxs
  clear hL1 hL2 R2 R1 R3 L2 hown hxs
  go_wp2_with fail
  go_loopg [0, 87] l.length (fun g bv iv wr => ∃ (i : Nat) (A : Option Addr) (c N : Nat) (ys : List UInt8), g = l.length - i ∧ bv = .slice A N c ∧ iv = .int .i64 (i : Nat) ∧ i ≤ l.length ∧ Hid (ys ++ byts false (l.drop i) (ks.drop i) = xs ++ byt (.mk 4 b m s l ks)) ∧ Hid (Lay W base wr A N c ys) ∧ Hid (Blk wr R 25 #[.int .i64 4, .bool b, .int .i64 m, .string s, .slice AL l.length cL, .slice AK ks.length cK]))
  case atStart => exact ⟨0, A2, c2, N2, xs ++ [5] ++ num l.length, rfl, rfl, rfl, Nat.zero_le _, hide (by rw [HBT.out]; simp), HL2, HR3⟩
  case round =>
    obtain ⟨i, A3, c3, N3, ys, rfl, rfl, rfl, hi, hE, hL3, hR⟩ := hrel
    by_cases hlt : i < l.length
    · obtain ⟨b2, o2, cs2, rfl, hSb, hb2, hV2, hc2⟩ := (hI1.below hL3.out.bel hS).get (hR1.below hL3.out.bel hS) hlt
      have hst := byts_step false (ks := ks) hlt
      have hmv := mays_mem l hmay.choose_spec.choose_spec.choose_spec l[i] (List.getElem_mem hlt)
      have hlen := congrArg List.length hE.out
      have hNl := hL3.out.len
      rw [hst, HBT.out] at hlen
      rw [hst] at hE
      have hxn := HX.out
      simp only [List.length_append, List.length_cons, key1, Bool.false_eq_true, if_false, List.length_nil] at hlen
      have hN3 : N3 + (byt l[i]).length ≤ 35184372088832 := by omega
      clear hlen hst hxn hNl
      have HV2 := hide hV2
      obtain ⟨k2, bb2, m2, s2, AL2, nL2, cL2, AK2, nK2, cK2, rfl⟩ := hV2.shape
      clear hV2
      have g0 : wr.cell? ⟨b2, o2 + i * 6, none⟩ = some (.int .i64 k2) := hc2 0 (by decide)
      have g1 : wr.cell? ⟨b2, o2 + i * 6 + 1, none⟩ = some (.bool bb2) := hc2 1 (by decide)
      have g2 : wr.cell? ⟨b2, o2 + i * 6 + 2, none⟩ = some (.int .i64 m2) := hc2 2 (by decide)
      have g3 : wr.cell? ⟨b2, o2 + i * 6 + 3, none⟩ = some (.string s2) := hc2 3 (by decide)
      have g4 : wr.cell? ⟨b2, o2 + i * 6 + 4, none⟩ = some (.slice AL2 nL2 cL2) := hc2 4 (by decide)
      have g5 : wr.cell? ⟨b2, o2 + i * 6 + 5, none⟩ = some (.slice AK2 nK2 cK2) := hc2 5 (by decide)
      have f0 : ∀ o, (wr.alloc o).cell? ⟨R, 0, none⟩ = some (.int .i64 4) := fun o => blkc (hR.out.alloc o) rfl
      clear hc2
      go_wp2_with fail
      refine (ih l[i] (List.getElem_mem hlt) hmv (HV2.out.alloc _) hS (hL3.out.alloc (.cells #[.int .i64 k2, .bool bb2, .int .i64 m2, .string s2, .slice AL2 nL2 cL2, .slice AK2 nK2 cK2] 25)).own (hL3.out.alloc (.cells #[.int .i64 k2, .bool bb2, .int .i64 m2, .string s2, .slice AL2 nL2 cL2, .slice AK2 nK2 cK2] 25)).sz' hN3).mono ?_
      rintro e w4 ⟨A4, c4, N4, rfl, hL4⟩
      have hR4 := hide (hL4.blk (hR.out.alloc _) (by decide))
      have HL4 := hide ((hL3.out.alloc _).trans hL4)
      have HE4 : Hid ((ys ++ byt l[i]) ++ byts false (l.drop (i + 1)) (ks.drop (i + 1)) = xs ++ byt (.mk 4 b m s l ks)) := hide (by rw [← hE.out]; simp [key1])
      clear hL4 hL3 hE g0 g1 g2 g3 g4 g5 f0 f4 HV2 hN3 hmv hR
      go_wp2_with fail
      go_roundg (l.length - (i + 1))
      case measure => omega
      case rel => exact ⟨i + 1, A4, c4, N4, ys ++ byt l[i], rfl, rfl, by go_num, by omega, HE4, HL4, hR4⟩
    · have hil : i = l.length := by omega
      have he : ys = xs ++ byt (.mk 4 b m s l ks) := by
        rw [← hE.out, hil, List.drop_length, byts, List.append_nil]
      rw [he] at hL3
      clear hil he hE
      go_wp2
      go_ret
      exact ⟨A3, c3, N3, rfl, L0.trans hL3.out⟩
set_option maxHeartbeats 4000000 in
set_option maxRecDepth 100000 in
theorem lay5 {w : World} {base n c : Nat} {A : Option Addr} {xs : List UInt8} {cs : Array Value} {S : Nat → Prop} {b : Bool} {m : Int} {s : ByteArray} {l : List V} {ks : List ByteArray}
    (ih : ∀ v ∈ l, LayC v) (hmay : ∃ d p q, mays d p l = some q) (hkl : ks.length ≤ l.length ∧ l.length ≤ ks.length) (hV : IsV w S (.mk 5 b m s l ks) cs) (hS : ∀ b, S b → b < base) (hown : w.ownsRow base 5 1 (.slice A n c) n (xs.map B8)) (hB : base ≤ w.heap.size) (hn : n + (byt (.mk 5 b m s l ks)).length ≤ 35184372088832) :
    Calls Try.prog 35 #[.slice A n c, .agg cs] w fun e w' => ∃ A' c' N, e = .returned (.slice A' N c') ∧ Lay w base w' A' N c' (xs ++ byt (.mk 5 b m s l ks)) := by
  obtain ⟨hkl1, hkl2⟩ := hkl
  rw [IsV] at hV
  obtain ⟨AL, cL, AK, cK, ls, rfl, ⟨hl1, hl2, _⟩, ⟨hm1, hm2, _, _, _, hks⟩, hR, hI, hK⟩ := hV
  have hbt : byt (.mk 5 b m s l ks) = 6 :: (num l.length ++ byts true l ks) := by rw [byt]; simp [tagOf]
  have R1 := Blk.new w 25 #[.int .i64 5, .bool b, .int .i64 m, .string s, .slice AL l.length cL, .slice AK ks.length cK]
  have L0 := (Lay.start hown hB).alloc (.cells #[.int .i64 5, .bool b, .int .i64 m, .string s, .slice AL l.length cL, .slice AK ks.length cK] 25)
  have L1 : Lay (w.alloc (.cells #[.int .i64 5, .bool b, .int .i64 m, .string s, .slice AL l.length cL, .slice AK ks.length cK] 25)) base (w.alloc (.cells #[.int .i64 5, .bool b, .int .i64 m, .string s, .slice AL l.length cL, .slice AK ks.length cK] 25)) A n c xs := Lay.start L0.own L0.sz'
  rw [hbt] at hn
  rw [List.length_cons, List.length_append] at hn
  have HBT := hide hbt
  clear hbt
  go_enter Try.func35, Try.ntmps35
  go_wp2_with (first | (at_builtin; refine pause ?_) | fail)
  refine unpause ?_
  refine wpList_lay1 (.tmp 70) (.tmp 76) L1 6 _ rfl rfl (by omega) rfl rfl rfl rfl (by simp) ?_
  intro A1 N1 c1 w1 h1 hL1
  have hI1 := hI.alloc (.cells #[.int .i64 5, .bool b, .int .i64 m, .string s, .slice AL l.length cL, .slice AK ks.length cK] 25)
  have hR1 : RdS (w.alloc (.cells #[.int .i64 5, .bool b, .int .i64 m, .string s, .slice AL l.length cL, .slice AK ks.length cK] 25)) S 6 AL l.length ls := hR.below L0.bel hS
  have hK1 : RdS (w.alloc (.cells #[.int .i64 5, .bool b, .int .i64 m, .string s, .slice AL l.length cL, .slice AK ks.length cK] 25)) S 1 AK ks.length (ks.map .string) := hK.below L0.bel hS
  clear L1 hI hR hK
  generalize w.alloc (.cells #[.int .i64 5, .bool b, .int .i64 m, .string s, .slice AL l.length cL, .slice AK ks.length cK] 25) = W at R1 L0 hL1 hI1 hR1 hK1 ⊢
  generalize w.heap.size = R at R1 ⊢
  have R2 := hL1.blk R1 (by decide)
  have f4 : w1.cell? ⟨R, 4, none⟩ = some (.slice AL l.length cL) := blkc R2 rfl
  go_wp2_with fail
  refine (number_any (k := l.length) hL1.own (by omega) (by omega) hL1.sz').mono ?_
  rintro e w2 ⟨A2, c2, N2, rfl, hL2⟩
  have R3 := hL2.blk R2 (by decide)
  have L2 := hL1.trans hL2
  have f4 : w2.cell? ⟨R, 4, none⟩ = some (.slice AL l.length cL) := blkc R3 rfl
  have HR3 := hide R3
  have HL2 := hide L2
  have hxs : xs.length = n := by simpa using hown.1
  have HX := hide hxs
  clear hL1 hL2 R2 R1 R3 L2 hown hxs
  go_wp2_with fail
  go_loopg [0, 87] l.length (fun g bv iv wr => ∃ (i : Nat) (A : Option Addr) (c N : Nat) (ys : List UInt8), g = l.length - i ∧ bv = .slice A N c ∧ iv = .int .i64 (i : Nat) ∧ i ≤ l.length ∧ Hid (ys ++ byts true (l.drop i) (ks.drop i) = xs ++ byt (.mk 5 b m s l ks)) ∧ Hid (Lay W base wr A N c ys) ∧ Hid (Blk wr R 25 #[.int .i64 5, .bool b, .int .i64 m, .string s, .slice AL l.length cL, .slice AK ks.length cK]))
  case atStart => exact ⟨0, A2, c2, N2, xs ++ [6] ++ num l.length, rfl, rfl, rfl, Nat.zero_le _, hide (by rw [HBT.out]; simp), HL2, HR3⟩
  case round =>
    obtain ⟨i, A3, c3, N3, ys, rfl, rfl, rfl, hi, hE, hL3, hR⟩ := hrel
    by_cases hlt : i < l.length
    · obtain ⟨b2, o2, cs2, rfl, hSb, hb2, hV2, hc2⟩ := (hI1.below hL3.out.bel hS).get (hR1.below hL3.out.bel hS) hlt
      obtain ⟨bk, ok, eAK, hSk, hbk, hck⟩ := (hK1.below hL3.out.bel hS).plain (by omega) (by omega)
      have hkc : wr.cell? ⟨bk, ok + i, none⟩ = some (.string (ks[i]'(by omega))) := by
        rw [hck i (by omega)]
        simp [show i < ks.length by omega]
      have hks8 := hks (ks[i]'(by omega)) (List.getElem_mem _)
      have hkey : key1 true (ks.drop i) = num (ks[i]'(by omega)).size ++ str (ks[i]'(by omega)) := by rw [List.drop_eq_getElem_cons (by omega)]; rfl
      have hst := byts_step true (ks := ks) hlt
      have hmv := mays_mem l hmay.choose_spec.choose_spec.choose_spec l[i] (List.getElem_mem hlt)
      have hlen := congrArg List.length hE.out
      have hNl := hL3.out.len
      rw [hkey] at hst
      rw [hst, HBT.out] at hlen
      rw [hst] at hE
      have hxn := HX.out
      simp only [List.length_append, List.length_cons, str_len] at hlen
      have hN3 : N3 + (num (ks[i]'(by omega)).size).length + (ks[i]'(by omega)).size + (byt l[i]).length ≤ 35184372088832 := by omega
      generalize ks[i]'(by omega) = kk at hkc hks8 hkey hE hN3 hst
      subst eAK
      clear hlen hst hxn hNl hkey hck
      have HV2 := hide hV2
      obtain ⟨k2, bb2, m2, s2, AL2, nL2, cL2, AK2, nK2, cK2, rfl⟩ := hV2.shape
      clear hV2
      have g0 : wr.cell? ⟨b2, o2 + i * 6, none⟩ = some (.int .i64 k2) := hc2 0 (by decide)
      have g1 : wr.cell? ⟨b2, o2 + i * 6 + 1, none⟩ = some (.bool bb2) := hc2 1 (by decide)
      have g2 : wr.cell? ⟨b2, o2 + i * 6 + 2, none⟩ = some (.int .i64 m2) := hc2 2 (by decide)
      have g3 : wr.cell? ⟨b2, o2 + i * 6 + 3, none⟩ = some (.string s2) := hc2 3 (by decide)
      have g4 : wr.cell? ⟨b2, o2 + i * 6 + 4, none⟩ = some (.slice AL2 nL2 cL2) := hc2 4 (by decide)
      have g5 : wr.cell? ⟨b2, o2 + i * 6 + 5, none⟩ = some (.slice AK2 nK2 cK2) := hc2 5 (by decide)
      have f0 : ∀ o, (wr.alloc o).cell? ⟨R, 0, none⟩ = some (.int .i64 5) := fun o => blkc (hR.out.alloc o) rfl
      clear hc2
      have hin1 : (i : Int) < (ks.length : Int) := by omega
      go_wp2_with fail
      have hRq := hR.out.alloc (.cells #[.int .i64 k2, .bool bb2, .int .i64 m2, .string s2, .slice AL2 nL2 cL2, .slice AK2 nK2 cK2] 25)
      have hLq := hL3.out.alloc (.cells #[.int .i64 k2, .bool bb2, .int .i64 m2, .string s2, .slice AL2 nL2 cL2, .slice AK2 nK2 cK2] 25)
      have hXq := Blk.new wr 25 #[.int .i64 k2, .bool bb2, .int .i64 m2, .string s2, .slice AL2 nL2 cL2, .slice AK2 nK2 cK2]
      have hVq := HV2.out.alloc (.cells #[.int .i64 k2, .bool bb2, .int .i64 m2, .string s2, .slice AL2 nL2 cL2, .slice AK2 nK2 cK2] 25)
      have hkq : ∀ o, (wr.alloc o).cell? ⟨bk, ok + i, none⟩ = some (.string kk) := fun o => (World.cell?_alloc_lt wr o ⟨bk, ok + i, none⟩ hbk).trans hkc
      have hkq := hkq (.cells #[.int .i64 k2, .bool bb2, .int .i64 m2, .string s2, .slice AL2 nL2 cL2, .slice AK2 nK2 cK2] 25)
      have hkb := hS bk hSk
      clear f0 g0 g1 g2 g3 g4 g5 hkc HV2 hR hL3 f4
      generalize wr.alloc (.cells #[.int .i64 k2, .bool bb2, .int .i64 m2, .string s2, .slice AL2 nL2 cL2, .slice AK2 nK2 cK2] 25) = wq at hRq hLq hXq hVq hkq ⊢
      generalize wr.heap.size = X at hXq ⊢
      have hkk8 : kk.size < 18446744073709551616 := by omega
      have hys := hLq.len
      have hyb : ys.length ≤ 35184372088832 := by omega
      clear hys
      go_region_held3 (fun w' => w'.cell? ⟨R, 5, none⟩ = some (.slice (some ⟨bk, ok, none⟩) ks.length cK) ∧ w'.cell? ⟨bk, ok + i, none⟩ = some (.string kk))
        (first | exact ⟨blkc hRq rfl, hkq⟩ | exact ⟨blkc (hLn.blk hRq (by decide)) rfl, (hLn.bel.cell (by exact hkb)).trans hkq⟩ | exact ⟨blkc (hL5.blk hRq (by decide)) rfl, (hL5.bel.cell (by exact hkb)).trans hkq⟩) (first
        | (refine step_layS (.tmp 103) (.tmp 108) hL5 (y := kk) (by have h1 := hL5.len; have h2 := hLq.len; simp only [List.length_append] at h1; omega) rfl rfl rfl rfl ?_; intro A5 N5 c5 w5 h5 hL5 hF5)
        | (go_at_call 53; (try rw [u64n hkk8]); refine (number_any (k := kk.size) (hLq.drewN 1).own hkk8 (by omega) (hLq.drewN 1).sz').mono ?_; rintro e w5 ⟨A5, c5, N5, rfl, hL5⟩))
      have hX5 := hL5.blk (hXq.drewN 1) (by decide)
      have hR5 := hL5.blk (hRq.drewN 1) (by decide)
      have hV5 := (hVq.drewN 1).below hL5.bel hS
      have hL6 := (hLq.drewN 1).trans hL5
      have g0 : w5.cell? ⟨X, 0, none⟩ = some (.int .i64 k2) := blkc hX5 rfl
      have g1 : w5.cell? ⟨X, 1, none⟩ = some (.bool bb2) := blkc hX5 rfl
      have g2 : w5.cell? ⟨X, 2, none⟩ = some (.int .i64 m2) := blkc hX5 rfl
      have g3 : w5.cell? ⟨X, 3, none⟩ = some (.string s2) := blkc hX5 rfl
      have g4 : w5.cell? ⟨X, 4, none⟩ = some (.slice AL2 nL2 cL2) := blkc hX5 rfl
      have g5 : w5.cell? ⟨X, 5, none⟩ = some (.slice AK2 nK2 cK2) := blkc hX5 rfl
      have hN5 : N5 + (byt l[i]).length ≤ 35184372088832 := by
        have h1 := hL6.len
        have h2 := hLq.len
        simp only [List.length_append, str_len] at h1
        omega
      go_wp2_with fail
      refine (ih l[i] (List.getElem_mem hlt) hmv hV5 hS hL6.own hL6.sz' hN5).mono ?_
      rintro e w4 ⟨A4, c4, N4, rfl, hL4⟩
      have hR4 := hide (hL4.blk hR5 (by decide))
      have HL4 := hide (hL6.trans hL4)
      have HE4 : Hid ((ys ++ num kk.size ++ str kk ++ byt l[i]) ++ byts true (l.drop (i + 1)) (ks.drop (i + 1)) = xs ++ byt (.mk 5 b m s l ks)) := hide (by rw [← hE.out]; simp [List.append_assoc])
      clear hL4 hE g0 g1 g2 g3 g4 g5 f4 hV5 hVq hX5 hXq hR5 hRq hL6 hLq hN3 hN5 hmv hkq hL5 hF5
      go_wp2_with fail
      go_roundg (l.length - (i + 1))
      case measure => omega
      case rel => exact ⟨i + 1, A4, c4, N4, _, rfl, rfl, by go_num, by omega, HE4, HL4, hR4⟩
    · have hil : i = l.length := by omega
      have he : ys = xs ++ byt (.mk 5 b m s l ks) := by
        rw [← hE.out, hil, List.drop_length, byts, List.append_nil]
      rw [he] at hL3
      clear hil he hE
      go_wp2
      go_ret
      exact ⟨A3, c3, N3, rfl, L0.trans hL3.out⟩

theorem lay_any (v : V) : LayC v := by
  refine V.ind (P := LayC) ?_ v
  intro k b m s l ks ih ⟨d, p, q, hm⟩ w base n c A xs cs S hV hS hown hB hn
  rw [may] at hm
  by_cases hc : p + 1 ≤ 4096 ∧ 1 ≤ d ∧ headB k b m s l.length ks = true
  · rw [if_pos hc] at hm
    obtain ⟨h0, h7, _, _, _, _, _, hm1, hks⟩ := headB_iff.1 hc.2.2
    have hk : k = 0 ∨ k = 1 ∨ k = 2 ∨ k = 3 ∨ k = 4 ∨ k = 5 ∨ k = 6 ∨ k = 7 := by omega
    rcases hk with rfl | rfl | rfl | rfl | rfl | rfl | rfl | rfl
    · exact lay0 hV hown hB (by omega)
    · exact lay1 hV hown hB (by omega)
    · exact lay2 hV hown hB (by omega)
    · refine lay3 hV hown hB ?_
      rw [byt] at hn
      simp [str_len] at hn
      omega
    · exact lay4 ih ⟨_, _, _, hm⟩ hV hS hown hB hn
    · have := (hks rfl).1
      exact lay5 ih ⟨_, _, _, hm⟩ ⟨by omega, by omega⟩ hV hS hown hB hn
    · exact lay6 hV (by omega) hown hB (by omega)
    · exact lay7 hV (by omega) hown hB (by omega)
  · rw [if_neg hc] at hm; cases hm
end Go.Proofs.Ytaapbiiiepdopaa
