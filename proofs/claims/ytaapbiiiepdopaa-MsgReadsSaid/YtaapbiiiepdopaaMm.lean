/- wattleref08.Decode. -/
import Derived.Test.YtaapbiiiepdopaaMl
import Derived.Test.YtaapbiiiepdopaaQdA
import Derived.Deep.Cut
namespace Go.Proofs.Ytaapbiiiepdopaa
open Go.RowKit Mem Go.Deep
set_option linter.unusedVariables false
set_option linter.unusedSimpArgs false

theorem refl_of {B : Nat} {w W : World} (h : Below B w W) (S : Nat → Prop) : Only S W W := Only.refl S W
theorem rdecM_1 {bs : List UInt8} {z : Int} (h : dec bs = .error z) : rdecM bs = none := by unfold rdecM; rw [h]
theorem rdecM_2 {bs : List UInt8} {v : V} {n q : Nat} (h : dec bs = .ok (v, n, q)) (h2 : ¬ (n = bs.length ∧ 1 ≤ v.l.length ∧ v.l.length ≤ 3)) : rdecM bs = none := by unfold rdecM; rw [h]; exact if_neg h2
theorem rdecM_3 {bs : List UInt8} {v : V} {n q : Nat} (h : dec bs = .ok (v, n, q)) (h2 : n = bs.length ∧ 1 ≤ v.l.length ∧ v.l.length ≤ 3) (h3 : ¬ (okM (rofM v.l) = true ∧ bs.length ≤ 32768 ∧ listM (rofM v.l) = v)) : rdecM bs = none := by unfold rdecM; rw [h]; dsimp only; rw [if_pos h2, if_neg h3]
theorem rdecM_4 {bs : List UInt8} {v : V} {n q : Nat} (h : dec bs = .ok (v, n, q)) (h2 : n = bs.length ∧ 1 ≤ v.l.length ∧ v.l.length ≤ 3) (h3 : okM (rofM v.l) = true ∧ bs.length ≤ 32768 ∧ listM (rofM v.l) = v) : rdecM bs = some (rofM v.l) := by unfold rdecM; rw [h]; dsimp only; rw [if_pos h2, if_pos h3]
theorem rof1 {x : V} {k : Int} (hk : (if 1 ≤ x.n ∧ x.n ≤ 19 then x.n else -1) = k) : rofM [x] = ⟨k, .empty, .empty, 0, nul⟩ := by subst hk; rfl
theorem rof2 {x a : V} {r : List V} {k : Int} (hk : (if 1 ≤ x.n ∧ x.n ≤ 19 then x.n else -1) = k) : rofM (x :: a :: r) = if k = 1 then ⟨k, a.s, .empty, 0, nul⟩ else if k = 3 then ⟨k, .empty, a.s, 0, (a :: r).getLast (by simp)⟩ else if k = 4 ∨ k = 18 then ⟨k, .empty, .empty, a.n, nul⟩ else ⟨k, .empty, .empty, 0, a⟩ := by subst hk; rfl
theorem IsM_mk {w : World} {S : Nat → Prop} {m : M} {k n k2 m2 : Int} {b2 : Bool} {s t s2 : ByteArray} {AL AK : Option Addr} {nL cL nK cK : Nat} (hm : wfM m)
    (e1 : m.k = k) (e2 : m.s = s) (e3 : m.t = t) (e4 : m.n = n) (hv : IsV w S m.v #[.int .i64 k2, .bool b2, .int .i64 m2, .string s2, .slice AL nL cL, .slice AK nK cK]) :
    IsM w S m #[.int .i64 k, .string s, .string t, .int .i64 n, .int .i64 k2, .bool b2, .int .i64 m2, .string s2, .slice AL nL cL, .slice AK nK cK] := by
  subst e1 e2 e3 e4
  exact ⟨_, _, _, _, _, _, _, _, _, _, rfl, hv, hm.1.1, hm.1.2, hm.2.1.1, hm.2.1.2, hm.2.2.1, hm.2.2.2.1⟩
def AtM (w : World) (S : Nat → Prop) (MB : Nat) (m : M) : Prop := ∃ mk ms mt mn k9 b9 n9 s9 AL9 nL9 cL9 AK9 nK9 cK9, Blk w MB 41 #[.int .i64 mk, .string ms, .string mt, .int .i64 mn, .int .i64 k9, .bool b9, .int .i64 n9, .string s9, .slice AL9 nL9 cL9, .slice AK9 nK9 cK9] ∧ IsM w S m #[.int .i64 mk, .string ms, .string mt, .int .i64 mn, .int .i64 k9, .bool b9, .int .i64 n9, .string s9, .slice AL9 nL9 cL9, .slice AK9 nK9 cK9]
theorem el_is {w : World} {S : Nat → Prop} {a : V} {k n : Int} {b : Bool} {s : ByteArray} {AL AK : Option Addr} {nL cL nK cK : Nat} (h : IsV w S a #[.int .i64 k, .bool b, .int .i64 n, .string s, .slice AL nL cL, .slice AK nK cK]) :
    a.k = k ∧ a.n = n ∧ a.s = s ∧ (-9223372036854775808 ≤ n ∧ n ≤ 9223372036854775807) ∧ s.size ≤ 9223372036854775807 := by
  obtain ⟨k9, b9, n9, s9, l9, ks9⟩ := a
  rw [IsV] at h
  obtain ⟨_, _, _, _, _, e, _, hrg, _⟩ := h
  cases e
  exact ⟨rfl, rfl, rfl, ⟨hrg.1, hrg.2.1⟩, hrg.2.2.2.2.1⟩
theorem bdm1 : (-9223372036854775808 : Int) ≤ -1 ∧ (-1 : Int) ≤ 9223372036854775807 := by decide
set_option maxHeartbeats 8000000 in
set_option maxRecDepth 100000 in
theorem rdecode_any {w : World} {A : Option Addr} {n c : Nat} {bs : List UInt8} (hr : Reads w 0 w.heap.size 1 A n (bs.map B8)) (hc : n ≤ c ∧ c ≤ 9223372036854775807)  :
    Calls Try.prog 22 #[.slice A n c] w fun e w' => DecMP (rdecM bs) w e w' := by
  have hlen : bs.length = n := by simpa using hr.1
  have R0 := Blk.new w 41 #[.int .i64 0, .string ⟨#[]⟩, .string ⟨#[]⟩, .int .i64 0, .int .i64 0, .bool false, .int .i64 0, .string ⟨#[]⟩, .slice none 0 0, .slice none 0 0]
  have B0 := (Below.refl w.heap.size w).alloc (Nat.le_refl _) (.cells #[.int .i64 0, .string ⟨#[]⟩, .string ⟨#[]⟩, .int .i64 0, .int .i64 0, .bool false, .int .i64 0, .string ⟨#[]⟩, .slice none 0 0, .slice none 0 0] 41)
  have H1 := hide (refdec_any ((hr.below B0 (Nat.le_refl _)).more (Nat.le_refl _) (show w.heap.size ≤ (w.alloc (.cells #[.int .i64 0, .string ⟨#[]⟩, .string ⟨#[]⟩, .int .i64 0, .int .i64 0, .bool false, .int .i64 0, .string ⟨#[]⟩, .slice none 0 0, .slice none 0 0] 41)).heap.size by simp)) hc (by omega))
  have HR0 := hide R0
  have HB0 := hide B0
  have HLEN := hide hlen
  have hnm : n ≤ 9223372036854775807 := by omega
  clear R0 B0 hr hlen
  go_enter Try.func22, Try.ntmps22
  go_wp2_with fail
  generalize w.alloc (.cells #[.int .i64 0, .string ⟨#[]⟩, .string ⟨#[]⟩, .int .i64 0, .int .i64 0, .bool false, .int .i64 0, .string ⟨#[]⟩, .slice none 0 0, .slice none 0 0] 41) = W at HR0 HB0 H1 ⊢
  refine H1.out.mono ?_
  intro e w2 he
  obtain ⟨b2, v, cs, at1, z1, rfl, V2, h1⟩ := DecP_un he
  obtain ⟨kz, bz, nz, sz, l, ksz, AL, cL, AK, cK, xs, rfl, rfl, hcL, hR, hI⟩ := V2.six
  have R2 := HR0.out.below b2 HR0.out.lt
  have HS12 := b2.size
  have HB2 := hide (HB0.out.trans (b2.mono HB0.out.size))
  have HR3 := hide (R2.alloc (.cells #[.int .i64 kz, .bool bz, .int .i64 nz, .string sz, .slice AL l.length cL, .slice AK ksz.length cK] 25))
  have HB3 := hide (HB2.out.alloc HB2.out.size (.cells #[.int .i64 kz, .bool bz, .int .i64 nz, .string sz, .slice AL l.length cL, .slice AK ksz.length cK] 25))
  have HN3 := hide (Blk.new w2 25 #[.int .i64 kz, .bool bz, .int .i64 nz, .string sz, .slice AL l.length cL, .slice AK ksz.length cK])
  have HIV3 := hide (V2.alloc (.cells #[.int .i64 kz, .bool bz, .int .i64 nz, .string sz, .slice AL l.length cL, .slice AK ksz.length cK] 25))
  have HE3 := hide (And.intro (hR.grow ((Below.refl w2.heap.size w2).alloc (Nat.le_refl _) (.cells #[.int .i64 kz, .bool bz, .int .i64 nz, .string sz, .slice AL l.length cL, .slice AK ksz.length cK] 25))) (hI.grow ((Below.refl w2.heap.size w2).alloc (Nat.le_refl _) (.cells #[.int .i64 kz, .bool bz, .int .i64 nz, .string sz, .slice AL l.length cL, .slice AK ksz.length cK] 25))))
  have hRW : w.heap.size < W.heap.size := HR0.out.lt
  clear R2 he b2 V2 H1 HR0 HB0 hR hI HB2
  go_upto_region 2 with (fail)
  have HVR : w.heap.size < w2.heap.size := Nat.lt_of_lt_of_le hRW HS12
  generalize w2.alloc (.cells #[.int .i64 kz, .bool bz, .int .i64 nz, .string sz, .slice AL l.length cL, .slice AK ksz.length cK] 25) = w3 at HR3 HB3 HN3 HIV3 HE3 ⊢
  cases hd : dec bs with
  | error y =>
    rw [hd] at h1
    have hz : ¬ z1 = 0 := by rcases dec_err hd with h | h <;> (have := h1.2.2; omega)
    have HZ := hide (rdecM_1 hd)
    have tz : (z1 == 0) = false := by simp [hz]
    have tz2 : (z1 != 0) = true := by simp [hz]
    have HZ1 := hide hz
    clear h1 hd hz
    have rz0 : w3.cell? ⟨w.heap.size, 0, none⟩ = some (.int .i64 0) := blkR HR3.out rfl
    have rz1 : w3.cell? ⟨w.heap.size, 1, none⟩ = some (.string ⟨#[]⟩) := blkR HR3.out rfl
    have rz2 : w3.cell? ⟨w.heap.size, 2, none⟩ = some (.string ⟨#[]⟩) := blkR HR3.out rfl
    have rz3 : w3.cell? ⟨w.heap.size, 3, none⟩ = some (.int .i64 0) := blkR HR3.out rfl
    have rz4 : w3.cell? ⟨w.heap.size, 4, none⟩ = some (.int .i64 0) := blkR HR3.out rfl
    have rz5 : w3.cell? ⟨w.heap.size, 5, none⟩ = some (.bool false) := blkR HR3.out rfl
    have rz6 : w3.cell? ⟨w.heap.size, 6, none⟩ = some (.int .i64 0) := blkR HR3.out rfl
    have rz7 : w3.cell? ⟨w.heap.size, 7, none⟩ = some (.string ⟨#[]⟩) := blkR HR3.out rfl
    have rz8 : w3.cell? ⟨w.heap.size, 8, none⟩ = some (.slice none 0 0) := blkR HR3.out rfl
    have rz9 : w3.cell? ⟨w.heap.size, 9, none⟩ = some (.slice none 0 0) := blkR HR3.out rfl
    have rzf : ∀ i, w3.frozen? ⟨w.heap.size, i, none⟩ = false := fun i => HR3.out.frozen i
    have HD := hide (show rdecM bs = none from HZ.out)
    have HXE := hide (set10 HR3.out (.int .i64 0) (.string ⟨#[]⟩) (.string ⟨#[]⟩) (.int .i64 0) (.int .i64 0) (.bool false) (.int .i64 0) (.string ⟨#[]⟩) (.slice none 0 0) (.slice none 0 0))
    have OE := only10 (refl_of HB3.out (fun b => b = w.heap.size)) (.inl rfl) (.int .i64 0) (.string ⟨#[]⟩) (.string ⟨#[]⟩) (.int .i64 0) (.int .i64 0) (.bool false) (.int .i64 0) (.string ⟨#[]⟩) (.slice none 0 0) (.slice none 0 0)
    have HOE := hide OE
    have HBE := hide (HB3.out.trans (OE.below (B := w.heap.size) (by intro b _ e; have e : b = w.heap.size := e; omega) HB3.out.size))
    clear OE
    go_wp2
    refine bodyPost_ret (results_cell2 rfl _ _ w.heap.size 41 _ _ rfl HXE.out Try.underlying41 rfl (by kernel_rfl)) rfl ?_
    exact DecMP_no HD.out HBE.out
  | ok q =>
    obtain ⟨v0, a0, q0⟩ := q
    rw [hd] at h1
    obtain ⟨hv, hn0, hz⟩ := h1
    subst hz
    cases hv
    subst hn0
    have HDD := hide hd
    clear hd
    by_cases hne : at1 = n
    · subst hne
      have t1 : ((at1 : Int) == (at1 : Int)) = true := by simp
      have t2 : ((at1 : Int) != (at1 : Int)) = false := by simp
      obtain ⟨L, hLL⟩ : ∃ L, L = l.length := ⟨_, rfl⟩
      have HLL := hide hLL
      rw [← hLL] at hcL HN3 HIV3 ⊢
      clear hLL
      have v4 : w3.cell? ⟨w2.heap.size, 4, none⟩ = some (.slice AL L cL) := blkR HN3.out rfl
      by_cases hL0 : L = 0
      · have HNL := hide (show ¬ (1 ≤ l.length ∧ l.length ≤ 3) by rw [← HLL.out]; omega)
        have tl : ((L : Int) == 0) = true := by simp [hL0]
        have HL0 := hide hL0
        clear hL0
        have rz0 : w3.cell? ⟨w.heap.size, 0, none⟩ = some (.int .i64 0) := blkR HR3.out rfl
        have rz1 : w3.cell? ⟨w.heap.size, 1, none⟩ = some (.string ⟨#[]⟩) := blkR HR3.out rfl
        have rz2 : w3.cell? ⟨w.heap.size, 2, none⟩ = some (.string ⟨#[]⟩) := blkR HR3.out rfl
        have rz3 : w3.cell? ⟨w.heap.size, 3, none⟩ = some (.int .i64 0) := blkR HR3.out rfl
        have rz4 : w3.cell? ⟨w.heap.size, 4, none⟩ = some (.int .i64 0) := blkR HR3.out rfl
        have rz5 : w3.cell? ⟨w.heap.size, 5, none⟩ = some (.bool false) := blkR HR3.out rfl
        have rz6 : w3.cell? ⟨w.heap.size, 6, none⟩ = some (.int .i64 0) := blkR HR3.out rfl
        have rz7 : w3.cell? ⟨w.heap.size, 7, none⟩ = some (.string ⟨#[]⟩) := blkR HR3.out rfl
        have rz8 : w3.cell? ⟨w.heap.size, 8, none⟩ = some (.slice none 0 0) := blkR HR3.out rfl
        have rz9 : w3.cell? ⟨w.heap.size, 9, none⟩ = some (.slice none 0 0) := blkR HR3.out rfl
        have rzf : ∀ i, w3.frozen? ⟨w.heap.size, i, none⟩ = false := fun i => HR3.out.frozen i
        have HD := hide (show rdecM bs = none from rdecM_2 HDD.out (fun h => HNL.out h.2))
        have HXE := hide (set10 HR3.out (.int .i64 0) (.string ⟨#[]⟩) (.string ⟨#[]⟩) (.int .i64 0) (.int .i64 0) (.bool false) (.int .i64 0) (.string ⟨#[]⟩) (.slice none 0 0) (.slice none 0 0))
        have OE := only10 (refl_of HB3.out (fun b => b = w.heap.size)) (.inl rfl) (.int .i64 0) (.string ⟨#[]⟩) (.string ⟨#[]⟩) (.int .i64 0) (.int .i64 0) (.bool false) (.int .i64 0) (.string ⟨#[]⟩) (.slice none 0 0) (.slice none 0 0)
        have HOE := hide OE
        have HBE := hide (HB3.out.trans (OE.below (B := w.heap.size) (by intro b _ e; have e : b = w.heap.size := e; omega) HB3.out.size))
        clear OE
        go_wp2
        refine bodyPost_ret (results_cell2 rfl _ _ w.heap.size 41 _ _ rfl HXE.out Try.underlying41 rfl (by kernel_rfl)) rfl ?_
        exact DecMP_no HD.out HBE.out
      · have tl : ((L : Int) == 0) = false := by simp; omega
        by_cases hL4 : 3 < L
        · have HNL := hide (show ¬ (1 ≤ l.length ∧ l.length ≤ 3) by rw [← HLL.out]; omega)
          have tg : decide ((3 : Int) < (L : Int)) = true := by simp; omega
          have tga : (3 : Int) < (L : Int) := by omega
          have rz0 : w3.cell? ⟨w.heap.size, 0, none⟩ = some (.int .i64 0) := blkR HR3.out rfl
          have rz1 : w3.cell? ⟨w.heap.size, 1, none⟩ = some (.string ⟨#[]⟩) := blkR HR3.out rfl
          have rz2 : w3.cell? ⟨w.heap.size, 2, none⟩ = some (.string ⟨#[]⟩) := blkR HR3.out rfl
          have rz3 : w3.cell? ⟨w.heap.size, 3, none⟩ = some (.int .i64 0) := blkR HR3.out rfl
          have rz4 : w3.cell? ⟨w.heap.size, 4, none⟩ = some (.int .i64 0) := blkR HR3.out rfl
          have rz5 : w3.cell? ⟨w.heap.size, 5, none⟩ = some (.bool false) := blkR HR3.out rfl
          have rz6 : w3.cell? ⟨w.heap.size, 6, none⟩ = some (.int .i64 0) := blkR HR3.out rfl
          have rz7 : w3.cell? ⟨w.heap.size, 7, none⟩ = some (.string ⟨#[]⟩) := blkR HR3.out rfl
          have rz8 : w3.cell? ⟨w.heap.size, 8, none⟩ = some (.slice none 0 0) := blkR HR3.out rfl
          have rz9 : w3.cell? ⟨w.heap.size, 9, none⟩ = some (.slice none 0 0) := blkR HR3.out rfl
          have rzf : ∀ i, w3.frozen? ⟨w.heap.size, i, none⟩ = false := fun i => HR3.out.frozen i
          have HD := hide (show rdecM bs = none from rdecM_2 HDD.out (fun h => HNL.out h.2))
          have HXE := hide (set10 HR3.out (.int .i64 0) (.string ⟨#[]⟩) (.string ⟨#[]⟩) (.int .i64 0) (.int .i64 0) (.bool false) (.int .i64 0) (.string ⟨#[]⟩) (.slice none 0 0) (.slice none 0 0))
          have OE := only10 (refl_of HB3.out (fun b => b = w.heap.size)) (.inl rfl) (.int .i64 0) (.string ⟨#[]⟩) (.string ⟨#[]⟩) (.int .i64 0) (.int .i64 0) (.bool false) (.int .i64 0) (.string ⟨#[]⟩) (.slice none 0 0) (.slice none 0 0)
          have HOE := hide OE
          have HBE := hide (HB3.out.trans (OE.below (B := w.heap.size) (by intro b _ e; have e : b = w.heap.size := e; omega) HB3.out.size))
          clear OE
          go_wp2
          refine bodyPost_ret (results_cell2 rfl _ _ w.heap.size 41 _ _ rfl HXE.out Try.underlying41 rfl (by kernel_rfl)) rfl ?_
          exact DecMP_no HD.out HBE.out
        · have tg : decide ((3 : Int) < (L : Int)) = false := by simp; omega
          have tga : ¬ (3 : Int) < (L : Int) := by omega
          have hL1 : 1 ≤ L := by omega
          have hL3 : L ≤ 3 := by omega
          clear hL0 hL4
          have HC3 := hide (show at1 = bs.length ∧ 1 ≤ (V.mk kz bz nz sz l ksz).l.length ∧ (V.mk kz bz nz sz l ksz).l.length ≤ 3 from ⟨HLEN.out.symm, by show 1 ≤ l.length; rw [← HLL.out]; exact hL1, by show l.length ≤ 3; rw [← HLL.out]; exact hL3⟩)
          have hl0 : 0 < l.length := by rw [← HLL.out]; omega
          obtain ⟨bA, oA, cs0, eA0, _, hb0, hV0, hc0⟩ := HE3.out.2.get HE3.out.1 (i := 0) hl0
          subst eA0
          have HN3 : Hid (Blk w3 w2.heap.size 25 #[.int .i64 kz, .bool bz, .int .i64 nz, .string sz, .slice (some ⟨bA, oA, none⟩) L cL, .slice AK ksz.length cK]) := HN3
          obtain ⟨k0, b0, n0, s0, AL0, nL0, cL0, AK0, nK0, cK0, rfl⟩ := hV0.shape
          obtain ⟨x, hx⟩ : ∃ x, x = l[0] := ⟨_, rfl⟩
          rw [← hx] at hV0
          have HX0 := hide (el_is hV0)
          have hlx : l[0]? = some x := by rw [List.getElem?_eq_getElem hl0, hx]
          have HLX := hide hlx
          have e02 : w3.cell? ⟨bA, oA + 2, none⟩ = some (.int .i64 n0) := by have := hc0 2 (by decide); simpa [Nat.add_assoc] using this
          have hn0 : -9223372036854775808 ≤ n0 ∧ n0 ≤ 9223372036854775807 := HX0.out.2.2.2.1
          clear hc0 hV0 hx hlx hl0
          have hrW3 : w.heap.size < w3.heap.size := HR3.out.lt
          have hvW3 : w2.heap.size < w3.heap.size := HN3.out.lt
          have hvr : w.heap.size < w2.heap.size := HVR
          go_upto_region 5 with (fail)
          have HM4 := hide (Blk.new w3 41 #[.int .i64 (-1), .string ⟨#[]⟩, .string ⟨#[]⟩, .int .i64 0, .int .i64 0, .bool false, .int .i64 0, .string ⟨#[]⟩, .slice none 0 0, .slice none 0 0])
          have HO4 := hide ((Below.refl w3.heap.size w3).alloc (Nat.le_refl _) (.cells #[.int .i64 (-1), .string ⟨#[]⟩, .string ⟨#[]⟩, .int .i64 0, .int .i64 0, .bool false, .int .i64 0, .string ⟨#[]⟩, .slice none 0 0, .slice none 0 0] 41))
          generalize w3.alloc (.cells #[.int .i64 (-1), .string ⟨#[]⟩, .string ⟨#[]⟩, .int .i64 0, .int .i64 0, .bool false, .int .i64 0, .string ⟨#[]⟩, .slice none 0 0, .slice none 0 0] 41) = w4 at HM4 HO4 ⊢
          have y4 : w4.cell? ⟨w2.heap.size, 4, none⟩ = some (.slice (some ⟨bA, oA, none⟩) L cL) := (HO4.out.cell hvW3).trans v4
          have y2 : w4.cell? ⟨bA, oA + 2, none⟩ = some (.int .i64 n0) := (HO4.out.cell hb0).trans e02
          clear v4 e02 t1 t2 tl tg tga
          have hw34 : w3.heap.size < w4.heap.size := HM4.out.lt
          obtain ⟨q, hq⟩ : ∃ q : Bool, q = decide (1 ≤ n0 ∧ n0 ≤ 19) := ⟨_, rfl⟩
          have HQ := hide hq
          clear hq
          obtain ⟨K, hK⟩ : ∃ K : Int, K = if 1 ≤ n0 ∧ n0 ≤ 19 then n0 else -1 := ⟨_, rfl⟩
          have hKb : -1 ≤ K ∧ K ≤ 19 := by rw [hK]; split <;> omega
          have HK := hide hK
          clear hK
          go_cut [50] from 9 (fun t wx => t = .bool q ∧ w4 = wx)
          case first =>
            by_cases i1a : 1 ≤ n0
            · have i1 : decide (1 ≤ n0) = true := by simp; omega
              by_cases i2a : n0 ≤ 19
              · have i2 : decide (n0 ≤ 19) = true := by simp; omega
                have hqv : q = true := by rw [HQ.out]; simp; omega
                have HQV := hide hqv
                clear hqv
                go_wp2_with fail
                go_meet
                exact ⟨by rw [HQV.out], rfl⟩
              · have i2 : decide (n0 ≤ 19) = false := by simp; omega
                have hqv : q = false := by rw [HQ.out]; simp; omega
                have HQV := hide hqv
                clear hqv
                go_wp2_with fail
                go_meet
                exact ⟨by rw [HQV.out], rfl⟩
            · have i1 : decide (1 ≤ n0) = false := by simp; omega
              have hqv : q = false := by rw [HQ.out]; simp; omega
              have HQV := hide hqv
              clear hqv
              go_wp2_with fail
              go_meet
              exact ⟨by rw [HQV.out], rfl⟩
          case rest =>
            obtain ⟨rfl, rfl⟩ := hcut
            go_upto_if 50 with (fail)
            go_cut [] from 9 (fun wx => Hid (Blk wx w3.heap.size 41 #[.int .i64 K, .string ⟨#[]⟩, .string ⟨#[]⟩, .int .i64 0, .int .i64 0, .bool false, .int .i64 0, .string ⟨#[]⟩, .slice none 0 0, .slice none 0 0] ∧ Only (fun b => b = w3.heap.size) w4 wx))
            case first =>
              cases q with
              | true =>
                have hkv : n0 = K := by have h := HQ.out.symm; rw [decide_eq_true_eq] at h; rw [HK.out, if_pos h]
                have HKV := hide hkv
                clear hkv
                have x0 : w4.cell? ⟨w3.heap.size, 0, none⟩ = some (.int .i64 (-1)) := blkR HM4.out rfl
                have x1 : w4.cell? ⟨w3.heap.size, 1, none⟩ = some (.string ⟨#[]⟩) := blkR HM4.out rfl
                have x2 : w4.cell? ⟨w3.heap.size, 2, none⟩ = some (.string ⟨#[]⟩) := blkR HM4.out rfl
                have x3 : w4.cell? ⟨w3.heap.size, 3, none⟩ = some (.int .i64 0) := blkR HM4.out rfl
                have x4 : w4.cell? ⟨w3.heap.size, 4, none⟩ = some (.int .i64 0) := blkR HM4.out rfl
                have x5 : w4.cell? ⟨w3.heap.size, 5, none⟩ = some (.bool false) := blkR HM4.out rfl
                have x6 : w4.cell? ⟨w3.heap.size, 6, none⟩ = some (.int .i64 0) := blkR HM4.out rfl
                have x7 : w4.cell? ⟨w3.heap.size, 7, none⟩ = some (.string ⟨#[]⟩) := blkR HM4.out rfl
                have x8 : w4.cell? ⟨w3.heap.size, 8, none⟩ = some (.slice none 0 0) := blkR HM4.out rfl
                have x9 : w4.cell? ⟨w3.heap.size, 9, none⟩ = some (.slice none 0 0) := blkR HM4.out rfl
                have xf : ∀ i, w4.frozen? ⟨w3.heap.size, i, none⟩ = false := fun i => HM4.out.frozen i
                go_wp2_with fail
                go_meet
                exact hide ⟨by have h := HM4.out.set_ 0 (.int .i64 n0); rw [HKV.out] at h ⊢; exact h, (Only.refl (fun b => b = w3.heap.size) w4).setCell (p := ⟨w3.heap.size, 0, none⟩) (.inl rfl) _⟩
              | false =>
                have hkv : -1 = K := by have h := HQ.out.symm; rw [decide_eq_false_iff_not] at h; rw [HK.out, if_neg h]
                have HKV := hide hkv
                clear hkv
                go_wp2_with fail
                go_meet
                exact hide ⟨by have h := HM4.out; rw [HKV.out] at h; exact h, Only.refl _ w4⟩
            case rest =>
              obtain ⟨hM5, hO5⟩ := hcut.out
              have HM5 := hide hM5
              have HO5 := hide hO5
              clear hcut hM5 hO5
              have y4c : wc.cell? ⟨w2.heap.size, 4, none⟩ = some (.slice (some ⟨bA, oA, none⟩) L cL) := (HO5.out.cell (by show w2.heap.size < _; omega) (fun e => by have e : w2.heap.size = w3.heap.size := e; omega)).trans y4
              clear y4 y2
              have hwc : w4.heap.size ≤ wc.heap.size := HO5.out.size
              have hkx : (if 1 ≤ x.n ∧ x.n ≤ 19 then x.n else -1) = K := by rw [HX0.out.2.1]; exact HK.out.symm
              have HKX := hide hkx
              clear hkx
              go_upto_if 60 with (fail)
              go_cut [] from 9 (fun wx => Hid (AtM wx (fun b => W.heap.size ≤ b) w3.heap.size (rofM l) ∧ Only (fun b => b = w3.heap.size) w4 wx))
              case first =>
                by_cases hL2 : L = 1
                · have tl1 : decide ((1 : Int) < (L : Int)) = false := by simp; omega
                  have tl2 : ¬ (1 : Int) < (L : Int) := by omega
                  have hlx : l = [x] := by
                    have h1 := HLX.out
                    have h2 := HLL.out
                    rw [hL2] at h2
                    obtain ⟨y, rfl⟩ := List.length_eq_one_iff.1 h2.symm
                    simp at h1
                    rw [h1]
                  have HL1 := hide hlx
                  clear hlx hL2
                  go_wp2_with fail
                  go_meet
                  exact hide ⟨by rw [HL1.out, rof1 HKX.out]; exact ⟨_, _, _, _, _, _, _, _, _, _, _, _, _, _, HM5.out, IsM_mk ⟨by show (-9223372036854775808 : Int) ≤ K ∧ K ≤ 9223372036854775807; omega, bd0, emp9, emp9, wf_nul⟩ rfl rfl rfl rfl nulV⟩, HO5.out⟩
                · have tl1 : decide ((1 : Int) < (L : Int)) = true := by simp; omega
                  have tl2 : (1 : Int) < (L : Int) := by omega
                  obtain ⟨a, r, hlr⟩ : ∃ a r, l = x :: a :: r := by
                    have h1 := HLX.out
                    have h2 := HLL.out
                    match l, h1, h2 with
                    | [], _, h2 => simp at h2; omega
                    | [y], _, h2 => simp at h2; omega
                    | y :: a :: r, h1, _ => simp at h1; subst h1; exact ⟨a, r, rfl⟩
                  subst hlr
                  obtain ⟨bA1, oA1, cs1, eA1, _, hb1, hV1, hc1⟩ := HE3.out.2.get HE3.out.1 (i := 1) (by simp)
                  cases eA1
                  rw [show (x :: a :: r)[1]'(by simp) = a from rfl] at hV1
                  obtain ⟨k1, b1, n1, s1, AL1, nL1, cL1, AK1, nK1, cK1, rfl⟩ := hV1.shape
                  have HX1 := hide (el_is hV1)
                  have hbc : bA < wc.heap.size := by omega
                  have hto : ∀ o u, w3.cell? ⟨bA, o, none⟩ = some u → wc.cell? ⟨bA, o, none⟩ = some u := fun o u h => (HO5.out.cell (by show bA < _; omega) (fun e => by have e : bA = w3.heap.size := e; omega)).trans ((HO4.out.cell hb0).trans h)
                  have HTO := hide hto
                  have HVW := hide (((hV1.mono (S' := fun b => W.heap.size ≤ b ∧ b < w3.heap.size) (fun b h h' => ⟨h, h'⟩)).grow HO4.out).only HO5.out (fun b h e => by have e : b = w3.heap.size := e; omega))
                  have g0 : wc.cell? ⟨bA, oA + 6, none⟩ = some (.int .i64 k1) := hto _ _ (by have := hc1 0 (by decide); simpa [Nat.add_assoc] using this)
                  have g1 : wc.cell? ⟨bA, oA + 7, none⟩ = some (.bool b1) := hto _ _ (by have := hc1 1 (by decide); simpa [Nat.add_assoc] using this)
                  have g2 : wc.cell? ⟨bA, oA + 8, none⟩ = some (.int .i64 n1) := hto _ _ (by have := hc1 2 (by decide); simpa [Nat.add_assoc] using this)
                  have g3 : wc.cell? ⟨bA, oA + 9, none⟩ = some (.string s1) := hto _ _ (by have := hc1 3 (by decide); simpa [Nat.add_assoc] using this)
                  have g4 : wc.cell? ⟨bA, oA + 10, none⟩ = some (.slice AL1 nL1 cL1) := hto _ _ (by have := hc1 4 (by decide); simpa [Nat.add_assoc] using this)
                  have g5 : wc.cell? ⟨bA, oA + 11, none⟩ = some (.slice AK1 nK1 cK1) := hto _ _ (by have := hc1 5 (by decide); simpa [Nat.add_assoc] using this)
                  clear hc1 hV1 hto tl2
                  go_upto_region 9 with (fail)
                  have HX6 := hide (Blk.new wc 25 #[.int .i64 k1, .bool b1, .int .i64 n1, .string s1, .slice AL1 nL1 cL1, .slice AK1 nK1 cK1])
                  have HO6 := hide ((Below.refl wc.heap.size wc).alloc (Nat.le_refl _) (.cells #[.int .i64 k1, .bool b1, .int .i64 n1, .string s1, .slice AL1 nL1 cL1, .slice AK1 nK1 cK1] 25))
                  have HM6 := hide (HM5.out.alloc (.cells #[.int .i64 k1, .bool b1, .int .i64 n1, .string s1, .slice AL1 nL1 cL1, .slice AK1 nK1 cK1] 25))
                  generalize wc.alloc (.cells #[.int .i64 k1, .bool b1, .int .i64 n1, .string s1, .slice AL1 nL1 cL1, .slice AK1 nK1 cK1] 25) = w6 at HX6 HO6 HM6 ⊢
                  have y46 : w6.cell? ⟨w2.heap.size, 4, none⟩ = some (.slice (some ⟨bA, oA, none⟩) L cL) := (HO6.out.cell (by show w2.heap.size < _; omega)).trans y4c
                  have HV6 := hide (HVW.out.grow HO6.out)
                  have hOn : Only (fun b => b = w3.heap.size) w4 w6 := HO5.out.trans (Only.ofBelow (S := fun _ => False) HO6.out) (fun _ _ h => h.elim)
                  have HON := hide hOn
                  clear hOn
                  have m0 : w6.cell? ⟨w3.heap.size, 0, none⟩ = some (.int .i64 K) := blkR HM6.out rfl
                  have m1 : w6.cell? ⟨w3.heap.size, 1, none⟩ = some (.string ⟨#[]⟩) := blkR HM6.out rfl
                  have m2 : w6.cell? ⟨w3.heap.size, 2, none⟩ = some (.string ⟨#[]⟩) := blkR HM6.out rfl
                  have m3 : w6.cell? ⟨w3.heap.size, 3, none⟩ = some (.int .i64 0) := blkR HM6.out rfl
                  have m4 : w6.cell? ⟨w3.heap.size, 4, none⟩ = some (.int .i64 0) := blkR HM6.out rfl
                  have m5 : w6.cell? ⟨w3.heap.size, 5, none⟩ = some (.bool false) := blkR HM6.out rfl
                  have m6 : w6.cell? ⟨w3.heap.size, 6, none⟩ = some (.int .i64 0) := blkR HM6.out rfl
                  have m7 : w6.cell? ⟨w3.heap.size, 7, none⟩ = some (.string ⟨#[]⟩) := blkR HM6.out rfl
                  have m8 : w6.cell? ⟨w3.heap.size, 8, none⟩ = some (.slice none 0 0) := blkR HM6.out rfl
                  have m9 : w6.cell? ⟨w3.heap.size, 9, none⟩ = some (.slice none 0 0) := blkR HM6.out rfl
                  have mf : ∀ i, w6.frozen? ⟨w3.heap.size, i, none⟩ = false := fun i => HM6.out.frozen i
                  have x0 : w6.cell? ⟨wc.heap.size, 0, none⟩ = some (.int .i64 k1) := blkR HX6.out rfl
                  have x1 : w6.cell? ⟨wc.heap.size, 1, none⟩ = some (.bool b1) := blkR HX6.out rfl
                  have x2 : w6.cell? ⟨wc.heap.size, 2, none⟩ = some (.int .i64 n1) := blkR HX6.out rfl
                  have x3 : w6.cell? ⟨wc.heap.size, 3, none⟩ = some (.string s1) := blkR HX6.out rfl
                  have x4 : w6.cell? ⟨wc.heap.size, 4, none⟩ = some (.slice AL1 nL1 cL1) := blkR HX6.out rfl
                  have x5 : w6.cell? ⟨wc.heap.size, 5, none⟩ = some (.slice AK1 nK1 cK1) := blkR HX6.out rfl
                  have G0 := hide g0
                  have G1 := hide g1
                  have G2 := hide g2
                  have G3 := hide g3
                  have G4 := hide g4
                  have G5 := hide g5
                  clear g0 g1 g2 g3 g4 g5 y4c tl1
                  by_cases hk1 : K = 1
                  · subst hk1
                    go_wp2_with fail
                    go_meet
                    have hbl : Blk _ w3.heap.size 41 #[.int .i64 1, .string s1, .string ⟨#[]⟩, .int .i64 0, .int .i64 0, .bool false, .int .i64 0, .string ⟨#[]⟩, .slice none 0 0, .slice none 0 0] := (HM6.out.set_ 1 (.string s1))
                    have HWO := hide ((Only.refl (fun b => b = w3.heap.size) w6).setCell (p := ⟨w3.heap.size, 1, none⟩) (.inl rfl) (.string s1))
                    exact hide ⟨by rw [(rof2 HKX.out).trans (if_pos rfl)]; exact ⟨_, _, _, _, _, _, _, _, _, _, _, _, _, _, hbl, IsM_mk ⟨bd1, bd0, by rw [HX1.out.2.2.1]; exact HX1.out.2.2.2.2, emp9, wf_nul⟩ rfl HX1.out.2.2.1 rfl rfl (nulV)⟩, HON.out.trans HWO.out (fun _ _ h => h)⟩
                  · by_cases hk3 : K = 3
                    · subst hk3
                      rcases (show L = 2 ∨ L = 3 by omega) with hL | hL
                      · obtain rfl : L = 2 := by omega
                        have hr0 : r = [] := by have := HLL.out; simp at this; match r, this with | [], _ => rfl | _ :: _, h => simp at h
                        subst hr0
                        have h0 : w6.cell? ⟨bA, oA + 6, none⟩ = some (.int .i64 k1) := (HO6.out.cell hbc).trans (G0.out)
                        have h1 : w6.cell? ⟨bA, oA + 7, none⟩ = some (.bool b1) := (HO6.out.cell hbc).trans (G1.out)
                        have h2 : w6.cell? ⟨bA, oA + 8, none⟩ = some (.int .i64 n1) := (HO6.out.cell hbc).trans (G2.out)
                        have h3 : w6.cell? ⟨bA, oA + 9, none⟩ = some (.string s1) := (HO6.out.cell hbc).trans (G3.out)
                        have h4 : w6.cell? ⟨bA, oA + 10, none⟩ = some (.slice AL1 nL1 cL1) := (HO6.out.cell hbc).trans (G4.out)
                        have h5 : w6.cell? ⟨bA, oA + 11, none⟩ = some (.slice AK1 nK1 cK1) := (HO6.out.cell hbc).trans (G5.out)
                        go_wp2_with fail
                        go_meet
                        have hbl : Blk _ w3.heap.size 41 #[.int .i64 3, .string ⟨#[]⟩, .string s1, .int .i64 0, .int .i64 k1, .bool b1, .int .i64 n1, .string s1, .slice AL1 nL1 cL1, .slice AK1 nK1 cK1] := (((((((HM6.out.set_ 2 (.string s1)).set_ 4 (.int .i64 k1)).set_ 5 (.bool b1)).set_ 6 (.int .i64 n1)).set_ 7 (.string s1)).set_ 8 (.slice AL1 nL1 cL1)).set_ 9 (.slice AK1 nK1 cK1))
                        have HWO := hide ((((((((Only.refl (fun b => b = w3.heap.size) w6).setCell (p := ⟨w3.heap.size, 2, none⟩) (.inl rfl) (.string s1)).setCell (p := ⟨w3.heap.size, 4, none⟩) (.inl rfl) (.int .i64 k1)).setCell (p := ⟨w3.heap.size, 5, none⟩) (.inl rfl) (.bool b1)).setCell (p := ⟨w3.heap.size, 6, none⟩) (.inl rfl) (.int .i64 n1)).setCell (p := ⟨w3.heap.size, 7, none⟩) (.inl rfl) (.string s1)).setCell (p := ⟨w3.heap.size, 8, none⟩) (.inl rfl) (.slice AL1 nL1 cL1)).setCell (p := ⟨w3.heap.size, 9, none⟩) (.inl rfl) (.slice AK1 nK1 cK1))
                        exact hide ⟨by rw [(rof2 HKX.out).trans ((if_neg (by decide)).trans (if_pos rfl))]; exact ⟨_, _, _, _, _, _, _, _, _, _, _, _, _, _, hbl, IsM_mk ⟨bd3, bd0, emp9, by rw [HX1.out.2.2.1]; exact HX1.out.2.2.2.2, HV6.out.wf⟩ rfl rfl HX1.out.2.2.1 rfl ((HV6.out.only HWO.out (fun b h e => by have e : b = w3.heap.size := e; omega)).mono (fun b h _ => h.1))⟩, HON.out.trans HWO.out (fun _ _ h => h)⟩
                      · obtain rfl : L = 3 := by omega
                        obtain ⟨v, hr0⟩ : ∃ v, r = [v] := by have := HLL.out; simp at this; exact List.length_eq_one_iff.1 (by omega)
                        subst hr0
                        obtain ⟨bA2, oA2, cs2, eA2, _, hb2, hV2, hc2⟩ := HE3.out.2.get HE3.out.1 (i := 2) (by simp)
                        cases eA2
                        rw [show [x, a, v][2]'(by simp) = v from rfl] at hV2
                        obtain ⟨k2, b2, n2, s2, AL2, nL2, cL2, AK2, nK2, cK2, rfl⟩ := hV2.shape
                        have h0 : w6.cell? ⟨bA, oA + 12, none⟩ = some (.int .i64 k2) := (HO6.out.cell hbc).trans (HTO.out _ _ (by have := hc2 0 (by decide); simpa [Nat.add_assoc] using this))
                        have h1 : w6.cell? ⟨bA, oA + 13, none⟩ = some (.bool b2) := (HO6.out.cell hbc).trans (HTO.out _ _ (by have := hc2 1 (by decide); simpa [Nat.add_assoc] using this))
                        have h2 : w6.cell? ⟨bA, oA + 14, none⟩ = some (.int .i64 n2) := (HO6.out.cell hbc).trans (HTO.out _ _ (by have := hc2 2 (by decide); simpa [Nat.add_assoc] using this))
                        have h3 : w6.cell? ⟨bA, oA + 15, none⟩ = some (.string s2) := (HO6.out.cell hbc).trans (HTO.out _ _ (by have := hc2 3 (by decide); simpa [Nat.add_assoc] using this))
                        have h4 : w6.cell? ⟨bA, oA + 16, none⟩ = some (.slice AL2 nL2 cL2) := (HO6.out.cell hbc).trans (HTO.out _ _ (by have := hc2 4 (by decide); simpa [Nat.add_assoc] using this))
                        have h5 : w6.cell? ⟨bA, oA + 17, none⟩ = some (.slice AK2 nK2 cK2) := (HO6.out.cell hbc).trans (HTO.out _ _ (by have := hc2 5 (by decide); simpa [Nat.add_assoc] using this))
                        have HV7 := hide ((((hV2.mono (S' := fun b => W.heap.size ≤ b ∧ b < w3.heap.size) (fun b h h' => ⟨h, h'⟩)).grow HO4.out).only HO5.out (fun b h e => by have e : b = w3.heap.size := e; omega)).grow HO6.out)
                        clear hc2 hV2
                        go_wp2_with fail
                        go_meet
                        have hbl : Blk _ w3.heap.size 41 #[.int .i64 3, .string ⟨#[]⟩, .string s1, .int .i64 0, .int .i64 k2, .bool b2, .int .i64 n2, .string s2, .slice AL2 nL2 cL2, .slice AK2 nK2 cK2] := (((((((HM6.out.set_ 2 (.string s1)).set_ 4 (.int .i64 k2)).set_ 5 (.bool b2)).set_ 6 (.int .i64 n2)).set_ 7 (.string s2)).set_ 8 (.slice AL2 nL2 cL2)).set_ 9 (.slice AK2 nK2 cK2))
                        have HWO := hide ((((((((Only.refl (fun b => b = w3.heap.size) w6).setCell (p := ⟨w3.heap.size, 2, none⟩) (.inl rfl) (.string s1)).setCell (p := ⟨w3.heap.size, 4, none⟩) (.inl rfl) (.int .i64 k2)).setCell (p := ⟨w3.heap.size, 5, none⟩) (.inl rfl) (.bool b2)).setCell (p := ⟨w3.heap.size, 6, none⟩) (.inl rfl) (.int .i64 n2)).setCell (p := ⟨w3.heap.size, 7, none⟩) (.inl rfl) (.string s2)).setCell (p := ⟨w3.heap.size, 8, none⟩) (.inl rfl) (.slice AL2 nL2 cL2)).setCell (p := ⟨w3.heap.size, 9, none⟩) (.inl rfl) (.slice AK2 nK2 cK2))
                        exact hide ⟨by rw [(rof2 HKX.out).trans ((if_neg (by decide)).trans (if_pos rfl))]; exact ⟨_, _, _, _, _, _, _, _, _, _, _, _, _, _, hbl, IsM_mk ⟨bd3, bd0, emp9, by rw [HX1.out.2.2.1]; exact HX1.out.2.2.2.2, HV7.out.wf⟩ rfl rfl HX1.out.2.2.1 rfl ((HV7.out.only HWO.out (fun b h e => by have e : b = w3.heap.size := e; omega)).mono (fun b h _ => h.1))⟩, HON.out.trans HWO.out (fun _ _ h => h)⟩
                    · by_cases hk4 : K = 4
                      · subst hk4
                        go_wp2_with fail
                        go_meet
                        have hbl : Blk _ w3.heap.size 41 #[.int .i64 4, .string ⟨#[]⟩, .string ⟨#[]⟩, .int .i64 n1, .int .i64 0, .bool false, .int .i64 0, .string ⟨#[]⟩, .slice none 0 0, .slice none 0 0] := (HM6.out.set_ 3 (.int .i64 n1))
                        have HWO := hide ((Only.refl (fun b => b = w3.heap.size) w6).setCell (p := ⟨w3.heap.size, 3, none⟩) (.inl rfl) (.int .i64 n1))
                        exact hide ⟨by rw [(rof2 HKX.out).trans ((if_neg (by decide)).trans ((if_neg (by decide)).trans (if_pos (by decide))))]; exact ⟨_, _, _, _, _, _, _, _, _, _, _, _, _, _, hbl, IsM_mk ⟨bd4, by rw [HX1.out.2.1]; exact HX1.out.2.2.2.1, emp9, emp9, wf_nul⟩ rfl rfl rfl HX1.out.2.1 (nulV)⟩, HON.out.trans HWO.out (fun _ _ h => h)⟩
                      · by_cases hk18 : K = 18
                        · subst hk18
                          go_wp2_with fail
                          go_meet
                          have hbl : Blk _ w3.heap.size 41 #[.int .i64 18, .string ⟨#[]⟩, .string ⟨#[]⟩, .int .i64 n1, .int .i64 0, .bool false, .int .i64 0, .string ⟨#[]⟩, .slice none 0 0, .slice none 0 0] := (HM6.out.set_ 3 (.int .i64 n1))
                          have HWO := hide ((Only.refl (fun b => b = w3.heap.size) w6).setCell (p := ⟨w3.heap.size, 3, none⟩) (.inl rfl) (.int .i64 n1))
                          exact hide ⟨by rw [(rof2 HKX.out).trans ((if_neg (by decide)).trans ((if_neg (by decide)).trans (if_pos (by decide))))]; exact ⟨_, _, _, _, _, _, _, _, _, _, _, _, _, _, hbl, IsM_mk ⟨bd18, by rw [HX1.out.2.1]; exact HX1.out.2.2.2.1, emp9, emp9, wf_nul⟩ rfl rfl rfl HX1.out.2.1 (nulV)⟩, HON.out.trans HWO.out (fun _ _ h => h)⟩
                        · have f1 : (K == 1) = false := by simp; omega
                          have f3 : (K == 3) = false := by simp; omega
                          have f4 : (K == 4) = false := by simp; omega
                          have f18 : (K == 18) = false := by simp; omega
                          have HK9 := hide (And.intro hk1 (And.intro hk3 (And.intro hk4 hk18)))
                          clear hk1 hk3 hk4 hk18
                          go_wp2_with fail
                          go_meet
                          have hbl : Blk _ w3.heap.size 41 #[.int .i64 K, .string ⟨#[]⟩, .string ⟨#[]⟩, .int .i64 0, .int .i64 k1, .bool b1, .int .i64 n1, .string s1, .slice AL1 nL1 cL1, .slice AK1 nK1 cK1] := ((((((HM6.out.set_ 4 (.int .i64 k1)).set_ 5 (.bool b1)).set_ 6 (.int .i64 n1)).set_ 7 (.string s1)).set_ 8 (.slice AL1 nL1 cL1)).set_ 9 (.slice AK1 nK1 cK1))
                          have HWO := hide (((((((Only.refl (fun b => b = w3.heap.size) w6).setCell (p := ⟨w3.heap.size, 4, none⟩) (.inl rfl) (.int .i64 k1)).setCell (p := ⟨w3.heap.size, 5, none⟩) (.inl rfl) (.bool b1)).setCell (p := ⟨w3.heap.size, 6, none⟩) (.inl rfl) (.int .i64 n1)).setCell (p := ⟨w3.heap.size, 7, none⟩) (.inl rfl) (.string s1)).setCell (p := ⟨w3.heap.size, 8, none⟩) (.inl rfl) (.slice AL1 nL1 cL1)).setCell (p := ⟨w3.heap.size, 9, none⟩) (.inl rfl) (.slice AK1 nK1 cK1))
                          exact hide ⟨by rw [(rof2 HKX.out).trans ((if_neg HK9.out.1).trans ((if_neg HK9.out.2.1).trans (if_neg (fun h => by rcases h with h | h; exact HK9.out.2.2.1 h; exact HK9.out.2.2.2 h))))]; exact ⟨_, _, _, _, _, _, _, _, _, _, _, _, _, _, hbl, IsM_mk ⟨by show (-9223372036854775808 : Int) ≤ K ∧ K ≤ 9223372036854775807; omega, bd0, emp9, emp9, HV6.out.wf⟩ rfl rfl rfl rfl ((HV6.out.only HWO.out (fun b h e => by have e : b = w3.heap.size := e; omega)).mono (fun b h _ => h.1))⟩, HON.out.trans HWO.out (fun _ _ h => h)⟩
              case rest =>
                clear HM5 HO5 hwc y4c HKX
                obtain ⟨wX, rfl⟩ : ∃ wX : World, wX = wc := ⟨_, rfl⟩
                obtain ⟨hA9, hO9⟩ := hcut.out
                clear hcut
                have hwX : w4.heap.size ≤ wX.heap.size := hO9.size
                have HAX := hide hA9
                have HRX := hide ((HR3.out.below HO4.out hrW3).only hO9 (fun e => by have e : w.heap.size = w3.heap.size := e; omega))
                have HVX := hide ((HN3.out.below HO4.out hvW3).only hO9 (fun e => by have e : w2.heap.size = w3.heap.size := e; omega))
                have HIV := hide (((HIV3.out.mono (S' := fun b => W.heap.size ≤ b ∧ b < w3.heap.size) (fun b h h' => ⟨h, h'⟩)).grow HO4.out).only hO9 (fun b h e => by have e : b = w3.heap.size := e; omega))
                have HBX := hide ((HB3.out.trans (HO4.out.mono (by omega))).trans (hO9.below (B := w.heap.size) (fun k _ e => by have e : k = w3.heap.size := e; omega) (by omega)))
                have HQ0 := hide (show ∀ W', Below wX.heap.size wX W' → W'.cell? ⟨w2.heap.size, 0, none⟩ = some (.int .i64 kz) from fun W' h => blkR (HVX.out.below h HVX.out.lt) rfl)
                have HQ1 := hide (show ∀ W', Below wX.heap.size wX W' → W'.cell? ⟨w2.heap.size, 1, none⟩ = some (.bool bz) from fun W' h => blkR (HVX.out.below h HVX.out.lt) rfl)
                have HQ2 := hide (show ∀ W', Below wX.heap.size wX W' → W'.cell? ⟨w2.heap.size, 2, none⟩ = some (.int .i64 nz) from fun W' h => blkR (HVX.out.below h HVX.out.lt) rfl)
                have HQ3 := hide (show ∀ W', Below wX.heap.size wX W' → W'.cell? ⟨w2.heap.size, 3, none⟩ = some (.string sz) from fun W' h => blkR (HVX.out.below h HVX.out.lt) rfl)
                have HQ4 := hide (show ∀ W', Below wX.heap.size wX W' → W'.cell? ⟨w2.heap.size, 4, none⟩ = some (.slice (some ⟨bA, oA, none⟩) L cL) from fun W' h => blkR (HVX.out.below h HVX.out.lt) rfl)
                have HQ5 := hide (show ∀ W', Below wX.heap.size wX W' → W'.cell? ⟨w2.heap.size, 5, none⟩ = some (.slice AK ksz.length cK) from fun W' h => blkR (HVX.out.below h HVX.out.lt) rfl)
                clear HN3 HR3 HB3 HIV3 HE3 HVX hA9 hO9
                clear HX0 HLX HK HO4 HM4 HQ hw34 hwX hn0 hKb hvr hvW3 hb0 hL1 hL3 HLL hrW3 HVR
                go_upto_region 19 with (fail)
                obtain ⟨mk, ms, mt, mn, k9, b9, n9, s9, AL9, nL9, cL9, AK9, nK9, cK9, hMX, hIX⟩ := HAX.out
                have HMX := hide hMX
                have HIX := hide hIX
                clear hMX hIX HAX
                generalize hm : rofM _ = m at HIX
                have HM := hide hm
                clear hm
                go_cut [108] from 9 (fun t wx => ∃ g : Bool, t = .bool g ∧ Hid ((if g = true then rdecM bs = none else rdecM bs = some m) ∧ Below wX.heap.size wX wx))
                case first =>
                  cases hok : okM m with
                  | false =>
                    have HMay := hide (show ∀ W', Below wX.heap.size wX W' → Calls Try.prog 44 #[.agg #[.int .i64 mk, .string ms, .string mt, .int .i64 mn, .int .i64 k9, .bool b9, .int .i64 n9, .string s9, .slice AL9 nL9 cL9, .slice AK9 nK9 cK9]] W' (fun e w' => e = .returned (.bool false) ∧ Below W'.heap.size W' w') from fun W' h => by have := rmayM_any (HIX.out.grow h); rw [hok] at this; exact this)
                    have HOK := hide hok
                    clear hok
                    have y0 : wX.cell? ⟨w3.heap.size, 0, none⟩ = some (.int .i64 mk) := blkR HMX.out rfl
                    have y1 : wX.cell? ⟨w3.heap.size, 1, none⟩ = some (.string ms) := blkR HMX.out rfl
                    have y2 : wX.cell? ⟨w3.heap.size, 2, none⟩ = some (.string mt) := blkR HMX.out rfl
                    have y3 : wX.cell? ⟨w3.heap.size, 3, none⟩ = some (.int .i64 mn) := blkR HMX.out rfl
                    have y4 : wX.cell? ⟨w3.heap.size, 4, none⟩ = some (.int .i64 k9) := blkR HMX.out rfl
                    have y5 : wX.cell? ⟨w3.heap.size, 5, none⟩ = some (.bool b9) := blkR HMX.out rfl
                    have y6 : wX.cell? ⟨w3.heap.size, 6, none⟩ = some (.int .i64 n9) := blkR HMX.out rfl
                    have y7 : wX.cell? ⟨w3.heap.size, 7, none⟩ = some (.string s9) := blkR HMX.out rfl
                    have y8 : wX.cell? ⟨w3.heap.size, 8, none⟩ = some (.slice AL9 nL9 cL9) := blkR HMX.out rfl
                    have y9 : wX.cell? ⟨w3.heap.size, 9, none⟩ = some (.slice AK9 nK9 cK9) := blkR HMX.out rfl
                    first | go_region_with (first | (go_at_call 44; refine (HMay.out wX.drew (Below.refl _ wX).drew).mono ?_; rintro e w5 ⟨rfl, hb5⟩)) | fail
                    all_goals (
                      go_simp
                      have hx : Below wX.heap.size wX w5 := (Below.refl _ wX).drew.trans hb5
                      clear y0 y1 y2 y3 y4 y5 y6 y7 y8 y9
                      have HX9 := hide hx
                      clear hx hb5
                      go_wp2_with fail
                      go_meet
                      refine ⟨true, ?_, ?_⟩
                      · rfl
                      · exact hide ⟨by rw [if_pos rfl]; exact rdecM_3 HDD.out HC3.out (fun h => by have h1 := h.1; rw [show rofM (V.l (V.mk kz bz nz sz l ksz)) = m from HM.out, HOK.out] at h1; cases h1), HX9.out⟩)
                  | true =>
                    have HMay := hide (show ∀ W', Below wX.heap.size wX W' → Calls Try.prog 44 #[.agg #[.int .i64 mk, .string ms, .string mt, .int .i64 mn, .int .i64 k9, .bool b9, .int .i64 n9, .string s9, .slice AL9 nL9 cL9, .slice AK9 nK9 cK9]] W' (fun e w' => e = .returned (.bool true) ∧ Below W'.heap.size W' w') from fun W' h => by have := rmayM_any (HIX.out.grow h); rw [hok] at this; exact this)
                    have HOK := hide hok
                    clear hok
                    by_cases hln : at1 ≤ 32768
                    · have t3 : decide ((32768 : Int) < (at1 : Int)) = false := by simp; omega
                      have t3a : ¬ (32768 : Int) < (at1 : Int) := by omega
                      have t3b : ¬ 32768 < at1 := by omega
                      have HLs := hide (show ∀ W', Below wX.heap.size wX W' → Calls Try.prog 45 #[.agg #[.int .i64 mk, .string ms, .string mt, .int .i64 mn, .int .i64 k9, .bool b9, .int .i64 n9, .string s9, .slice AL9 nL9 cL9, .slice AK9 nK9 cK9]] W' (ListP m W') from fun W' h => listM_any (HIX.out.grow h))
                      obtain ⟨qe, hsm⟩ : ∃ qe, qe = eqV (listM m) (V.mk kz bz nz sz l ksz) := ⟨_, rfl⟩
                      have HSm := hide (fun (W' : World) (h : Below wX.heap.size wX W') (ds : Array Value) (hd : IsV W' (fun _ => True) (listM m) ds) => by have := same_any _ hd (HIV.out.grow h); rw [← hsm] at this; exact this)
                      have HSE := hide hsm.symm
                      clear hsm
                      have HRES : Hid (if (!qe) = true then rdecM bs = none else rdecM bs = some m) := by
                        cases qe with
                        | false => show (if true = true then rdecM bs = none else rdecM bs = some m); rw [if_pos rfl]; exact rdecM_3 HDD.out HC3.out (fun h => by have h1 := h.2.2; rw [show rofM (V.l (V.mk kz bz nz sz l ksz)) = m from HM.out] at h1; have h2 := eqV_iff.2 h1; rw [HSE.out] at h2; cases h2)
                        | true => have h0 := rdecM_4 HDD.out HC3.out ⟨by rw [show rofM (V.l (V.mk kz bz nz sz l ksz)) = m from HM.out]; exact HOK.out, by rw [HLEN.out]; exact hln, by rw [show rofM (V.l (V.mk kz bz nz sz l ksz)) = m from HM.out]; exact eqV_iff.1 HSE.out⟩; rw [show rofM (V.l (V.mk kz bz nz sz l ksz)) = m from HM.out] at h0; show (if false = true then rdecM bs = none else rdecM bs = some m); rw [if_neg (by decide)]; exact h0
                      clear HSE
                      have p0 : ∀ W', Below wX.heap.size wX W' → W'.cell? ⟨w3.heap.size, 0, none⟩ = some (.int .i64 mk) := fun W' h => blkR (HMX.out.below h HMX.out.lt) rfl
                      have p1 : ∀ W', Below wX.heap.size wX W' → W'.cell? ⟨w3.heap.size, 1, none⟩ = some (.string ms) := fun W' h => blkR (HMX.out.below h HMX.out.lt) rfl
                      have p2 : ∀ W', Below wX.heap.size wX W' → W'.cell? ⟨w3.heap.size, 2, none⟩ = some (.string mt) := fun W' h => blkR (HMX.out.below h HMX.out.lt) rfl
                      have p3 : ∀ W', Below wX.heap.size wX W' → W'.cell? ⟨w3.heap.size, 3, none⟩ = some (.int .i64 mn) := fun W' h => blkR (HMX.out.below h HMX.out.lt) rfl
                      have p4 : ∀ W', Below wX.heap.size wX W' → W'.cell? ⟨w3.heap.size, 4, none⟩ = some (.int .i64 k9) := fun W' h => blkR (HMX.out.below h HMX.out.lt) rfl
                      have p5 : ∀ W', Below wX.heap.size wX W' → W'.cell? ⟨w3.heap.size, 5, none⟩ = some (.bool b9) := fun W' h => blkR (HMX.out.below h HMX.out.lt) rfl
                      have p6 : ∀ W', Below wX.heap.size wX W' → W'.cell? ⟨w3.heap.size, 6, none⟩ = some (.int .i64 n9) := fun W' h => blkR (HMX.out.below h HMX.out.lt) rfl
                      have p7 : ∀ W', Below wX.heap.size wX W' → W'.cell? ⟨w3.heap.size, 7, none⟩ = some (.string s9) := fun W' h => blkR (HMX.out.below h HMX.out.lt) rfl
                      have p8 : ∀ W', Below wX.heap.size wX W' → W'.cell? ⟨w3.heap.size, 8, none⟩ = some (.slice AL9 nL9 cL9) := fun W' h => blkR (HMX.out.below h HMX.out.lt) rfl
                      have p9 : ∀ W', Below wX.heap.size wX W' → W'.cell? ⟨w3.heap.size, 9, none⟩ = some (.slice AK9 nK9 cK9) := fun W' h => blkR (HMX.out.below h HMX.out.lt) rfl
                      have q0 := HQ0.out
                      have q1 := HQ1.out
                      have q2 := HQ2.out
                      have q3 := HQ3.out
                      have q4 := HQ4.out
                      have q5 := HQ5.out
                      go_region_held3 (fun W' => Below wX.heap.size wX W') (first | exact (Below.refl _ wX).drew | (have hx := ‹Below wX.heap.size wX _›; exact hx.trans (hb5.mono hx.size)) | (have hx := ‹Below wX.heap.size wX _›; exact hx.trans (hb6.mono hx.size)) | (have hx := ‹Below wX.heap.size wX _›; exact hx.trans (hb7.mono hx.size))) (first | (go_at_call 44; refine (HMay.out _ (by assumption)).mono ?_; rintro e w5 ⟨rfl, hb5⟩) | (go_at_call 45; refine (HLs.out _ (by assumption)).mono ?_; rintro e w6 ⟨ds, rfl, hV6, hb6⟩; obtain ⟨kd, bd, nd, sd, ALd, nLd, cLd, AKd, nKd, cKd, rfl⟩ := hV6.shape) | (go_at_call 17; refine (HSm.out _ (by assumption) _ (by assumption)).mono ?_; rintro e w7 ⟨rfl, hb7⟩))
                      all_goals (
                        have hx : Below wX.heap.size wX w7 := by assumption
                        clear p0 p1 p2 p3 p4 p5 p6 p7 p8 p9 q0 q1 q2 q3 q4 q5
                        clear HSm HLs HMay hV6
                        have HX9 := hide hx
                        clear hx hb5 hb6 hb7
                        go_wp2_with fail
                        go_meet
                        refine ⟨!qe, ?_, ?_⟩
                        · rfl
                        · exact hide ⟨HRES.out, HX9.out⟩)
                    · have t3 : decide ((32768 : Int) < (at1 : Int)) = true := by simp; omega
                      have t3a : (32768 : Int) < (at1 : Int) := by omega
                      have t3b : 32768 < at1 := by omega
                      have y0 : wX.cell? ⟨w3.heap.size, 0, none⟩ = some (.int .i64 mk) := blkR HMX.out rfl
                      have y1 : wX.cell? ⟨w3.heap.size, 1, none⟩ = some (.string ms) := blkR HMX.out rfl
                      have y2 : wX.cell? ⟨w3.heap.size, 2, none⟩ = some (.string mt) := blkR HMX.out rfl
                      have y3 : wX.cell? ⟨w3.heap.size, 3, none⟩ = some (.int .i64 mn) := blkR HMX.out rfl
                      have y4 : wX.cell? ⟨w3.heap.size, 4, none⟩ = some (.int .i64 k9) := blkR HMX.out rfl
                      have y5 : wX.cell? ⟨w3.heap.size, 5, none⟩ = some (.bool b9) := blkR HMX.out rfl
                      have y6 : wX.cell? ⟨w3.heap.size, 6, none⟩ = some (.int .i64 n9) := blkR HMX.out rfl
                      have y7 : wX.cell? ⟨w3.heap.size, 7, none⟩ = some (.string s9) := blkR HMX.out rfl
                      have y8 : wX.cell? ⟨w3.heap.size, 8, none⟩ = some (.slice AL9 nL9 cL9) := blkR HMX.out rfl
                      have y9 : wX.cell? ⟨w3.heap.size, 9, none⟩ = some (.slice AK9 nK9 cK9) := blkR HMX.out rfl
                      first | go_region_with (first | (go_at_call 44; refine (HMay.out wX.drew (Below.refl _ wX).drew).mono ?_; rintro e w5 ⟨rfl, hb5⟩)) | fail
                      all_goals (
                        go_simp
                        have hx : Below wX.heap.size wX w5 := (Below.refl _ wX).drew.trans hb5
                        clear y0 y1 y2 y3 y4 y5 y6 y7 y8 y9
                        have HX9 := hide hx
                        clear hx hb5
                        go_wp2_with fail
                        go_meet
                        refine ⟨true, ?_, ?_⟩
                        · rfl
                        · exact hide ⟨by rw [if_pos rfl]; exact rdecM_3 HDD.out HC3.out (fun h => by have h1 := h.2.1; rw [HLEN.out] at h1; omega), HX9.out⟩)
                case rest =>
                  obtain ⟨g, rfl, hg⟩ := hcut
                  obtain ⟨hD, hx⟩ := hg.out
                  clear hg
                  have HR9 := hide (HRX.out.below hx HRX.out.lt)
                  have HM9 := hide (HMX.out.below hx HMX.out.lt)
                  have HI9 := hide (HIX.out.grow hx)
                  have HB9 := hide (HBX.out.trans (hx.mono HBX.out.size))
                  clear hx HQ0 HQ1 HQ2 HQ3 HQ4 HQ5
                  have rz0 := blkR (i := 0) (u := .int .i64 0) HR9.out rfl
                  have rz1 := blkR (i := 1) (u := .string ⟨#[]⟩) HR9.out rfl
                  have rz2 := blkR (i := 2) (u := .string ⟨#[]⟩) HR9.out rfl
                  have rz3 := blkR (i := 3) (u := .int .i64 0) HR9.out rfl
                  have rz4 := blkR (i := 4) (u := .int .i64 0) HR9.out rfl
                  have rz5 := blkR (i := 5) (u := .bool false) HR9.out rfl
                  have rz6 := blkR (i := 6) (u := .int .i64 0) HR9.out rfl
                  have rz7 := blkR (i := 7) (u := .string ⟨#[]⟩) HR9.out rfl
                  have rz8 := blkR (i := 8) (u := .slice none 0 0) HR9.out rfl
                  have rz9 := blkR (i := 9) (u := .slice none 0 0) HR9.out rfl
                  have rzf := fun i => HR9.out.frozen i
                  cases g with
                  | true =>
                    rw [if_pos rfl] at hD
                    have HDN := hide hD
                    clear hD
                    have HD := hide (show rdecM bs = none from HDN.out)
                    have HXE := hide (set10 HR9.out (.int .i64 0) (.string ⟨#[]⟩) (.string ⟨#[]⟩) (.int .i64 0) (.int .i64 0) (.bool false) (.int .i64 0) (.string ⟨#[]⟩) (.slice none 0 0) (.slice none 0 0))
                    have OE := only10 (refl_of HB9.out (fun b => b = w.heap.size)) (.inl rfl) (.int .i64 0) (.string ⟨#[]⟩) (.string ⟨#[]⟩) (.int .i64 0) (.int .i64 0) (.bool false) (.int .i64 0) (.string ⟨#[]⟩) (.slice none 0 0) (.slice none 0 0)
                    have HOE := hide OE
                    have HBE := hide (HB9.out.trans (OE.below (B := w.heap.size) (by intro b _ e; have e : b = w.heap.size := e; omega) HB9.out.size))
                    clear OE
                    go_wp2
                    refine bodyPost_ret (results_cell2 rfl _ _ w.heap.size 41 _ _ rfl HXE.out Try.underlying41 rfl (by kernel_rfl)) rfl ?_
                    exact DecMP_no HD.out HBE.out
                  | false =>
                    rw [if_neg (by decide)] at hD
                    have HDN := hide hD
                    clear hD
                    have rm0 := blkR (i := 0) (u := .int .i64 mk) HM9.out rfl
                    have rm1 := blkR (i := 1) (u := .string ms) HM9.out rfl
                    have rm2 := blkR (i := 2) (u := .string mt) HM9.out rfl
                    have rm3 := blkR (i := 3) (u := .int .i64 mn) HM9.out rfl
                    have rm4 := blkR (i := 4) (u := .int .i64 k9) HM9.out rfl
                    have rm5 := blkR (i := 5) (u := .bool b9) HM9.out rfl
                    have rm6 := blkR (i := 6) (u := .int .i64 n9) HM9.out rfl
                    have rm7 := blkR (i := 7) (u := .string s9) HM9.out rfl
                    have rm8 := blkR (i := 8) (u := .slice AL9 nL9 cL9) HM9.out rfl
                    have rm9 := blkR (i := 9) (u := .slice AK9 nK9 cK9) HM9.out rfl
                    have HD := hide (show rdecM bs = some m from HDN.out)
                    have HXE := hide (set10 HR9.out (.int .i64 mk) (.string ms) (.string mt) (.int .i64 mn) (.int .i64 k9) (.bool b9) (.int .i64 n9) (.string s9) (.slice AL9 nL9 cL9) (.slice AK9 nK9 cK9))
                    have OE := only10 (refl_of HB9.out (fun b => b = w.heap.size)) (.inl rfl) (.int .i64 mk) (.string ms) (.string mt) (.int .i64 mn) (.int .i64 k9) (.bool b9) (.int .i64 n9) (.string s9) (.slice AL9 nL9 cL9) (.slice AK9 nK9 cK9)
                    have HOE := hide OE
                    have HBE := hide (HB9.out.trans (OE.below (B := w.heap.size) (by intro b _ e; have e : b = w.heap.size := e; omega) HB9.out.size))
                    clear OE
                    go_wp2
                    refine bodyPost_ret (results_cell2 rfl _ _ w.heap.size 41 _ _ rfl HXE.out Try.underlying41 rfl (by kernel_rfl)) rfl ?_
                    exact DecMP_ok HD.out HBE.out ((HI9.out.only HOE.out (fun b hb e => by have hb : W.heap.size ≤ b := hb; have e : b = w.heap.size := e; omega)).mono (fun b h _ => by have h : W.heap.size ≤ b := h; show w.heap.size ≤ b; omega))
    · have t1 : ((at1 : Int) == (n : Int)) = false := by simp; omega
      have t2 : ((at1 : Int) != (n : Int)) = true := by simp; omega
      have HN1 := hide hne
      clear hne
      have rz0 : w3.cell? ⟨w.heap.size, 0, none⟩ = some (.int .i64 0) := blkR HR3.out rfl
      have rz1 : w3.cell? ⟨w.heap.size, 1, none⟩ = some (.string ⟨#[]⟩) := blkR HR3.out rfl
      have rz2 : w3.cell? ⟨w.heap.size, 2, none⟩ = some (.string ⟨#[]⟩) := blkR HR3.out rfl
      have rz3 : w3.cell? ⟨w.heap.size, 3, none⟩ = some (.int .i64 0) := blkR HR3.out rfl
      have rz4 : w3.cell? ⟨w.heap.size, 4, none⟩ = some (.int .i64 0) := blkR HR3.out rfl
      have rz5 : w3.cell? ⟨w.heap.size, 5, none⟩ = some (.bool false) := blkR HR3.out rfl
      have rz6 : w3.cell? ⟨w.heap.size, 6, none⟩ = some (.int .i64 0) := blkR HR3.out rfl
      have rz7 : w3.cell? ⟨w.heap.size, 7, none⟩ = some (.string ⟨#[]⟩) := blkR HR3.out rfl
      have rz8 : w3.cell? ⟨w.heap.size, 8, none⟩ = some (.slice none 0 0) := blkR HR3.out rfl
      have rz9 : w3.cell? ⟨w.heap.size, 9, none⟩ = some (.slice none 0 0) := blkR HR3.out rfl
      have rzf : ∀ i, w3.frozen? ⟨w.heap.size, i, none⟩ = false := fun i => HR3.out.frozen i
      have HD := hide (show rdecM bs = none from rdecM_2 HDD.out (fun h => HN1.out (h.1.trans HLEN.out)))
      have HXE := hide (set10 HR3.out (.int .i64 0) (.string ⟨#[]⟩) (.string ⟨#[]⟩) (.int .i64 0) (.int .i64 0) (.bool false) (.int .i64 0) (.string ⟨#[]⟩) (.slice none 0 0) (.slice none 0 0))
      have OE := only10 (refl_of HB3.out (fun b => b = w.heap.size)) (.inl rfl) (.int .i64 0) (.string ⟨#[]⟩) (.string ⟨#[]⟩) (.int .i64 0) (.int .i64 0) (.bool false) (.int .i64 0) (.string ⟨#[]⟩) (.slice none 0 0) (.slice none 0 0)
      have HOE := hide OE
      have HBE := hide (HB3.out.trans (OE.below (B := w.heap.size) (by intro b _ e; have e : b = w.heap.size := e; omega) HB3.out.size))
      clear OE
      go_wp2
      refine bodyPost_ret (results_cell2 rfl _ _ w.heap.size 41 _ _ rfl HXE.out Try.underlying41 rfl (by kernel_rfl)) rfl ?_
      exact DecMP_no HD.out HBE.out
end Go.Proofs.Ytaapbiiiepdopaa
