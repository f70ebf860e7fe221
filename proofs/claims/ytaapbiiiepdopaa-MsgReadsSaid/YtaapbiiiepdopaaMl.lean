/- msg.Decode. -/
import Derived.Test.YtaapbiiiepdopaaMk
namespace Go.Proofs.Ytaapbiiiepdopaa
open Go.RowKit Mem Go.Deep
set_option linter.unusedVariables false
set_option linter.unusedSimpArgs false

def DecV (R : Rd) (v : V) (at' : Nat) (z : Int) : Prop := match R with
  | .ok (u, a, _) => v = u ∧ at' = a ∧ z = 0
  | .error y => v = nul ∧ at' = 0 ∧ z = y
theorem DecP_un {R : Rd} {w w' : World} {e : Ending} (h : DecP R w e w') : Below w.heap.size w w' ∧ ∃ (v : V) (cs : Array Value) (at' : Nat) (z : Int),
    e = .returned (.tuple #[.agg cs, .int .i64 (at' : Int), .int .i64 z]) ∧ IsV w' (fun b => w.heap.size ≤ b) v cs ∧ DecV R v at' z := by
  obtain ⟨cs, hb, h⟩ := h
  refine ⟨hb, ?_⟩
  cases R with
  | error y =>
    obtain ⟨rfl, rfl⟩ := h
    exact ⟨nul, nulCells, 0, y, rfl, nulV, rfl, rfl, rfl⟩
  | ok q =>
    obtain ⟨u, a, q⟩ := q
    obtain ⟨rfl, hV⟩ := h
    exact ⟨u, cs, a, 0, rfl, hV, rfl, rfl, rfl⟩
theorem DecP_same {R : Rd} {v u : V} {a b : Nat} {y z : Int} (h : DecV R v a y) (h' : DecV R u b z) : v = u ∧ a = b ∧ y = z := by
  cases R with
  | error w => obtain ⟨rfl, rfl, rfl⟩ := h; obtain ⟨rfl, rfl, rfl⟩ := h'; exact ⟨rfl, rfl, rfl⟩
  | ok q => obtain ⟨u', a', q⟩ := q; obtain ⟨rfl, rfl, rfl⟩ := h; obtain ⟨rfl, rfl, rfl⟩ := h'; exact ⟨rfl, rfl, rfl⟩

theorem IsV.six {w : World} {S : Nat → Prop} {v : V} {cs : Array Value} (h : IsV w S v cs) : ∃ (k : Int) (b : Bool) (n : Int) (s : ByteArray) (l : List V) (ks : List ByteArray) (AL : Option Addr) (cL : Nat) (AK : Option Addr) (cK : Nat) (xs : List Value), v = .mk k b n s l ks ∧
    cs = #[.int .i64 k, .bool b, .int .i64 n, .string s, .slice AL l.length cL, .slice AK ks.length cK] ∧ (l.length ≤ cL ∧ cL ≤ 9223372036854775807) ∧ RdS w S 6 AL l.length xs ∧ IsVs w S l xs := by
  obtain ⟨k, b, n, s, l, ks⟩ := v
  rw [IsV] at h
  obtain ⟨AL, cL, AK, cK, xs, rfl, h1, h2, h3, h4, h5⟩ := h
  exact ⟨k, b, n, s, l, ks, AL, cL, AK, cK, xs, rfl, rfl, ⟨h1.1, h1.2.1⟩, h3, h4⟩
/-- what a decoding answers -/
def DecMV (D : Option M) (m : M) (z : Int) : Prop := match D with
  | some m' => m = m' ∧ z = 0
  | none => m = nulM ∧ z = 9
def DecMP (D : Option M) (w : World) (e : Ending) (w' : World) : Prop := ∃ (m : M) (cs : Array Value) (z : Int), e = .returned (.tuple #[.agg cs, .int .i64 z]) ∧ IsM w' (fun b => w.heap.size ≤ b) m cs ∧ Below w.heap.size w w' ∧ DecMV D m z
theorem nulM_is {w : World} {S : Nat → Prop} : IsM w S nulM #[.int .i64 0, .string ⟨#[]⟩, .string ⟨#[]⟩, .int .i64 0, .int .i64 0, .bool false, .int .i64 0, .string ⟨#[]⟩, .slice none 0 0, .slice none 0 0] :=
  ⟨_, _, _, _, _, _, _, _, _, _, rfl, nulV, by decide, by decide, by decide, by decide, emp9, emp9⟩
theorem DecMP_no {D : Option M} {w w' : World} (h : D = none) (hb : Below w.heap.size w w') : DecMP D w (.returned (.tuple #[.agg #[.int .i64 0, .string ⟨#[]⟩, .string ⟨#[]⟩, .int .i64 0, .int .i64 0, .bool false, .int .i64 0, .string ⟨#[]⟩, .slice none 0 0, .slice none 0 0], .int .i64 9])) w' := by
  subst h
  exact ⟨nulM, _, 9, rfl, nulM_is, hb, rfl, rfl⟩
theorem DecMP_ok {D : Option M} {w w' : World} {m : M} {cs : Array Value} (h : D = some m) (hb : Below w.heap.size w w') (hm : IsM w' (fun b => w.heap.size ≤ b) m cs) : DecMP D w (.returned (.tuple #[.agg cs, .int .i64 0])) w' := by
  subst h
  exact ⟨m, _, 0, rfl, hm, hb, rfl, rfl⟩
theorem DecMP_same {D : Option M} {m u : M} {y z : Int} (h : DecMV D m y) (h' : DecMV D u z) : m = u ∧ y = z := by
  cases D with
  | none => obtain ⟨rfl, rfl⟩ := h; obtain ⟨rfl, rfl⟩ := h'; exact ⟨rfl, rfl⟩
  | some d => obtain ⟨rfl, rfl⟩ := h; obtain ⟨rfl, rfl⟩ := h'; exact ⟨rfl, rfl⟩
theorem decM_1 {bs : List UInt8} {z : Int} (h : dec bs = .error z) : decM bs = none := by unfold decM; rw [h]
theorem decM_2 {bs : List UInt8} {v : V} {n q : Nat} (h : dec bs = .ok (v, n, q)) (h2 : ¬ (n = bs.length ∧ bs.length ≤ 32768 ∧ v.k = 4)) : decM bs = none := by unfold decM; rw [h]; exact if_neg h2
theorem decM_3 {bs : List UInt8} {v : V} {n q : Nat} (h : dec bs = .ok (v, n, q)) (h2 : n = bs.length ∧ bs.length ≤ 32768 ∧ v.k = 4) : decM bs = match ofM v.l with
    | none => none
    | some m => if okM m = true then some m else none := by unfold decM; rw [h]; exact if_pos h2
set_option maxHeartbeats 8000000 in
set_option maxRecDepth 100000 in
theorem mdecode_any {w : World} {A : Option Addr} {n c : Nat} {bs : List UInt8} (hr : Reads w 0 w.heap.size 1 A n (bs.map B8)) (hc : n ≤ c ∧ c ≤ 9223372036854775807) :
    Calls Try.prog 21 #[.slice A n c] w fun e w' => DecMP (decM bs) w e w' := by
  have hlen : bs.length = n := by simpa using hr.1
  have R0 := Blk.new w 41 #[.int .i64 0, .string ⟨#[]⟩, .string ⟨#[]⟩, .int .i64 0, .int .i64 0, .bool false, .int .i64 0, .string ⟨#[]⟩, .slice none 0 0, .slice none 0 0]
  have B0 := (Below.refl w.heap.size w).alloc (Nat.le_refl _) (.cells #[.int .i64 0, .string ⟨#[]⟩, .string ⟨#[]⟩, .int .i64 0, .int .i64 0, .bool false, .int .i64 0, .string ⟨#[]⟩, .slice none 0 0, .slice none 0 0] 41)
  have H1 := hide (decode_any ((hr.below B0 (Nat.le_refl _)).more (Nat.le_refl _) (show w.heap.size ≤ (w.alloc (.cells #[.int .i64 0, .string ⟨#[]⟩, .string ⟨#[]⟩, .int .i64 0, .int .i64 0, .bool false, .int .i64 0, .string ⟨#[]⟩, .slice none 0 0, .slice none 0 0] 41)).heap.size by simp)) hc)
  have HR0 := hide R0
  have HB0 := hide B0
  have HLEN := hide hlen
  have hnm : n ≤ 9223372036854775807 := by omega
  clear R0 B0 hr hlen
  go_enter Try.func21, Try.ntmps21
  go_wp2_with fail
  generalize w.alloc (.cells #[.int .i64 0, .string ⟨#[]⟩, .string ⟨#[]⟩, .int .i64 0, .int .i64 0, .bool false, .int .i64 0, .string ⟨#[]⟩, .slice none 0 0, .slice none 0 0] 41) = W at HR0 HB0 H1 ⊢
  refine H1.out.mono ?_
  intro e w2 he
  obtain ⟨b2, v, cs, at1, z1, rfl, V2, h1⟩ := DecP_un he
  obtain ⟨k, b, n', s, l, ks, AL, cL, AK, cK, xs, rfl, rfl, hcL, hR, hI⟩ := V2.six
  have R2 := HR0.out.below b2 HR0.out.lt
  have HB2 := hide (HB0.out.trans (b2.mono HB0.out.size))
  have R3 := R2.alloc (.cells #[.int .i64 k, .bool b, .int .i64 n', .string s, .slice AL l.length cL, .slice AK ks.length cK] 25)
  have HR3 := hide R3
  have HB3 := hide (HB2.out.alloc HB2.out.size (.cells #[.int .i64 k, .bool b, .int .i64 n', .string s, .slice AL l.length cL, .slice AK ks.length cK] 25))
  have N3 := Blk.new w2 25 #[.int .i64 k, .bool b, .int .i64 n', .string s, .slice AL l.length cL, .slice AK ks.length cK]
  have HN3 := hide N3
  have hs3 : w2.heap.size < (w2.alloc (.cells #[.int .i64 k, .bool b, .int .i64 n', .string s, .slice AL l.length cL, .slice AK ks.length cK] 25)).heap.size := by simp
  have hOf := of_any (c := cL) (hR.grow ((Below.refl w2.heap.size w2).alloc (Nat.le_refl _) (.cells #[.int .i64 k, .bool b, .int .i64 n', .string s, .slice AL l.length cL, .slice AK ks.length cK] 25))) (hI.grow ((Below.refl w2.heap.size w2).alloc (Nat.le_refl _) (.cells #[.int .i64 k, .bool b, .int .i64 n', .string s, .slice AL l.length cL, .slice AK ks.length cK] 25))) hcL
  have hRW : w.heap.size < W.heap.size := HR0.out.lt
  have HOF := hide hOf
  clear R2 R3 N3 he b2 V2 H1 HR0 HB0 hR hI hOf HB2
  go_upto_region 2 with (fail)
  generalize w2.alloc (.cells #[.int .i64 k, .bool b, .int .i64 n', .string s, .slice AL l.length cL, .slice AK ks.length cK] 25) = w3 at HR3 HB3 HN3 HOF hs3 ⊢
  cases hd : dec bs with
  | error y =>
    rw [hd] at h1
    have hz : ¬ z1 = 0 := by rcases dec_err hd with h | h <;> (have := h1.2.2; omega)
    have HZ := hide (decM_1 hd)
    have tz : (z1 == 0) = false := by simp [hz]
    have tz2 : (z1 != 0) = true := by simp [hz]
    have HZ1 := hide hz
    clear h1 hd hz
    have rz0 : w3.cell? ⟨w.heap.size, 0, none⟩ = some (.int .i64 0) := blkR HR3.out rfl
    have rz1 : w3.cell? ⟨w.heap.size, 1, none⟩ = some (.string ⟨#[]⟩) := blkR HR3.out rfl
    have rz2 : w3.cell? ⟨w.heap.size, 2, none⟩ = some (.string ⟨#[]⟩) := blkR HR3.out rfl
    have rz3 : w3.cell? ⟨w.heap.size, 3, none⟩ = some (.int .i64 0) := blkR HR3.out rfl
    have rz4 : w3.cell? ⟨w.heap.size, 4, none⟩ = some (.int .i64 0) := blkR HR3.out rfl
    have rz5 : w3.cell? ⟨w.heap.size, 5, none⟩ = some (.bool false) := blkR HR3.out rfl
    have rz6 : w3.cell? ⟨w.heap.size, 6, none⟩ = some (.int .i64 0) := blkR HR3.out rfl
    have rz7 : w3.cell? ⟨w.heap.size, 7, none⟩ = some (.string ⟨#[]⟩) := blkR HR3.out rfl
    have rz8 : w3.cell? ⟨w.heap.size, 8, none⟩ = some (.slice none 0 0) := blkR HR3.out rfl
    have rz9 : w3.cell? ⟨w.heap.size, 9, none⟩ = some (.slice none 0 0) := blkR HR3.out rfl
    have rzf : ∀ i, w3.frozen? ⟨w.heap.size, i, none⟩ = false := fun i => HR3.out.frozen i
    have HD := hide (show decM bs = none from HZ.out)
    have HXE := hide (set10 HR3.out (.int .i64 0) (.string ⟨#[]⟩) (.string ⟨#[]⟩) (.int .i64 0) (.int .i64 0) (.bool false) (.int .i64 0) (.string ⟨#[]⟩) (.slice none 0 0) (.slice none 0 0))
    have OE := only10 (Only.refl (fun b => b = w.heap.size) w3) (.inl rfl) (.int .i64 0) (.string ⟨#[]⟩) (.string ⟨#[]⟩) (.int .i64 0) (.int .i64 0) (.bool false) (.int .i64 0) (.string ⟨#[]⟩) (.slice none 0 0) (.slice none 0 0)
    have BE := HB3.out.trans (OE.below (B := w.heap.size) (by intro b _ e; have e : b = w.heap.size := e; omega) HB3.out.size)
    have HBE := hide BE
    clear OE BE
    go_wp2
    refine bodyPost_ret (results_cell2 rfl _ _ w.heap.size 41 _ _ rfl HXE.out Try.underlying41 rfl (by kernel_rfl)) rfl ?_
    exact DecMP_no HD.out HBE.out
  | ok q =>
    obtain ⟨v0, n0, q0⟩ := q
    rw [hd] at h1
    obtain ⟨hv, hn0, hz⟩ := h1
    subst hz
    subst hn0
    subst hv
    have HDD := hide hd
    have hat : at1 ≤ n := by have := (dec_one (by rw [HLEN.out]; exact hnm) hd).2.2.2.2.2.1; rw [HLEN.out] at this; exact this
    clear hd
    by_cases hn1 : at1 = n
    · subst hn1
      have t1 : ((at1 : Int) == (at1 : Int)) = true := by simp
      have t2 : ((at1 : Int) != (at1 : Int)) = false := by simp
      by_cases hn2 : at1 ≤ 32768
      · have t3 : decide ((32768 : Int) < (at1 : Int)) = false := by simp; omega
        have t3a : ¬ (32768 : Int) < (at1 : Int) := by omega
        have t3b : ¬ 32768 < at1 := by omega
        by_cases hk : k = 4
        · subst hk
          have HC := hide (decM_3 HDD.out ⟨HLEN.out.symm, by rw [HLEN.out]; exact hn2, rfl⟩)
          have v0 : w3.cell? ⟨w2.heap.size, 0, none⟩ = some (.int .i64 4) := blkR HN3.out rfl
          have v1 : w3.cell? ⟨w2.heap.size, 1, none⟩ = some (.bool b) := blkR HN3.out rfl
          have v2 : w3.cell? ⟨w2.heap.size, 2, none⟩ = some (.int .i64 n') := blkR HN3.out rfl
          have v3 : w3.cell? ⟨w2.heap.size, 3, none⟩ = some (.string s) := blkR HN3.out rfl
          have v4 : w3.cell? ⟨w2.heap.size, 4, none⟩ = some (.slice AL l.length cL) := blkR HN3.out rfl
          have v5 : w3.cell? ⟨w2.heap.size, 5, none⟩ = some (.slice AK ks.length cK) := blkR HN3.out rfl
          go_wp2_with fail
          refine HOF.out.mono ?_
          rintro e w4 ⟨m, cs, ok, rfl, hM, hb, ho⟩
          obtain ⟨mk, ms, mt, mn, k2, b2, n2, s2, AL2, nL2, cL2, AK2, nK2, cK2, rfl⟩ := hM.ten
          have R4 := (HR3.out.below hb HR3.out.lt).alloc (.cells #[.int .i64 mk, .string ms, .string mt, .int .i64 mn, .int .i64 k2, .bool b2, .int .i64 n2, .string s2, .slice AL2 nL2 cL2, .slice AK2 nK2 cK2] 41)
          have HB4 := hide ((HB3.out.trans (hb.mono HB3.out.size)).alloc (Nat.le_trans HB3.out.size hb.size) (.cells #[.int .i64 mk, .string ms, .string mt, .int .i64 mn, .int .i64 k2, .bool b2, .int .i64 n2, .string s2, .slice AL2 nL2 cL2, .slice AK2 nK2 cK2] 41))
          have HM4 := hide ((hM.mono (S' := fun b => W.heap.size ≤ b) (fun b h _ => h.1)).alloc (.cells #[.int .i64 mk, .string ms, .string mt, .int .i64 mn, .int .i64 k2, .bool b2, .int .i64 n2, .string s2, .slice AL2 nL2 cL2, .slice AK2 nK2 cK2] 41))
          have HR4 := hide R4
          have HN4 := hide (Blk.new w4 41 #[.int .i64 mk, .string ms, .string mt, .int .i64 mn, .int .i64 k2, .bool b2, .int .i64 n2, .string s2, .slice AL2 nL2 cL2, .slice AK2 nK2 cK2])
          have HO := hide ho
          have hne : w.heap.size < w4.heap.size := Nat.lt_of_lt_of_le HR3.out.lt hb.size
          clear R4 hM hb ho HOF v0 v1 v2 v3 v4 v5 HN3 HR3 HB3
          go_upto_region 5 with (fail)
          generalize w4.alloc (.cells #[.int .i64 mk, .string ms, .string mt, .int .i64 mn, .int .i64 k2, .bool b2, .int .i64 n2, .string s2, .slice AL2 nL2 cL2, .slice AK2 nK2 cK2] 41) = w5 at HB4 HM4 HR4 HN4 ⊢
          cases ok with
          | false =>
            have rz0 : w5.cell? ⟨w.heap.size, 0, none⟩ = some (.int .i64 0) := blkR HR4.out rfl
            have rz1 : w5.cell? ⟨w.heap.size, 1, none⟩ = some (.string ⟨#[]⟩) := blkR HR4.out rfl
            have rz2 : w5.cell? ⟨w.heap.size, 2, none⟩ = some (.string ⟨#[]⟩) := blkR HR4.out rfl
            have rz3 : w5.cell? ⟨w.heap.size, 3, none⟩ = some (.int .i64 0) := blkR HR4.out rfl
            have rz4 : w5.cell? ⟨w.heap.size, 4, none⟩ = some (.int .i64 0) := blkR HR4.out rfl
            have rz5 : w5.cell? ⟨w.heap.size, 5, none⟩ = some (.bool false) := blkR HR4.out rfl
            have rz6 : w5.cell? ⟨w.heap.size, 6, none⟩ = some (.int .i64 0) := blkR HR4.out rfl
            have rz7 : w5.cell? ⟨w.heap.size, 7, none⟩ = some (.string ⟨#[]⟩) := blkR HR4.out rfl
            have rz8 : w5.cell? ⟨w.heap.size, 8, none⟩ = some (.slice none 0 0) := blkR HR4.out rfl
            have rz9 : w5.cell? ⟨w.heap.size, 9, none⟩ = some (.slice none 0 0) := blkR HR4.out rfl
            have rzf : ∀ i, w5.frozen? ⟨w.heap.size, i, none⟩ = false := fun i => HR4.out.frozen i
            have HD := hide (show decM bs = none from by rw [HC.out, show ofM (V.mk 4 b n' s l ks).l = none from HO.out])
            have HXE := hide (set10 HR4.out (.int .i64 0) (.string ⟨#[]⟩) (.string ⟨#[]⟩) (.int .i64 0) (.int .i64 0) (.bool false) (.int .i64 0) (.string ⟨#[]⟩) (.slice none 0 0) (.slice none 0 0))
            have OE := only10 (Only.refl (fun b => b = w.heap.size) w5) (.inl rfl) (.int .i64 0) (.string ⟨#[]⟩) (.string ⟨#[]⟩) (.int .i64 0) (.int .i64 0) (.bool false) (.int .i64 0) (.string ⟨#[]⟩) (.slice none 0 0) (.slice none 0 0)
            have BE := HB4.out.trans (OE.below (B := w.heap.size) (by intro b _ e; have e : b = w.heap.size := e; omega) HB4.out.size)
            have HBE := hide BE
            clear OE BE
            go_wp2
            refine bodyPost_ret (results_cell2 rfl _ _ w.heap.size 41 _ _ rfl HXE.out Try.underlying41 rfl (by kernel_rfl)) rfl ?_
            exact DecMP_no HD.out HBE.out
          | true =>
            have u0 : w5.cell? ⟨w4.heap.size, 0, none⟩ = some (.int .i64 mk) := blkR HN4.out rfl
            have u1 : w5.cell? ⟨w4.heap.size, 1, none⟩ = some (.string ms) := blkR HN4.out rfl
            have u2 : w5.cell? ⟨w4.heap.size, 2, none⟩ = some (.string mt) := blkR HN4.out rfl
            have u3 : w5.cell? ⟨w4.heap.size, 3, none⟩ = some (.int .i64 mn) := blkR HN4.out rfl
            have u4 : w5.cell? ⟨w4.heap.size, 4, none⟩ = some (.int .i64 k2) := blkR HN4.out rfl
            have u5 : w5.cell? ⟨w4.heap.size, 5, none⟩ = some (.bool b2) := blkR HN4.out rfl
            have u6 : w5.cell? ⟨w4.heap.size, 6, none⟩ = some (.int .i64 n2) := blkR HN4.out rfl
            have u7 : w5.cell? ⟨w4.heap.size, 7, none⟩ = some (.string s2) := blkR HN4.out rfl
            have u8 : w5.cell? ⟨w4.heap.size, 8, none⟩ = some (.slice AL2 nL2 cL2) := blkR HN4.out rfl
            have u9 : w5.cell? ⟨w4.heap.size, 9, none⟩ = some (.slice AK2 nK2 cK2) := blkR HN4.out rfl
            have HCK := hide (mcheck_any HM4.out)
            cases hok : okM m with
            | false =>
              rw [hok, if_neg (by decide)] at HCK
              have HOK := hide hok
              clear hok
              go_wp2_with fail
              refine HCK.out.mono ?_
              rintro e w6 ⟨rfl, hb⟩
              have HR6 := hide (HR4.out.below hb HR4.out.lt)
              have HB6 := hide (HB4.out.trans (hb.mono HB4.out.size))
              clear hb HCK u0 u1 u2 u3 u4 u5 u6 u7 u8 u9
              have rz0 : w6.cell? ⟨w.heap.size, 0, none⟩ = some (.int .i64 0) := blkR HR6.out rfl
              have rz1 : w6.cell? ⟨w.heap.size, 1, none⟩ = some (.string ⟨#[]⟩) := blkR HR6.out rfl
              have rz2 : w6.cell? ⟨w.heap.size, 2, none⟩ = some (.string ⟨#[]⟩) := blkR HR6.out rfl
              have rz3 : w6.cell? ⟨w.heap.size, 3, none⟩ = some (.int .i64 0) := blkR HR6.out rfl
              have rz4 : w6.cell? ⟨w.heap.size, 4, none⟩ = some (.int .i64 0) := blkR HR6.out rfl
              have rz5 : w6.cell? ⟨w.heap.size, 5, none⟩ = some (.bool false) := blkR HR6.out rfl
              have rz6 : w6.cell? ⟨w.heap.size, 6, none⟩ = some (.int .i64 0) := blkR HR6.out rfl
              have rz7 : w6.cell? ⟨w.heap.size, 7, none⟩ = some (.string ⟨#[]⟩) := blkR HR6.out rfl
              have rz8 : w6.cell? ⟨w.heap.size, 8, none⟩ = some (.slice none 0 0) := blkR HR6.out rfl
              have rz9 : w6.cell? ⟨w.heap.size, 9, none⟩ = some (.slice none 0 0) := blkR HR6.out rfl
              have rzf : ∀ i, w6.frozen? ⟨w.heap.size, i, none⟩ = false := fun i => HR6.out.frozen i
              have HD := hide (show decM bs = none from by rw [HC.out, show ofM (V.mk 4 b n' s l ks).l = some m from HO.out]; dsimp only; rw [HOK.out]; rfl)
              have HXE := hide (set10 HR6.out (.int .i64 0) (.string ⟨#[]⟩) (.string ⟨#[]⟩) (.int .i64 0) (.int .i64 0) (.bool false) (.int .i64 0) (.string ⟨#[]⟩) (.slice none 0 0) (.slice none 0 0))
              have OE := only10 (Only.refl (fun b => b = w.heap.size) w6) (.inl rfl) (.int .i64 0) (.string ⟨#[]⟩) (.string ⟨#[]⟩) (.int .i64 0) (.int .i64 0) (.bool false) (.int .i64 0) (.string ⟨#[]⟩) (.slice none 0 0) (.slice none 0 0)
              have BE := HB6.out.trans (OE.below (B := w.heap.size) (by intro b _ e; have e : b = w.heap.size := e; omega) HB6.out.size)
              have HBE := hide BE
              clear OE BE
              go_wp2
              refine bodyPost_ret (results_cell2 rfl _ _ w.heap.size 41 _ _ rfl HXE.out Try.underlying41 rfl (by kernel_rfl)) rfl ?_
              exact DecMP_no HD.out HBE.out
            | true =>
              rw [hok, if_pos rfl] at HCK
              have HOK := hide hok
              clear hok
              go_wp2_with fail
              refine HCK.out.mono ?_
              rintro e w6 ⟨rfl, hb⟩
              have HR6 := hide (HR4.out.below hb HR4.out.lt)
              have HN6 := hide (HN4.out.below hb HN4.out.lt)
              have HM6 := hide (HM4.out.grow hb)
              have HB6 := hide (HB4.out.trans (hb.mono HB4.out.size))
              clear hb HCK u0 u1 u2 u3 u4 u5 u6 u7 u8 u9
              have u0 : w6.cell? ⟨w4.heap.size, 0, none⟩ = some (.int .i64 mk) := blkR HN6.out rfl
              have u1 : w6.cell? ⟨w4.heap.size, 1, none⟩ = some (.string ms) := blkR HN6.out rfl
              have u2 : w6.cell? ⟨w4.heap.size, 2, none⟩ = some (.string mt) := blkR HN6.out rfl
              have u3 : w6.cell? ⟨w4.heap.size, 3, none⟩ = some (.int .i64 mn) := blkR HN6.out rfl
              have u4 : w6.cell? ⟨w4.heap.size, 4, none⟩ = some (.int .i64 k2) := blkR HN6.out rfl
              have u5 : w6.cell? ⟨w4.heap.size, 5, none⟩ = some (.bool b2) := blkR HN6.out rfl
              have u6 : w6.cell? ⟨w4.heap.size, 6, none⟩ = some (.int .i64 n2) := blkR HN6.out rfl
              have u7 : w6.cell? ⟨w4.heap.size, 7, none⟩ = some (.string s2) := blkR HN6.out rfl
              have u8 : w6.cell? ⟨w4.heap.size, 8, none⟩ = some (.slice AL2 nL2 cL2) := blkR HN6.out rfl
              have u9 : w6.cell? ⟨w4.heap.size, 9, none⟩ = some (.slice AK2 nK2 cK2) := blkR HN6.out rfl
              have rz0 : w6.cell? ⟨w.heap.size, 0, none⟩ = some (.int .i64 0) := blkR HR6.out rfl
              have rz1 : w6.cell? ⟨w.heap.size, 1, none⟩ = some (.string ⟨#[]⟩) := blkR HR6.out rfl
              have rz2 : w6.cell? ⟨w.heap.size, 2, none⟩ = some (.string ⟨#[]⟩) := blkR HR6.out rfl
              have rz3 : w6.cell? ⟨w.heap.size, 3, none⟩ = some (.int .i64 0) := blkR HR6.out rfl
              have rz4 : w6.cell? ⟨w.heap.size, 4, none⟩ = some (.int .i64 0) := blkR HR6.out rfl
              have rz5 : w6.cell? ⟨w.heap.size, 5, none⟩ = some (.bool false) := blkR HR6.out rfl
              have rz6 : w6.cell? ⟨w.heap.size, 6, none⟩ = some (.int .i64 0) := blkR HR6.out rfl
              have rz7 : w6.cell? ⟨w.heap.size, 7, none⟩ = some (.string ⟨#[]⟩) := blkR HR6.out rfl
              have rz8 : w6.cell? ⟨w.heap.size, 8, none⟩ = some (.slice none 0 0) := blkR HR6.out rfl
              have rz9 : w6.cell? ⟨w.heap.size, 9, none⟩ = some (.slice none 0 0) := blkR HR6.out rfl
              have rzf : ∀ i, w6.frozen? ⟨w.heap.size, i, none⟩ = false := fun i => HR6.out.frozen i
              have HD := hide (show decM bs = some m from by rw [HC.out, show ofM (V.mk 4 b n' s l ks).l = some m from HO.out]; dsimp only; rw [HOK.out]; rfl)
              have HXE := hide (set10 HR6.out (.int .i64 mk) (.string ms) (.string mt) (.int .i64 mn) (.int .i64 k2) (.bool b2) (.int .i64 n2) (.string s2) (.slice AL2 nL2 cL2) (.slice AK2 nK2 cK2))
              have OE := only10 (Only.refl (fun b => b = w.heap.size) w6) (.inl rfl) (.int .i64 mk) (.string ms) (.string mt) (.int .i64 mn) (.int .i64 k2) (.bool b2) (.int .i64 n2) (.string s2) (.slice AL2 nL2 cL2) (.slice AK2 nK2 cK2)
              have HBE := hide (HB6.out.trans (OE.below (B := w.heap.size) (by intro b _ e; have e : b = w.heap.size := e; omega) HB6.out.size))
              have HOE := hide OE
              clear OE
              go_wp2
              refine bodyPost_ret (results_cell2 rfl _ _ w.heap.size 41 _ _ rfl HXE.out Try.underlying41 rfl (by kernel_rfl)) rfl ?_
              exact DecMP_ok HD.out HBE.out ((HM6.out.only HOE.out (fun b hb e => by have hb : W.heap.size ≤ b := hb; have e : b = w.heap.size := e; omega)).mono (fun b h _ => by have h : W.heap.size ≤ b := h; show w.heap.size ≤ b; omega))
        · have tk : (k == 4) = false := by simp [hk]
          have tk2 : (k != 4) = true := by simp [hk]
          have HK := hide hk
          clear hk
          have rz0 : w3.cell? ⟨w.heap.size, 0, none⟩ = some (.int .i64 0) := blkR HR3.out rfl
          have rz1 : w3.cell? ⟨w.heap.size, 1, none⟩ = some (.string ⟨#[]⟩) := blkR HR3.out rfl
          have rz2 : w3.cell? ⟨w.heap.size, 2, none⟩ = some (.string ⟨#[]⟩) := blkR HR3.out rfl
          have rz3 : w3.cell? ⟨w.heap.size, 3, none⟩ = some (.int .i64 0) := blkR HR3.out rfl
          have rz4 : w3.cell? ⟨w.heap.size, 4, none⟩ = some (.int .i64 0) := blkR HR3.out rfl
          have rz5 : w3.cell? ⟨w.heap.size, 5, none⟩ = some (.bool false) := blkR HR3.out rfl
          have rz6 : w3.cell? ⟨w.heap.size, 6, none⟩ = some (.int .i64 0) := blkR HR3.out rfl
          have rz7 : w3.cell? ⟨w.heap.size, 7, none⟩ = some (.string ⟨#[]⟩) := blkR HR3.out rfl
          have rz8 : w3.cell? ⟨w.heap.size, 8, none⟩ = some (.slice none 0 0) := blkR HR3.out rfl
          have rz9 : w3.cell? ⟨w.heap.size, 9, none⟩ = some (.slice none 0 0) := blkR HR3.out rfl
          have rzf : ∀ i, w3.frozen? ⟨w.heap.size, i, none⟩ = false := fun i => HR3.out.frozen i
          have v0 : w3.cell? ⟨w2.heap.size, 0, none⟩ = some (.int .i64 k) := blkR HN3.out rfl
          have v1 : w3.cell? ⟨w2.heap.size, 1, none⟩ = some (.bool b) := blkR HN3.out rfl
          have v2 : w3.cell? ⟨w2.heap.size, 2, none⟩ = some (.int .i64 n') := blkR HN3.out rfl
          have v3 : w3.cell? ⟨w2.heap.size, 3, none⟩ = some (.string s) := blkR HN3.out rfl
          have v4 : w3.cell? ⟨w2.heap.size, 4, none⟩ = some (.slice AL l.length cL) := blkR HN3.out rfl
          have v5 : w3.cell? ⟨w2.heap.size, 5, none⟩ = some (.slice AK ks.length cK) := blkR HN3.out rfl
          have HD := hide (show decM bs = none from decM_2 HDD.out (fun h => HK.out h.2.2))
          have HXE := hide (set10 HR3.out (.int .i64 0) (.string ⟨#[]⟩) (.string ⟨#[]⟩) (.int .i64 0) (.int .i64 0) (.bool false) (.int .i64 0) (.string ⟨#[]⟩) (.slice none 0 0) (.slice none 0 0))
          have OE := only10 (Only.refl (fun b => b = w.heap.size) w3) (.inl rfl) (.int .i64 0) (.string ⟨#[]⟩) (.string ⟨#[]⟩) (.int .i64 0) (.int .i64 0) (.bool false) (.int .i64 0) (.string ⟨#[]⟩) (.slice none 0 0) (.slice none 0 0)
          have BE := HB3.out.trans (OE.below (B := w.heap.size) (by intro b _ e; have e : b = w.heap.size := e; omega) HB3.out.size)
          have HBE := hide BE
          clear OE BE
          go_wp2
          refine bodyPost_ret (results_cell2 rfl _ _ w.heap.size 41 _ _ rfl HXE.out Try.underlying41 rfl (by kernel_rfl)) rfl ?_
          exact DecMP_no HD.out HBE.out
      · have t3 : decide ((32768 : Int) < (at1 : Int)) = true := by simp; omega
        have t3a : (32768 : Int) < (at1 : Int) := by omega
        have t3b : 32768 < at1 := by omega
        have HN2 := hide hn2
        clear hn2
        have rz0 : w3.cell? ⟨w.heap.size, 0, none⟩ = some (.int .i64 0) := blkR HR3.out rfl
        have rz1 : w3.cell? ⟨w.heap.size, 1, none⟩ = some (.string ⟨#[]⟩) := blkR HR3.out rfl
        have rz2 : w3.cell? ⟨w.heap.size, 2, none⟩ = some (.string ⟨#[]⟩) := blkR HR3.out rfl
        have rz3 : w3.cell? ⟨w.heap.size, 3, none⟩ = some (.int .i64 0) := blkR HR3.out rfl
        have rz4 : w3.cell? ⟨w.heap.size, 4, none⟩ = some (.int .i64 0) := blkR HR3.out rfl
        have rz5 : w3.cell? ⟨w.heap.size, 5, none⟩ = some (.bool false) := blkR HR3.out rfl
        have rz6 : w3.cell? ⟨w.heap.size, 6, none⟩ = some (.int .i64 0) := blkR HR3.out rfl
        have rz7 : w3.cell? ⟨w.heap.size, 7, none⟩ = some (.string ⟨#[]⟩) := blkR HR3.out rfl
        have rz8 : w3.cell? ⟨w.heap.size, 8, none⟩ = some (.slice none 0 0) := blkR HR3.out rfl
        have rz9 : w3.cell? ⟨w.heap.size, 9, none⟩ = some (.slice none 0 0) := blkR HR3.out rfl
        have rzf : ∀ i, w3.frozen? ⟨w.heap.size, i, none⟩ = false := fun i => HR3.out.frozen i
        have HD := hide (show decM bs = none from decM_2 HDD.out (fun h => HN2.out (by have := h.2.1; rw [HLEN.out] at this; exact this)))
        have HXE := hide (set10 HR3.out (.int .i64 0) (.string ⟨#[]⟩) (.string ⟨#[]⟩) (.int .i64 0) (.int .i64 0) (.bool false) (.int .i64 0) (.string ⟨#[]⟩) (.slice none 0 0) (.slice none 0 0))
        have OE := only10 (Only.refl (fun b => b = w.heap.size) w3) (.inl rfl) (.int .i64 0) (.string ⟨#[]⟩) (.string ⟨#[]⟩) (.int .i64 0) (.int .i64 0) (.bool false) (.int .i64 0) (.string ⟨#[]⟩) (.slice none 0 0) (.slice none 0 0)
        have BE := HB3.out.trans (OE.below (B := w.heap.size) (by intro b _ e; have e : b = w.heap.size := e; omega) HB3.out.size)
        have HBE := hide BE
        clear OE BE
        go_wp2
        refine bodyPost_ret (results_cell2 rfl _ _ w.heap.size 41 _ _ rfl HXE.out Try.underlying41 rfl (by kernel_rfl)) rfl ?_
        exact DecMP_no HD.out HBE.out
    · have t1 : ((at1 : Int) == (n : Int)) = false := by simp; omega
      have t2 : ((at1 : Int) != (n : Int)) = true := by simp; omega
      have HN1 := hide hn1
      clear hn1
      have rz0 : w3.cell? ⟨w.heap.size, 0, none⟩ = some (.int .i64 0) := blkR HR3.out rfl
      have rz1 : w3.cell? ⟨w.heap.size, 1, none⟩ = some (.string ⟨#[]⟩) := blkR HR3.out rfl
      have rz2 : w3.cell? ⟨w.heap.size, 2, none⟩ = some (.string ⟨#[]⟩) := blkR HR3.out rfl
      have rz3 : w3.cell? ⟨w.heap.size, 3, none⟩ = some (.int .i64 0) := blkR HR3.out rfl
      have rz4 : w3.cell? ⟨w.heap.size, 4, none⟩ = some (.int .i64 0) := blkR HR3.out rfl
      have rz5 : w3.cell? ⟨w.heap.size, 5, none⟩ = some (.bool false) := blkR HR3.out rfl
      have rz6 : w3.cell? ⟨w.heap.size, 6, none⟩ = some (.int .i64 0) := blkR HR3.out rfl
      have rz7 : w3.cell? ⟨w.heap.size, 7, none⟩ = some (.string ⟨#[]⟩) := blkR HR3.out rfl
      have rz8 : w3.cell? ⟨w.heap.size, 8, none⟩ = some (.slice none 0 0) := blkR HR3.out rfl
      have rz9 : w3.cell? ⟨w.heap.size, 9, none⟩ = some (.slice none 0 0) := blkR HR3.out rfl
      have rzf : ∀ i, w3.frozen? ⟨w.heap.size, i, none⟩ = false := fun i => HR3.out.frozen i
      have HD := hide (show decM bs = none from decM_2 HDD.out (fun h => HN1.out (h.1.trans HLEN.out)))
      have HXE := hide (set10 HR3.out (.int .i64 0) (.string ⟨#[]⟩) (.string ⟨#[]⟩) (.int .i64 0) (.int .i64 0) (.bool false) (.int .i64 0) (.string ⟨#[]⟩) (.slice none 0 0) (.slice none 0 0))
      have OE := only10 (Only.refl (fun b => b = w.heap.size) w3) (.inl rfl) (.int .i64 0) (.string ⟨#[]⟩) (.string ⟨#[]⟩) (.int .i64 0) (.int .i64 0) (.bool false) (.int .i64 0) (.string ⟨#[]⟩) (.slice none 0 0) (.slice none 0 0)
      have BE := HB3.out.trans (OE.below (B := w.heap.size) (by intro b _ e; have e : b = w.heap.size := e; omega) HB3.out.size)
      have HBE := hide BE
      clear OE BE
      go_wp2
      refine bodyPost_ret (results_cell2 rfl _ _ w.heap.size 41 _ _ rfl HXE.out Try.underlying41 rfl (by kernel_rfl)) rfl ?_
      exact DecMP_no HD.out HBE.out
end Go.Proofs.Ytaapbiiiepdopaa
