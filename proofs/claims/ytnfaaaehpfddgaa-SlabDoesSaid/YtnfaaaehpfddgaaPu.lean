/- Put of a slab that has room. -/
import Derived.Test.YtnfaaaehpfddgaaPt
namespace Go.Proofs.Ytnfaaaehpfddgaa
open Go.RowKit Mem
set_option linter.unusedVariables false

/-- the slab with a slot free at any rate -/
def grown (sl : List S3) : List S3 := if lives sl = sl.length then sl ++ [(0, 0, false)] else sl
def genOf (sl : List S3) (m : Nat) : Nat := match sl[m]? with
  | some s => s.1
  | none => 0
def putS (sl : List S3) (x : Int) : List S3 := (grown sl).set (ff (grown sl)) (genOf (grown sl) (ff (grown sl)) + 1, x, true)

theorem far_cells {w : World} {R : Nat} (h : Blk w R 29 #[.int .i64 0, .int .i64 0]) : w.cell? ⟨R, 0, none⟩ = some (.int .i64 0) ∧ w.cell? ⟨R, 1, none⟩ = some (.int .i64 0) := ⟨by rw [h.cell]; rfl, by rw [h.cell]; rfl⟩

theorem fr_fresh {T} {S : Nat → Prop} {w w4 W : World} (h : Fr T w w4) (ho : Only S w4 W) (hS : ∀ k, S k → w.heap.size ≤ k ∨ ∃ o, w4.heap[k]? = some o ∧ T o) : Fr T w W :=
  ⟨ho.os.trans h.os, ho.tape.trans h.tape, ho.output.trans h.output, Nat.le_trans h.size ho.size, fun k o hk hn => by
    have h4 := h.block k o hk hn
    have hlt := (Array.getElem?_eq_some_iff.1 hk).1
    rw [ho.block k (Array.getElem?_eq_some_iff.1 h4).1 (fun hs => by
      rcases hS k hs with h1 | ⟨o', h1, h2⟩
      · omega
      · rw [h4] at h1; cases h1; exact hn h2)]
    exact h4⟩

/-- what Put leaves -/
theorem put_end {w w4 w8 : World} {B g R m z0 b c : Nat} {z1 x most : Int} {z2 : Bool} {sl2 : List S3} {v4 : Value} {fr fr4 : List Nat} {cs8 : Array Value} (hR : w.heap.size ≤ R) (K4 : Fr KT w w4) (B4 : Below B w w4) (hB : B ≤ w.heap.size) (hlo : B ≤ g)
    (hs : sl2[m]? = some (z0, z1, z2)) (hfree : isFree sl2 m = true) (g4 : ∃ cs, Blk w4 g 58 cs) (oV4 : w4.ownsRow B 63 3 (.slice (some ⟨b, 0, none⟩) sl2.length c) sl2.length (scells sl2))
    (O8 : Only (fun k => k = b ∨ k = g) w4 w8) (g8 : Blk w8 g 58 cs8) (hcs : cs8 = #[.int .i64 most, .slice (some ⟨b, 0, none⟩) sl2.length c, v4, .int .i64 ((lives sl2 : Int) + 1)])
    (oV8 : w8.ownsRow B 63 3 (.slice (some ⟨b, 0, none⟩) sl2.length c) sl2.length (scells (sl2.set m (z0 + 1, x, true)))) (oF8 : w8.ownsRow B 3 1 v4 fr4.length (nats fr4)) (hh : IsHeap fr4 fr4.length)
    (hcnt : ∀ u, fr.count u = if isFree sl2 u = true then 1 else 0) (c4 : ∀ u, fr.count u = fr4.count u + if m = u then 1 else 0) (l4 : fr4.length + 1 = fr.length) (hlen : fr.length + lives sl2 = sl2.length) (R8 : ∃ cs, Blk w8 R 29 cs) (u0 u1 : Value) :
    Left w B g most (sl2.set m (z0 + 1, x, true)) ((w8.setCell ⟨R, 0, none⟩ u0).setCell ⟨R, 1, none⟩ u1) := by
  obtain ⟨csR, R8⟩ := R8
  obtain ⟨cs4, g4⟩ := g4
  subst hcs
  have hml := isFree_lt hfree
  have hz2 : z2 = false := by simpa [isFree, hs] using hfree
  subst hz2
  have hlv := lives_set (z0 + 1, x, true) hs
  simp only [Bool.false_eq_true, if_false, if_true, Nat.add_zero] at hlv
  have OR := ((Only.refl (fun k => k = R) w8).setCell (p := ⟨R, 0, none⟩) (.inl rfl) u0).setCell (p := ⟨R, 1, none⟩) (.inl rfl) u1
  have OT : Only (fun k => (k = b ∨ k = g) ∨ k = R) w4 ((w8.setCell ⟨R, 0, none⟩ u0).setCell ⟨R, 1, none⟩ u1) := (O8.mono (fun k _ hk => .inl hk)).trans OR (fun k _ hk => .inr hk)
  have hbB : B ≤ b := own_lo oV4 (k := b) rfl
  have hlvI : (lives sl2 : Int) + 1 = (lives (sl2.set m (z0 + 1, x, true)) : Int) := by omega
  rw [hlvI] at g8
  refine ⟨⟨.slice (some ⟨b, 0, none⟩) sl2.length c, v4, fr4, ⟨⟨g8.only OR (fun e => Blk.ne_ R8 g8 (by decide) e.symm), rfl, own_only oF8 OR (own_far oF8 R8 (by decide)), hh⟩, ?_, ?_, ?_, hlo, ?_⟩⟩, ?_, ?_⟩
  · rw [List.length_set]
    exact own_only oV8 OR (own_far oV8 R8 (by decide))
  · intro u
    have h1 := c4 u
    rw [hcnt] at h1
    rw [isFree_set _ hml]
    by_cases hu : u = m
    · subst hu
      simp [hfree] at h1 ⊢
      omega
    · have hu' : ¬ m = u := fun e => hu e.symm
      simp [hu, hu'] at h1 ⊢
      exact h1.symm
  · rw [List.length_set]
    omega
  · exact Nat.le_trans (Nat.le_trans hB B4.size) OT.size
  · refine fr_fresh K4 OT ?_
    rintro k ((rfl | rfl) | rfl)
    · right
      rcases oV4.2 with ⟨e1, _⟩ | ⟨g', cap, cur, e1, _, hh, _⟩
      · cases e1
      · cases e1
        exact ⟨_, hh, _, _, _, rfl, .inr (.inl rfl)⟩
    · exact .inr ⟨_, g4, _, _, _, rfl, .inl rfl⟩
    · exact .inl hR
  · refine B4.trans (OT.below ?_ (Nat.le_trans hB B4.size))
    rintro k _ ((rfl | rfl) | rfl)
    · exact hbB
    · exact hlo
    · omega

set_option maxHeartbeats 4000000 in
set_option maxRecDepth 100000 in
theorem put_ok {w : World} {B g : Nat} {most : Int} {sl : List S3} (x : Int) (h : Sl w B g most sl) (hf : (lives sl : Int) < most) (hn : sl.length ≤ 65536) (hgen : ∀ s ∈ sl, s.1 ≤ 4294967296) :
    Calls Try.prog 8 #[.pointer (some ⟨g, 0, none⟩), .int .i64 x] w fun e w' => e = .returned (.tuple #[.agg #[.int .i64 (ff (grown sl) : Int), .int .i64 ((genOf (grown sl) (ff (grown sl)) : Int) + 1)], .int .i64 0]) ∧ Left w B g most (putS sl x) w' := by
  have HS := hide h
  obtain ⟨V, v, fr, h⟩ := h
  have ha := slv_alloc h (.cells #[.int .i64 0, .int .i64 0] 29)
  have f3 : (w.alloc (.cells #[.int .i64 0, .int .i64 0] 29)).cell? ⟨g, 3, none⟩ = some (.int .i64 (lives sl : Int)) := by rw [ha.fre.blk.cell]; rfl
  have f0 : (w.alloc (.cells #[.int .i64 0, .int .i64 0] 29)).cell? ⟨g, 0, none⟩ = some (.int .i64 most) := by rw [ha.fre.blk.cell]; rfl
  have f2 : (w.alloc (.cells #[.int .i64 0, .int .i64 0] 29)).cell? ⟨g, 2, none⟩ = some v := by rw [ha.fre.blk.cell]; exact ha.fre.fld
  obtain ⟨Af, cf, rfl, _⟩ := own_form h.fre.own
  have hlen := h.len
  have Rb := Blk.new w 29 #[.int .i64 0, .int .i64 0]
  have HK := hide (And.intro ha Rb)
  have hOw : Hid (Only (fun _ => False) w (w.alloc (.cells #[.int .i64 0, .int .i64 0] 29))) := (Only.refl (fun _ => False) w).alloc _
  clear ha h Rb
  go_enter Try.func8, Try.ntmps8
  go_wp2
  go_quiet (fail)
  by_cases hfl : fr.length = 0
  · go_wp2_with fail
    obtain ⟨h1, R1⟩ := HK.out
    have h1 := slv_drewN h1 nq
    have R1 := R1.drewN nq
    have hO1 := hOw.out.drewN nq
    generalize (w.alloc (.cells #[.int .i64 0, .int .i64 0] 29)).drewN nq = wY at h1 R1 hO1 ⊢
    clear HK hOw
    refine (grow_any ⟨V, _, fr, h1⟩ hn).mono ?_
    rintro e wX ⟨rfl, ⟨V2, v2, fr1, h2⟩, K2, B2⟩
    generalize hRe : w.heap.size = R at R1 ⊢
    have R2 : Blk wX R 29 #[.int .i64 0, .int .i64 0] := K2.block _ _ R1 (by rintro ⟨_, _, _, e, ht⟩; cases e; rcases ht with h | h | h <;> cases h)
    clear f3 f0 f2 R1
    have hl2 := h2.len
    have hla := lives_app sl 0 0
    rw [hla, List.length_append] at hl2
    simp only [List.length_cons, List.length_nil] at hl2
    have hll : lives (sl ++ [(0, 0, false)]) < (sl ++ [(0, 0, false)]).length := by rw [hla]; simp; omega
    obtain ⟨Af1, cf1, rfl, _⟩ := own_form h2.fre.own
    have hgr : grown sl = sl ++ [(0, 0, false)] := by unfold grown; rw [if_pos (by omega)]
    have hgen2 : ∀ s ∈ sl ++ [(0, 0, false)], s.1 ≤ 4294967296 := by
      intro s hs
      rcases List.mem_append.1 hs with hs | hs
      · exact hgen s hs
      · rcases List.mem_cons.1 hs with rfl | hs
        · exact Nat.zero_le _
        · cases hs
    have hz1 := h1.sz
    have hl0 := h1.lo
    generalize hsl2 : sl ++ [(0, 0, false)] = sl2 at h2 hll hgr hgen2
    have hsl3 : sl2.length = sl.length + 1 := by rw [← hsl2]; simp
    have hb2 : sl2.length ≤ 65537 := by omega
    have hlv3 : lives sl2 = lives sl := by rw [← hsl2]; exact hla
    go_wp2_with fail
    refine (pop_any h2.fre (by omega) (by omega)).mono ?_
    rintro e w4 ⟨m, rfl, v4, fr4, F4, l4, c4, m4, o4, b4⟩
    have t1 := ta3 (m : Int) w4
    have oV4 := slots_only h2.fre h2.own o4
    obtain ⟨b, c, rfl⟩ := own_slice oV4 (by omega)
    have q1 : w4.cell? ⟨g, 1, none⟩ = some (.slice (some ⟨b, 0, none⟩) (sl2).length c) := by rw [F4.blk.cell]; rfl
    have hfree : isFree (sl2) m = true := by
      have h1 := c4 m
      have h3 := h2.cnt m
      rw [if_pos rfl] at h1
      cases hq : isFree (sl2) m with
      | true => rfl
      | false => rw [hq] at h3; simp at h3; omega
    have hml := isFree_lt hfree
    have hs : (sl2)[m]? = some (sl2)[m] := List.getElem?_eq_getElem hml
    have hg1 := hgen2 _ (List.getElem_mem hml)
    generalize (sl2)[m] = s at hs hg1
    obtain ⟨z0, z1, z2⟩ := s
    obtain ⟨a0, a1, a2⟩ := scells_at hs
    dsimp only at a0 a1 a2 hg1
    have b0 := own_at oV4 a0
    have p0 := oV4.frozenAt (m * 3)
    have oV5 := (oV4.stored (m * 3) (.int .i64 ((z0 : Int) + 1))).1
    have b1 := own_at oV5 (j := m * 3 + 1) (u := .int .i64 z1) (by rw [List.getElem?_set_ne (by omega)]; exact a1)
    have p1 := oV5.frozenAt (m * 3 + 1)
    have oV6 := (oV5.stored (m * 3 + 1) (.int .i64 x)).1
    have b2 := own_at oV6 (j := m * 3 + 2) (u := .bool z2) (by rw [List.getElem?_set_ne (by omega), List.getElem?_set_ne (by omega)]; exact a2)
    have p2 := oV6.frozenAt (m * 3 + 2)
    have oV7 := (oV6.stored (m * 3 + 2) (.bool true)).1
    have hbg : g ≠ b := fun e => own_far oV4 F4.blk (by decide) b rfl e.symm
    have hRg : R ≠ g := fun e => by rw [e] at R2; exact Blk.ne_ R2 h2.fre.blk (by decide) rfl
    have hRb : R ≠ b := fun e => own_blk_ne h2.own R2 (by decide) (by rw [e]; rfl)
    have hRf : ¬ (Value.slice Af1 fr1.length cf1).ownBlock = some R := own_blk_ne h2.fre.own R2 (by decide)
    have R4 : Blk w4 R 29 _ := R2.only o4 (fun e => e.elim hRg hRf)
    have g7 := ((F4.blk.far (p := ⟨b, m * 3, none⟩) hbg (.int .i64 ((z0 : Int) + 1))).far (p := ⟨b, m * 3 + 1, none⟩) hbg (.int .i64 x)).far (p := ⟨b, m * 3 + 2, none⟩) hbg (.bool true)
    have R7 := ((R4.far (p := ⟨b, m * 3, none⟩) hRb (.int .i64 ((z0 : Int) + 1))).far (p := ⟨b, m * 3 + 1, none⟩) hRb (.int .i64 x)).far (p := ⟨b, m * 3 + 2, none⟩) hRb (.bool true)
    have O7 := (((Only.refl (fun k => k = b) w4).setCell (p := ⟨b, m * 3, none⟩) (.inl rfl) (.int .i64 ((z0 : Int) + 1))).setCell (p := ⟨b, m * 3 + 1, none⟩) (.inl rfl) (.int .i64 x)).setCell (p := ⟨b, m * 3 + 2, none⟩) (.inl rfl) (.bool true)
    have oF7 := own_only F4.own O7 (fun k hk e => own_own_ne F4.own oV4 (by decide) k hk (by rw [e]; rfl))
    rw [show (((scells (sl2)).set (m * 3) (.int .i64 ((z0 : Int) + 1))).set (m * 3 + 1) (.int .i64 x)).set (m * 3 + 2) (.bool true) = scells ((sl2).set m (z0 + 1, x, true)) by rw [← scells_set]; simp] at oV7
    have k3 : (((w4.setCell ⟨b, m * 3, none⟩ (.int .i64 ((z0 : Int) + 1))).setCell ⟨b, m * 3 + 1, none⟩ (.int .i64 x)).setCell ⟨b, m * 3 + 2, none⟩ (.bool true)).cell? ⟨g, 3, none⟩ = some (.int .i64 (lives (sl2) : Int)) := by rw [g7.cell]; rfl
    have p3 := g7.frozen 3
    have g8 := g7.set_ 3 (.int .i64 ((lives (sl2) : Int) + 1))
    have Os8 := (Only.refl (fun k => k = g) _).setCell (w' := ((w4.setCell ⟨b, m * 3, none⟩ (.int .i64 ((z0 : Int) + 1))).setCell ⟨b, m * 3 + 1, none⟩ (.int .i64 x)).setCell ⟨b, m * 3 + 2, none⟩ (.bool true)) (p := ⟨g, 3, none⟩) (.inl rfl) (.int .i64 ((lives (sl2) : Int) + 1))
    have oV8 := own_only oV7 Os8 (own_far oV7 g7 (by decide))
    have oF8 := own_only oF7 Os8 (own_far oF7 g7 (by decide))
    have R8 := R7.far (p := ⟨g, 3, none⟩) hRg (.int .i64 ((lives (sl2) : Int) + 1))
    have hs' : ((sl2).set m (z0 + 1, x, true))[m]? = some (z0 + 1, x, true) := by rw [List.getElem?_set_self hml]
    have b3 := own_at oV8 (scells_at hs').1
    have r0 := (far_cells R8).1
    have r0f := R8.frozen 0
    have R9 := R8.set_ 0 (.int .i64 (m : Int))
    have r1 : ((((((w4.setCell ⟨b, m * 3, none⟩ (.int .i64 ((z0 : Int) + 1))).setCell ⟨b, m * 3 + 1, none⟩ (.int .i64 x)).setCell ⟨b, m * 3 + 2, none⟩ (.bool true)).setCell ⟨g, 3, none⟩ (.int .i64 ((lives (sl2) : Int) + 1))).setCell ⟨R, 0, none⟩ (.int .i64 (m : Int)))).cell? ⟨R, 1, none⟩ = some (.int .i64 0) := by rw [R9.cell]; rfl
    have r1f := R9.frozen 1
    have R10 := R9.set_ 1 (.int .i64 ((z0 : Int) + 1))
    have hff : ff (sl2) = m := ff_eq hfree (fun u hu => m4 u (by rw [h2.cnt, if_pos hu]; decide))
    have hge : genOf (sl2) m = z0 := by unfold genOf; rw [hs]
    have HE : Hid (Left w B g most ((sl2).set m (z0 + 1, x, true)) ((((((w4.setCell ⟨b, m * 3, none⟩ (.int .i64 ((z0 : Int) + 1))).setCell ⟨b, m * 3 + 1, none⟩ (.int .i64 x)).setCell ⟨b, m * 3 + 2, none⟩ (.bool true)).setCell ⟨g, 3, none⟩ (.int .i64 ((lives (sl2) : Int) + 1))).setCell ⟨R, 0, none⟩ (.int .i64 (m : Int))).setCell ⟨R, 1, none⟩ (.int .i64 ((z0 : Int) + 1)))) :=
      put_end (Nat.le_of_eq hRe) (((Fr.ofOnly hO1 (fun k hk => hk.elim)).trans K2).trans (kt_only h2.fre h2.lo h2.sz o4).1) (((hO1.below (fun k _ hk => hk.elim) HS.out.choose_spec.choose_spec.choose_spec.sz).trans B2).trans (kt_only h2.fre h2.lo h2.sz o4).2) HS.out.choose_spec.choose_spec.choose_spec.sz h2.lo hs hfree ⟨_, F4.blk⟩ oV4 ((O7.mono (fun k _ hk => .inl hk)).trans Os8 (fun k _ hk => .inr hk)) g8 (by simp) (by simpa using oV8) oF8 F4.heap h2.cnt c4 l4 (by omega) ⟨_, R8⟩ _ _
    have HR10 := hide R10
    have HG := hide (And.intro hgr (And.intro hff hge))
    clear hgr hff hge R10 oV4 oV5 oV6 oV7 oV8 oF7 oF8 hs hs' a0 a1 a2 R4 R7 R8 R9 g7 g8 O7 Os8 F4 h2 m4 c4 o4 b4 l4 hfree hgen2 hgen R2 hsl3 hlv3 hsl2 hl2 hla K2 B2 h1
    go_wp2
    refine bodyPost_ret (results_row_tmp rfl _ _ R 29 #[.int .i64 (m : Int), .int .i64 ((z0 : Int) + 1)] _ rfl (by simpa using HR10.out) Try.underlying29 rfl (by kernel_rfl)) rfl ?_
    unfold putS
    rw [HG.out.1, HG.out.2.1, HG.out.2.2]
    exact ⟨rfl, HE.out⟩
  · go_wp2_with fail
    obtain ⟨h2, R2⟩ := HK.out
    have h2 := slv_drewN h2 nq
    have R2 := R2.drewN nq
    have hO2 := hOw.out.drewN nq
    generalize (w.alloc (.cells #[.int .i64 0, .int .i64 0] 29)).drewN nq = wX at h2 R2 hO2 ⊢
    clear f3 f0 f2 HK hOw
    generalize hRe : w.heap.size = R at R2 ⊢
    have hll : lives sl < sl.length := by omega
    have hgen2 := hgen
    have hgr : grown sl = sl := by unfold grown; rw [if_neg (by omega)]
    refine (pop_any h2.fre (by omega) (by omega)).mono ?_
    rintro e w4 ⟨m, rfl, v4, fr4, F4, l4, c4, m4, o4, b4⟩
    have t1 := ta3 (m : Int) w4
    have oV4 := slots_only h2.fre h2.own o4
    obtain ⟨b, c, rfl⟩ := own_slice oV4 (by omega)
    have q1 : w4.cell? ⟨g, 1, none⟩ = some (.slice (some ⟨b, 0, none⟩) (sl).length c) := by rw [F4.blk.cell]; rfl
    have hfree : isFree (sl) m = true := by
      have h1 := c4 m
      have h3 := h2.cnt m
      rw [if_pos rfl] at h1
      cases hq : isFree (sl) m with
      | true => rfl
      | false => rw [hq] at h3; simp at h3; omega
    have hml := isFree_lt hfree
    have hs : (sl)[m]? = some (sl)[m] := List.getElem?_eq_getElem hml
    have hg1 := hgen2 _ (List.getElem_mem hml)
    generalize (sl)[m] = s at hs hg1
    obtain ⟨z0, z1, z2⟩ := s
    obtain ⟨a0, a1, a2⟩ := scells_at hs
    dsimp only at a0 a1 a2 hg1
    have b0 := own_at oV4 a0
    have p0 := oV4.frozenAt (m * 3)
    have oV5 := (oV4.stored (m * 3) (.int .i64 ((z0 : Int) + 1))).1
    have b1 := own_at oV5 (j := m * 3 + 1) (u := .int .i64 z1) (by rw [List.getElem?_set_ne (by omega)]; exact a1)
    have p1 := oV5.frozenAt (m * 3 + 1)
    have oV6 := (oV5.stored (m * 3 + 1) (.int .i64 x)).1
    have b2 := own_at oV6 (j := m * 3 + 2) (u := .bool z2) (by rw [List.getElem?_set_ne (by omega), List.getElem?_set_ne (by omega)]; exact a2)
    have p2 := oV6.frozenAt (m * 3 + 2)
    have oV7 := (oV6.stored (m * 3 + 2) (.bool true)).1
    have hbg : g ≠ b := fun e => own_far oV4 F4.blk (by decide) b rfl e.symm
    have hRg : R ≠ g := fun e => by rw [e] at R2; exact Blk.ne_ R2 h2.fre.blk (by decide) rfl
    have hRb : R ≠ b := fun e => own_blk_ne h2.own R2 (by decide) (by rw [e]; rfl)
    have hRf : ¬ (Value.slice Af fr.length cf).ownBlock = some R := own_blk_ne h2.fre.own R2 (by decide)
    have R4 : Blk w4 R 29 _ := R2.only o4 (fun e => e.elim hRg hRf)
    have g7 := ((F4.blk.far (p := ⟨b, m * 3, none⟩) hbg (.int .i64 ((z0 : Int) + 1))).far (p := ⟨b, m * 3 + 1, none⟩) hbg (.int .i64 x)).far (p := ⟨b, m * 3 + 2, none⟩) hbg (.bool true)
    have R7 := ((R4.far (p := ⟨b, m * 3, none⟩) hRb (.int .i64 ((z0 : Int) + 1))).far (p := ⟨b, m * 3 + 1, none⟩) hRb (.int .i64 x)).far (p := ⟨b, m * 3 + 2, none⟩) hRb (.bool true)
    have O7 := (((Only.refl (fun k => k = b) w4).setCell (p := ⟨b, m * 3, none⟩) (.inl rfl) (.int .i64 ((z0 : Int) + 1))).setCell (p := ⟨b, m * 3 + 1, none⟩) (.inl rfl) (.int .i64 x)).setCell (p := ⟨b, m * 3 + 2, none⟩) (.inl rfl) (.bool true)
    have oF7 := own_only F4.own O7 (fun k hk e => own_own_ne F4.own oV4 (by decide) k hk (by rw [e]; rfl))
    rw [show (((scells (sl)).set (m * 3) (.int .i64 ((z0 : Int) + 1))).set (m * 3 + 1) (.int .i64 x)).set (m * 3 + 2) (.bool true) = scells ((sl).set m (z0 + 1, x, true)) by rw [← scells_set]; simp] at oV7
    have k3 : (((w4.setCell ⟨b, m * 3, none⟩ (.int .i64 ((z0 : Int) + 1))).setCell ⟨b, m * 3 + 1, none⟩ (.int .i64 x)).setCell ⟨b, m * 3 + 2, none⟩ (.bool true)).cell? ⟨g, 3, none⟩ = some (.int .i64 (lives (sl) : Int)) := by rw [g7.cell]; rfl
    have p3 := g7.frozen 3
    have g8 := g7.set_ 3 (.int .i64 ((lives (sl) : Int) + 1))
    have Os8 := (Only.refl (fun k => k = g) _).setCell (w' := ((w4.setCell ⟨b, m * 3, none⟩ (.int .i64 ((z0 : Int) + 1))).setCell ⟨b, m * 3 + 1, none⟩ (.int .i64 x)).setCell ⟨b, m * 3 + 2, none⟩ (.bool true)) (p := ⟨g, 3, none⟩) (.inl rfl) (.int .i64 ((lives (sl) : Int) + 1))
    have oV8 := own_only oV7 Os8 (own_far oV7 g7 (by decide))
    have oF8 := own_only oF7 Os8 (own_far oF7 g7 (by decide))
    have R8 := R7.far (p := ⟨g, 3, none⟩) hRg (.int .i64 ((lives (sl) : Int) + 1))
    have hs' : ((sl).set m (z0 + 1, x, true))[m]? = some (z0 + 1, x, true) := by rw [List.getElem?_set_self hml]
    have b3 := own_at oV8 (scells_at hs').1
    have r0 := (far_cells R8).1
    have r0f := R8.frozen 0
    have R9 := R8.set_ 0 (.int .i64 (m : Int))
    have r1 : ((((((w4.setCell ⟨b, m * 3, none⟩ (.int .i64 ((z0 : Int) + 1))).setCell ⟨b, m * 3 + 1, none⟩ (.int .i64 x)).setCell ⟨b, m * 3 + 2, none⟩ (.bool true)).setCell ⟨g, 3, none⟩ (.int .i64 ((lives (sl) : Int) + 1))).setCell ⟨R, 0, none⟩ (.int .i64 (m : Int)))).cell? ⟨R, 1, none⟩ = some (.int .i64 0) := by rw [R9.cell]; rfl
    have r1f := R9.frozen 1
    have R10 := R9.set_ 1 (.int .i64 ((z0 : Int) + 1))
    have hff : ff (sl) = m := ff_eq hfree (fun u hu => m4 u (by rw [h2.cnt, if_pos hu]; decide))
    have hge : genOf (sl) m = z0 := by unfold genOf; rw [hs]
    have HE : Hid (Left w B g most ((sl).set m (z0 + 1, x, true)) ((((((w4.setCell ⟨b, m * 3, none⟩ (.int .i64 ((z0 : Int) + 1))).setCell ⟨b, m * 3 + 1, none⟩ (.int .i64 x)).setCell ⟨b, m * 3 + 2, none⟩ (.bool true)).setCell ⟨g, 3, none⟩ (.int .i64 ((lives (sl) : Int) + 1))).setCell ⟨R, 0, none⟩ (.int .i64 (m : Int))).setCell ⟨R, 1, none⟩ (.int .i64 ((z0 : Int) + 1)))) :=
      put_end (Nat.le_of_eq hRe) ((Fr.ofOnly hO2 (fun k hk => hk.elim)).trans (kt_only h2.fre h2.lo h2.sz o4).1) ((hO2.below (fun k _ hk => hk.elim) HS.out.choose_spec.choose_spec.choose_spec.sz).trans (kt_only h2.fre h2.lo h2.sz o4).2) HS.out.choose_spec.choose_spec.choose_spec.sz h2.lo hs hfree ⟨_, F4.blk⟩ oV4 ((O7.mono (fun k _ hk => .inl hk)).trans Os8 (fun k _ hk => .inr hk)) g8 (by simp) (by simpa using oV8) oF8 F4.heap h2.cnt c4 l4 (by omega) ⟨_, R8⟩ _ _
    have HR10 := hide R10
    have HG := hide (And.intro hgr (And.intro hff hge))
    clear hgr hff hge R10 oV4 oV5 oV6 oV7 oV8 oF7 oF8 hs hs' a0 a1 a2 R4 R7 R8 R9 g7 g8 O7 Os8 F4 h2 m4 c4 o4 b4 l4 hfree hgen2 hgen R2 
    go_wp2
    refine bodyPost_ret (results_row_tmp rfl _ _ R 29 #[.int .i64 (m : Int), .int .i64 ((z0 : Int) + 1)] _ rfl (by simpa using HR10.out) Try.underlying29 rfl (by kernel_rfl)) rfl ?_
    unfold putS
    rw [HG.out.1, HG.out.2.1, HG.out.2.2]
    exact ⟨rfl, HE.out⟩
end Go.Proofs.Ytnfaaaehpfddgaa
