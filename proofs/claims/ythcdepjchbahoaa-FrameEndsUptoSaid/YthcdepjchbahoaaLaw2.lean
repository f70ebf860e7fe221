/- FrameReads: whatever bytes come, in whatever pieces, both readers tell the same; pieces of small bulk. -/
import Derived.Test.YthcdepjchbahoaaWor
import Derived.Test.YthcdepjchbahoaaRef
import Derived.Test.YthcdepjchbahoaaRd
namespace Go.Proofs.Ythcdepjchbahoaa
open Go.RowKit Go.WideShapes Mem
set_option linter.unusedVariables false

theorem ref_feed_no (g m c : Nat) (A : Option Addr) (v : Value) (w : World) (hg : Blk w g 33 #[v, .bool true]) :
    Calls Try.prog 13 #[.pointer (some ⟨g, 0, none⟩), .slice A m c] w fun e w' => e = .returned (.tuple #[.slice none 0 0, .int .i64 9]) ∧ w = w' := by
  have h0 : w.cell? ⟨g, 1, none⟩ = some (.bool true) := by rw [hg.cell]; rfl
  go_enter Try.func13, Try.ntmps13
  go_wp2_with fail
  go_ret2
  exact ⟨rfl, rfl⟩

/-- what stands at each round's head -/
def RdInv (n : Nat) (w : World) (k : Nat) (i : Value) (wr : World) : Prop :=
  ∃ (j : Nat) (hs : List UInt8) (br : Bool) (HA RA : Option Addr) (hc rc M : Nat), i = .int .i64 (j : Int) ∧ j ≤ n ∧ k = n - j ∧ Blk wr w.heap.size 45 #[.slice HA hs.length hc, .bool br] ∧
    wr.ownsRow w.heap.size 5 1 (.slice HA hs.length hc) hs.length (hs.map B8) ∧ (∀ q, (Value.slice HA hs.length hc).ownBlock = some q → q < M) ∧
    Blk wr (w.heap.size + 1) 33 #[.slice RA hs.length rc, .bool br] ∧ Reads wr M wr.heap.size 1 RA hs.length (hs.map B8) ∧ w.heap.size + 1 < M ∧ M ≤ wr.heap.size ∧ hs.length ≤ 32771 ∧ Below w.heap.size w wr

/-- what the law writes into: the rows us' are bytes' rows, all between lo and mid, and nothing else has turned -/
def MutI (lo mid : Nat) (w3 : World) (V : Value) (m : Nat) (us us' : List Value) (W : World) : Prop :=
  W.ownsRow lo 22 1 V m us ∧ (∀ u ∈ us', ∃ (n : Nat) (zs : List Int), W.ownsRow lo 5 1 u n (zs.map (Value.int .u8)) ∧ ∀ k, u.ownBlock = some k → k < mid) ∧ Only (fun k => lo ≤ k ∧ k < mid) w3 W

theorem ints_set {W : World} {g j lo n : Nat} {z : Int} {u : Value} {zs : List Int} (h : W.ownsRow lo 5 1 u n (zs.map (Value.int .u8))) :
    ∃ zs' : List Int, (W.setCell ⟨g, j, none⟩ (.int .u8 z)).ownsRow lo 5 1 u n (zs'.map (Value.int .u8)) := by
  rcases h.2 with h0 | ⟨g', cap, cur, rfl, hb, hh, hc, hm, hs, ht⟩
  · exact ⟨zs, h.1, .inl h0⟩
  · by_cases hg : g' = g
    · subst hg
      refine ⟨zs.set j z, by simpa using h.1, .inr ⟨g', cap, cur.setIfInBounds j (.int .u8 z), rfl, hb, ?_, hc, hm, by simpa using hs, ?_⟩⟩
      · simp [World.setCell, Array.getElem?_modify, hh]
      · rw [Array.toList_setIfInBounds, List.take_set, ht, List.map_set]
    · exact ⟨zs, h.1, .inr ⟨g', cap, cur, rfl, hb, by rw [Below.heap_setCell _ _ _ _ hg]; exact hh, hc, hm, hs, ht⟩⟩

theorem mut_set {lo mid m g j : Nat} {z : Int} {w3 W : World} {V u : Value} {us us' : List Value} (h : MutI lo mid w3 V m us us' W) (hu : u ∈ us') (hg : u.ownBlock = some g) :
    MutI lo mid w3 V m us us' (W.setCell ⟨g, j, none⟩ (.int .u8 z)) := by
  obtain ⟨h1, h2, h3⟩ := h
  obtain ⟨n, zs, ho, hb⟩ := h2 u hu
  have hlo := (ho.lt g hg).1
  have hmid := hb g hg
  refine ⟨?_, fun u' hu' => ?_, h3.setCell (.inl ⟨hlo, hmid⟩) _⟩
  · exact own_only h1 ((Only.refl (fun k => k = g) W).setCell (.inl rfl) _) (fun k hk e => own_own_ne h1 ho (by decide) k hk (e ▸ hg))
  · obtain ⟨n', zs', ho', hb'⟩ := h2 u' hu'
    obtain ⟨zs'', h''⟩ := ints_set (g := g) (j := j) (z := z) ho'
    exact ⟨n', zs'', h'', hb'⟩

theorem mut_row {lo mid m : Nat} {w3 W : World} {V u : Value} {us us' : List Value} (h : MutI lo mid w3 V m us us' W) (hu : u ∈ us') {A : Option Addr} {n c : Nat} (he : u = .slice A n c) {q : Nat} (hq : q < n) :
    ∃ (g : Nat) (z : Int), A = some ⟨g, 0, none⟩ ∧ W.cell? ⟨g, q, none⟩ = some (.int .u8 z) ∧ W.frozen? ⟨g, q, none⟩ = false := by
  obtain ⟨n', zs, ho, hb⟩ := h.2.1 u hu
  subst he
  rcases ho.2 with ⟨e, _⟩ | ⟨g, cap, cur, e, hb', hh, hc, hm, hs, ht⟩
  · cases e
    omega
  · cases e
    have hz : q < zs.length := by have := ho.1; simp at this; omega
    have hl := ho.cells (g := g) rfl q (.int .u8 zs[q]) (by simp [hz])
    refine ⟨g, zs[q], rfl, by rw [add_head] at hl; exact hl, ?_⟩
    simp [World.frozen?, hh]

theorem mut_start {lo mid m : Nat} {w3 : World} {V u0 : Value} {us : List Value} {n0 : Nat} {x0 : List UInt8} {xs : List (List UInt8)} (hV : w3.ownsRow lo 22 1 V m us) (h0 : w3.ownsRow lo 5 1 u0 n0 (x0.map B8)) (h0m : ∀ k, u0.ownBlock = some k → k < mid) (hus : Own2 w3 5 lo mid us xs) :
    MutI lo mid w3 V m us (u0 :: us) w3 := by
  have e : ∀ x : List UInt8, x.map B8 = (x.map fun b => (b.toNat : Int)).map (Value.int .u8) := fun x => by simp [B8, Function.comp_def]
  refine ⟨hV, fun u hu => ?_, Only.refl _ _⟩
  cases hu with
  | head => exact ⟨n0, _, by rw [← e]; exact h0, h0m⟩
  | tail _ hu =>
    have key : ∀ {us : List Value} {xs : List (List UInt8)}, Own2 w3 5 lo mid us xs → u ∈ us → ∃ (n : Nat) (zs : List Int), w3.ownsRow lo 5 1 u n (zs.map (Value.int .u8)) ∧ ∀ k, u.ownBlock = some k → k < mid := by
      intro us
      induction us with
      | nil => intro xs _ h; cases h
      | cons a us ih =>
        intro xs h hu
        match xs, h with
        | x :: xs, h =>
          cases hu with
          | head => exact ⟨_, _, by rw [← e]; exact h.1.1, h.1.2⟩
          | tail _ hu => exact ih h.2 hu
    exact key hus hu

theorem mut_drewN {lo mid m : Nat} {w3 : World} {V : Value} {us us' : List Value} (h : MutI lo mid w3 V m us us' w3) (q : Nat) : MutI lo mid (w3.drewN q) V m us us' (w3.drewN q) := ⟨h.1, h.2.1, Only.refl _ _⟩
theorem mut_at {lo mid m c2 k : Nat} {w3 W : World} {A2 : Option Addr} {u0 : Value} {us : List Value} (h : MutI lo mid w3 (.slice A2 m c2) m us (u0 :: us) W) (hk : k < m) :
    ∃ (g : Nat) (B : Option Addr) (n d : Nat), A2 = some ⟨g, 0, none⟩ ∧ us[k]? = some (.slice B n d) ∧ Value.slice B n d ∈ u0 :: us ∧ n ≤ 9223372036854775807 := by
  have hl : us.length = m := by simpa using h.1.1
  obtain ⟨g, cap, e, _⟩ := h.1.form (by omega)
  cases e
  have hm : us[k] ∈ us := List.getElem_mem (by omega)
  obtain ⟨n, zs, ho, _⟩ := h.2.1 us[k] (List.mem_cons_of_mem _ hm)
  obtain ⟨B, d, e, _⟩ := own_form ho
  exact ⟨g, B, n, d, rfl, by rw [List.getElem?_eq_getElem (by omega), e], by rw [← e]; exact List.mem_cons_of_mem _ hm, by
    rcases ho.2 with ⟨_, h0⟩ | ⟨_, cap, _, _, _, _, h1, h2, _⟩
    · omega
    · unfold maxLen at h2
      omega⟩
theorem mut_cell {lo mid m c2 k g : Nat} {w3 W : World} {u : Value} {us us' : List Value} (h : MutI lo mid w3 (.slice (some ⟨g, 0, none⟩) m c2) m us us' W) (hk : us[k]? = some u) : W.cell? ⟨g, k, none⟩ = some u := by
  have := h.1.cells (g := g) rfl k u hk
  rwa [add_head] at this

theorem reads_next {n j mid nq : Nat} {w wr w1 w2 w3 W : World} {rest : List UInt8} {br : Bool} {A3 A5 : Option Addr} {c3 c5 M : Nat} (hj : j < n) (hB : Below w.heap.size w wr) (hM1 : w.heap.size + 1 < M) (hM2 : M ≤ wr.heap.size)
    (hB1 : Below wr.heap.size wr w1) (hmid1 : w1.heap.size ≤ mid) (hmid2 : mid ≤ w2.heap.size) {v : Value} (hv : ∀ k, v.ownBlock = some k → w.heap.size ≤ k)
    (f6 : Blk w2 w.heap.size 45 #[.slice A3 rest.length c3, .bool br]) (f7 : w2.ownsRow mid 5 1 (.slice A3 rest.length c3) rest.length (rest.map B8)) (f8 : Only (fun k => k = w.heap.size ∨ v.ownBlock = some k) w1 w2)
    (t3 : Blk w3 (w.heap.size + 1) 33 #[.slice A5 rest.length c5, .bool br]) (t4 : Reads w3 w2.heap.size w3.heap.size 1 A5 rest.length (rest.map B8)) (t5 : Only (fun k => k = w.heap.size + 1) w2 w3)
    (hgr2 : ∃ cs, Blk w2 (w.heap.size + 1) 33 cs)
    (hrest : rest.length ≤ 32771) (hW : Only (fun k => wr.heap.size ≤ k ∧ k < mid) (w3.drewN nq) W) : RdInv n w (n - (j + 1)) (.int .i64 ((j : Int) + 1)) W := by
  have s0 := hB.size
  have s1 := hB1.size
  have s2 := f8.size
  have s3 := t5.size
  have s4 : w3.heap.size ≤ W.heap.size := hW.size
  have hW3 : Only (fun k => wr.heap.size ≤ k ∧ k < mid) w3 W := ⟨hW.os, hW.tape, hW.output, hW.size, hW.block⟩
  obtain ⟨csr, hcsr⟩ := hgr2
  have hx3 := f6.only t5 (by omega)
  have ho3 := own_only f7 t5 (own_ne_blk f7 hcsr (by decide))
  refine ⟨j + 1, rest, br, A3, A5, c3, c5, w2.heap.size, by simp, hj, rfl, ?_, ?_, fun q hq => (f7.lt q hq).2, ?_, ?_, by omega, by omega, hrest, ?_⟩
  · exact hx3.only hW3 (by omega)
  · exact ownsRow_mono (own_only ho3 hW3 (fun k hk h => by have := (f7.lt k hk).1; omega)) (by omega)
  · exact t3.only hW3 (by omega)
  · exact (t4.only hW3 (fun k h1 h2 h => by omega) (Nat.le_refl _)).more (Nat.le_refl _) s4
  · refine hB.trans ((hB1.mono s0).trans ?_)
    have b2 : Below w.heap.size w1 w2 := f8.below (fun k _ h => by
      rcases h with rfl | h
      · exact Nat.le_refl _
      · exact hv k h) (by omega)
    have b3 : Below w.heap.size w2 w3 := t5.below (fun k _ h => by omega) (by omega)
    exact (b2.trans b3).trans (hW3.below (fun k _ h => by omega) (by omega))

theorem reads_next2 {n j nq : Nat} {w wr w1 W : World} {hs : List UInt8} {HA RA : Option Addr} {hc rc M : Nat} (hj : j < n)
    (hgx : Blk wr w.heap.size 45 #[.slice HA hs.length hc, .bool true]) (hox : wr.ownsRow w.heap.size 5 1 (.slice HA hs.length hc) hs.length (hs.map B8)) (hMx : ∀ q, (Value.slice HA hs.length hc).ownBlock = some q → q < M)
    (hgr : Blk wr (w.heap.size + 1) 33 #[.slice RA hs.length rc, .bool true]) (hrr : Reads wr M wr.heap.size 1 RA hs.length (hs.map B8)) (hM1 : w.heap.size + 1 < M) (hM2 : M ≤ wr.heap.size) (hh : hs.length ≤ 32771) (hB : Below w.heap.size w wr)
    (hB1 : Below wr.heap.size wr w1) (hW : Only (fun k => wr.heap.size ≤ k ∧ k < w1.heap.size) (w1.drewN nq) W) : RdInv n w (n - (j + 1)) (.int .i64 ((j : Int) + 1)) W := by
  have s0 := hB.size
  have s1 := hB1.size
  have s4 : w1.heap.size ≤ W.heap.size := hW.size
  have hW1 : Only (fun k => wr.heap.size ≤ k ∧ k < w1.heap.size) w1 W := ⟨hW.os, hW.tape, hW.output, hW.size, hW.block⟩
  have hb : Below wr.heap.size wr W := hB1.trans (hW1.below (fun k _ h => h.1) s1)
  refine ⟨j + 1, hs, true, HA, RA, hc, rc, M, by simp, hj, rfl, hgx.below hb hgx.lt, own_only hox (Only.ofBelow (S := fun _ => False) hb) (by simp), hMx, hgr.below hb hgr.lt, (hrr.below hb (Nat.le_refl _)).more (Nat.le_refl _) (by omega), hM1, by omega, hh, hB.trans (hb.mono s0)⟩

set_option maxRecDepth 100000 in
set_option maxHeartbeats 4000000 in
theorem reads_any (n c : Nat) (A : Option Addr) (vs : List Value) (xss : List (List UInt8)) (w : World) (hr : Reads w 0 w.heap.size 1 A n vs) (hx : Rows2 w 0 w.heap.size vs xss) (hn : n ≤ 1048576) (hsz : ∀ x ∈ xss, x.length ≤ 1048576) :
    Calls Try.prog 4 #[.slice A n c] w fun e w' => e = .returned (.bool true) ∧ Below w.heap.size w w' := by
  have hl : vs.length = n := by simpa using hr.1
  have hxl := hx.length
  have HL := hide (And.intro hl hxl)
  have HX := hide (And.intro hr (And.intro hx hsz))
  clear hl hxl hr hx hsz
  go_enter Try.func4, Try.ntmps4
  go_wp2_with (go_at_call 11; refine (new_any _).mono ?_; rintro e w1 ⟨rfl, rfl⟩)
  go_loopg [5] n (fun k i wr => RdInv n w k i wr)
  case atStart =>
    refine ⟨0, [], false, none, none, 0, 0, w.heap.size + 2, rfl, Nat.zero_le _, rfl, ?_, World.ownsRow_nil _ _ _ _, (fun q h => (by cases h)), ?_, Reads.none_, by omega, by simp, by simp, ?_⟩
    · exact (Blk.new w 45 _).alloc _
    · have h := Blk.new (w.alloc (.cells #[.slice none 0 0, .bool false] 45)) 33 #[.slice none 0 0, .bool false]
      simp only [World.size_alloc] at h
      exact h
    · exact ((Below.refl _ w).alloc (Nat.le_refl _) _).alloc (by simp) _
  case round =>
    obtain ⟨j, hs, br, HA, RA, hc, rc, M, rfl, hj, rfl, hgx, hox, hMx, hgr, hrr, hM1, hM2, hh, hB⟩ := hrel
    have hS := hB.size
    by_cases hlt : j < n
    · have hB1 : w.heap.size ≤ (wr.alloc (.cells #[] 5)).heap.size := by simp; omega
      obtain ⟨e1, e2⟩ := HL.out
      obtain ⟨hr, hx, hsz⟩ := HX.out
      obtain ⟨Ap, np, cp, x, g1, g2, hcp, hrp⟩ := hx.at_ (k := j) (by omega)
      obtain ⟨b0, o0, rfl, _, hb0, _, hcell⟩ := hr.plain (by omega) (by omega)
      have c0 : wr.cell? ⟨b0, o0 + j, none⟩ = some (.slice Ap np cp) := by rw [hB.cell (p := ⟨b0, o0 + j, none⟩) hb0, hcell j (by omega), g1]
      have hxl : x.length ≤ 1048576 := hsz x (List.mem_of_getElem? g2)
      have hnp : x.length = np := by simpa using hrp.1
      have hnp' : np ≤ 1048576 := by omega
      have hb0' : b0 < wr.heap.size := by omega
      have HN := hide hnp
      clear g1 g2 hcell e1 e2 hnp hr hx hsz
      cases br with
      | true =>
        go_wp2_with (at_builtin; refine pause ?_)
        refine unpause ?_
        refine wpList_app el22 (.tmp 25) (.tmp 29) (World.ownsRow_lit (base := wr.heap.size) (e := 5) (size := 1) wr #[] 0 (Nat.le_refl _) (by decide) rfl) ((hrp.below hB (Nat.le_refl _)).alloc (by omega) _) (B8_one x) (N := np) (ys := x.map B8) (by omega) rfl (by unfold maxLen; omega) (by omega) (by simp) rfl rfl rfl rfl ?_
        intro A1 c1 w1 hown1 hg1 hb1
        have hB1' : Below wr.heap.size wr w1 := ((Below.refl _ wr).alloc (Nat.le_refl _) _).grown hg1 (by simp) (by simp [Value.ownBlock])
        have hs1 := hB1'.size
        have hgx1 := hgx.below hB1' hgx.lt
        have hgr1 := hgr.below hB1' hgr.lt
        obtain ⟨B1, d1, e1, hc1, r1⟩ := own_form hown1
        cases e1
        have cc1 : w1.cell? ⟨b0, o0 + j, none⟩ = some (.slice Ap np cp) := by rw [hB1'.cell (p := ⟨b0, o0 + j, none⟩) hb0', c0]
        have HG := hide (And.intro hgx1 hgr1)
        have HO := hide hown1
        have HI := hide (And.intro hgx (And.intro hox (And.intro hMx (And.intro hgr hrr))))
        have HS : Hid (∀ q, Calls Try.prog 14 #[.slice none 0 0, .slice none 0 0] (w1.drewN q) fun e w'' => e = .returned (.bool true) ∧ ∃ m, w'' = w1.drewN m) := fun q => by
          refine (same_any 0 0 0 0 0 0 0 0 0 0 none none [] [] [] [] (w1.drewN q) Reads.none_ Reads.none_ trivial trivial (by omega) (by omega)).mono ?_
          rintro e w'' ⟨rfl, m, rfl⟩
          exact ⟨by simp, q + m, by rw [World.drewN_drewN]⟩
        have HHd : Hid (∀ q, Calls Try.prog 15 #[.pointer (some ⟨w.heap.size, 0, none⟩)] (w1.drewN q) fun e w'' => e = .returned (.int .i64 (hs.length : Int)) ∧ ∃ m, w'' = w1.drewN m) := fun q =>
          (held_any _ _ _ _ _ _ (hgx1.drewN q)).mono fun e w'' ⟨h1, h2⟩ => ⟨h1, q, h2.symm⟩
        have HBr : Hid (∀ q, Calls Try.prog 16 #[.pointer (some ⟨w.heap.size, 0, none⟩)] (w1.drewN q) fun e w'' => e = .returned (.bool true) ∧ ∃ m, w'' = w1.drewN m) := fun q =>
          (broken_any _ _ _ _ (hgx1.drewN q)).mono fun e w'' ⟨h1, h2⟩ => ⟨h1, q, h2.symm⟩
        have k0 : w1.cell? ⟨w.heap.size + 1, 0, none⟩ = some (.slice RA hs.length rc) := by rw [hgr1.cell]; rfl
        have k1 : w1.cell? ⟨w.heap.size + 1, 1, none⟩ = some (.bool true) := by rw [hgr1.cell]; rfl
        have s1 : ∀ q, (convert 22 9 (.slice A1 np c1)).run Try.prog (w1.drewN q) = .ok (.string ⟨x.toArray⟩) (w1.drewN q) := fun q => (r1.drewN q).str 22 9 5 Try.underlying22 Try.underlying5 Try.underlying9 c1
        have s2 : ∀ q, (convert 22 9 (.slice Ap np cp)).run Try.prog (w1.drewN q) = .ok (.string ⟨x.toArray⟩) (w1.drewN q) := fun q => (((hrp.below hB (Nat.le_refl _)).below hB1' hS).drewN q).str 22 9 5 Try.underlying22 Try.underlying5 Try.underlying9 cp
        clear hown1 hb1 hg1 hgx1 hgr1 hgx hgr hox hMx hrr r1 c0 hrp
        go_wp2_with fail
        refine (feed_no w.heap.size np c1 A1 _ w1 HG.out.1).mono ?_
        rintro e w2 ⟨rfl, rfl⟩
        go_wp2_with fail
        refine (ref_feed_no (w.heap.size + 1) np cp Ap _ w1 HG.out.2).mono ?_
        rintro e w2 ⟨rfl, rfl⟩
        go_wp2_with fail
        go_quiet ((first | (go_at_call 14; exact HS.out _) | (go_at_call 15; exact HHd.out _) | (go_at_call 16; exact HBr.out _)))
        go_wp2_with fail
        have hM : MutI wr.heap.size w1.heap.size (w1.drewN nq) (.slice none 0 0) 0 [] [.slice A1 np c1] (w1.drewN nq) :=
          mut_drewN (mut_start (xs := []) (World.ownsRow_nil _ _ _ _) HO.out (fun k hk => (HO.out.lt k hk).2) trivial) nq
        have HK := hide hM
        clear hM s1 s2 k0 k1 cc1
        obtain ⟨wo, rfl⟩ : ∃ wo : World, wo = wr := ⟨_, rfl⟩
        go_loopw [11] (fun i wr => ∃ q : Nat, q ≤ np ∧ i = .int .i64 q ∧ MutI wo.heap.size w1.heap.size (w1.drewN nq) (.slice none 0 0) 0 [] [.slice A1 np c1] wr) (fun i _ => np - (intOf i).toNat)
        case atStart => exact ⟨0, Nat.zero_le _, rfl, HK.out⟩
        case round =>
          obtain ⟨q, hq, rfl, hM⟩ := hrel
          by_cases hqn : q < np
          · obtain ⟨g, z, e, hcl, hfz⟩ := mut_row hM List.mem_cons_self rfl hqn
            have HM := hide hM
            clear hM
            subst e
            go_wp2_with fail
            go_roundw
            case rel => exact ⟨q + 1, by omega, by go_num, mut_set HM.out List.mem_cons_self rfl⟩
            case measure => simp [intOf]; omega
          · have HM := hide hM
            clear hM
            go_wp2_with fail
            refine wp_loop_rounds 1 ?_
            rw [rounds_succ]
            go_wp2_with fail
            go_roundg (n - (j + 1))
            case measure => omega
            case rel =>
              obtain ⟨i1, i2, i3, i4, i5⟩ := HI.out
              exact reads_next2 hlt i1 i2 i3 i4 i5 hM1 hM2 hh hB hB1' HM.out.2.2
      | false =>
        go_wp2_with (at_builtin; refine pause ?_)
        refine unpause ?_
        refine wpList_app el22 (.tmp 25) (.tmp 29) (World.ownsRow_lit (base := wr.heap.size) (e := 5) (size := 1) wr #[] 0 (Nat.le_refl _) (by decide) rfl) ((hrp.below hB (Nat.le_refl _)).alloc (by omega) _) (B8_one x) (N := np) (ys := x.map B8) (by omega) rfl (by unfold maxLen; omega) (by omega) (by simp) rfl rfl rfl rfl ?_
        intro A1 c1 w1 hown1 hg1 hb1
        have hB1' : Below wr.heap.size wr w1 := ((Below.refl _ wr).alloc (Nat.le_refl _) _).grown hg1 (by simp) (by simp [Value.ownBlock])
        have hs1 := hB1'.size
        have hgx1 := hgx.below hB1' hgx.lt
        have hox1 := own_only hox (Only.ofBelow (S := fun _ => False) hB1') (by simp)
        obtain ⟨B1, d1, e1, hc1, r1⟩ := own_form hown1
        cases e1
        have HO := hide hown1
        clear hown1 hb1 hg1
        go_wp2_with fail
        refine (feed_ok w.heap.size w.heap.size wr.heap.size w1.heap.size hs.length np c1 (.slice HA hs.length hc) A1 hs x w1 hgx1 hox1 r1 (by omega) (by omega)).mono ?_
        intro e w2 hf
        unfold FeedOut at hf
        obtain ⟨pr, hpr⟩ : ∃ pr, pr = parse (hs ++ x) := ⟨_, rfl⟩
        rw [← hpr] at hf
        have hrest : (pr.2.getD []).length ≤ 32771 := by rw [hpr]; exact parse_rest _ _ (Nat.le_refl _)
        have hcount : pr.1.length ≤ 1081347 := by
          have := parse_count _ (hs ++ x) (Nat.le_refl _)
          rw [← hpr, List.length_append, HN.out] at this
          omega
        have HP := hide hpr
        clear hpr
        obtain ⟨fs, r⟩ := pr
        dsimp only at hf hrest hcount
        obtain ⟨A2, A3, c2, c3, mid, us, rfl, f1, f2, f3, f4, f5, f6, f7, f8⟩ := hf
        have hs2 := f8.size
        have hnS : ∀ k, k < w.heap.size ∨ M ≤ k → ¬ (k = w.heap.size ∨ (Value.slice HA hs.length hc).ownBlock = some k) := by
          rintro k hk (rfl | h)
          · omega
          · have h1 := (hox.lt k h).1
            have h2 := hMx k h
            omega
        have cc2 : w2.cell? ⟨b0, o0 + j, none⟩ = some (.slice Ap np cp) := by
          rw [f8.cell (p := ⟨b0, o0 + j, none⟩) (show b0 < _ by omega) (hnS b0 (.inl hb0)), hB1'.cell (p := ⟨b0, o0 + j, none⟩) hb0', c0]
        have hgr2 := (hgr.below hB1' hgr.lt).only f8 (by
          rintro (h | h)
          · omega
          · exact own_ne_blk hox hgr (by decide) _ h rfl)
        have hrr2 := (hrr.below hB1' (Nat.le_refl _)).only f8 (fun k h1 h2 => hnS k (.inr h1)) hs1
        have hrp2 := ((hrp.below hB (Nat.le_refl _)).below hB1' hS).only f8 (fun k _ h2 => hnS k (.inl h2)) (by omega)
        go_wp2_with fail
        refine (ref_feed_ok (w.heap.size + 1) M wr.heap.size 0 w.heap.size hs.length np cp rc RA Ap hs x w2 hgr2 hrr2 (by omega) hrp2 (by omega) (by omega)).mono ?_
        intro e w3 hf
        unfold RefOut at hf
        rw [← HP.out] at hf
        obtain ⟨A4, A5, c4, c5, ts, rfl, t1, t2, t3, t4, t5⟩ := hf
        have hs3 := t5.size
        have hnr : ∀ k, ¬ k = w.heap.size + 1 ∨ k = w.heap.size + 1 := fun k => (Classical.em _).symm
        have own3 := own_only (own_only HO.out f8 (fun k hk => hnS k (.inr (by have := (HO.out.lt k hk).1; omega)))) t5 (fun k hk h => by have := (HO.out.lt k hk).1; omega)
        have f3' := own_only f3 t5 (fun k hk h => by have := (f3.lt k hk).1; omega)
        have f5' := f5.only t5 (fun k h1 _ h => by omega) f2
        have HS : Hid (∀ q, Calls Try.prog 14 #[.slice A2 fs.length c2, .slice A4 fs.length c4] (w3.drewN q) fun e w'' => e = .returned (.bool true) ∧ ∃ m, w'' = w3.drewN m) := fun q => by
          obtain ⟨_, _, e, _, ra⟩ := own_form f3'
          cases e
          refine (same_any 0 w3.heap.size _ _ _ _ fs.length c2 fs.length c4 A2 A4 us ts fs fs (w3.drewN q) (ra.drewN q) (t1.drewN q) (((f5'.reads (by omega)).more (Nat.zero_le _) (by omega)).drewN q) ((t2.more (Nat.zero_le _) (Nat.le_refl _)).drewN q) (by omega) (by omega)).mono ?_
          rintro e w'' ⟨rfl, m, rfl⟩
          exact ⟨by simp, q + m, by rw [World.drewN_drewN]⟩
        have hx3 := f6.only t5 (by omega)
        have HHd : Hid (∀ q, Calls Try.prog 15 #[.pointer (some ⟨w.heap.size, 0, none⟩)] (w3.drewN q) fun e w'' => e = .returned (.int .i64 ((r.getD []).length : Int)) ∧ ∃ m, w'' = w3.drewN m) := fun q =>
          (held_any _ _ _ _ _ _ (hx3.drewN q)).mono fun e w'' ⟨h1, h2⟩ => ⟨h1, q, h2.symm⟩
        have HBr : Hid (∀ q, Calls Try.prog 16 #[.pointer (some ⟨w.heap.size, 0, none⟩)] (w3.drewN q) fun e w'' => e = .returned (.bool r.isNone) ∧ ∃ m, w'' = w3.drewN m) := fun q =>
          (broken_any _ _ _ _ (hx3.drewN q)).mono fun e w'' ⟨h1, h2⟩ => ⟨h1, q, h2.symm⟩
        have k0 : w3.cell? ⟨w.heap.size + 1, 0, none⟩ = some (.slice A5 (r.getD []).length c5) := by rw [t3.cell]; rfl
        have k1 : w3.cell? ⟨w.heap.size + 1, 1, none⟩ = some (.bool r.isNone) := by rw [t3.cell]; rfl
        have k2 : w3.cell? ⟨b0, o0 + j, none⟩ = some (.slice Ap np cp) := by rw [t5.cell (p := ⟨b0, o0 + j, none⟩) (show b0 < _ by omega) (show ¬ b0 = _ by omega), cc2]
        have s1 : ∀ q, (convert 22 9 (.slice A1 np c1)).run Try.prog (w3.drewN q) = .ok (.string ⟨x.toArray⟩) (w3.drewN q) := fun q => by
          obtain ⟨_, _, e, _, ra⟩ := own_form own3
          cases e
          exact (ra.drewN q).str 22 9 5 Try.underlying22 Try.underlying5 Try.underlying9 c1
        have s2 : ∀ q, (convert 22 9 (.slice Ap np cp)).run Try.prog (w3.drewN q) = .ok (.string ⟨x.toArray⟩) (w3.drewN q) := fun q => ((hrp2.only t5 (fun k _ h2 h => by omega) (by omega)).drewN q).str 22 9 5 Try.underlying22 Try.underlying5 Try.underlying9 cp
        have hM := mut_start (lo := wr.heap.size) (mid := mid) (w3 := w3) (ownsRow_mono f3' hs1) own3 (fun k hk => by have := (HO.out.lt k hk).2; omega) (f5'.more hs1 (Nat.le_refl _))
        have HM := hide hM
        have HF := hide (And.intro f6 (And.intro f7 (And.intro f8 (And.intro t3 (And.intro t4 (And.intro t5 (Exists.intro (p := fun cs => Blk w2 (w.heap.size + 1) 33 cs) _ hgr2)))))))
        clear hM f6 f7 f8 t3 t4 t5 f3 f4 f5 t1 t2 f3' f5' own3 hx3 hrp2 hrr2 hgr2 hgx1 hox1 r1 hrp hrr hgx hgr c0 cc2 hMx hnr
        go_wp2_with fail
        go_quiet ((first | (go_at_call 14; exact HS.out _) | (go_at_call 15; exact HHd.out _) | (go_at_call 16; exact HBr.out _)))
        go_wp2_with fail
        have hM := mut_drewN HM.out nq
        have hov : ∀ k, (Value.slice HA hs.length hc).ownBlock = some k → w.heap.size ≤ k := fun k hk => (hox.lt k hk).1
        have HK := hide (And.intro hM hov)
        clear hM hov s1 s2 k0 k1 k2 HM hox hnS
        obtain ⟨wo, rfl⟩ : ∃ wo : World, wo = wr := ⟨_, rfl⟩
        go_loopw [11] (fun i wr => ∃ q : Nat, q ≤ np ∧ i = .int .i64 q ∧ MutI wo.heap.size mid (w3.drewN nq) (.slice A2 fs.length c2) fs.length us (.slice A1 np c1 :: us) wr) (fun i _ => np - (intOf i).toNat)
        case atStart => exact ⟨0, Nat.zero_le _, rfl, HK.out.1⟩
        case round =>
          obtain ⟨q, hq, rfl, hM⟩ := hrel
          by_cases hqn : q < np
          · obtain ⟨g, z, e, hcl, hfz⟩ := mut_row hM List.mem_cons_self rfl hqn
            have HM := hide hM
            clear hM
            subst e
            go_wp2_with fail
            go_roundw
            case rel => exact ⟨q + 1, by omega, by go_num, mut_set HM.out List.mem_cons_self rfl⟩
            case measure => simp [intOf]; omega
          · have HM := hide hM
            clear hM
            go_wp2_with fail
            go_loopw [12] (fun i wr => ∃ k : Nat, k ≤ fs.length ∧ i = .int .i64 k ∧ MutI wo.heap.size mid (w3.drewN nq) (.slice A2 fs.length c2) fs.length us (.slice A1 np c1 :: us) wr) (fun i _ => fs.length - (intOf i).toNat)
            case atStart => exact ⟨0, Nat.zero_le _, rfl, HM.out⟩
            case round =>
              obtain ⟨k, hk, rfl, hM3⟩ := hrel
              by_cases hkn : k < fs.length
              · obtain ⟨g2, B, nb, db, e, hu, hmem, hnb⟩ := mut_at hM3 hkn
                have HM3 := hide hM3
                have HU := hide hu
                clear hM3 hu
                subst e
                go_wp2_with fail
                go_loopw [13] (fun i wr => ∃ q : Nat, q ≤ nb ∧ i = .int .i64 q ∧ MutI wo.heap.size mid (w3.drewN nq) (.slice (some ⟨g2, 0, none⟩) fs.length c2) fs.length us (.slice A1 np c1 :: us) wr) (fun i _ => nb - (intOf i).toNat)
                case atStart => exact ⟨0, Nat.zero_le _, rfl, HM3.out⟩
                case round =>
                  obtain ⟨q4, hq4, rfl, hM4⟩ := hrel
                  have hc4 := mut_cell hM4 HU.out
                  by_cases hqn4 : q4 < nb
                  · obtain ⟨g4, z4, e4, hcl4, hfz4⟩ := mut_row hM4 hmem rfl hqn4
                    have HM4 := hide hM4
                    clear hM4
                    subst e4
                    go_wp2_with fail
                    go_roundw
                    case rel => exact ⟨q4 + 1, by omega, by go_num, mut_set HM4.out hmem rfl⟩
                    case measure => simp [intOf]; omega
                  · have HM4 := hide hM4
                    clear hM4
                    go_wp2_with fail
                    go_roundw
                    case rel => exact ⟨k + 1, by omega, by go_num, HM4.out⟩
                    case measure => simp [intOf]; omega
              · have HM3 := hide hM3
                clear hM3
                go_wp2_with fail
                go_roundg (n - (j + 1))
                case measure => omega
                case rel =>
                  obtain ⟨f6, f7, f8, t3, t4, t5, t6⟩ := HF.out
                  exact reads_next hlt hB hM1 hM2 hB1' f1 f2 HK.out.2 f6 f7 f8 t3 t4 t5 t6 hrest HM3.out.2.2
    · have hjn : j = n := by omega
      subst hjn
      go_wp2_with fail
      refine (works_any _).mono ?_
      rintro e w2 ⟨rfl, hb2⟩
      go_wp2_with fail
      go_ret
      exact ⟨rfl, hB.trans (hb2.mono hB.size)⟩

theorem sum_mem {xss : List (List UInt8)} {x : List UInt8} (h : x ∈ xss) : x.length + 1 ≤ (xss.map fun x => x.length + 1).sum := by
  induction xss with
  | nil => cases h
  | cons y r ih =>
    simp only [List.map_cons, List.sum_cons]
    cases h with
    | head => omega
    | tail _ h => have := ih h; omega
theorem sum_len (xss : List (List UInt8)) : xss.length ≤ (xss.map fun x => x.length + 1).sum := by
  induction xss with
  | nil => simp
  | cons y r ih =>
    simp only [List.map_cons, List.sum_cons, List.length_cons]
    omega

/-- an argument that is a slice of byte slices, of small bulk -/
theorem arg_rows {H : Type} {enc : TypeId × Value → H} {W : World} {base : Nat} {v : Value} {d : DataW H} {p : List MemPlace} (x : Value.okWide Try.prog W .any base 28 v) (h : DataW.Trod enc Try.prog W 0 (fun _ => true) true 28 v d p) :
    ∃ (A : Option Addr) (n c : Nat) (vs : List Value) (xss : List (List UInt8)), v = .slice A n c ∧ n ≤ c ∧ Reads W 0 W.heap.size 1 A n vs ∧ Rows2 W 0 W.heap.size vs xss ∧ (xss.map fun x => x.length + 1).sum + 1 ≤ Rows.uptoBulk d := by
  obtain ⟨a, n, c, rfl⟩ := okWide_slice Try.underlying28 x
  obtain ⟨fuel, hf⟩ := h
  exact rd_rows Try.underlying28 Try.underlying22 (by kernel_rfl) Try.underlying5 (by kernel_rfl) hf

theorem frameReads_walk (H : Type) (enc : TypeId × Value → H) (W : World) (base : Nat) (v0 : Value) (d0 : DataW H) (p0 : List MemPlace) (x0 : Value.okWide Try.prog W .any base 28 v0) (h0 : DataW.Trod enc Try.prog W 0 (fun _ => true) true 28 v0 d0 p0)
    (hk : Rows.uptoSmall H ([d0] ++ []) = true) : Calls Try.prog 4 #[v0] W fun e W' => e = .returned (.bool true) ∧ Below W.heap.size W W' := by
  obtain ⟨A, n, c, vs, xss, rfl, hc, hr, hx, hb⟩ := arg_rows x0 h0
  have h : Rows.uptoBulkAll [d0] ≤ 1048576 := of_decide_eq_true hk
  simp only [Rows.uptoBulkAll] at h
  have hn : n = xss.length := by have := hr.1; have := hx.length; omega
  have := sum_len xss
  exact reads_any n c A vs xss W hr hx (by omega) (fun x hm => by have := sum_mem hm; omega)

end Go.Proofs.Ythcdepjchbahoaa
