/- What the program's Reader tells of bytes that come: any reader that is not broken. -/
import Derived.Test.YthcdepjchbahoaaLen
import Derived.Deep.LoopGhost
import Derived.WalkMore
namespace Go.Proofs.Ythcdepjchbahoaa
open Go.RowKit Mem
set_option linter.unusedVariables false

theorem el22 : Elem Try.prog 22 5 (.int .u8 0) 1 1 := ⟨Try.underlying22, by kernel_rfl, rfl, by decide⟩
theorem el28 : Elem Try.prog 28 22 (.slice none 0 0) 1 24 := ⟨Try.underlying28, by kernel_rfl, rfl, by decide⟩

/-- what a frame that may not be is told by -/
def errOf (r : Option (List UInt8)) : Int := if r.isNone then 9 else 0

/-- what a call of Feed leaves -/
def FeedOut (g : Nat) (hv : Value) (all : List UInt8) (w w' : World) (e : Ending) : Prop :=
  ∃ (A A' : Option Addr) (c c' mid : Nat) (vs : List Value), e = .returned (.tuple #[.slice A (parse all).1.length c, .int .i64 (errOf (parse all).2)]) ∧
    w.heap.size ≤ mid ∧ mid ≤ w'.heap.size ∧ w'.ownsRow w.heap.size 22 1 (.slice A (parse all).1.length c) (parse all).1.length vs ∧ (∀ k, (Value.slice A (parse all).1.length c).ownBlock = some k → k < mid) ∧
    Own2 w' 5 w.heap.size mid vs (parse all).1 ∧ Blk w' g 45 #[.slice A' ((parse all).2.getD []).length c', .bool (parse all).2.isNone] ∧
    w'.ownsRow mid 5 1 (.slice A' ((parse all).2.getD []).length c') ((parse all).2.getD []).length (((parse all).2.getD []).map B8) ∧ Only (fun k => k = g ∨ hv.ownBlock = some k) w w'

/-- what holds at each round's head; B: where the round's own memory begins -/
def FeedInv (g : Nat) (all : List UInt8) (w1 : World) (k : Nat) (v : Value) (wr : World) : Prop :=
  ∃ (fs : List (List UInt8)) (vs : List Value) (rest : List UInt8) (A A' : Option Addr) (c c' : Nat), v = .slice A' fs.length c' ∧ rest.length = k ∧
    Blk wr g 45 #[.slice A rest.length c, .bool false] ∧ rest.length ≤ c ∧ Reads wr 0 w1.heap.size 1 A rest.length (rest.map B8) ∧ (∀ ad, A = some ad → ad.block ≠ g) ∧
    wr.ownsRow w1.heap.size 22 1 (.slice A' fs.length c') fs.length vs ∧ Own2 wr 5 w1.heap.size wr.heap.size vs fs ∧
    parse all = (fs ++ (parse rest).1, (parse rest).2) ∧ fs.length + rest.length ≤ all.length ∧ Only (fun k => k = g) w1 wr

theorem own_ne_blk {w : World} {base e t g size n : Nat} {v : Value} {xs : List Value} {cs : Array Value} (h : w.ownsRow base e size v n xs) (hg : Blk w g t cs) (hne : e ≠ t) : ∀ k, v.ownBlock = some k → ¬ k = g :=
  fun _ hk e => own_blk_ne h hg hne (e ▸ hk)
theorem own2_ne_blk {w : World} {e lo hi t g : Nat} {cs : Array Value} (hg : Blk w g t cs) (hne : e ≠ t) (u : Value) (i : Nat) : ∀ {vs : List Value} {xs : List (List UInt8)}, Own2 w e lo hi vs xs → Own2 (w.setCell ⟨g, i, none⟩ u) e lo hi vs xs
  | [], [], _ => trivial
  | v :: _, x :: _, ⟨⟨ho, hb⟩, h⟩ => ⟨⟨own_only ho ((Only.refl (fun k => k = g) w).setCell (.inl rfl) u) (own_ne_blk ho hg hne), hb⟩, own2_ne_blk hg hne u i h⟩
  | [], _ :: _, h => h.elim
  | _ :: _, [], h => h.elim

theorem feed_start {g base n c0 m : Nat} {A0 A1 : Option Addr} {c1 : Nat} {all : List UInt8} {w w1 : World} (hg : Blk w g 45 #[.slice A0 n c0, .bool false]) (hgw : Blk w1 g 45 #[.slice A0 n c0, .bool false])
    (hown1 : w1.ownsRow base 5 1 (.slice A1 (n + m) c1) (n + m) (all.map B8)) : FeedInv g all (w1.setCell ⟨g, 0, none⟩ (.slice A1 (n + m) c1)) (n + m) (.slice none 0 0) (w1.setCell ⟨g, 0, none⟩ (.slice A1 (n + m) c1)) := by
  have hl : all.length = n + m := by simpa using hown1.1
  have hown2 := own_only hown1 ((Only.refl (fun k => k = g) w1).setCell (p := ⟨g, 0, none⟩) (.inl rfl) (.slice A1 (n + m) c1)) (own_ne_blk hown1 hgw (by decide))
  obtain ⟨A', c', e, hc, hr⟩ := own_form hown2
  cases e
  refine ⟨[], [], all, A1, none, c1, 0, rfl, hl, ?_, by omega, ?_, fun ad h => own_ne_blk hown1 hgw (by decide) _ (by rw [h]; rfl), World.ownsRow_nil _ _ _ _, trivial, rfl, by simp, Only.refl _ _⟩
  · rw [hl]; exact hgw.set_ 0 _
  · rw [hl]; exact hr.more (Nat.zero_le _) (Nat.le_refl _)

theorem feed_shut {g : Nat} {hv : Value} {all rest : List UInt8} {fs : List (List UInt8)} {vs : List Value} {A A' A2 : Option Addr} {c c' c2 : Nat} {w W1 wr w2 : World}
    (hw : Only (fun k => k = g ∨ hv.ownBlock = some k) w W1) (hgr : Blk wr g 45 #[.slice A rest.length c, .bool false]) (hor : wr.ownsRow W1.heap.size 22 1 (.slice A' fs.length c') fs.length vs) (hro : Own2 wr 5 W1.heap.size wr.heap.size vs fs)
    (hpar : parse all = (fs, some rest)) (honly : Only (fun k => k = g) W1 wr) (hown2 : w2.ownsRow wr.heap.size 5 1 (.slice A2 rest.length c2) rest.length (rest.map B8)) (hg2 : wr.grownBy w2 none) :
    FeedOut g hv all w (w2.setCell ⟨g, 0, none⟩ (.slice A2 rest.length c2)) (.returned (.tuple #[.slice A' fs.length c', .int .i64 0])) := by
  have hs1 := hw.size
  have hs2 := honly.size
  have hs3 := hg2.size
  have hgw2 := hgr.grown hg2 (by simp)
  have hon2 : Only (fun _ => False) wr w2 := Only.ofGrown hg2 |>.mono (by simp)
  have hst := (Only.refl (fun k => k = g) w2).setCell (p := ⟨g, 0, none⟩) (.inl rfl) (.slice A2 rest.length c2)
  unfold FeedOut
  rw [hpar]
  refine ⟨A', A2, c', c2, wr.heap.size, vs, rfl, by omega, by simpa using hs3, ?_, ?_, ?_, hgw2.set_ 0 _, ?_, ?_⟩
  · have h1 := own_only hor hon2 (by simp)
    exact ownsRow_mono (own_only h1 hst (own_ne_blk h1 hgw2 (by decide))) hs1
  · exact fun k hk => (hor.lt k hk).2
  · exact own2_ne_blk hgw2 (by decide) _ 0 ((hro.only hon2 (by simp) (Nat.le_refl _)).more hs1 (Nat.le_refl _))
  · exact own_only hown2 hst (own_ne_blk hown2 hgw2 (by decide))
  · exact ((hw.trans honly (fun k _ h => .inl h)).trans hon2 (by simp)).setCell (.inl (.inl rfl)) _

theorem feed_broke {g : Nat} {hv : Value} {all rest : List UInt8} {fs : List (List UInt8)} {vs : List Value} {A A' : Option Addr} {c c' k : Nat} {w W1 wr : World}
    (hw : Only (fun k => k = g ∨ hv.ownBlock = some k) w W1) (hgr : Blk wr g 45 #[.slice A rest.length c, .bool false]) (hor : wr.ownsRow W1.heap.size 22 1 (.slice A' fs.length c') fs.length vs) (hro : Own2 wr 5 W1.heap.size wr.heap.size vs fs)
    (hpar : parse all = (fs, none)) (honly : Only (fun k => k = g) W1 wr) :
    FeedOut g hv all w (((wr.drewN k).setCell ⟨g, 1, none⟩ (.bool true)).setCell ⟨g, 0, none⟩ (.slice none 0 0)) (.returned (.tuple #[.slice A' fs.length c', .int .i64 9])) := by
  have hs1 := hw.size
  have hs2 := honly.size
  have hb1 := (hgr.drewN k).set_ 1 (.bool true)
  have hst1 := (Only.refl (fun k => k = g) (wr.drewN k)).setCell (p := ⟨g, 1, none⟩) (.inl rfl) (.bool true)
  have hst := hst1.setCell (p := ⟨g, 0, none⟩) (.inl rfl) (.slice none 0 0)
  have hor' : (wr.drewN k).ownsRow W1.heap.size 22 1 (.slice A' fs.length c') fs.length vs := hor
  have hro' : Own2 (wr.drewN k) 5 W1.heap.size wr.heap.size vs fs := hro.drewN k
  unfold FeedOut
  rw [hpar]
  refine ⟨A', none, c', 0, wr.heap.size, vs, rfl, by omega, by simp, ?_, ?_, ?_, hb1.set_ 0 _, World.ownsRow_nil _ _ _ _, ?_⟩
  · exact ownsRow_mono (own_only hor' hst (own_ne_blk hor' (hgr.drewN k) (by decide))) hs1
  · exact fun k hk => (hor.lt k hk).2
  · exact own2_ne_blk hb1 (by decide) _ 0 (own2_ne_blk (hgr.drewN k) (by decide) _ 1 (hro'.more hs1 (Nat.le_refl _)))
  · exact ((((hw.trans honly (fun k _ h => .inl h)).drewN k).setCell (.inl (.inl rfl)) _).setCell (.inl (.inl rfl)) _)

theorem feed_step {g kq : Nat} {all rest : List UInt8} {fs : List (List UInt8)} {vs : List Value} {A A' A2 A3 An : Option Addr} {c c' c2 c3 : Nat} {W1 wr w2 w3 : World}
    (hgr : Blk wr g 45 #[.slice A rest.length c, .bool false]) (hcn : rest.length ≤ c) (hor : wr.ownsRow W1.heap.size 22 1 (.slice A' fs.length c') fs.length vs) (hro : Own2 wr 5 W1.heap.size wr.heap.size vs fs)
    (hpar : parse all = (fs ++ (parse rest).1, (parse rest).2)) (hlen : fs.length + rest.length ≤ all.length) (honly : Only (fun k => k = g) W1 wr)
    (h5 : 4 ≤ rest.length) (hb1 : 1 ≤ nat4 rest) (hb2 : nat4 rest ≤ 32768) (hw : 4 + nat4 rest ≤ rest.length)
    (hown2 : w2.ownsRow W1.heap.size 5 1 (.slice A2 (nat4 rest) c2) (nat4 rest) (((rest.drop 4).take (nat4 rest)).map B8)) (hg2 : (wr.drewN kq).grownBy w2 none)
    (hown3 : w3.ownsRow W1.heap.size 22 1 (.slice A3 (fs.length + 1) c3) (fs.length + 1) (vs ++ [.slice A2 (nat4 rest) c2]))
    (hg3 : (w2.alloc (.cells #[.slice A2 (nat4 rest) c2] 22)).grownBy w3 (Value.slice A' fs.length c').ownBlock)
    {cn : Nat} (hcn' : rest.length - (4 + nat4 rest) ≤ cn) (hAg : ∀ ad, An = some ad → ad.block ≠ g) (hAn : Reads wr 0 W1.heap.size 1 An (rest.length - (4 + nat4 rest)) ((rest.drop (4 + nat4 rest)).map B8)) :
    FeedInv g all W1 (rest.length - (4 + nat4 rest)) (.slice A3 (fs.length + 1) c3) (w3.setCell ⟨g, 0, none⟩ (.slice An (rest.length - (4 + nat4 rest)) cn)) := by
  have hs1 := honly.size
  have hs2 : wr.heap.size ≤ w2.heap.size := hg2.size
  have hs3 : w2.heap.size + 1 ≤ w3.heap.size := by simpa using hg3.size
  have hl : ((rest.drop 4).take (nat4 rest)).length = nat4 rest := by simp; omega
  have hl2 : (rest.drop (4 + nat4 rest)).length = rest.length - (4 + nat4 rest) := by simp
  have hon2 : Only (fun _ => False) wr w2 := ⟨hg2.os, hg2.tape, hg2.output, hg2.size, fun k hk _ => hg2.block k hk (by simp)⟩
  have hor2 := (own_only hor hon2 (by simp)).alloc (.cells #[.slice A2 (nat4 rest) c2] 22)
  have hro2 : Own2 w2 5 W1.heap.size w2.heap.size (vs ++ [.slice A2 (nat4 rest) c2]) (fs ++ [(rest.drop 4).take (nat4 rest)]) :=
    ((hro.only hon2 (by simp) (Nat.le_refl _)).more (Nat.le_refl _) hs2).snoc (by rw [hl]; exact hown2) (fun k hk => (hown2.lt k hk).2)
  have hro3 := own2_grown (e := 5) hor2 (by decide) hg3 (hro2.only ((Only.refl (fun _ => False) w2).alloc _) (by simp) (Nat.le_refl _))
  have hgw3 := ((hgr.only hon2 (by simp)).alloc (.cells #[.slice A2 (nat4 rest) c2] 22)).grown hg3 (fun h => own_ne_blk hor hgr (by decide) g h.symm rfl)
  have hon3 : Only (fun k => k = g) W1 w3 := ((honly.trans hon2 (by simp)).alloc _).grown hg3 (fun k hk => .inr (hor.lt k hk).1)
  have hst := (Only.refl (fun k => k = g) w3).setCell (p := ⟨g, 0, none⟩) (.inl rfl) (.slice An (rest.length - (4 + nat4 rest)) cn)
  refine ⟨fs ++ [(rest.drop 4).take (nat4 rest)], vs ++ [.slice A2 (nat4 rest) c2], rest.drop (4 + nat4 rest), An, A3, cn, c3, by simp, hl2, ?_, by omega, ?_, hAg, ?_, ?_, ?_, ?_, hon3.setCell (.inl rfl) _⟩
  · rw [hl2]; exact hgw3.set_ 0 _
  · rw [hl2]
    have hf := hon3.setCell (p := ⟨g, 0, none⟩) (.inl rfl) (.slice An (rest.length - (4 + nat4 rest)) cn)
    refine hAn.keepA fun ad k hA _ hlt => ?_
    have hne := hAg ad hA
    rw [hf.cell (by rw [block_of_add]; exact hlt) (by rw [block_of_add]; exact hne), honly.cell (by rw [block_of_add]; exact hlt) (by rw [block_of_add]; exact hne)]
  · have := own_only hown3 hst (own_ne_blk hown3 hgw3 (by decide))
    simpa using this
  · refine (own2_ne_blk hgw3 (by decide) _ 0 hro3).more (Nat.le_refl _) (by simp; omega)
  · rw [hpar, parse_more h5 hb1 hb2 hw]
    simp
  · simp; omega

set_option maxHeartbeats 1600000 in
theorem feed_ok (g base lo hi n m c : Nat) (hv : Value) (A : Option Addr) (hs bs : List UInt8) (w : World) (hg : Blk w g 45 #[hv, .bool false]) (hown : w.ownsRow base 5 1 hv n (hs.map B8))
    (hr : Reads w lo hi 1 A m (bs.map B8)) (hsz : n + m ≤ 4294967296) (hbase : base ≤ w.heap.size) :
    Calls Try.prog 12 #[.pointer (some ⟨g, 0, none⟩), .slice A m c] w fun e w' => FeedOut g hv (hs ++ bs) w w' e := by
  obtain ⟨A0, c0, rfl, hc0, hr0⟩ := own_form hown
  have hl0 : hs.length = n := by simpa using hown.1
  have hl1 : bs.length = m := by simpa using hr.1
  have q0 : w.cell? ⟨g, 0, none⟩ = some (.slice A0 n c0) := by rw [hg.cell]; rfl
  have q1 : w.cell? ⟨g, 1, none⟩ = some (.bool false) := by rw [hg.cell]; rfl
  have HL := hide (And.intro hl0 hl1)
  clear hl0 hl1
  go_enter Try.func12, Try.ntmps12
  go_wp2_with fail
  go_step3
  go_wp2_with (first
    | (at_builtin; refine wpList_app el22 (.tmp 16) (.tmp 17) hown hr (B8_one bs) (N := n + m) (ys := (hs ++ bs).map B8) rfl (by simp) (by unfold maxLen; omega) (by omega) hbase rfl rfl rfl rfl ?_
       intro A1 c1 w1 hown1 hg1 hb1
       have hgw := hg.grown hg1 (by intro h; exact (own_blk_ne hown hg (by decide) h.symm).elim)
       have q2 : w1.cell? ⟨g, 0, none⟩ = some (.slice A0 n c0) := by rw [hgw.cell]; rfl
       have q3 := hgw.frozen 0))
  go_step3
  have hW1 := (hgw.set_ 0 (.slice A1 (n + m) c1))
  go_wp2_with fail
  obtain ⟨W1, eW1⟩ : ∃ W1, W1 = w1.setCell ⟨g, 0, none⟩ (.slice A1 (n + m) c1) := ⟨_, rfl⟩
  have HW := hide eW1
  have hw : Only (fun k => k = g ∨ (Value.slice A0 n c0).ownBlock = some k) w W1 := by
    rw [eW1]
    exact (((Only.refl _ w).grown hg1 (fun k hk => .inl (.inr hk))).setCell (.inl (.inl rfl)) _)
  clear eW1
  go_loopg [6] (n + m) (fun k v wr => FeedInv g (hs ++ bs) W1 k v wr)
  case atStart => exact HW.out ▸ feed_start hg hgw hown1
  case round =>
    obtain ⟨fs, vs, rest, A, A', c, c', rfl, rfl, hgr, hcn, hrr, hAg, hor, hro, hpar, hlen, honly⟩ := hrel
    have hrl : fs.length + rest.length ≤ 4294967296 := by
      have := HL.out
      rw [List.length_append] at hlen
      omega
    have HP := hide hpar
    clear hpar
    by_cases h4 : rest.length < 4
    · have r0 : wr.cell? ⟨g, 0, none⟩ = some (.slice A rest.length c) := by rw [hgr.cell]; rfl
      have r1 := hgr.frozen 0
      clear q0 q1 q2 q3
      have hB := honly.size
      go_wp2_with (at_builtin; refine wpList_app el22 (.const (.slice none 0 0)) (.tmp 83) (World.ownsRow_nil wr wr.heap.size 5 1) hrr (B8_one rest) (N := rest.length) (ys := rest.map B8) (by simp) rfl (by unfold maxLen; omega) (by omega) (Nat.le_refl _) rfl rfl rfl rfl ?_
                   intro A2 c2 w2 hown2 hg2 hbk
                   have hgw2 := hgr.grown hg2 (by simp [Value.ownBlock])
                   have q2 : w2.cell? ⟨g, 0, none⟩ = some (.slice A rest.length c) := by rw [hgw2.cell]; rfl
                   have q3 := hgw2.frozen 0)
      try rw [Exit.noGoto_ret]
      go_ret2
      exact feed_shut hw hgr hor hro (by rw [HP.out, parse_short h4, List.append_nil]) honly hown2 hg2
    · have h5 : 4 ≤ rest.length := by omega
      have hlt := nat4_lt rest
      have r0 : wr.cell? ⟨g, 0, none⟩ = some (.slice A rest.length c) := by rw [hgr.cell]; rfl
      have r2 : wr.cell? ⟨g, 1, none⟩ = some (.bool false) := by rw [hgr.cell]; rfl
      have r1 := hgr.frozen 0
      have r3 := hgr.frozen 1
      have hB := honly.size
      clear q0 q1 q2 q3 h4
      by_cases hb : nat4 rest < 1 ∨ 32768 < nat4 rest
      · rcases hb with hb | hb
        · go_wp2_with (go_at_call 18; refine (len_any _ _ _ _ _ _ _ hrr h5).mono ?_; rintro e w' ⟨rfl, kq, rfl⟩)
          try rw [Exit.noGoto_ret]
          go_ret2
          exact feed_broke hw hgr hor hro (by rw [HP.out, parse_bad h5 (.inl hb), List.append_nil]) honly
        · have hb1 : 1 ≤ nat4 rest := by omega
          go_wp2_with (go_at_call 18; refine (len_any _ _ _ _ _ _ _ hrr h5).mono ?_; rintro e w' ⟨rfl, kq, rfl⟩)
          try rw [Exit.noGoto_ret]
          go_ret2
          exact feed_broke hw hgr hor hro (by rw [HP.out, parse_bad h5 (.inr hb), List.append_nil]) honly
      · have hb1 : 1 ≤ nat4 rest := by omega
        have hb2 : nat4 rest ≤ 32768 := by omega
        clear hb
        by_cases hwt : rest.length < 4 + nat4 rest
        · go_wp2_with (first
            | (go_at_call 18; refine (len_any _ _ _ _ _ _ _ hrr h5).mono ?_; rintro e w' ⟨rfl, kq, rfl⟩)
            | (at_builtin; refine wpList_app el22 (.const (.slice none 0 0)) (.tmp 83) (World.ownsRow_nil _ wr.heap.size 5 1) (hrr.drewN kq) (B8_one rest) (N := rest.length) (ys := rest.map B8) (by simp) rfl (by unfold maxLen; omega) (by omega) (Nat.le_refl _) rfl rfl rfl rfl ?_
               intro A2 c2 w2 hown2 hg2 hbk
               have hgw2 := (hgr.drewN kq).grown hg2 (by simp [Value.ownBlock])
               have q2 : w2.cell? ⟨g, 0, none⟩ = some (.slice A rest.length c) := by rw [hgw2.cell]; rfl
               have q3 := hgw2.frozen 0))
          try rw [Exit.noGoto_ret]
          go_ret2
          exact feed_shut hw (hgr.drewN kq) hor (hro.drewN kq) (by rw [HP.out, parse_wait h5 hb1 hb2 hwt, List.append_nil]) (honly.drewN kq) hown2 hg2
        · have hwt' : 4 + nat4 rest ≤ rest.length := by omega
          clear hwt
          go_wp2_with (first
            | (go_at_call 18; refine (len_any _ _ _ _ _ _ _ hrr h5).mono ?_; rintro e w' ⟨rfl, kq, rfl⟩)
            | (at_builtin; refine pause ?_))
          refine unpause ?_
          refine wpList_app el22 (.const (.slice none 0 0)) (.tmp 64) (World.ownsRow_nil _ W1.heap.size 5 1) (((hrr.drewN kq).cut_ (k := 4) (by omega)).take (k := 4 + nat4 rest - 4) (by omega)) ?_ (N := nat4 rest) (ys := ((rest.drop 4).take (nat4 rest)).map B8) (by omega) ?_ (by unfold maxLen; omega) (by omega) hB rfl rfl rfl rfl ?_
          · rw [Nat.add_sub_cancel_left]; simp only [Nat.mul_one, ← List.map_drop, ← List.map_take]; exact B8_one _
          · rw [Nat.add_sub_cancel_left]; simp only [Nat.mul_one, ← List.map_drop, ← List.map_take, List.nil_append]
          intro A2 c2 w2 hown2 hg2 hbk
          have hs2 : wr.heap.size ≤ w2.heap.size := hg2.size
          have hor2 := ((own_grown (own_drewN hor kq) hg2 (by simp [Value.ownBlock]))).alloc (.cells #[.slice A2 (nat4 rest) c2] 22)
          go_wp2_with (at_builtin; refine pause ?_)
          refine unpause ?_
          refine wpList_app el28 (.tmp 56) (.tmp 66) hor2 (Reads.lit _ _ _ 1 1 rfl) (by simp [Value.oneCell']) (N := fs.length + 1) (ys := vs ++ [.slice A2 (nat4 rest) c2]) rfl rfl (by unfold maxLen; omega) (by omega) (by simp; omega) rfl rfl rfl rfl ?_
          intro A3 c3 w3 hown3 hg3 hbk3
          have hgw3 := (((hgr.drewN kq).grown hg2 (by simp [Value.ownBlock])).alloc (.cells #[.slice A2 (nat4 rest) c2] 22)).grown hg3 (fun h => own_ne_blk hor hgr (by decide) g h.symm rfl)
          have q2 : w3.cell? ⟨g, 0, none⟩ = some (.slice A rest.length c) := by rw [hgw3.cell]; rfl
          have q3 := hgw3.frozen 0
          go_wp2_with fail
          all_goals go_roundg (rest.length - (4 + nat4 rest))
          all_goals first
            | (case measure => omega)
            | (case rel => exact feed_step hgr hcn hor hro HP.out hlen honly h5 hb1 hb2 hwt' hown2 hg2 hown3 hg3 (An := A) (cn := 0) (by omega) hAg (Reads.zero (by omega) (by simp; omega)))
            | (case rel => exact feed_step hgr hcn hor hro HP.out hlen honly h5 hb1 hb2 hwt' hown2 hg2 hown3 hg3 (by omega) (by intro ad h; cases A with
                | none => cases h
                | some a => cases h; simpa [block_of_add] using hAg a rfl) (by have := hrr.cut_ (k := 4 + nat4 rest) hwt'; rw [Nat.mul_one, ← List.map_drop] at this; exact this))

end Go.Proofs.Ythcdepjchbahoaa
