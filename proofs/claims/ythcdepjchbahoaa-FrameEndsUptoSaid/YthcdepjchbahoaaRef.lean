/- What the reference's Reader tells of bytes that come: any reader that is not broken. -/
import Derived.Test.YthcdepjchbahoaaSam
namespace Go.Proofs.Ythcdepjchbahoaa
open Go.RowKit Mem
set_option linter.unusedVariables false

def RefOut (g : Nat) (all : List UInt8) (w w' : World) (e : Ending) : Prop :=
  ∃ (A A' : Option Addr) (c c' : Nat) (vs : List Value), e = .returned (.tuple #[.slice A (parse all).1.length c, .int .i64 (errOf (parse all).2)]) ∧
    Reads w' w.heap.size w'.heap.size 1 A (parse all).1.length vs ∧ Rows2 w' w.heap.size w'.heap.size vs (parse all).1 ∧
    Blk w' g 33 #[.slice A' ((parse all).2.getD []).length c', .bool (parse all).2.isNone] ∧
    Reads w' w.heap.size w'.heap.size 1 A' ((parse all).2.getD []).length (((parse all).2.getD []).map B8) ∧ Only (fun k => k = g) w w'

def RefInv (g : Nat) (all : List UInt8) (w W2 : World) (k : Nat) (v u : Value) (wr : World) : Prop :=
  ∃ (fs : List (List UInt8)) (vs : List Value) (rest : List UInt8) (A A' : Option Addr) (c c' : Nat), v = .slice A' fs.length c' ∧ u = .slice A rest.length c ∧ rest.length = k ∧
    rest.length ≤ c ∧ Reads wr w.heap.size W2.heap.size 1 A rest.length (rest.map B8) ∧
    wr.ownsRow W2.heap.size 22 1 (.slice A' fs.length c') fs.length vs ∧ Own2 wr 5 W2.heap.size wr.heap.size vs fs ∧
    parse all = (fs ++ (parse rest).1, (parse rest).2) ∧ fs.length + rest.length ≤ all.length ∧ Below W2.heap.size W2 wr

theorem Reads.set_blk {w : World} {lo hi size n g i t t' : Nat} {A : Option Addr} {xs : List Value} {cs : Array Value} (h : Reads w lo hi size A n xs) (hg : g < lo ∨ hi ≤ g) (u : Value) : Reads (w.setCell ⟨g, i, none⟩ u) lo hi size A n xs := h.setCell (p := ⟨g, i, none⟩) hg u

theorem ref_end {g kq : Nat} {V0 V1 : Value} {b : Bool} {rest : List UInt8} {fs : List (List UInt8)} {vs : List Value} {A A' : Option Addr} {c c' : Nat} {w W2 wr w' : World} (hgw : g < w.heap.size) (hw2 : Below w.heap.size w W2)
    (hor : wr.ownsRow W2.heap.size 22 1 (.slice A' fs.length c') fs.length vs) (hro : Own2 wr 5 W2.heap.size wr.heap.size vs fs) (hB3 : Below W2.heap.size W2 wr) (ho : Only (fun k => k = g) (wr.drewN kq) w') :
    Reads w' w.heap.size w'.heap.size 1 A' fs.length vs ∧ Rows2 w' w.heap.size w'.heap.size vs fs ∧ Only (fun k => k = g) w w' := by
  have hs1 := hw2.size
  have hs2 := hB3.size
  have hs3 : wr.heap.size ≤ w'.heap.size := ho.size
  have hor' : (wr.drewN kq).ownsRow W2.heap.size 22 1 (.slice A' fs.length c') fs.length vs := hor
  have hro' := hro.drewN kq
  have ne : ∀ k, W2.heap.size ≤ k → ¬ k = g := by intro k hk e; omega
  refine ⟨?_, ?_, ?_⟩
  · have h := own_only hor' ho (fun k hk => ne k (hor.lt k hk).1)
    exact (Reads.of_own h).more hs1 (Nat.le_refl _)
  · have h := hro'.only ho (fun k h1 _ => ne k h1) (Nat.le_refl _)
    exact (h.reads hs3).more hs1 hs3
  · have h1 : Only (fun k => k = g) w W2 := Only.ofBelow hw2
    have h2 : Only (fun k => k = g) W2 wr := Only.ofBelow hB3
    exact (((h1.trans h2 (fun _ _ h => h)).drewN kq).trans ho (fun _ _ h => h))

theorem ref_shut {g kq : Nat} {V0 : Value} {all rest : List UInt8} {fs : List (List UInt8)} {vs : List Value} {A A' : Option Addr} {c c' : Nat} {w W2 wr : World} (hg : Blk w g 33 #[V0, .bool false]) (hw2 : Below w.heap.size w W2)
    (hrr : Reads wr w.heap.size W2.heap.size 1 A rest.length (rest.map B8))
    (hor : wr.ownsRow W2.heap.size 22 1 (.slice A' fs.length c') fs.length vs) (hro : Own2 wr 5 W2.heap.size wr.heap.size vs fs) (hB3 : Below W2.heap.size W2 wr) (hpar : parse all = (fs, some rest)) :
    RefOut g all w ((wr.drewN kq).setCell ⟨g, 0, none⟩ (.slice A rest.length c)) (.returned (.tuple #[.slice A' fs.length c', .int .i64 0])) := by
  have hgr := ((hg.below hw2 hg.lt).below hB3 (by have := hg.lt; have := hw2.size; omega)).drewN kq
  have hst := (Only.refl (fun k => k = g) (wr.drewN kq)).setCell (p := ⟨g, 0, none⟩) (.inl rfl) (.slice A rest.length c)
  obtain ⟨e1, e2, e3⟩ := ref_end (V0 := V0) (V1 := V0) (b := true) (rest := rest) (A := A) (c := c) hg.lt hw2 hor hro hB3 hst
  unfold RefOut
  rw [hpar]
  have hs2 := hB3.size
  exact ⟨A', A, c', c, vs, rfl, e1, e2, hgr.set_ 0 _, ((hrr.drewN kq).setCell (p := ⟨g, 0, none⟩) (.inl hg.lt) _).more (Nat.le_refl _) (by simp; omega), e3⟩

theorem ref_broke {g kq : Nat} {V0 : Value} {all : List UInt8} {fs : List (List UInt8)} {vs : List Value} {A' : Option Addr} {c' : Nat} {w W2 wr : World} (hg : Blk w g 33 #[V0, .bool false]) (hw2 : Below w.heap.size w W2)
    (hor : wr.ownsRow W2.heap.size 22 1 (.slice A' fs.length c') fs.length vs) (hro : Own2 wr 5 W2.heap.size wr.heap.size vs fs) (hB3 : Below W2.heap.size W2 wr) (hpar : parse all = (fs, none)) :
    RefOut g all w (((wr.drewN kq).setCell ⟨g, 1, none⟩ (.bool true)).setCell ⟨g, 0, none⟩ (.slice none 0 0)) (.returned (.tuple #[.slice A' fs.length c', .int .i64 9])) := by
  have hgr := (((hg.below hw2 hg.lt).below hB3 (by have := hg.lt; have := hw2.size; omega)).drewN kq).set_ 1 (.bool true)
  have hst := ((Only.refl (fun k => k = g) (wr.drewN kq)).setCell (p := ⟨g, 1, none⟩) (.inl rfl) (.bool true)).setCell (p := ⟨g, 0, none⟩) (.inl rfl) (.slice none 0 0)
  obtain ⟨e1, e2, e3⟩ := ref_end (V0 := V0) (V1 := V0) (b := true) (rest := []) (A := none) (c := 0) hg.lt hw2 hor hro hB3 hst
  unfold RefOut
  rw [hpar]
  exact ⟨A', none, c', 0, vs, rfl, e1, e2, hgr.set_ 0 _, Reads.none_, e3⟩

theorem ref_step {g kq : Nat} {all rest : List UInt8} {fs : List (List UInt8)} {vs : List Value} {A' A2 A3 An : Option Addr} {c' c2 c3 : Nat} {w W2 wr w2 w3 : World} (hw2 : Below w.heap.size w W2)
    (hor : wr.ownsRow W2.heap.size 22 1 (.slice A' fs.length c') fs.length vs) (hro : Own2 wr 5 W2.heap.size wr.heap.size vs fs)
    (hpar : parse all = (fs ++ (parse rest).1, (parse rest).2)) (hlen : fs.length + rest.length ≤ all.length) (hB3 : Below W2.heap.size W2 wr)
    (h5 : 4 ≤ rest.length) (hb1 : 1 ≤ nat4 rest) (hb2 : nat4 rest ≤ 32768) (hw : 4 + nat4 rest ≤ rest.length)
    (hown2 : w2.ownsRow W2.heap.size 5 1 (.slice A2 (nat4 rest) c2) (nat4 rest) (((rest.drop 4).take (nat4 rest)).map B8)) (hg2 : (wr.drewN kq).grownBy w2 none)
    (hown3 : w3.ownsRow W2.heap.size 22 1 (.slice A3 (fs.length + 1) c3) (fs.length + 1) (vs ++ [.slice A2 (nat4 rest) c2]))
    (hg3 : (w2.alloc (.cells #[.slice A2 (nat4 rest) c2] 22)).grownBy w3 (Value.slice A' fs.length c').ownBlock)
    {cn : Nat} (hcn' : rest.length - (4 + nat4 rest) ≤ cn) (hAn : Reads wr w.heap.size W2.heap.size 1 An (rest.length - (4 + nat4 rest)) ((rest.drop (4 + nat4 rest)).map B8)) :
    RefInv g all w W2 (rest.length - (4 + nat4 rest)) (.slice A3 (fs.length + 1) c3) (.slice An (rest.length - (4 + nat4 rest)) cn) w3 := by
  have hs1 := hB3.size
  have hs2 : wr.heap.size ≤ w2.heap.size := hg2.size
  have hs3 : w2.heap.size + 1 ≤ w3.heap.size := by simpa using hg3.size
  have hl : ((rest.drop 4).take (nat4 rest)).length = nat4 rest := by simp; omega
  have hl2 : (rest.drop (4 + nat4 rest)).length = rest.length - (4 + nat4 rest) := by simp
  have hon2 : Only (fun _ => False) wr w2 := ⟨hg2.os, hg2.tape, hg2.output, hg2.size, fun k hk _ => hg2.block k hk (by simp)⟩
  have hor2 := (own_only hor hon2 (by simp)).alloc (.cells #[.slice A2 (nat4 rest) c2] 22)
  have hro2 : Own2 w2 5 W2.heap.size w2.heap.size (vs ++ [.slice A2 (nat4 rest) c2]) (fs ++ [(rest.drop 4).take (nat4 rest)]) :=
    ((hro.only hon2 (by simp) (Nat.le_refl _)).more (Nat.le_refl _) hs2).snoc (by rw [hl]; exact hown2) (fun k hk => (hown2.lt k hk).2)
  have hro3 := own2_grown (e := 5) hor2 (by decide) hg3 (hro2.only ((Only.refl (fun _ => False) w2).alloc _) (by simp) (Nat.le_refl _))
  have hb2' : Below W2.heap.size W2 w2 := hB3.trans ⟨hg2.os, hg2.tape, hg2.output, hg2.size, fun k hk => hg2.block k (show k < wr.heap.size by omega) (by simp)⟩
  have hb3 : Below W2.heap.size W2 w3 := (hb2'.alloc hb2'.size _).grown hg3 (by simp; omega) (fun k hk => (hor.lt k hk).1)
  have hw3 : Below W2.heap.size wr w3 := ⟨hb3.os.trans hB3.os.symm, hb3.tape.trans hB3.tape.symm, hb3.output.trans hB3.output.symm, by omega, fun k hk => (hb3.block k hk).trans (hB3.block k hk).symm⟩
  refine ⟨fs ++ [(rest.drop 4).take (nat4 rest)], vs ++ [.slice A2 (nat4 rest) c2], rest.drop (4 + nat4 rest), An, A3, cn, c3, by simp, by rw [hl2], hl2, by omega, ?_, ?_, ?_, ?_, ?_, hb3⟩
  · rw [hl2]
    exact hAn.below hw3 (Nat.le_refl _)
  · simpa using hown3
  · exact hro3.more (Nat.le_refl _) (by omega)
  · rw [hpar, parse_more h5 hb1 hb2 hw]
    simp
  · simp; omega

set_option maxHeartbeats 1600000 in
theorem ref_feed_ok (g l1 h1 lo hi n m c c0 : Nat) (A0 A : Option Addr) (hs bs : List UInt8) (w : World) (hg : Blk w g 33 #[.slice A0 n c0, .bool false]) (hr0 : Reads w l1 h1 1 A0 n (hs.map B8)) (hh1 : h1 ≤ w.heap.size)
    (hr : Reads w lo hi 1 A m (bs.map B8)) (hhi : hi ≤ w.heap.size) (hsz : n + m ≤ 4294967296) :
    Calls Try.prog 13 #[.pointer (some ⟨g, 0, none⟩), .slice A m c] w fun e w' => RefOut g (hs ++ bs) w w' e := by
  have hl0 : hs.length = n := by simpa using hr0.1
  have hl1 : bs.length = m := by simpa using hr.1
  have q0 : w.cell? ⟨g, 0, none⟩ = some (.slice A0 n c0) := by rw [hg.cell]; rfl
  have q1 : w.cell? ⟨g, 1, none⟩ = some (.bool false) := by rw [hg.cell]; rfl
  have HL := hide (And.intro hl0 hl1)
  clear hl0 hl1
  go_enter Try.func13, Try.ntmps13
  go_wp2_with (first
    | (at_builtin; refine wpList_app el22 (.tmp 14) (.tmp 18) (World.ownsRow_nil w w.heap.size 5 1) hr0 (B8_one hs) (N := n) (ys := hs.map B8) (by omega) (by simp) (by unfold maxLen; omega) (by omega) (Nat.le_refl _) rfl rfl rfl rfl ?_
       intro A1 c1 w1 hown1 hg1 hb1
       have hB1 : Below w.heap.size w w1 := (Below.refl _ w).grown hg1 (Nat.le_refl _) (by simp [Value.ownBlock]))
    | (at_builtin; refine wpList_app el22 (.tmp 20) (.tmp 21) hown1 (hr.below hB1 hhi) (B8_one bs) (N := n + m) (ys := (hs ++ bs).map B8) rfl (by simp) (by unfold maxLen; omega) (by omega) hB1.size rfl rfl rfl rfl ?_
       intro A2 c2 w2 hown2 hg2 hb2
       have hB2 : Below w.heap.size w w2 := hB1.grown hg2 hB1.size (fun k hk => (hown1.lt k hk).1)))
  go_loopg [6, 7] (n + m) (fun k v u wr => RefInv g (hs ++ bs) w w2 k v u wr)
  case atStart =>
    have hl : (hs ++ bs).length = n + m := by simpa using hown2.1
    refine ⟨[], [], hs ++ bs, A2, none, c2, 0, rfl, by rw [hl], hl, ?_, ?_, World.ownsRow_nil _ _ _ _, trivial, rfl, by simp, Below.refl _ _⟩
    · obtain ⟨A', c', e, hc, _⟩ := own_form hown2
      cases e
      omega
    · rw [hl]
      exact Reads.of_own hown2
  case round =>
    obtain ⟨fs, vs, rest, A3, A4, c3, c4, rfl, rfl, rfl, hcn, hrr, hor, hro, hpar, hlen, hB3⟩ := hrel
    have hrl : fs.length + rest.length ≤ 4294967296 := by
      have := HL.out
      rw [List.length_append] at hlen
      omega
    have HP := hide hpar
    clear hpar
    have hgr := (hg.below hB2 hg.lt).below hB3 (by have := hg.lt; have := hB2.size; omega)
    have r0 : wr.cell? ⟨g, 0, none⟩ = some (.slice A0 n c0) := by rw [hgr.cell]; rfl
    have r2 : wr.cell? ⟨g, 1, none⟩ = some (.bool false) := by rw [hgr.cell]; rfl
    have r1 := hgr.frozen 0
    have r3 := hgr.frozen 1
    have hS3 := hB3.size
    clear q0 q1
    by_cases h4 : rest.length < 4
    · have e1 : loadOf rest = 0 := by rw [loadOf, if_pos h4]
      have E1 := hide e1
      clear e1
      go_wp2_with (go_at_call 19; refine (load_any _ _ _ _ _ _ _ hrr).mono ?_; rintro e w' ⟨rfl, kq, rfl⟩; rw [E1.out])
      go_ret2
      exact ref_shut hg hB2 hrr hor hro hB3 (by rw [HP.out, parse_short h4, List.append_nil])
    · have h5 : 4 ≤ rest.length := by omega
      clear h4
      by_cases hb : nat4 rest < 1 ∨ 32768 < nat4 rest
      · have e1 : loadOf rest = -1 := by rw [loadOf, if_neg (by omega), if_pos hb]
        have E1 := hide e1
        have HB := hide hb
        clear e1 hb
        go_wp2_with (go_at_call 19; refine (load_any _ _ _ _ _ _ _ hrr).mono ?_; rintro e w' ⟨rfl, kq, rfl⟩; rw [E1.out])
        go_ret2
        exact ref_broke hg hB2 hor hro hB3 (by rw [HP.out, parse_bad h5 HB.out, List.append_nil])
      · have hb1 : 1 ≤ nat4 rest := by omega
        have hb2 : nat4 rest ≤ 32768 := by omega
        by_cases hwt : rest.length < 4 + nat4 rest
        · have e1 : loadOf rest = 0 := by rw [loadOf, if_neg (by omega), if_neg hb, if_pos hwt]
          have E1 := hide e1
          clear e1 hb
          go_wp2_with (go_at_call 19; refine (load_any _ _ _ _ _ _ _ hrr).mono ?_; rintro e w' ⟨rfl, kq, rfl⟩; rw [E1.out])
          go_ret2
          exact ref_shut hg hB2 hrr hor hro hB3 (by rw [HP.out, parse_wait h5 hb1 hb2 hwt, List.append_nil])
        · have e1 : loadOf rest = (nat4 rest : Int) := by rw [loadOf, if_neg (by omega), if_neg hb, if_neg hwt]
          have hwt' : 4 + nat4 rest ≤ rest.length := by omega
          have hz : ((nat4 rest : Int) == 0) = false := by simp; omega
          have E1 := hide e1
          clear e1 hb hwt
          go_wp2_with (first
            | (go_at_call 19; refine (load_any _ _ _ _ _ _ _ hrr).mono ?_; rintro e w' ⟨rfl, kq, rfl⟩; rw [E1.out])
            | (at_builtin; refine pause ?_))
          refine unpause ?_
          refine wpList_app el22 (.tmp 41) (.tmp 45) (World.ownsRow_nil _ w2.heap.size 5 1) (((hrr.drewN kq).cut_ (k := 4) (by omega)).take (k := 4 + nat4 rest - 4) (by omega)) ?_ (N := nat4 rest) (ys := ((rest.drop 4).take (nat4 rest)).map B8) (by omega) ?_ (by unfold maxLen; omega) (by omega) hS3 rfl rfl rfl rfl ?_
          · rw [Nat.add_sub_cancel_left]; simp only [Nat.mul_one, ← List.map_drop, ← List.map_take]; exact B8_one _
          · rw [Nat.add_sub_cancel_left]; simp only [Nat.mul_one, ← List.map_drop, ← List.map_take, List.nil_append]
          intro A5 c5 w5 hown5 hg5 hbk5
          have hs5 : wr.heap.size ≤ w5.heap.size := hg5.size
          have hor5 := ((own_grown (own_drewN hor kq) hg5 (by simp [Value.ownBlock]))).alloc (.cells #[.slice A5 (nat4 rest) c5] 22)
          go_wp2_with (at_builtin; refine pause ?_)
          refine unpause ?_
          refine wpList_app el28 (.tmp 47) (.tmp 49) hor5 (Reads.lit _ _ _ 1 1 rfl) (by simp [Value.oneCell']) (N := fs.length + 1) (ys := vs ++ [.slice A5 (nat4 rest) c5]) rfl rfl (by unfold maxLen; omega) (by omega) (by simp; omega) rfl rfl rfl rfl ?_
          intro A6 c6 w6 hown6 hg6 hbk6
          go_wp2_with fail
          all_goals go_roundg (rest.length - (4 + nat4 rest))
          all_goals first
            | (case measure => omega)
            | (case rel => exact ref_step hB2 hor hro HP.out hlen hB3 h5 hb1 hb2 hwt' hown5 hg5 hown6 hg6 (An := A3) (by omega) (Reads.zero (by omega) (by simp; omega)))
            | (case rel => exact ref_step hB2 hor hro HP.out hlen hB3 h5 hb1 hb2 hwt' hown5 hg5 hown6 hg6 (by omega) (by have := hrr.cut_ (k := 4 + nat4 rest) hwt'; rw [Nat.mul_one, ← List.map_drop] at this; exact this))

end Go.Proofs.Ythcdepjchbahoaa
