/- play: acts on a slab, the handles that it gave. -/
import Derived.Test.YtnfaaaehpfddgaaOn
namespace Go.Proofs.Ytnfaaaehpfddgaa
open Go.RowKit Mem
set_option linter.unusedVariables false

theorem el40 : Elem Try.prog 40 4 (.bool false) 1 1 := ⟨Try.underlying40, by kernel_rfl, rfl, by decide⟩
theorem el41 : Elem Try.prog 41 2 (.int .i64 0) 1 8 := ⟨Try.underlying41, by kernel_rfl, rfl, by decide⟩
def hsC (ps : List Pd) : List Value := ps.flatMap fun p => [Value.int .i64 (p.1 : Int), .int .i64 (p.2.1 : Int)]
def lvC (ps : List Pd) : List Value := ps.map fun p => Value.bool p.2.2.1
def vlC (ps : List Pd) : List Value := ps.map fun p => Value.int .i64 p.2.2.2
theorem hsC_len (ps : List Pd) : (hsC ps).length = ps.length * 2 := by
  induction ps with
  | nil => rfl
  | cons p r ih =>
    rw [show hsC (p :: r) = [Value.int .i64 (p.1 : Int), .int .i64 (p.2.1 : Int)] ++ hsC r from rfl, List.length_append, ih]
    simp only [List.length_cons, List.length_nil]
    omega
theorem hsC_app (a b : List Pd) : hsC (a ++ b) = hsC a ++ hsC b := by unfold hsC; rw [List.flatMap_append]
theorem hsC_at {ps : List Pd} {k : Nat} {p : Pd} (h : ps[k]? = some p) : (hsC ps)[k * 2]? = some (.int .i64 (p.1 : Int)) ∧ (hsC ps)[k * 2 + 1]? = some (.int .i64 (p.2.1 : Int)) := by
  induction ps generalizing k with
  | nil => simp at h
  | cons x r ih =>
    have e : hsC (x :: r) = Value.int .i64 (x.1 : Int) :: Value.int .i64 (x.2.1 : Int) :: hsC r := rfl
    rw [e]
    cases k with
    | zero => simp at h; subst h; exact ⟨rfl, rfl⟩
    | succ k =>
      rw [show (k + 1) * 2 = k * 2 + 1 + 1 by omega]
      simpa using ih (k := k) (by simpa using h)
theorem hsC_set (ps : List Pd) (k : Nat) (p p' : Pd) (h : ps[k]? = some p) (h1 : p'.1 = p.1) (h2 : p'.2.1 = p.2.1) : hsC (ps.set k p') = hsC ps := by
  induction ps generalizing k with
  | nil => simp at h
  | cons x r ih =>
    cases k with
    | zero =>
      simp at h
      subst h
      show [Value.int .i64 (p'.1 : Int), .int .i64 (p'.2.1 : Int)] ++ hsC r = [Value.int .i64 (x.1 : Int), .int .i64 (x.2.1 : Int)] ++ hsC r
      rw [h1, h2]
    | succ k =>
      show [Value.int .i64 (x.1 : Int), .int .i64 (x.2.1 : Int)] ++ hsC (r.set k p') = [Value.int .i64 (x.1 : Int), .int .i64 (x.2.1 : Int)] ++ hsC r
      rw [ih k (by simpa using h)]
theorem lvC_set_same (ps : List Pd) (k : Nat) (p p' : Pd) (h : ps[k]? = some p) (h1 : p'.2.2.1 = p.2.2.1) : lvC (ps.set k p') = lvC ps := by
  unfold lvC
  rw [List.map_set, h1]
  apply List.ext_getElem?
  intro j
  rw [List.getElem?_set]
  by_cases hj : k = j
  · subst hj
    obtain ⟨this, e⟩ := List.getElem?_eq_some_iff.1 h
    simp [this, e]
  · rw [if_neg hj]
theorem vlC_set_same (ps : List Pd) (k : Nat) (p p' : Pd) (h : ps[k]? = some p) (h1 : p'.2.2.2 = p.2.2.2) : vlC (ps.set k p') = vlC ps := by
  unfold vlC
  rw [List.map_set, h1]
  apply List.ext_getElem?
  intro j
  rw [List.getElem?_set]
  by_cases hj : k = j
  · subst hj
    obtain ⟨this, e⟩ := List.getElem?_eq_some_iff.1 h
    simp [this, e]
  · rw [if_neg hj]

structure PlayS (w wr : World) (B g : Nat) (N : Int) (k : Nat) (sl : List S3) (ps : List Pd) (v1 v2 v3 : Value) : Prop where
  s : Sl wr B g N sl
  b : Below B w wr
  r1 : wr.ownsRow B 29 2 v1 ps.length (hsC ps)
  r2 : wr.ownsRow B 4 1 v2 ps.length (lvC ps)
  r3 : wr.ownsRow B 2 1 v3 ps.length (vlC ps)
  p : PInv sl ps
  lN : (lives sl : Int) ≤ N
  pk : ps.length ≤ k
  sk : sl.length ≤ k
  gk : ∀ s ∈ sl, s.1 ≤ k
  sz : B ≤ wr.heap.size
theorem KT4 (cs : Array Value) (fr : Nat × Nat) : ¬ KT (.cells cs 4 fr) := by
  rintro ⟨_, _, _, e, ht⟩
  cases e
  rcases ht with h | h | h <;> cases h
theorem KT2 (cs : Array Value) (fr : Nat × Nat) : ¬ KT (.cells cs 2 fr) := by
  rintro ⟨_, _, _, e, ht⟩
  cases e
  rcases ht with h | h | h <;> cases h
theorem KT38 (cs : Array Value) (fr : Nat × Nat) : ¬ KT (.cells cs 38 fr) := by
  rintro ⟨_, _, _, e, ht⟩
  cases e
  rcases ht with h | h | h <;> cases h

section
variable {w wr w2 : World} {B g k : Nat} {N : Int} {sl sl2 : List S3} {ps : List Pd} {v1 v2 v3 : Value}
theorem PlayS.alloc (h : PlayS w wr B g N k sl ps v1 v2 v3) (o : Obj) : PlayS w (wr.alloc o) B g N k sl ps v1 v2 v3 :=
  ⟨h.s.alloc o, h.b.alloc h.sz o, h.r1.alloc o, h.r2.alloc o, h.r3.alloc o, h.p, h.lN, h.pk, h.sk, h.gk, Nat.le_trans h.sz (by simp)⟩
theorem PlayS.drewN (h : PlayS w wr B g N k sl ps v1 v2 v3) (n : Nat) : PlayS w (wr.drewN n) B g N k sl ps v1 v2 v3 :=
  ⟨h.s.drewN n, ⟨h.b.os, h.b.tape, h.b.output, h.b.size, h.b.block⟩, own_drewN h.r1 n, own_drewN h.r2 n, own_drewN h.r3 n, h.p, h.lN, h.pk, h.sk, h.gk, h.sz⟩
theorem PlayS.next (h : PlayS w wr B g N k sl ps v1 v2 v3) : PlayS w wr B g N (k + 1) sl ps v1 v2 v3 :=
  ⟨h.s, h.b, h.r1, h.r2, h.r3, h.p, h.lN, Nat.le_succ_of_le h.pk, Nat.le_succ_of_le h.sk, fun s hs => Nat.le_succ_of_le (h.gk s hs), h.sz⟩
/-- behind a call of the slab that changed nothing -/
theorem PlayS.left (h : PlayS w wr B g N k sl ps v1 v2 v3) (hL : Left wr B g N sl w2) : PlayS w w2 B g N k sl ps v1 v2 v3 :=
  ⟨hL.1, h.b.trans hL.2.2, own_fr h.r1 hL.2.1 KT29, own_fr h.r2 hL.2.1 KT4, own_fr h.r3 hL.2.1 KT2, h.p, h.lN, h.pk, h.sk, h.gk, Nat.le_trans h.sz hL.2.1.size⟩
end

/-- the slab, the three rows and the act's own block, between the three appends of a Put -/
structure Tri (w0 w : World) (B g R : Nat) (N : Int) (sl : List S3) (cs : Array Value) (v1 v2 v3 : Value) (n1 n2 n3 : Nat) (x1 x2 x3 : List Value) : Prop where
  s : Sl w B g N sl
  b : Below B w0 w
  r1 : w.ownsRow B 29 2 v1 n1 x1
  r2 : w.ownsRow B 4 1 v2 n2 x2
  r3 : w.ownsRow B 2 1 v3 n3 x3
  rb : Blk w R 38 cs
  sz : B ≤ w.heap.size
section
variable {w0 w w' : World} {B g R n1 n2 n3 m : Nat} {N : Int} {sl : List S3} {cs : Array Value} {v1 v2 v3 v : Value} {x1 x2 x3 ys : List Value}
theorem Tri.alloc (h : Tri w0 w B g R N sl cs v1 v2 v3 n1 n2 n3 x1 x2 x3) (o : Obj) : Tri w0 (w.alloc o) B g R N sl cs v1 v2 v3 n1 n2 n3 x1 x2 x3 :=
  ⟨h.s.alloc o, h.b.alloc h.sz o, h.r1.alloc o, h.r2.alloc o, h.r3.alloc o, h.rb.alloc o, Nat.le_trans h.sz (by simp)⟩
theorem Tri.app1 (h : Tri w0 w B g R N sl cs v1 v2 v3 n1 n2 n3 x1 x2 x3) (hg : w.grownBy w' v1.ownBlock) (ho : w'.ownsRow B 29 2 v m ys) : Tri w0 w' B g R N sl cs v v2 v3 m n2 n3 ys x2 x3 :=
  ⟨sl_fr h.s (fr_grown (Fr.refl LT w) h.r1 hg (fun cs fr => ⟨_, _, _, rfl, .inl rfl⟩)) (fun o => LT_KT), below_grown h.b h.sz h.r1 hg, ho, own_grown h.r2 hg (own_own_ne h.r2 h.r1 (by decide)), own_grown h.r3 hg (own_own_ne h.r3 h.r1 (by decide)), h.rb.grown hg (fun e => own_blk_ne h.r1 h.rb (by decide) e.symm), Nat.le_trans h.sz hg.size⟩
theorem Tri.app2 (h : Tri w0 w B g R N sl cs v1 v2 v3 n1 n2 n3 x1 x2 x3) (hg : w.grownBy w' v2.ownBlock) (ho : w'.ownsRow B 4 1 v m ys) : Tri w0 w' B g R N sl cs v1 v v3 n1 m n3 x1 ys x3 :=
  ⟨sl_fr h.s (fr_grown (Fr.refl LT w) h.r2 hg (fun cs fr => ⟨_, _, _, rfl, .inr (.inl rfl)⟩)) (fun o => LT_KT), below_grown h.b h.sz h.r2 hg, own_grown h.r1 hg (own_own_ne h.r1 h.r2 (by decide)), ho, own_grown h.r3 hg (own_own_ne h.r3 h.r2 (by decide)), h.rb.grown hg (fun e => own_blk_ne h.r2 h.rb (by decide) e.symm), Nat.le_trans h.sz hg.size⟩
theorem Tri.app3 (h : Tri w0 w B g R N sl cs v1 v2 v3 n1 n2 n3 x1 x2 x3) (hg : w.grownBy w' v3.ownBlock) (ho : w'.ownsRow B 2 1 v m ys) : Tri w0 w' B g R N sl cs v1 v2 v n1 n2 m x1 x2 ys :=
  ⟨sl_fr h.s (fr_grown (Fr.refl LT w) h.r3 hg (fun cs fr => ⟨_, _, _, rfl, .inr (.inr (.inl rfl))⟩)) (fun o => LT_KT), below_grown h.b h.sz h.r3 hg, own_grown h.r1 hg (own_own_ne h.r1 h.r3 (by decide)), own_grown h.r2 hg (own_own_ne h.r2 h.r3 (by decide)), ho, h.rb.grown hg (fun e => own_blk_ne h.r3 h.rb (by decide) e.symm), Nat.le_trans h.sz hg.size⟩
end

section
variable {w wr w2 : World} {B g k j b c : Nat} {N : Int} {sl sl' : List S3} {ps : List Pd} {v1 v2 v3 : Value} {p p' : Pd}
theorem PlayS.set3 (h : PlayS w wr B g N k sl ps v1 v2 (.slice (some ⟨b, 0, none⟩) ps.length c)) (hL : Left wr B g N sl' w2) (hI : PInv sl' (ps.set j p')) (hp : ps[j]? = some p) (e1 : p'.1 = p.1) (e2 : p'.2.1 = p.2.1) (e3 : p'.2.2.1 = p.2.2.1)
    (hl : (lives sl' : Int) ≤ N) (hs : sl'.length ≤ k) (hg : ∀ s ∈ sl', s.1 ≤ k) : PlayS w (w2.setCell ⟨b, j, none⟩ (.int .i64 p'.2.2.2)) B g N k sl' (ps.set j p') v1 v2 (.slice (some ⟨b, 0, none⟩) (ps.set j p').length c) := by
  have q1 := own_fr h.r1 hL.2.1 KT29
  have q2 := own_fr h.r2 hL.2.1 KT4
  have q3 := own_fr h.r3 hL.2.1 KT2
  have Os := (Only.refl (fun y => y = b) w2).setCell (p := ⟨b, j, none⟩) (.inl rfl) (.int .i64 p'.2.2.2)
  have hbk : ∃ o, w2.heap[b]? = some o ∧ LT o := by
    rcases q3.2 with ⟨e, _⟩ | ⟨g', cap, cur, e, _, hh, _⟩
    · cases e
    · cases e
      exact ⟨_, hh, _, _, _, rfl, .inr (.inr (.inl rfl))⟩
  have st := (q3.stored j (.int .i64 p'.2.2.2)).1
  refine ⟨sl_fr hL.1 (Fr.ofOnly (T := LT) Os (fun y hy => by subst hy; exact hbk)) (fun o => LT_KT), (h.b.trans hL.2.2).trans (Os.below (fun y _ hy => by rw [hy]; exact own_lo q3 (k := b) rfl) (Nat.le_trans h.sz hL.2.1.size)), ?_, ?_, ?_, hI, hl, by rw [List.length_set]; exact h.pk, hs, hg, Nat.le_trans (Nat.le_trans h.sz hL.2.1.size) Os.size⟩
  · rw [hsC_set ps j p p' hp e1 e2, List.length_set]
    exact own_only q1 Os (fun y hy e => own_own_ne q1 q3 (by decide) y hy (by rw [e]; rfl))
  · rw [lvC_set_same ps j p p' hp e3, List.length_set]
    exact own_only q2 Os (fun y hy e => own_own_ne q2 q3 (by decide) y hy (by rw [e]; rfl))
  · rw [List.length_set]
    unfold vlC at st ⊢
    rw [List.map_set]
    exact st
theorem PlayS.set2 (h : PlayS w wr B g N k sl ps v1 (.slice (some ⟨b, 0, none⟩) ps.length c) v3) (hL : Left wr B g N sl' w2) (hI : PInv sl' (ps.set j p')) (hp : ps[j]? = some p) (e1 : p'.1 = p.1) (e2 : p'.2.1 = p.2.1) (e3 : p'.2.2.2 = p.2.2.2)
    (hl : (lives sl' : Int) ≤ N) (hs : sl'.length ≤ k) (hg : ∀ s ∈ sl', s.1 ≤ k) : PlayS w (w2.setCell ⟨b, j, none⟩ (.bool p'.2.2.1)) B g N k sl' (ps.set j p') v1 (.slice (some ⟨b, 0, none⟩) (ps.set j p').length c) v3 := by
  have q1 := own_fr h.r1 hL.2.1 KT29
  have q2 := own_fr h.r2 hL.2.1 KT4
  have q3 := own_fr h.r3 hL.2.1 KT2
  have Os := (Only.refl (fun y => y = b) w2).setCell (p := ⟨b, j, none⟩) (.inl rfl) (.bool p'.2.2.1)
  have hbk : ∃ o, w2.heap[b]? = some o ∧ LT o := by
    rcases q2.2 with ⟨e, _⟩ | ⟨g', cap, cur, e, _, hh, _⟩
    · cases e
    · cases e
      exact ⟨_, hh, _, _, _, rfl, .inr (.inl rfl)⟩
  have st := (q2.stored j (.bool p'.2.2.1)).1
  refine ⟨sl_fr hL.1 (Fr.ofOnly (T := LT) Os (fun y hy => by subst hy; exact hbk)) (fun o => LT_KT), (h.b.trans hL.2.2).trans (Os.below (fun y _ hy => by rw [hy]; exact own_lo q2 (k := b) rfl) (Nat.le_trans h.sz hL.2.1.size)), ?_, ?_, ?_, hI, hl, by rw [List.length_set]; exact h.pk, hs, hg, Nat.le_trans (Nat.le_trans h.sz hL.2.1.size) Os.size⟩
  · rw [hsC_set ps j p p' hp e1 e2, List.length_set]
    exact own_only q1 Os (fun y hy e => own_own_ne q1 q2 (by decide) y hy (by rw [e]; rfl))
  · rw [List.length_set]
    unfold lvC at st ⊢
    rw [List.map_set]
    exact st
  · rw [vlC_set_same ps j p p' hp e3, List.length_set]
    exact own_only q3 Os (fun y hy e => own_own_ne q3 q2 (by decide) y hy (by rw [e]; rfl))
end

set_option maxRecDepth 100000 in
set_option maxHeartbeats 4000000 in
theorem play_any (l : List Op6) (n c B g : Nat) (N : Int) (A : Option Addr) (w : World) (hr : Reads w 0 B 6 A n (op6 l)) (hB : B ≤ w.heap.size) (hS0 : Sl w B g N []) (hN0 : 0 ≤ N) :
    Calls Try.prog 13 #[.pointer (some ⟨g, 0, none⟩), .slice A n c] w fun e w' => ∃ sl ps A1 c1 A2 c2 A3 c3, e = .returned (.tuple #[.slice A1 (List.length ps) c1, .slice A2 (List.length ps) c2, .slice A3 (List.length ps) c3]) ∧ PlayS w w' B g N 300 sl ps (.slice A1 (List.length ps) c1) (.slice A2 (List.length ps) c2) (.slice A3 (List.length ps) c3) := by
  have hl : l.length = n := by have := hr.1; rw [op6_len] at this; omega
  go_enter Try.func13, Try.ntmps13
  go_wp2_with fail
  go_loopw [7, 8, 9, 10] (fun u1 u2 u3 i wr => ∃ (k : Nat) (sl : List S3) (ps : List Pd) (A1 : Option Addr) (c1 : Nat) (A2 : Option Addr) (c2 : Nat) (A3 : Option Addr) (c3 : Nat), k ≤ n ∧ k ≤ 300 ∧ u1 = .slice A1 ps.length c1 ∧ u2 = .slice A2 ps.length c2 ∧ u3 = .slice A3 ps.length c3 ∧ i = .int .i64 (k : Nat) ∧ Hid (PlayS w wr B g N k sl ps (.slice A1 ps.length c1) (.slice A2 ps.length c2) (.slice A3 ps.length c3))) (fun _ _ _ i _ => 300 - (intOf i).toNat)
  case atStart => exact ⟨0, [], [], none, 0, none, 0, none, 0, Nat.zero_le _, Nat.zero_le _, rfl, rfl, rfl, rfl, hS0, Below.refl _ _, World.ownsRow_nil _ _ _ _, World.ownsRow_nil _ _ _ _, World.ownsRow_nil _ _ _ _, pinv_nil, hN0, Nat.le_refl _, Nat.le_refl _, (by intro s hs; cases hs), hB⟩
  case round =>
    obtain ⟨k, sl, ps, A1, c1, A2, c2, A3, c3, hk, hk3, rfl, rfl, rfl, rfl, hP⟩ := hrel
    have hpk := hP.out.pk
    have hsk := hP.out.sk
    by_cases hlt : k < n
    · by_cases h3 : k < 300
      · obtain ⟨b2, o2, rfl, _, hb2, _, hc2⟩ := hr.plain (by omega) (by omega)
        have ho : l[k]? = some (l[k]'(by omega)) := List.getElem?_eq_getElem (by omega)
        have hcs : ∀ r, r < 6 → wr.cell? ⟨b2, o2 + k * 6 + r, none⟩ = (cells6 (l[k]'(by omega)))[r]? := fun r hr6 => by
          rw [hP.out.b.cell hb2, Nat.add_assoc, hc2 _ (by omega), op6_at ho hr6]
        generalize l[k]'(by omega) = op at ho hcs
        obtain ⟨kd, hh, raw, s, gg, x⟩ := op
        have g0 : wr.cell? ⟨b2, o2 + k * 6, none⟩ = some (.int .i64 kd) := hcs 0 (by decide)
        have g1 : wr.cell? ⟨b2, o2 + k * 6 + 1, none⟩ = some (.int .i64 hh) := hcs 1 (by decide)
        have g2 : wr.cell? ⟨b2, o2 + k * 6 + 2, none⟩ = some (.bool raw) := hcs 2 (by decide)
        have g3 : wr.cell? ⟨b2, o2 + k * 6 + 3, none⟩ = some (.int .i64 s) := hcs 3 (by decide)
        have g4 : wr.cell? ⟨b2, o2 + k * 6 + 4, none⟩ = some (.int .i64 gg) := hcs 4 (by decide)
        have g5 : wr.cell? ⟨b2, o2 + k * 6 + 5, none⟩ = some (.int .i64 x) := hcs 5 (by decide)
        have Rb := Blk.new wr 38 #[.int .i64 kd, .int .i64 hh, .bool raw, .int .i64 s, .int .i64 gg, .int .i64 x]
        have q0 : (wr.alloc (.cells #[.int .i64 kd, .int .i64 hh, .bool raw, .int .i64 s, .int .i64 gg, .int .i64 x] 38)).cell? ⟨wr.heap.size, 0, none⟩ = some (.int .i64 kd) := by rw [Rb.cell]; rfl
        have q1 : (wr.alloc (.cells #[.int .i64 kd, .int .i64 hh, .bool raw, .int .i64 s, .int .i64 gg, .int .i64 x] 38)).cell? ⟨wr.heap.size, 1, none⟩ = some (.int .i64 hh) := by rw [Rb.cell]; rfl
        have q5 : (wr.alloc (.cells #[.int .i64 kd, .int .i64 hh, .bool raw, .int .i64 s, .int .i64 gg, .int .i64 x] 38)).cell? ⟨wr.heap.size, 5, none⟩ = some (.int .i64 x) := by rw [Rb.cell]; rfl
        have PA := hide (hP.out.alloc (.cells #[.int .i64 kd, .int .i64 hh, .bool raw, .int .i64 s, .int .i64 gg, .int .i64 x] 38))
        have HR := hide hr
        have HRb := hide Rb
        clear hcs hc2 hr ho Rb hS0
        by_cases k0 : kd = 0
        · subst k0
          by_cases hN : (lives sl : Int) < N
          · have hp := put_ok x PA.out.s hN (by omega) (fun s hs => by have := PA.out.gk s hs; omega)
            obtain ⟨p1, p2, p3⟩ := putS_spec sl x
            have hI := pinv_put PA.out.p x
            have hgk := p3 k PA.out.gk
            generalize ff (grown sl) = m at hp hI
            generalize genOf (grown sl) m = z at hp hI
            generalize putS sl x = sl2 at hp hI p1 p2 hgk
            have HI := hide (And.intro hI (And.intro p1 (And.intro p2 hgk)))
            clear hI p1 p2 p3 hgk
            go_wp2_with fail
            all_goals
              refine hp.mono ?_
              rintro e w2 ⟨rfl, hS2, hF2, hB2⟩
              have T2 : Tri w w2 B g wr.heap.size N sl2 _ (.slice A1 ps.length c1) (.slice A2 ps.length c2) (.slice A3 ps.length c3) ps.length ps.length ps.length (hsC ps) (lvC ps) (vlC ps) := ⟨hS2, PA.out.b.trans hB2, own_fr PA.out.r1 hF2 KT29, own_fr PA.out.r2 hF2 KT4, own_fr PA.out.r3 hF2 KT2, blk_fr HRb.out hF2 KT38, Nat.le_trans PA.out.sz hF2.size⟩
              clear hp q0 q1 q5 hS2 hF2 hB2 g0 g1 g2 g3 g4 g5
              generalize wr.heap.size = R at T2 ⊢
              go_wp2_with (first | (at_builtin; refine pause ?_) | go_in)
              have T3 := (T2.alloc (.cells #[.int .i64 (m : Int), .int .i64 ((z : Int) + 1)] 29)).alloc (.cells #[.int .i64 (m : Int), .int .i64 ((z : Int) + 1)] 29)
              have hlit := Reads.lit (w2.alloc (.cells #[.int .i64 (m : Int), .int .i64 ((z : Int) + 1)] 29)) #[.int .i64 (m : Int), .int .i64 ((z : Int) + 1)] 29 1 2 rfl
              rw [show (w2.alloc (.cells #[.int .i64 (m : Int), .int .i64 ((z : Int) + 1)] 29)).heap.size = w2.heap.size + 1 by simp] at hlit
              refine unpause (wpList_app el27 (.tmp 54) (.tmp 56) T3.r1 hlit (by intro u hu; rcases List.mem_cons.1 hu with rfl | hu; rfl; rcases List.mem_cons.1 hu with rfl | hu; rfl; cases hu) (N := ps.length + 1) (ys := hsC (ps ++ [(m, z + 1, true, x)])) rfl (by rw [hsC_app]; rfl) (by unfold maxLen; omega) (by omega) T3.sz rfl rfl rfl rfl ?_)
              intro A4 c4 w4 hown4 hg4 hb4
              have T4 := T3.app1 hg4 hown4
              clear hlit T2 T3 hown4 hg4 hb4
              go_wp2_with (first | (at_builtin; refine pause ?_) | go_in)
              have T5 := T4.alloc (.cells #[.bool true] 4)
              refine unpause (wpList_app el40 (.tmp 58) (.tmp 59) T5.r2 (Reads.lit w4 #[.bool true] 4 1 1 rfl) (by intro u hu; rcases List.mem_cons.1 hu with rfl | hu; rfl; cases hu) (N := ps.length + 1) (ys := lvC (ps ++ [(m, z + 1, true, x)])) rfl (by simp [lvC]) (by unfold maxLen; omega) (by omega) T5.sz rfl rfl rfl rfl ?_)
              intro A5 c5 w5 hown5 hg5 hb5
              have T6 := T5.app2 hg5 hown5
              have q5 : w5.cell? ⟨R, 5, none⟩ = some (.int .i64 x) := by rw [T6.rb.cell]; rfl
              clear T4 T5 hown5 hg5 hb5
              go_wp2_with (first | (at_builtin; refine pause ?_) | go_in)
              have T7 := T6.alloc (.cells #[.int .i64 x] 2)
              refine unpause (wpList_app el41 (.tmp 61) (.tmp 64) T7.r3 (Reads.lit w5 #[.int .i64 x] 2 1 1 rfl) (by intro u hu; rcases List.mem_cons.1 hu with rfl | hu; rfl; cases hu) (N := ps.length + 1) (ys := vlC (ps ++ [(m, z + 1, true, x)])) rfl (by simp [vlC]) (by unfold maxLen; omega) (by omega) T7.sz rfl rfl rfl rfl ?_)
              intro A6 c6 w6 hown6 hg6 hb6
              have T8 := T7.app3 hg6 hown6
              have hpl : (ps ++ [(m, z + 1, true, x)]).length = ps.length + 1 := by simp
              obtain ⟨hI, p1, p2, hgk⟩ := HI.out
              have hlv := lives_le sl
              have PE : Hid (PlayS w w6 B g N (k + 1) sl2 (ps ++ [(m, z + 1, true, x)]) (.slice A4 (ps.length + 1) c4) (.slice A5 (ps.length + 1) c5) (.slice A6 (ps.length + 1) c6)) :=
                ⟨T8.s, T8.b, by rw [hpl]; exact T8.r1, by rw [hpl]; exact T8.r2, by rw [hpl]; exact T8.r3, hI, by omega, by rw [hpl]; omega, by omega, hgk, T8.sz⟩
              clear T6 T7 T8 hown6 hg6 hb6 q5 hI p1 p2 hgk
              go_wp2_with fail
              go_roundw
              case rel => exact ⟨k + 1, sl2, ps ++ [(m, z + 1, true, x)], A4, c4, A5, c5, A6, c6, hlt, by omega, by rw [hpl], by rw [hpl], by rw [hpl], by go_num, by rw [hpl]; exact PE⟩
              case measure => simp [intOf]; omega
          · have hp := put_full x PA.out.s (by omega)
            go_wp2_with fail
            all_goals
              refine hp.mono ?_
              rintro e w2 ⟨rfl, hL⟩
              have PB := hide ((PA.out.left hL).alloc (.cells #[.int .i64 0, .int .i64 0] 29))
              clear hp q0 q1 q5 hL g0 g1 g2 g3 g4 g5
              go_wp2_with fail
              go_roundw
              case rel => exact ⟨k + 1, sl, ps, A1, c1, A2, c2, A3, c3, hlt, by omega, rfl, rfl, rfl, by go_num, PB.out.next⟩
              case measure => simp [intOf]; omega
        · by_cases k2 : kd = 2
          · subst k2
            have hvd : hh < 0 ∨ (ps.length : Int) ≤ hh ∨ ∃ j : Nat, hh = (j : Int) ∧ j < ps.length := by
              by_cases a : hh < 0
              · exact .inl a
              · by_cases b : (ps.length : Int) ≤ hh
                · exact .inr (.inl b)
                · exact .inr (.inr ⟨hh.toNat, by omega, by omega⟩)
            rcases hvd with hv | hv | ⟨j, rfl, hj⟩
            · go_wp2_with fail
              go_quiet (fail)
              go_wp2_with fail
              go_roundw
              case rel => exact ⟨k + 1, sl, ps, A1, c1, A2, c2, A3, c3, hlt, by omega, rfl, rfl, rfl, by go_num, (PA.out.drewN _).next⟩
              case measure => simp [intOf]; omega
            · go_wp2_with fail
              go_quiet (fail)
              go_wp2_with fail
              go_roundw
              case rel => exact ⟨k + 1, sl, ps, A1, c1, A2, c2, A3, c3, hlt, by omega, rfl, rfl, rfl, by go_num, (PA.out.drewN _).next⟩
              case measure => simp [intOf]; omega
            · obtain ⟨b1, d1, e1⟩ := own_slice PA.out.r1 (by omega)
              cases e1
              obtain ⟨p, hpj⟩ : ∃ p, ps[j]? = some p := ⟨_, List.getElem?_eq_getElem hj⟩
              obtain ⟨s1, g1', lv, vv⟩ := p
              obtain ⟨y0, y1⟩ := hsC_at hpj
              have t0 := own_at PA.out.r1 y0
              have t1 := own_at PA.out.r1 y1
              dsimp only at t0 t1
              obtain ⟨pg1, pg2⟩ := pinv_get PA.out.p hpj
              obtain ⟨z0, z1, z2, hz, i1, i2, i3, i4⟩ := PA.out.p.at_ _ _ _ _ _ hpj
              have hgz := PA.out.gk _ (List.mem_of_getElem? hz)
              clear y0 y1
              go_wp2_with fail
              have HRb2 := hide (HRb.out)
              generalize hWA : wr.alloc (.cells #[.int .i64 2, .int .i64 (j : Int), .bool raw, .int .i64 s, .int .i64 gg, .int .i64 x] 38) = WA at PA HRb2 q0 q1 q5 t0 t1 ⊢
              clear hWA HRb g0 g1 g2 g3 g4 g5
              go_still_tail 10, (by kernel_rfl)
              change wpList _ _ _ _ _ (WA.drewN 1)
              have PD := hide (PA.out.drewN 1)
              have RD := hide (HRb2.out.drewN 1)
              generalize WA.drewN 1 = WD at PD RD ⊢
              clear PA HRb2 q0 q1 q5 t0 t1
              go_wp2_with fail
              refine (set_any (s1 : Int) (g1' : Int) x PD.out.s (by omega)).mono ?_
              rintro e w2 ⟨rfl, hL⟩
              cases lv with
              | true =>
                obtain ⟨f1, _⟩ := pg1 rfl
                obtain ⟨rfl, rfl, rfl⟩ := i3 rfl
                have hss : setS sl s1 z0 x = sl.set s1 (z0, x, true) := by unfold setS; rw [if_pos f1, Int.toNat_natCast, Int.toNat_natCast]
                rw [hss] at hL
                rw [f1]
                obtain ⟨b3, d3, e3⟩ := own_slice PD.out.r3 (by omega)
                cases e3
                have r3' := own_fr PD.out.r3 hL.2.1 KT2
                have ck : w2.cell? ⟨b3, j, none⟩ = some (.int .i64 z1) := own_at r3' (by unfold vlC; rw [List.getElem?_map, hpj]; rfl)
                have fk := r3'.frozenAt j
                have R2 := blk_fr RD.out hL.2.1 KT38
                have q5 : w2.cell? ⟨wr.heap.size, 5, none⟩ = some (.int .i64 x) := by rw [R2.cell]; rfl
                have hlv := lives_set (z0, x, true) hz
                simp only [if_true] at hlv
                have PE := hide (PD.out.set3 (p' := (s1, z0, true, x)) hL (pinv_mod PD.out.p hpj true x x (fun _ => rfl)) hpj rfl rfl rfl (by have := PD.out.lN; omega) (by rw [List.length_set]; exact PD.out.sk) (fun y hy => by
                  rcases List.mem_or_eq_of_mem_set hy with hy | rfl
                  · exact PD.out.gk y hy
                  · exact hgz))
                have hpl : (ps.set j (s1, z0, true, x)).length = ps.length := List.length_set
                clear hL R2 r3' RD PD hss f1
                go_wp2_with fail
                go_roundw
                case rel => exact ⟨k + 1, sl.set s1 (z0, x, true), ps.set j (s1, z0, true, x), _, c1, A2, c2, _, c3, hlt, by omega, by rw [hpl], by rw [hpl], by rw [hpl], by go_num, by have h := PE.out.next; rw [hpl] at h ⊢; exact h⟩
                case measure => simp [intOf]; omega
              | false =>
                obtain ⟨f1, _⟩ := pg2 rfl
                have hss : setS sl s1 g1' x = sl := by unfold setS; rw [if_neg (by rw [f1]; decide)]
                rw [hss] at hL
                rw [f1]
                have PE := hide (PD.out.left hL)
                clear hL RD PD hss f1
                go_wp2_with fail
                go_roundw
                case rel => exact ⟨k + 1, sl, ps, _, c1, A2, c2, A3, c3, hlt, by omega, rfl, rfl, rfl, by go_num, PE.out.next⟩
                case measure => simp [intOf]; omega
          · by_cases k3 : kd = 3
            · subst k3
              have hvd : hh < 0 ∨ (ps.length : Int) ≤ hh ∨ ∃ j : Nat, hh = (j : Int) ∧ j < ps.length := by
                by_cases a : hh < 0
                · exact .inl a
                · by_cases b : (ps.length : Int) ≤ hh
                  · exact .inr (.inl b)
                  · exact .inr (.inr ⟨hh.toNat, by omega, by omega⟩)
              rcases hvd with hv | hv | ⟨j, rfl, hj⟩
              · go_wp2_with fail
                go_roundw
                case rel => exact ⟨k + 1, sl, ps, A1, c1, A2, c2, A3, c3, hlt, by omega, rfl, rfl, rfl, by go_num, PA.out.next⟩
                case measure => simp [intOf]; omega
              · go_wp2_with fail
                go_roundw
                case rel => exact ⟨k + 1, sl, ps, A1, c1, A2, c2, A3, c3, hlt, by omega, rfl, rfl, rfl, by go_num, PA.out.next⟩
                case measure => simp [intOf]; omega
              · obtain ⟨b1, d1, e1⟩ := own_slice PA.out.r1 (by omega)
                cases e1
                obtain ⟨p, hpj⟩ : ∃ p, ps[j]? = some p := ⟨_, List.getElem?_eq_getElem hj⟩
                obtain ⟨s1, g1', lv, vv⟩ := p
                obtain ⟨y0, y1⟩ := hsC_at hpj
                have t0 := own_at PA.out.r1 y0
                have t1 := own_at PA.out.r1 y1
                dsimp only at t0 t1
                obtain ⟨pg1, pg2⟩ := pinv_get PA.out.p hpj
                obtain ⟨z0, z1, z2, hz, i1, i2, i3, i4⟩ := PA.out.p.at_ _ _ _ _ _ hpj
                have hgz := PA.out.gk _ (List.mem_of_getElem? hz)
                clear y0 y1
                go_wp2_with fail
                have HRb2 := hide (HRb.out)
                generalize hWA : wr.alloc (.cells #[.int .i64 3, .int .i64 (j : Int), .bool raw, .int .i64 s, .int .i64 gg, .int .i64 x] 38) = WA at PA HRb2 q0 q1 q5 t0 t1 ⊢
                clear hWA HRb g0 g1 g2 g3 g4 g5
                refine (free_any (s1 : Int) (g1' : Int) PA.out.s (by omega)).mono ?_
                rintro e w2 ⟨rfl, hL⟩
                cases lv with
                | true =>
                  obtain ⟨f1, _⟩ := pg1 rfl
                  obtain ⟨rfl, rfl, rfl⟩ := i3 rfl
                  have hss : freeS sl s1 z0 = sl.set s1 (z0, 0, false) := by unfold freeS; rw [if_pos f1, Int.toNat_natCast, Int.toNat_natCast]
                  rw [hss] at hL
                  rw [f1]
                  obtain ⟨b3, d3, e3⟩ := own_slice PA.out.r2 (by omega)
                  cases e3
                  have r3' := own_fr PA.out.r2 hL.2.1 KT4
                  have ck : w2.cell? ⟨b3, j, none⟩ = some (.bool true) := own_at r3' (by unfold lvC; rw [List.getElem?_map, hpj]; rfl)
                  have fk := r3'.frozenAt j
                  have hlv := lives_set (z0, 0, false) hz
                  simp only [if_true, Bool.false_eq_true, if_false] at hlv
                  have PE := hide (PA.out.set2 (p' := (s1, z0, false, z1)) hL (pinv_mod PA.out.p hpj false 0 z1 (fun e => by cases e)) hpj rfl rfl rfl (by have := PA.out.lN; omega) (by rw [List.length_set]; exact PA.out.sk) (fun y hy => by
                    rcases List.mem_or_eq_of_mem_set hy with hy | rfl
                    · exact PA.out.gk y hy
                    · exact hgz))
                  have hpl : (ps.set j (s1, z0, false, z1)).length = ps.length := List.length_set
                  clear hL r3' HRb2 PA hss f1 q0 q1 q5 t0 t1
                  go_wp2_with fail
                  go_roundw
                  case rel => exact ⟨k + 1, sl.set s1 (z0, 0, false), ps.set j (s1, z0, false, z1), _, c1, _, c2, A3, c3, hlt, by omega, by rw [hpl], by rw [hpl], by rw [hpl], by go_num, by have h := PE.out.next; rw [hpl] at h ⊢; exact h⟩
                  case measure => simp [intOf]; omega
                | false =>
                  obtain ⟨f1, _⟩ := pg2 rfl
                  have hss : freeS sl s1 g1' = sl := by unfold freeS; rw [if_neg (by rw [f1]; decide)]
                  rw [hss] at hL
                  rw [f1]
                  have PE := hide (PA.out.left hL)
                  clear hL HRb2 PA hss f1 q0 q1 q5 t0 t1
                  go_wp2_with fail
                  go_roundw
                  case rel => exact ⟨k + 1, sl, ps, _, c1, A2, c2, A3, c3, hlt, by omega, rfl, rfl, rfl, by go_num, PE.out.next⟩
                  case measure => simp [intOf]; omega
            · go_wp2_with fail
              all_goals
                go_roundw
                case rel => exact ⟨k + 1, sl, ps, A1, c1, A2, c2, A3, c3, hlt, by omega, rfl, rfl, rfl, by go_num, PA.out.next⟩
                case measure => simp [intOf]; omega
      · have hk' : k = 300 := by omega
        subst hk'
        go_wp2_with fail
        refine bodyPost_ret (results_tmp3 rfl _ _ _) rfl ?_
        exact ⟨sl, ps, A1, c1, A2, c2, A3, c3, rfl, hP.out⟩
    · have hP' : Hid (PlayS w wr B g N 300 sl ps (.slice A1 ps.length c1) (.slice A2 ps.length c2) (.slice A3 ps.length c3)) := by
        have h := hP.out
        exact ⟨h.s, h.b, h.r1, h.r2, h.r3, h.p, h.lN, by omega, by omega, fun s hs => by have := h.gk s hs; omega, h.sz⟩
      go_wp2_with fail
      refine bodyPost_ret (results_tmp3 rfl _ _ _) rfl ?_
      exact ⟨sl, ps, A1, c1, A2, c2, A3, c3, rfl, hP'.out⟩
end Go.Proofs.Ytnfaaaehpfddgaa
