/- SlabDoes: the slab and the reference, act for act. -/
import Derived.Test.YtnfaaaehpfddgaaAg
import Derived.Deep.LoopGhost
import Derived.Deep.CutRange
import Derived.Deep.RegionWith
import Derived.Deep.RegionHeld3
import Derived.BigQuiet
namespace Go.Proofs.Ytnfaaaehpfddgaa
open Go.RowKit Mem Go.Deep Go.ChangeShapes Go.WideShapes
set_option linter.unusedVariables false

/-- the slab, the reference and the row of handles -/
structure M6 (w wr : World) (r : Nat) (most : Int) (sl rl : List S3) (hs : List (Int × Int)) (v : Value) : Prop where
  s : Sl wr w.heap.size w.heap.size most sl
  q : Rs wr w.heap.size r most rl
  o : wr.ownsRow w.heap.size 29 2 v hs.length (hC hs)
  b : Below w.heap.size w wr
structure D6 (w wr : World) (r : Nat) (most : Int) (k : Nat) (sl rl : List S3) (hs : List (Int × Int)) (v : Value) : Prop where
  m : M6 w wr r most sl rl hs v
  ag : Agree sl rl
  hk : hs.length ≤ k
  sk : sl.length ≤ k
  gk : ∀ s ∈ sl, s.1 ≤ k
section
variable {w wr w2 : World} {r k : Nat} {most : Int} {sl rl sl' rl' : List S3} {hs : List (Int × Int)} {v : Value}
theorem M6.alloc (h : M6 w wr r most sl rl hs v) (o : Obj) : M6 w (wr.alloc o) r most sl rl hs v := ⟨h.s.alloc o, h.q.alloc o, h.o.alloc o, h.b.alloc h.b.size o⟩
theorem M6.drewN (h : M6 w wr r most sl rl hs v) (n : Nat) : M6 w (wr.drewN n) r most sl rl hs v := ⟨h.s.drewN n, h.q.drewN n, own_drewN h.o n, ⟨h.b.os, h.b.tape, h.b.output, h.b.size, h.b.block⟩⟩
theorem M6.left (h : M6 w wr r most sl rl hs v) (hL : Left wr w.heap.size w.heap.size most sl' w2) : M6 w w2 r most sl' rl hs v :=
  ⟨hL.1, rs_fr h.q hL.2.1 (fun o => KT_RT), own_fr h.o hL.2.1 KT29, h.b.trans hL.2.2⟩
theorem M6.rleft (h : M6 w wr r most sl rl hs v) (hL : RLeft wr w.heap.size r most rl' w2) : M6 w w2 r most sl rl' hs v :=
  ⟨sl_fr h.s hL.2.1 (fun o => RT_KT), hL.1, own_fr h.o hL.2.1 RT29, h.b.trans hL.2.2⟩
theorem M6.same (h : M6 w wr r most sl rl hs v) (ho : Only (fun _ => False) wr w2) : M6 w w2 r most sl rl hs v := h.left (left_same h.s ho)
theorem D6.drewN (h : D6 w wr r most k sl rl hs v) (n : Nat) : D6 w (wr.drewN n) r most k sl rl hs v := ⟨h.m.drewN n, h.ag, h.hk, h.sk, h.gk⟩
theorem D6.next (h : D6 w wr r most k sl rl hs v) (h2 : M6 w w2 r most sl rl hs v) : D6 w w2 r most (k + 1) sl rl hs v := ⟨h2, h.ag, Nat.le_succ_of_le h.hk, Nat.le_succ_of_le h.sk, fun s hs => Nat.le_succ_of_le (h.gk s hs)⟩
end
section
variable {w : World} {B g r : Nat} {most : Int} {sl rl : List S3}
theorem live_q (h : Sl w B g most sl) (n : Nat) : Calls Try.prog 10 #[.pointer (some ⟨g, 0, none⟩)] (w.drewN n) fun e w'' => e = .returned (.int .i64 (lives sl : Int)) ∧ ∃ m, w'' = w.drewN m := by
  refine (live_any (h.drewN n)).mono ?_
  rintro e w' ⟨rfl, rfl⟩
  exact ⟨rfl, n, rfl⟩
theorem slots_q (h : Sl w B g most sl) (n : Nat) : Calls Try.prog 11 #[.pointer (some ⟨g, 0, none⟩)] (w.drewN n) fun e w'' => e = .returned (.int .i64 (sl.length : Int)) ∧ ∃ m, w'' = w.drewN m := by
  refine (slots_any (h.drewN n)).mono ?_
  rintro e w' ⟨rfl, rfl⟩
  exact ⟨rfl, n, rfl⟩
theorem refcount_q (h : Rs w B r most rl) (ha : Agree sl rl) (hn : sl.length ≤ 4294967296) (n : Nat) : Calls Try.prog 22 #[.pointer (some ⟨r, 0, none⟩)] (w.drewN n) fun e w'' => e = .returned (.int .i64 (lives sl : Int)) ∧ ∃ m, w'' = w.drewN m := by
  refine (refcount_any (h.drewN n) (by rw [ha.len]; exact hn)).mono ?_
  rintro e w' ⟨rfl, rfl⟩
  exact ⟨by rw [ha.lives], n, rfl⟩
theorem rs_live (h : Rs w B r most rl) (ha : Agree sl rl) : ∃ A c, w.cell? ⟨r, 3, none⟩ = some (.slice A sl.length c) := by
  obtain ⟨vG, vV, vL, h⟩ := h
  obtain ⟨A, c, rfl, _⟩ := own_form h.oL
  refine ⟨A, c, ?_⟩
  rw [h.blk.cell, ← ha.len]
  rfl
/-- both answer a Put alike -/
theorem put_both {k : Nat} (x : Int) (hag : Agree sl rl) (sk : sl.length ≤ k) (gk : ∀ s ∈ sl, s.1 ≤ k) (hk : k < 300) : ∃ (p1 p2 pe : Int) (sl' rl' : List S3), Agree sl' rl' ∧ sl'.length ≤ k + 1 ∧ (∀ s ∈ sl', s.1 ≤ k + 1) ∧
    (∀ W B g, Sl W B g most sl → Calls Try.prog 8 #[.pointer (some ⟨g, 0, none⟩), .int .i64 x] W fun e w' => e = .returned (.tuple #[.agg #[.int .i64 p1, .int .i64 p2], .int .i64 pe]) ∧ Left W B g most sl' w') ∧
    (∀ W B r, Rs W B r most rl → Calls Try.prog 17 #[.pointer (some ⟨r, 0, none⟩), .int .i64 x] W fun e w' => e = .returned (.tuple #[.agg #[.int .i64 p1, .int .i64 p2], .int .i64 pe]) ∧ RLeft W B r most rl' w') := by
  have hl := lives_le sl
  have hrl := hag.len
  by_cases hf : most ≤ (lives sl : Int)
  · exact ⟨0, 0, 8, sl, rl, hag, Nat.le_succ_of_le sk, fun s hs => Nat.le_succ_of_le (gk s hs), fun W B g h => put_full x h hf, fun W B r h => refput_full x h (by rw [hag.lives]; exact hf) (by omega)⟩
  · obtain ⟨p1, p2, p3⟩ := putS_spec sl x
    refine ⟨(ff (grown sl) : Int), (genOf (grown sl) (ff (grown sl)) : Int) + 1, 0, putS sl x, putS rl x, hag.put x, by omega, p3 k gk, fun W B g h => put_ok x h (by omega) (by omega) (fun s hs => by have := gk s hs; omega), fun W B r h => ?_⟩
    have := refput_ok x h (by rw [hag.lives]; omega) (by omega) (fun s hs => by have := agree_gk hag gk s hs; omega)
    rw [hag.ff, hag.gen] at this
    exact this
end

set_option maxRecDepth 100000 in
set_option maxHeartbeats 8000000 in
theorem does_any (most : Int) (l : List Op6) (n c : Nat) (A : Option Addr) (w : World) (hr : Reads w 0 w.heap.size 6 A n (op6 l)) :
    Calls Try.prog 6 #[.int .i64 most, .slice A n c] w fun e w' => e = .returned (.bool true) ∧ Below w.heap.size w w' := by
  have hl : l.length = n := by have := hr.1; rw [op6_len] at this; omega
  by_cases hbad : most < 1 ∨ 65536 < most
  · go_enter Try.func6, Try.ntmps6
    go_wp2_with fail
    refine (new_bad w most hbad).mono ?_
    rintro e w1 ⟨rfl, rfl⟩
    go_wp2_with fail
    refine (refnew_bad w most hbad).mono ?_
    rintro e w1 ⟨rfl, rfl⟩
    clear hbad
    go_wp2_with fail
    refine (works_any _).mono ?_
    rintro e w2 ⟨rfl, b2⟩
    go_wp2
    go_ret
    exact ⟨rfl, b2⟩
  have hm1 : 1 ≤ most := by omega
  have hm2 : most ≤ 65536 := by omega
  clear hbad
  go_enter Try.func6, Try.ntmps6
  go_wp2_with fail
  refine (new_any w most hm1 hm2).mono ?_
  rintro e w1 ⟨rfl, h1, b1, s1⟩
  go_wp2_with fail
  refine (refnew_any w1 w.heap.size most hm1 hm2 (Nat.le_of_lt s1)).mono ?_
  rintro e w2 ⟨rfl, h2, b2, s2⟩
  have D0 : Hid (D6 w w2 w1.heap.size most 0 [] [] [] (.slice none 0 0)) := ⟨⟨sl_fr h1 (Fr.ofBelow (T := fun _ => False) b2) (fun _ _ => id), h2, World.ownsRow_nil _ _ _ _, b1.trans (b2.mono (Nat.le_of_lt s1))⟩, Agree.nil, Nat.le_refl _, Nat.le_refl _, by intro s hs; cases hs⟩
  generalize w1.heap.size = r at D0 ⊢
  clear h1 h2 b1 b2 s1 s2
  go_wp2_with fail
  go_loopg [9, 10] 300 (fun m hv i wr => ∃ (k : Nat) (hs : List (Int × Int)) (A0 : Option Addr) (c0 : Nat), k ≤ n ∧ k + m = 300 ∧ hv = .slice A0 (List.length hs) c0 ∧ i = .int .i64 (k : Nat) ∧ Hid (∃ sl rl, D6 w wr r most k sl rl hs (.slice A0 hs.length c0)))
  case atStart => exact ⟨0, [], none, 0, Nat.zero_le _, rfl, rfl, rfl, [], [], D0.out⟩
  case round =>
    clear D0
    obtain ⟨k, hs, A0, c0, hk, hm, rfl, rfl, hS⟩ := hrel
    obtain ⟨sl, rl, hD⟩ := hS.out
    clear hS
    by_cases hlt : k < n
    · by_cases h3 : k < 300
      · obtain ⟨b2, o2, rfl, _, hb2, _, hc2⟩ := hr.plain (by omega) (by omega)
        have ho : l[k]? = some (l[k]'(by omega)) := List.getElem?_eq_getElem (by omega)
        have hcs : ∀ j, j < 6 → wr.cell? ⟨b2, o2 + k * 6 + j, none⟩ = (cells6 (l[k]'(by omega)))[j]? := fun j hr6 => by
          rw [hD.m.b.cell hb2, Nat.add_assoc, hc2 _ (by omega), op6_at ho hr6]
        generalize l[k]'(by omega) = op at ho hcs
        obtain ⟨kd, hh, raw, s, gg, x⟩ := op
        have g0 : wr.cell? ⟨b2, o2 + k * 6, none⟩ = some (.int .i64 kd) := hcs 0 (by decide)
        have g1 : wr.cell? ⟨b2, o2 + k * 6 + 1, none⟩ = some (.int .i64 hh) := hcs 1 (by decide)
        have g2 : wr.cell? ⟨b2, o2 + k * 6 + 2, none⟩ = some (.bool raw) := hcs 2 (by decide)
        have g3 : wr.cell? ⟨b2, o2 + k * 6 + 3, none⟩ = some (.int .i64 s) := hcs 3 (by decide)
        have g4 : wr.cell? ⟨b2, o2 + k * 6 + 4, none⟩ = some (.int .i64 gg) := hcs 4 (by decide)
        have g5 : wr.cell? ⟨b2, o2 + k * 6 + 5, none⟩ = some (.int .i64 x) := hcs 5 (by decide)
        have Rb := Blk.new wr 38 #[.int .i64 kd, .int .i64 hh, .bool raw, .int .i64 s, .int .i64 gg, .int .i64 x]
        have q0 : (wr.alloc (.cells #[.int .i64 kd, .int .i64 hh, .bool raw, .int .i64 s, .int .i64 gg, .int .i64 x] 38)).cell? ⟨wr.heap.size, 0, none⟩ = some (.int .i64 kd) := by rw [Rb.cell]; rfl
        have q1 : (wr.alloc (.cells #[.int .i64 kd, .int .i64 hh, .bool raw, .int .i64 s, .int .i64 gg, .int .i64 x] 38)).cell? ⟨wr.heap.size, 1, none⟩ = some (.int .i64 hh) := by rw [Rb.cell]; rfl
        have q2 : (wr.alloc (.cells #[.int .i64 kd, .int .i64 hh, .bool raw, .int .i64 s, .int .i64 gg, .int .i64 x] 38)).cell? ⟨wr.heap.size, 2, none⟩ = some (.bool raw) := by rw [Rb.cell]; rfl
        have q3 : (wr.alloc (.cells #[.int .i64 kd, .int .i64 hh, .bool raw, .int .i64 s, .int .i64 gg, .int .i64 x] 38)).cell? ⟨wr.heap.size, 3, none⟩ = some (.int .i64 s) := by rw [Rb.cell]; rfl
        have q4 : (wr.alloc (.cells #[.int .i64 kd, .int .i64 hh, .bool raw, .int .i64 s, .int .i64 gg, .int .i64 x] 38)).cell? ⟨wr.heap.size, 4, none⟩ = some (.int .i64 gg) := by rw [Rb.cell]; rfl
        have q5 : (wr.alloc (.cells #[.int .i64 kd, .int .i64 hh, .bool raw, .int .i64 s, .int .i64 gg, .int .i64 x] 38)).cell? ⟨wr.heap.size, 5, none⟩ = some (.int .i64 x) := by rw [Rb.cell]; rfl
        have HR := hide hr
        have hag := hD.ag
        have hhk := hD.hk
        have hsk := hD.sk
        have hgk := hD.gk
        have MA := hD.m.alloc (.cells #[.int .i64 kd, .int .i64 hh, .bool raw, .int .i64 s, .int .i64 gg, .int .i64 x] 38)
        have HDD := hide hD
        clear hcs hc2 hr ho hD
        go_wp2_with fail
        refine (handle_any kd hh s gg x raw MA.o (by omega)).mono ?_
        rintro e w4 ⟨⟨a1, a2, rfl⟩, o4⟩
        have M4 := hide (MA.same o4)
        have R4 := Rb.only o4 id
        clear MA Rb q0 q1 q2 q3 q4 q5 g0 g1 g2 g3 g4 g5 o4
        generalize wr.heap.size = R at R4 ⊢
        -- behind the handle
        have P4 := Blk.new w4 29 #[.int .i64 a1, .int .i64 a2]
        have R5 := R4.alloc (.cells #[.int .i64 a1, .int .i64 a2] 29)
        have M5 := hide (M4.out.alloc (.cells #[.int .i64 a1, .int .i64 a2] 29))
        have q0 : (w4.alloc (.cells #[.int .i64 a1, .int .i64 a2] 29)).cell? ⟨R, 0, none⟩ = some (.int .i64 kd) := by rw [R5.cell]; rfl
        have q5 : (w4.alloc (.cells #[.int .i64 a1, .int .i64 a2] 29)).cell? ⟨R, 5, none⟩ = some (.int .i64 x) := by rw [R5.cell]; rfl
        have u0 : (w4.alloc (.cells #[.int .i64 a1, .int .i64 a2] 29)).cell? ⟨w4.heap.size, 0, none⟩ = some (.int .i64 a1) := by rw [P4.cell]; rfl
        have u1 : (w4.alloc (.cells #[.int .i64 a1, .int .i64 a2] 29)).cell? ⟨w4.heap.size, 1, none⟩ = some (.int .i64 a2) := by rw [P4.cell]; rfl
        have HB := hide (And.intro R5 P4)
        clear R4 R5 P4 M4
        by_cases k0 : kd = 0
        · subst k0
          obtain ⟨p1, p2, pe, sl', rl', ag', sk', gk', hp8, hp17⟩ := put_both (most := most) x hag hsk hgk h3
          go_wp2_with fail
          refine (hp8 _ _ _ M5.out.s).mono ?_
          rintro e w5 ⟨rfl, hL⟩
          have M6a := M5.out.left hL
          have R6 := blk_fr HB.out.1 hL.2.1 KT38
          have P6 := Blk.new w5 29 #[.int .i64 p1, .int .i64 p2]
          have M7 := M6a.alloc (.cells #[.int .i64 p1, .int .i64 p2] 29)
          have R7 := R6.alloc (.cells #[.int .i64 p1, .int .i64 p2] 29)
          have q5 : (w5.alloc (.cells #[.int .i64 p1, .int .i64 p2] 29)).cell? ⟨R, 5, none⟩ = some (.int .i64 x) := by rw [R7.cell]; rfl
          have M7 := hide M7
          clear hL M6a R6 M5 HB u0 u1 q0 R7
          go_wp2_with fail
          refine (hp17 _ _ _ M7.out.q).mono ?_
          rintro e w6 ⟨rfl, hL⟩
          have M8 := hide (M7.out.rleft hL)
          have P8 := blk_fr P6 hL.2.1 RT29
          have P9 := P8.alloc (.cells #[.int .i64 p1, .int .i64 p2] 29)
          generalize w5.heap.size = r5 at P6 P8 P9 ⊢
          have N9 := Blk.new w6 29 #[.int .i64 p1, .int .i64 p2]
          have t0 : (w6.alloc (.cells #[.int .i64 p1, .int .i64 p2] 29)).cell? ⟨r5, 0, none⟩ = some (.int .i64 p1) := by rw [P9.cell]; rfl
          have t1 : (w6.alloc (.cells #[.int .i64 p1, .int .i64 p2] 29)).cell? ⟨r5, 1, none⟩ = some (.int .i64 p2) := by rw [P9.cell]; rfl
          have t2 : (w6.alloc (.cells #[.int .i64 p1, .int .i64 p2] 29)).cell? ⟨w6.heap.size, 0, none⟩ = some (.int .i64 p1) := by rw [N9.cell]; rfl
          have t3 : (w6.alloc (.cells #[.int .i64 p1, .int .i64 p2] 29)).cell? ⟨w6.heap.size, 1, none⟩ = some (.int .i64 p2) := by rw [N9.cell]; rfl
          clear hL P6 P8 P9 N9 M7 hp8 hp17 q5
          go_wp2_with (first | (at_builtin; refine pause ?_) | go_in)
          have M9 := (M8.out.alloc (.cells #[.int .i64 p1, .int .i64 p2] 29)).alloc (.cells #[.int .i64 p1, .int .i64 p2] 29)
          have hlit := Reads.lit (w6.alloc (.cells #[.int .i64 p1, .int .i64 p2] 29)) #[.int .i64 p1, .int .i64 p2] 29 1 2 rfl
          rw [show (w6.alloc (.cells #[.int .i64 p1, .int .i64 p2] 29)).heap.size = w6.heap.size + 1 by simp] at hlit
          refine unpause (wpList_app el27 (.tmp 101) (.tmp 103) M9.o hlit (by intro u hu; rcases List.mem_cons.1 hu with rfl | hu; rfl; rcases List.mem_cons.1 hu with rfl | hu; rfl; cases hu) (N := hs.length + 1) (ys := hC (hs ++ [(p1, p2)])) rfl (by rw [hC_app]; rfl) (by unfold maxLen; omega) (by omega) M9.b.size rfl rfl rfl rfl ?_)
          intro A7 c7 w7 hown7 hg7 hb7
          have hpl : (hs ++ [(p1, p2)]).length = hs.length + 1 := by simp
          have F7 : Fr LT _ w7 := fr_grown (Fr.refl LT _) M9.o hg7 (fun cs fr => ⟨_, _, _, rfl, .inl rfl⟩)
          have F7' : Fr (fun o => ∃ cs fr, o = .cells cs 29 fr) _ w7 := fr_grown (Fr.refl _ _) M9.o hg7 (fun cs fr => ⟨_, _, rfl⟩)
          have D : D6 w w7 r most (k + 1) sl' rl' (hs ++ [(p1, p2)]) (.slice A7 (hs.length + 1) c7) := ⟨⟨sl_fr M9.s F7 (fun o => LT_KT), rs_fr M9.q F7' (fun o ho => by rintro ⟨cs, fr, rfl⟩; exact RT29 _ _ ho), by rw [hpl]; exact hown7, below_grown M9.b M9.b.size M9.o hg7⟩, ag', by rw [hpl]; omega, sk', gk'⟩
          clear M9 hlit hown7 hg7 hb7 F7 F7' M8 t0 t1 t2 t3 ag' sk' gk' hag hgk hsk HDD
          go_wp2_with fail
          have hE : ∃ sl rl, D6 w (w7) r most (k + 1) sl rl (hs ++ [(p1, p2)]) (.slice A7 (hs.length + 1) c7) := ⟨_, _, D⟩
          clear D
          obtain ⟨sl', rl', hD⟩ := hE
          have C10 := hide (live_q hD.m.s)
          have C22 := hide (refcount_q hD.m.q hD.ag (by have := hD.sk; omega))
          have C11 := hide (slots_q hD.m.s)
          obtain ⟨AL, cL, f3⟩ := rs_live hD.m.q hD.ag
          have HD2 := hide hD
          clear hD
          go_quiet ((first | (go_at_call 10; exact C10.out _) | (go_at_call 22; exact C22.out _) | (go_at_call 11; exact C11.out _)))
          go_wp2_with fail
          go_roundg (gk - 1)
          case measure => omega
          case rel => exact ⟨k + 1, hs ++ [(p1, p2)], A7, c7, by omega, by omega, by rw [hpl], by go_num, ⟨_, _, by rw [hpl]; exact HD2.out.drewN _⟩⟩

        · by_cases k1 : kd = 1
          · subst k1
            have e1 := hag.fnd a1 a2
            have e2 := hag.getV a1 a2
            go_wp2_with fail
            refine (get_any a1 a2 M5.out.s (by omega)).mono ?_
            rintro e w5 ⟨rfl, o5⟩
            have M6a := hide (M5.out.same o5)
            have P6 := HB.out.2.only o5 id
            have u0 : w5.cell? ⟨w4.heap.size, 0, none⟩ = some (.int .i64 a1) := by rw [P6.cell]; rfl
            have u1 : w5.cell? ⟨w4.heap.size, 1, none⟩ = some (.int .i64 a2) := by rw [P6.cell]; rfl
            clear o5 M5 HB q0 q5 P6
            go_wp2_with fail
            refine (refget_any a1 a2 M6a.out.q (by rw [hag.len]; omega)).mono ?_
            rintro e w6 ⟨rfl, o6⟩
            rw [e1, e2]
            clear e1 e2
            have D := HDD.out.next (M6a.out.same o6)
            clear o6 u0 u1 M6a hag hgk hsk HDD
            go_wp2_with fail
            have hE : ∃ sl rl, D6 w (w6) r most (k + 1) sl rl (hs) (.slice A0 hs.length c0) := ⟨_, _, D⟩
            clear D
            obtain ⟨sl', rl', hD⟩ := hE
            have C10 := hide (live_q hD.m.s)
            have C22 := hide (refcount_q hD.m.q hD.ag (by have := hD.sk; omega))
            have C11 := hide (slots_q hD.m.s)
            obtain ⟨AL, cL, f3⟩ := rs_live hD.m.q hD.ag
            have HD2 := hide hD
            clear hD
            go_quiet ((first | (go_at_call 10; exact C10.out _) | (go_at_call 22; exact C22.out _) | (go_at_call 11; exact C11.out _)))
            go_wp2_with fail
            go_roundg (gk - 1)
            case measure => omega
            case rel => exact ⟨k + 1, hs, A0, c0, by omega, by omega, rfl, by go_num, ⟨_, _, HD2.out.drewN _⟩⟩

          · by_cases k2 : kd = 2
            · subst k2
              have hs1 : ∀ W, Sl W w.heap.size w.heap.size most sl → Calls Try.prog 19 #[.pointer (some ⟨w.heap.size, 0, none⟩), .agg #[.int .i64 a1, .int .i64 a2], .int .i64 x] W fun e w' => e = .returned (.int .i64 (fnd sl a1 a2)) ∧ Left W w.heap.size w.heap.size most (setS sl a1 a2 x) w' := fun W h => set_any a1 a2 x h (by omega)
              have hs2 : ∀ W, Rs W w.heap.size r most rl → Calls Try.prog 20 #[.pointer (some ⟨r, 0, none⟩), .agg #[.int .i64 a1, .int .i64 a2], .int .i64 x] W fun e w' => e = .returned (.int .i64 (fnd sl a1 a2)) ∧ RLeft W w.heap.size r most (setS rl a1 a2 x) w' := fun W h => by
                have := refset_any a1 a2 x h (by rw [hag.len]; omega)
                rw [hag.fnd] at this
                exact this
              generalize fnd sl a1 a2 = F at hs1 hs2
              have hfin : Hid (∀ wx, M6 w wx r most (setS sl a1 a2 x) (setS rl a1 a2 x) hs (.slice A0 hs.length c0) → ∃ sl rl, D6 w wx r most (k + 1) sl rl hs (.slice A0 hs.length c0)) := fun wx h => ⟨_, _, h, hag.setS a1 a2 x, Nat.le_succ_of_le hhk, by rw [(setS_spec sl a1 a2 x).1]; exact Nat.le_succ_of_le hsk, fun y hy => Nat.le_succ_of_le ((setS_spec sl a1 a2 x).2 k hgk y hy)⟩
              have hS1 := hide hs1
              have hS2 := hide hs2
              clear hs1 hs2
              go_upto_region 24 with fail
              generalize w4.alloc (.cells #[.int .i64 a1, .int .i64 a2] 29) = WB at M5 HB q0 q5 u0 u1 ⊢
              generalize w4.heap.size = r4 at HB u0 u1 ⊢
              have hK0 := hide (M5.out.drewN 1)
              have hQ0 := hide (HB.out.1.drewN 1)
              have hP0 := hide (HB.out.2.drewN 1)
              clear q0 M5 HB hag hgk hsk HDD
              go_cut [139] from 58 to 163 (fun t wx => t = .bool false ∧ Hid (∃ sl rl, D6 w wx r most (k + 1) sl rl hs (.slice A0 hs.length c0)))
              case first =>
                go_region_held3 (fun w' => w'.cell? ⟨r4, 0, none⟩ = some (.int .i64 a1) ∧ w'.cell? ⟨r4, 1, none⟩ = some (.int .i64 a2) ∧ w'.cell? ⟨R, 5, none⟩ = some (.int .i64 x)) (first | exact ⟨z0, z1, z5⟩ | exact ⟨u0, u1, q5⟩) (first
                  | (go_at_call 19; refine (hS1.out _ ?hk).mono ?_; (case hk => first | exact (hK0.out.rleft hL2.out).s | exact hK0.out.s); intro e w5 h9; obtain ⟨rfl, h9'⟩ := h9; have hL1 := hide h9'; clear h9'; have hP9 : Blk w5 r4 29 #[.int .i64 a1, .int .i64 a2] := (by first | exact blk_fr (blk_fr hP0.out hL2.out.2.1 RT29) hL1.out.2.1 KT29 | exact blk_fr hP0.out hL1.out.2.1 KT29); have hQ9 : Blk w5 R 38 _ := (by first | exact blk_fr (blk_fr hQ0.out hL2.out.2.1 RT38) hL1.out.2.1 KT38 | exact blk_fr hQ0.out hL1.out.2.1 KT38); have z0 : w5.cell? ⟨r4, 0, none⟩ = some (.int .i64 a1) := (by rw [hP9.cell]; rfl); have z1 : w5.cell? ⟨r4, 1, none⟩ = some (.int .i64 a2) := (by rw [hP9.cell]; rfl); have z5 : w5.cell? ⟨R, 5, none⟩ = some (.int .i64 x) := (by rw [hQ9.cell]; rfl))
                  | (go_at_call 20; refine (hS2.out _ ?hk).mono ?_; (case hk => first | exact (hK0.out.left hL1.out).q | exact hK0.out.q); intro e w5 h9; obtain ⟨rfl, h9'⟩ := h9; have hL2 := hide h9'; clear h9'; have hP9 : Blk w5 r4 29 #[.int .i64 a1, .int .i64 a2] := (by first | exact blk_fr (blk_fr hP0.out hL1.out.2.1 KT29) hL2.out.2.1 RT29 | exact blk_fr hP0.out hL2.out.2.1 RT29); have hQ9 : Blk w5 R 38 _ := (by first | exact blk_fr (blk_fr hQ0.out hL1.out.2.1 KT38) hL2.out.2.1 RT38 | exact blk_fr hQ0.out hL2.out.2.1 RT38); have z0 : w5.cell? ⟨r4, 0, none⟩ = some (.int .i64 a1) := (by rw [hP9.cell]; rfl); have z1 : w5.cell? ⟨r4, 1, none⟩ = some (.int .i64 a2) := (by rw [hP9.cell]; rfl); have z5 : w5.cell? ⟨R, 5, none⟩ = some (.int .i64 x) := (by rw [hQ9.cell]; rfl)))
                all_goals (try go_wp2_with fail)
                all_goals go_meet
                all_goals refine ⟨by simp, ?_⟩
                all_goals first
                  | exact hfin.out _ ((hK0.out.left hL1.out).rleft hL2.out)
                  | exact hfin.out _ ((hK0.out.rleft hL2.out).left hL1.out)
              case rest =>
                obtain ⟨rfl, hE1⟩ := hcut
                obtain ⟨sl1, rl1, D⟩ := hE1.out
                clear hE1 hK0 hQ0 hP0 hfin hS1 hS2 u0 u1 q5
                go_wp2_with fail
                have hE : ∃ sl rl, D6 w (wc) r most (k + 1) sl rl (hs) (.slice A0 hs.length c0) := ⟨_, _, D⟩
                clear D
                obtain ⟨sl', rl', hD⟩ := hE
                have C10 := hide (live_q hD.m.s)
                have C22 := hide (refcount_q hD.m.q hD.ag (by have := hD.sk; omega))
                have C11 := hide (slots_q hD.m.s)
                obtain ⟨AL, cL, f3⟩ := rs_live hD.m.q hD.ag
                have HD2 := hide hD
                clear hD
                go_quiet ((first | (go_at_call 10; exact C10.out _) | (go_at_call 22; exact C22.out _) | (go_at_call 11; exact C11.out _)))
                go_wp2_with fail
                go_roundg (gk - 1)
                case measure => omega
                case rel => exact ⟨k + 1, hs, A0, c0, by omega, by omega, rfl, by go_num, ⟨_, _, HD2.out.drewN _⟩⟩
            · by_cases k3 : kd = 3
              · subst k3
                have hs1 : ∀ W, Sl W w.heap.size w.heap.size most sl → Calls Try.prog 9 #[.pointer (some ⟨w.heap.size, 0, none⟩), .agg #[.int .i64 a1, .int .i64 a2]] W fun e w' => e = .returned (.int .i64 (fnd sl a1 a2)) ∧ Left W w.heap.size w.heap.size most (freeS sl a1 a2) w' := fun W h => free_any a1 a2 h (by omega)
                have hs2 : ∀ W, Rs W w.heap.size r most rl → Calls Try.prog 21 #[.pointer (some ⟨r, 0, none⟩), .agg #[.int .i64 a1, .int .i64 a2]] W fun e w' => e = .returned (.int .i64 (fnd sl a1 a2)) ∧ RLeft W w.heap.size r most (freeR rl a1 a2) w' := fun W h => by
                  have := reffree_any a1 a2 h (by rw [hag.len]; omega)
                  rw [hag.fnd] at this
                  exact this
                generalize fnd sl a1 a2 = F at hs1 hs2
                have hfin : Hid (∀ wx, M6 w wx r most (freeS sl a1 a2) (freeR rl a1 a2) hs (.slice A0 hs.length c0) → ∃ sl rl, D6 w wx r most (k + 1) sl rl hs (.slice A0 hs.length c0)) := fun wx h => ⟨_, _, h, hag.free a1 a2, Nat.le_succ_of_le hhk, by rw [(freeS_spec sl a1 a2).2.1]; exact Nat.le_succ_of_le hsk, fun y hy => Nat.le_succ_of_le ((freeS_spec sl a1 a2).2.2 k hgk y hy)⟩
                have hS1 := hide hs1
                have hS2 := hide hs2
                clear hs1 hs2
                go_upto_region 27 with fail
                generalize w4.alloc (.cells #[.int .i64 a1, .int .i64 a2] 29) = WB at M5 HB q0 q5 u0 u1 ⊢
                generalize w4.heap.size = r4 at HB u0 u1 ⊢
                have hK0 := hide (M5.out.drewN 1)
                have hQ0 := hide (HB.out.1.drewN 1)
                have hP0 := hide (HB.out.2.drewN 1)
                clear q0 M5 HB hag hgk hsk HDD
                go_cut [148] from 58 to 163 (fun t wx => t = .bool false ∧ Hid (∃ sl rl, D6 w wx r most (k + 1) sl rl hs (.slice A0 hs.length c0)))
                case first =>
                  go_region_with (first
                    | (go_at_call 9; refine (hS1.out _ ?hk).mono ?_; (case hk => first | exact (hK0.out.rleft hL2.out).s | exact hK0.out.s); intro e w5 h9; obtain ⟨rfl, h9'⟩ := h9; have hL1 := hide h9'; clear h9'; have hP9 : Blk w5 r4 29 #[.int .i64 a1, .int .i64 a2] := (by first | exact blk_fr (blk_fr hP0.out hL2.out.2.1 RT29) hL1.out.2.1 KT29 | exact blk_fr hP0.out hL1.out.2.1 KT29); have hQ9 : Blk w5 R 38 _ := (by first | exact blk_fr (blk_fr hQ0.out hL2.out.2.1 RT38) hL1.out.2.1 KT38 | exact blk_fr hQ0.out hL1.out.2.1 KT38); have z0 : w5.cell? ⟨r4, 0, none⟩ = some (.int .i64 a1) := (by rw [hP9.cell]; rfl); have z1 : w5.cell? ⟨r4, 1, none⟩ = some (.int .i64 a2) := (by rw [hP9.cell]; rfl); have z5 : w5.cell? ⟨R, 5, none⟩ = some (.int .i64 x) := (by rw [hQ9.cell]; rfl))
                    | (go_at_call 21; refine (hS2.out _ ?hk).mono ?_; (case hk => first | exact (hK0.out.left hL1.out).q | exact hK0.out.q); intro e w5 h9; obtain ⟨rfl, h9'⟩ := h9; have hL2 := hide h9'; clear h9'; have hP9 : Blk w5 r4 29 #[.int .i64 a1, .int .i64 a2] := (by first | exact blk_fr (blk_fr hP0.out hL1.out.2.1 KT29) hL2.out.2.1 RT29 | exact blk_fr hP0.out hL2.out.2.1 RT29); have hQ9 : Blk w5 R 38 _ := (by first | exact blk_fr (blk_fr hQ0.out hL1.out.2.1 KT38) hL2.out.2.1 RT38 | exact blk_fr hQ0.out hL2.out.2.1 RT38); have z0 : w5.cell? ⟨r4, 0, none⟩ = some (.int .i64 a1) := (by rw [hP9.cell]; rfl); have z1 : w5.cell? ⟨r4, 1, none⟩ = some (.int .i64 a2) := (by rw [hP9.cell]; rfl); have z5 : w5.cell? ⟨R, 5, none⟩ = some (.int .i64 x) := (by rw [hQ9.cell]; rfl)))
                  all_goals (try go_wp2_with fail)
                  all_goals go_meet
                  all_goals refine ⟨by simp, ?_⟩
                  all_goals first
                    | exact hfin.out _ ((hK0.out.left hL1.out).rleft hL2.out)
                    | exact hfin.out _ ((hK0.out.rleft hL2.out).left hL1.out)
                case rest =>
                  obtain ⟨rfl, hE1⟩ := hcut
                  obtain ⟨sl1, rl1, D⟩ := hE1.out
                  clear hE1 hK0 hQ0 hP0 hfin hS1 hS2 u0 u1 q5
                  go_wp2_with fail
                  have hE : ∃ sl rl, D6 w (wc) r most (k + 1) sl rl (hs) (.slice A0 hs.length c0) := ⟨_, _, D⟩
                  clear D
                  obtain ⟨sl', rl', hD⟩ := hE
                  have C10 := hide (live_q hD.m.s)
                  have C22 := hide (refcount_q hD.m.q hD.ag (by have := hD.sk; omega))
                  have C11 := hide (slots_q hD.m.s)
                  obtain ⟨AL, cL, f3⟩ := rs_live hD.m.q hD.ag
                  have HD2 := hide hD
                  clear hD
                  go_quiet ((first | (go_at_call 10; exact C10.out _) | (go_at_call 22; exact C22.out _) | (go_at_call 11; exact C11.out _)))
                  go_wp2_with fail
                  go_roundg (gk - 1)
                  case measure => omega
                  case rel => exact ⟨k + 1, hs, A0, c0, by omega, by omega, rfl, by go_num, ⟨_, _, HD2.out.drewN _⟩⟩
              · go_wp2_with fail
                have D := HDD.out.next M5.out
                clear M5 HB q0 q5 u0 u1 hag hgk hsk HDD
                generalize w4.alloc (.cells #[.int .i64 a1, .int .i64 a2] 29) = w5 at D ⊢
                have hE : ∃ sl rl, D6 w (w5) r most (k + 1) sl rl (hs) (.slice A0 hs.length c0) := ⟨_, _, D⟩
                clear D
                obtain ⟨sl', rl', hD⟩ := hE
                have C10 := hide (live_q hD.m.s)
                have C22 := hide (refcount_q hD.m.q hD.ag (by have := hD.sk; omega))
                have C11 := hide (slots_q hD.m.s)
                obtain ⟨AL, cL, f3⟩ := rs_live hD.m.q hD.ag
                have HD2 := hide hD
                clear hD
                go_quiet ((first | (go_at_call 10; exact C10.out _) | (go_at_call 22; exact C22.out _) | (go_at_call 11; exact C11.out _)))
                go_wp2_with fail
                go_roundg (gk - 1)
                case measure => omega
                case rel => exact ⟨k + 1, hs, A0, c0, by omega, by omega, rfl, by go_num, ⟨_, _, HD2.out.drewN _⟩⟩

      · go_wp2_with fail
        refine (works_any _).mono ?_
        rintro e w' ⟨rfl, hb⟩
        go_wp2
        go_ret
        exact ⟨rfl, hD.m.b.trans (hb.mono hD.m.b.size)⟩
    · go_wp2_with fail
      refine (works_any _).mono ?_
      rintro e w' ⟨rfl, hb⟩
      go_wp2
      go_ret
      exact ⟨rfl, hD.m.b.trans (hb.mono hD.m.b.size)⟩

theorem slabDoes_walk (H : Type) (enc : TypeId × Value → H) (W : World) (base : Nat) (v0 : Value) (d0 : DataW H) (p0 : List MemPlace) (v1 : Value) (d1 : DataW H) (p1 : List MemPlace)
    (x0 : Value.okWide Try.prog W .any base 3 v0) (h0 : DataW.Trod enc Try.prog W 0 (fun _ => true) true 3 v0 d0 p0) (x1 : Value.okWide Try.prog W .any base 36 v1) (h1 : DataW.Trod enc Try.prog W 0 (fun _ => true) true 36 v1 d1 p1) :
    Calls Try.prog 6 #[v0, v1] W fun e W' => e = .returned (.bool true) ∧ Below W.heap.size W W' := by
  obtain ⟨z, rfl, _⟩ := open_int Try.underlying3 x0 h0
  obtain ⟨A, n, c, l, rfl, _, hr⟩ := arg_op6 x1 h1
  exact does_any z l n c A W hr
end Go.Proofs.Ytnfaaaehpfddgaa
