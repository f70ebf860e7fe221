/- The reference's Advance. -/
import Derived.Test.YtajeifeigjggoaaRr
import Derived.BigQuiet
namespace Go.Proofs.Ytajeifeigjggoaa
open Go.RowKit Go.Maps Mem
set_option linter.unusedVariables false

section
variable {w w' : World} {B r n : Nat} {now : Int} {vp vi vn vg v : Value} {xp xi xn xg ys : List Value}
theorem RV.same (h : RV w B r now vp vi vn vg xp xi xn xg) (ho : Only (fun _ => False) w w') : RV w' B r now vp vi vn vg xp xi xn xg :=
  ⟨h.blk.only ho id, own_only h.op ho (fun _ _ => id), own_only h.oi ho (fun _ _ => id), own_only h.on ho (fun _ _ => id), own_only h.og ho (fun _ _ => id), h.pi, h.pn, h.in_, h.lo, Nat.le_trans h.sz ho.size⟩
theorem RV.now_ (h : RV w B r now vp vi vn vg xp xi xn xg) (m : Int) : RV (w.setCell ⟨r, 0, none⟩ (.int .i64 m)) B r m vp vi vn vg xp xi xn xg := by
  have G3 := h.blk.set_ 0 (.int .i64 m)
  have Os := (Only.refl (fun k => k = r) w).setCell (p := ⟨r, 0, none⟩) (.inl rfl) (.int .i64 m)
  exact ⟨by simpa using G3, own_only h.op Os (own_far h.op h.blk (by decide)), own_only h.oi Os (own_far h.oi h.blk (by decide)), own_only h.on Os (own_far h.on h.blk (by decide)), own_only h.og Os (own_far h.og h.blk (by decide)), h.pi, h.pn, h.in_, h.lo, Nat.le_trans h.sz Os.size⟩
end

theorem busy_take {now : Nat} {p : List Nat} : busy now p = true ↔ ∃ y ∈ p, 0 < y ∧ y < now := by
  unfold busy; simp

theorem gone_set {d n : Nat} (h : d < n) : (goneRow d n).set d (.bool true) = goneRow (d + 1) n := by
  unfold goneRow
  obtain ⟨m, hm⟩ : ∃ m, n - d = m + 1 := ⟨n - d - 1, by omega⟩
  rw [hm, show n - (d + 1) = m by omega, List.replicate_succ (n := m), List.set_append_right _ _ (by simp), List.replicate_succ' (n := d)]
  simp
theorem gone_len {d n : Nat} (h : d ≤ n) : (goneRow d n).length = n := by unfold goneRow; simp; omega
theorem RV.set_g {w : World} {B r k b c : Nat} {now : Int} {vp vi vn : Value} {xp xi xn xg : List Value} (h : RV w B r now vp vi vn (.slice (some ⟨b, 0, none⟩) xg.length c) xp xi xn xg) (u : Value) :
    RV (w.setCell ⟨b, k, none⟩ u) B r now vp vi vn (.slice (some ⟨b, 0, none⟩) xg.length c) xp xi xn (xg.set k u) ∧ Only (fun x => x = b) w (w.setCell ⟨b, k, none⟩ u) := by
  obtain ⟨g1, g2⟩ := h.og.stored k u
  have hbr := own_far h.og h.blk (by decide) b rfl
  have Os := (Only.refl (fun x => x = b) w).setCell (p := ⟨b, k, none⟩) (.inl rfl) u
  refine ⟨⟨h.blk.only Os (fun e => hbr e.symm), own_only h.op Os ?_, own_only h.oi Os ?_, own_only h.on Os ?_, by simpa using g1, h.pi, h.pn, h.in_, h.lo, Nat.le_trans h.sz Os.size⟩, Os⟩
  · intro x hx e; exact own_own_ne h.op h.og (by decide) x hx (by rw [e]; rfl)
  · intro x hx e; exact own_own_ne h.oi h.og (by decide) x hx (by rw [e]; rfl)
  · intro x hx e; exact own_own_ne h.on h.og (by decide) x hx (by rw [e]; rfl)

def RaPost (w : World) (B r now : Nat) (p : List Nat) (its : List (Int × Nat)) (d e : Nat) (vp vi vn vg : Value) (en : Ending) (w' : World) : Prop :=
  (busy now p = true ∧ en = .returned (.tuple #[.slice none 0 0, .int .i64 25]) ∧ Only (fun _ => False) w w') ∨
  (busy now p = false ∧ ∃ A c, en = .returned (.tuple #[.slice A (e - d) c, .int .i64 0]) ∧ w'.ownsRow w.heap.size 2 1 (.slice A (e - d) c) (e - d) (outs ((its.drop d).take (e - d))) ∧
    RV w' B r ((now : Int) + 1) vp vi vn vg (nums p) (its.map fun x => Value.int .i64 x.1) (its.map fun x => Value.int .i64 (x.2 : Int)) (goneRow e its.length) ∧ Only (fun k => k = r ∨ vg.ownBlock = some k) w w')

set_option maxHeartbeats 4000000 in
set_option maxRecDepth 100000 in
theorem adv_ref {w : World} {B r now d e : Nat} {p : List Nat} {its : List (Int × Nat)} {vp vi vn vg : Value} (h : RV w B r now vp vi vn vg (nums p) (its.map fun x => Value.int .i64 x.1) (its.map fun x => Value.int .i64 (x.2 : Int)) (goneRow d its.length))
    (hd : d ≤ e) (he : e ≤ its.length) (hdue : ∀ i x, its[i]? = some x → d ≤ i → i < e → x.2 + 1 ≤ now) (hnot : ∀ i x, its[i]? = some x → e ≤ i → ¬ x.2 + 1 ≤ now) (hn : now ≤ 4294967296) (hp0 : p.length ≤ 4294967296) (hi0 : its.length ≤ 2000000) (hp1 : ∀ y ∈ p, y ≤ 4294967296) (hi1 : ∀ x ∈ its, x.2 ≤ 4294967296) :
    Calls Try.prog 22 #[.pointer (some ⟨r, 0, none⟩)] w fun en w' => RaPost w B r now p its d e vp vi vn vg en w' := by
  obtain ⟨Ap, cp, rfl, _, hrp⟩ := own_form h.op
  obtain ⟨Ai, ci, rfl, _, hri⟩ := own_form h.oi
  obtain ⟨An, cn, rfl, _, hrn⟩ := own_form h.on
  have hpl : (nums p).length = p.length := by simp [nums]
  rw [hpl] at h hrp
  rw [List.length_map] at h hri hrn
  rw [List.length_map] at h
  have hgl := gone_len (Nat.le_trans hd he)
  obtain ⟨Ag, cg, rfl, _⟩ := own_form h.og
  rw [hgl] at h
  have hrl := h.blk.lt
  go_enter Try.func22, Try.ntmps22
  go_wp2
  go_loopw [4] (fun i wr => ∃ k, k ≤ p.length ∧ i = .int .i64 (k : Nat) ∧ Hid (∀ y ∈ p.take k, ¬ (0 < y ∧ y < now)) ∧ Hid (Only (fun _ => False) w wr)) (fun i _ => p.length - (intOf i).toNat)
  case atStart => exact ⟨0, Nat.zero_le _, rfl, by intro y hy; simp at hy, Only.refl _ _⟩
  case round =>
    obtain ⟨k, hk, rfl, hS, hO⟩ := hrel
    have R0 := h.same hO.out
    have c1 : wr.cell? ⟨r, 1, none⟩ = some (.slice Ap p.length cp) := by rw [R0.blk.cell]; rfl
    have c0 : wr.cell? ⟨r, 0, none⟩ = some (.int .i64 (now : Int)) := by rw [R0.blk.cell]; rfl
    by_cases hlt : k < p.length
    · obtain ⟨b, o, rfl, _, _, hbl, hc⟩ := hrp.plain (by omega) (by omega)
      have f2 : wr.cell? ⟨b, o + k, none⟩ = some (.int .i64 ((p[k] : Nat) : Int)) := by
        rw [hO.out.cell hbl id, hc k (by omega)]; unfold nums; rw [List.getElem?_map, List.getElem?_eq_getElem hlt]; rfl
      have hs : p.take (k + 1) = p.take k ++ [p[k]] := by rw [List.take_add_one, List.getElem?_eq_getElem hlt]; rfl
      have hmem : p[k] ∈ p := List.getElem_mem hlt
      have hbd := hp1 _ hmem
      generalize p[k] = y at f2 hs hmem hbd
      have HS := hide (And.intro hs hmem)
      have HR := hide R0
      clear hs hmem R0 hc hrp hri hrn hdue hnot hp1 hi1
      by_cases hy : 0 < y
      · by_cases hy2 : y < now
        · go_wp2
          go_quiet (fail)
          go_wp2
          go_ret2
          exact .inl ⟨busy_take.2 ⟨y, HS.out.2, hy, hy2⟩, rfl, hO.out.drewN _⟩
        · go_wp2
          go_quiet (fail)
          go_wp2
          go_roundw
          case rel =>
            refine ⟨k + 1, by omega, by go_num, ?_, hO.out.drewN _⟩
            intro z hz
            rw [HS.out.1] at hz
            rcases List.mem_append.1 hz with hz | hz
            · exact hS.out z hz
            · rcases List.mem_cons.1 hz with rfl | hz
              · omega
              · cases hz
          case measure => simp [intOf]; omega
      · go_wp2
        go_quiet (fail)
        go_wp2
        go_roundw
        case rel =>
          refine ⟨k + 1, by omega, by go_num, ?_, hO.out.drewN _⟩
          intro z hz
          rw [HS.out.1] at hz
          rcases List.mem_append.1 hz with hz | hz
          · exact hS.out z hz
          · rcases List.mem_cons.1 hz with rfl | hz
            · omega
            · cases hz
        case measure => simp [intOf]; omega
    · have ek : p.take k = p := List.take_of_length_le (by omega)
      rw [ek] at hS
      have hnb : busy now p = false := by
        cases hbz : busy now p with
        | false => rfl
        | true =>
          obtain ⟨y, hy, hlt⟩ := busy_take.1 hbz
          exact absurd hlt (hS.out y hy)
      have f0 : wr.frozen? ⟨r, 0, none⟩ = false := R0.blk.frozen 0
      have hHN := hide hnb
      clear hnb hrp hS
      go_wp2
      have R1 := R0.now_ ((now : Int) + 1)
      have O1 := (hO.out.mono (S' := fun k => k = r) (by intro k _ hk; exact hk.elim)).setCell (p := ⟨r, 0, none⟩) (.inl rfl) (.int .i64 ((now : Int) + 1))
      generalize hW : wr.setCell _ _ = W1
      rw [hW] at R1 O1
      have HG := hide (And.intro R1 O1)
      have HP := hide (And.intro hdue (And.intro hnot (And.intro hri (And.intro hrn hgl))))
      have hW1 := O1.size
      clear R1 O1 hW c0 c1 f0 R0 hO hdue hnot hri hrn hp1 hgl
      go_loopw [5, 6] (fun o i wr => ∃ k A c, k ≤ its.length ∧ o = .slice A (min k e - d) c ∧ i = .int .i64 k ∧ Hid (RV wr B r ((now : Int) + 1) (.slice Ap p.length cp) (.slice Ai its.length ci) (.slice An its.length cn) (.slice Ag its.length cg) (nums p) (its.map fun x => Value.int .i64 x.1) (its.map fun x => Value.int .i64 (x.2 : Int)) (goneRow (max d (min k e)) its.length)) ∧
          Hid (wr.ownsRow W1.heap.size 2 1 (.slice A (min k e - d) c) (min k e - d) (outs ((its.drop d).take (min k e - d)))) ∧ Hid (Only (fun k => (Value.slice Ag its.length cg).ownBlock = some k) W1 wr))
        (fun _ i _ => its.length - (intOf i).toNat)
      case atStart =>
        have e1 : min 0 e - d = 0 := by omega
        have e2 : max d (min 0 e) = d := by omega
        exact ⟨0, none, 0, Nat.zero_le _, by rw [e1], rfl, by rw [e2]; exact HG.out.1, by rw [e1]; exact World.ownsRow_nil _ _ _ _, Only.refl _ _⟩
      case round =>
        obtain ⟨k, A, c, hk, rfl, rfl, hR, hA, hO⟩ := hrel
        have R2 := hR.out
        have c2 : wr.cell? ⟨r, 2, none⟩ = some (.slice Ai its.length ci) := by rw [R2.blk.cell]; rfl
        have c3 : wr.cell? ⟨r, 3, none⟩ = some (.slice An its.length cn) := by rw [R2.blk.cell]; rfl
        have c4 : wr.cell? ⟨r, 4, none⟩ = some (.slice Ag its.length cg) := by rw [R2.blk.cell]; rfl
        have c0 : wr.cell? ⟨r, 0, none⟩ = some (.int .i64 ((now : Int) + 1)) := by rw [R2.blk.cell]; rfl
        by_cases hlt : k < its.length
        · obtain ⟨hdue, hnot, hri, hrn, hgl⟩ := HP.out
          have hget : its[k]? = some its[k] := List.getElem?_eq_getElem hlt
          have hx1 := hi1 _ (List.getElem_mem hlt)
          have s1 := R2.oi
          have s2 := R2.on
          rw [List.length_map] at s1 s2
          obtain ⟨A1, d1, e1, _, q1⟩ := own_form s1
          cases e1
          obtain ⟨A2, d2, e2, _, q2⟩ := own_form s2
          cases e2
          clear s1 s2
          obtain ⟨bi, oi, rfl, _, _, _, hci⟩ := q1.plain (by omega) (by omega)
          obtain ⟨bn, on, rfl, _, _, _, hcn⟩ := q2.plain (by omega) (by omega)
          have fi : wr.cell? ⟨bi, oi + k, none⟩ = some (.int .i64 (its[k]).1) := by rw [hci k (by omega), List.getElem?_map, hget]; rfl
          have fn : wr.cell? ⟨bn, on + k, none⟩ = some (.int .i64 ((its[k]).2 : Int)) := by rw [hcn k (by omega), List.getElem?_map, hget]; rfl
          have hgl2 := gone_len (show max d (min k e) ≤ its.length by omega)
          have hog := R2.og
          rw [hgl2] at hog
          obtain ⟨bg, rfl, _⟩ : ∃ bg, Ag = some ⟨bg, 0, none⟩ ∧ B ≤ bg := by
            rcases hog.2 with ⟨e1, e2⟩ | ⟨g', cap, cur, e1, hgB, _⟩
            · omega
            · cases e1
              exact ⟨g', rfl, hgB⟩
          have fg : wr.cell? ⟨bg, k, none⟩ = some (.bool (decide (k < max d (min k e)))) := by
            have := own_cell hog (i := k) (by omega)
            rw [Nat.zero_add] at this
            rw [this, gone_at (by omega) hlt]
          have ff : wr.frozen? ⟨bg, k, none⟩ = false := hog.frozenAt k
          have hdue' := hdue k _ hget
          have hnot' := hnot k _ hget
          generalize its[k] = y at hget hx1 fi fn hdue' hnot'
          obtain ⟨y1, y2⟩ := y
          have HH := hide (And.intro hget (And.intro R2 (And.intro hci (And.intro hgl2 hdue))))
          clear hog hget R2 hci hcn q1 q2 hgl2 hri hrn hdue hnot hR hi1 h hW1
          simp only at fi fn hx1 hdue' hnot'
          by_cases hkd : k < d
          · have e0 : decide (k < max d (min k e)) = true := decide_eq_true (by omega)
            rw [e0] at fg
            go_wp2
            go_quiet (fail)
            go_wp2
            go_roundw
            case rel =>
              have m1 : min (k + 1) e - d = min k e - d := by omega
              have m2 : max d (min (k + 1) e) = max d (min k e) := by omega
              refine ⟨k + 1, A, c, hlt, by rw [m1], by go_num, ?_, ?_, ?_⟩
              · rw [m2]; exact HH.out.2.1.drewN _
              · rw [m1]; exact own_drewN hA.out _
              · exact hO.out.drewN _
            case measure => simp [intOf]; omega
          · by_cases hke : k < e
            · have e0 : decide (k < max d (min k e)) = false := decide_eq_false (by omega)
              rw [e0] at fg
              have hdd := hdue' (by omega) hke
              go_wp2
              go_quiet (fail)
              have R3 := HH.out.2.1.drewN nq
              have O3 := hO.out.drewN nq
              have A3 := own_drewN hA.out nq
              have g3 : (wr.drewN nq).cell? ⟨r, 4, none⟩ = some (.slice (some ⟨bg, 0, none⟩) its.length cg) := c4
              have g2 : (wr.drewN nq).cell? ⟨r, 2, none⟩ = some (.slice (some ⟨bi, oi, none⟩) its.length ci) := c2
              have gk : (wr.drewN nq).cell? ⟨bg, k, none⟩ = some (.bool false) := fg
              have gi : (wr.drewN nq).cell? ⟨bi, oi + k, none⟩ = some (.int .i64 y1) := fi
              have gf : (wr.drewN nq).frozen? ⟨bg, k, none⟩ = false := ff
              generalize wr.drewN nq = W2 at R3 O3 A3 g3 g2 gk gi gf ⊢
              have m2 : max d (min k e) = k := by omega
              rw [m2] at R3
              have hgl3 := gone_len (show k ≤ its.length by omega)
              have R3' := R3
              rw [← hgl3] at R3'
              obtain ⟨R4, O4⟩ := (show RV W2 B r ((now : Int) + 1) (.slice Ap p.length cp) (.slice (some ⟨bi, oi, none⟩) its.length ci) (.slice (some ⟨bn, on, none⟩) its.length cn) (.slice (some ⟨bg, 0, none⟩) (goneRow k its.length).length cg) (nums p) (its.map fun x => Value.int .i64 x.1) (its.map fun x => Value.int .i64 (x.2 : Int)) (goneRow k its.length) by rw [hgl3]; exact R3).set_g (k := k) (.bool true)
              rw [hgl3, gone_set hlt] at R4
              have z2 : (W2.setCell ⟨bg, k, none⟩ (.bool true)).cell? ⟨r, 2, none⟩ = some (.slice (some ⟨bi, oi, none⟩) its.length ci) := by rw [R4.blk.cell]; rfl
              have hbig : ¬ bi = bg := by
                intro e
                exact own_own_ne R3.oi R3.og (by decide) bi rfl (by rw [e]; rfl)
              have zi : (W2.setCell ⟨bg, k, none⟩ (.bool true)).cell? ⟨bi, oi + k, none⟩ = some (.int .i64 y1) := by
                rw [O4.cell (by
                  have : W2.cell? ⟨bi, oi + k, none⟩ ≠ none := by rw [gi]; simp
                  exact own_lt R3.oi rfl) (by exact hbig)]
                exact gi
              have A4 := own_only A3 O4 (fun x hx e => by have h1 := own_lo A3 hx; have h2 := own_lt HG.out.1.og (k := bg) rfl; omega)
              have O5 : Only (fun k => (Value.slice (some ⟨bg, 0, none⟩) its.length cg).ownBlock = some k) W1 (W2.setCell ⟨bg, k, none⟩ (.bool true)) := O3.setCell (p := ⟨bg, k, none⟩) (.inl rfl) _
              have HH2 := hide (And.intro R4 (And.intro O5 A4))
              have hsz := O5.size
              have hget := HH.out.1
              clear R3 R3' O3 A3 R4 O4 A4 O5 hO hA hgl3 HH
              have m3 : min k e - d = k - d := by omega
              have m4 : min (k + 1) e - d = k - d + 1 := by omega
              have m5 : max d (min (k + 1) e) = k + 1 := by omega
              have hys : outs ((its.drop d).take (k - d)) ++ [Value.int .i64 y1] = outs ((its.drop d).take (k - d + 1)) := by
                rw [List.take_add_one, List.getElem?_drop, show d + (k - d) = k by omega, hget]; simp [outs]
              have hao := HH2.out.2.2.alloc (.cells #[.int .i64 y1] 2)
              rw [m3] at hao
              rw [m3]
              have hlit := Reads.lit (W2.setCell ⟨bg, k, none⟩ (.bool true)) #[.int .i64 y1] 2 1 1 rfl
              rw [show (W2.setCell ⟨bg, k, none⟩ (.bool true)).heap.size = W2.heap.size by simp [World.setCell]] at hlit
              go_wp2_with (first | (at_builtin; refine pause ?_) | go_in)
              refine unpause (wpList_app el33 (.tmp 84) (.tmp 92) hao hlit (by intro u hu; rcases List.mem_cons.1 hu with rfl | hu; rfl; cases hu) (N := k - d + 1) (ys := outs ((its.drop d).take (k - d + 1))) rfl hys (by unfold maxLen; omega) (by omega) (by simp at hsz ⊢; omega) rfl rfl rfl rfl ?_)
              intro A6 c6 w6 hown6 hg6 hb6
              go_wp2
              go_roundw
              case rel =>
                refine ⟨k + 1, A6, c6, hlt, by rw [m4], by go_num, ?_, ?_, ?_⟩
                · have ha := HH2.out.1.alloc (.cells #[.int .i64 y1] 2)
                  rw [m5]
                  have hO6 := Only.ofGrown hg6
                  have hlo : ∀ x, (Value.slice A (k - d) c).ownBlock = some x → W1.heap.size ≤ x := fun x hx => own_lo hao hx
                  have hgk := HG.out.1
                  have r1 : ∀ x, x < W1.heap.size → (Value.slice A (k - d) c).ownBlock = some x → False := fun x hx e => absurd (hlo x e) (by omega)
                  exact ⟨ha.blk.only hO6 (fun e => r1 r hgk.blk.lt e), own_only ha.op hO6 (fun x hx e => r1 x (own_lt hgk.op hx) e), own_only ha.oi hO6 (fun x hx e => r1 x (own_lt hgk.oi hx) e), own_only ha.on hO6 (fun x hx e => r1 x (own_lt hgk.on hx) e), own_only ha.og hO6 (fun x hx e => r1 x (own_lt hgk.og hx) e), ha.pi, ha.pn, ha.in_, ha.lo, Nat.le_trans ha.sz hO6.size⟩
                · rw [m4]; exact hown6
                · exact (HH2.out.2.1.alloc _).grown hg6 (fun x hx => .inr (own_lo hao hx))
              case measure => simp [intOf]; omega
            · have e0 : decide (k < max d (min k e)) = false := decide_eq_false (by omega)
              rw [e0] at fg
              have hdd := hnot' (by omega)
              go_wp2
              go_quiet (fail)
              go_wp2
              go_roundw
              case rel =>
                have m1 : min (k + 1) e - d = min k e - d := by omega
                have m2 : max d (min (k + 1) e) = max d (min k e) := by omega
                refine ⟨k + 1, A, c, hlt, by rw [m1], by go_num, ?_, ?_, ?_⟩
                · rw [m2]; exact HH.out.2.1.drewN _
                · rw [m1]; exact own_drewN hA.out _
                · exact hO.out.drewN _
              case measure => simp [intOf]; omega
        · have ek : k = its.length := by omega
          subst ek
          have m1 : min its.length e - d = e - d := by omega
          have m2 : max d (min its.length e) = e := by omega
          have HH := hide R2
          clear R2
          go_wp2
          go_ret2
          refine .inr ⟨hHN.out, A, c, by rw [m1]; rfl, ?_, ?_, ?_⟩
          · have := hA.out
            rw [m1] at this
            exact ownsRow_mono this hW1
          · have := HH.out
            rw [m2] at this
            simpa [gone_len he, gone_len (Nat.le_trans hd he), nums] using this
          · refine HG.out.2.mono (fun k _ hk => .inl hk) |>.trans hO.out ?_
            intro k _ hk
            exact .inr (by rw [gone_len (Nat.le_trans hd he)]; exact hk)
end Go.Proofs.Ytajeifeigjggoaa
