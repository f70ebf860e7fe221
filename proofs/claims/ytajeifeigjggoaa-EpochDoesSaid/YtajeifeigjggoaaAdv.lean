/- Advance of an epoch's keeper; numbers far below 2^63 are asked. -/
import Derived.Test.YtajeifeigjggoaaRet
namespace Go.Proofs.Ytajeifeigjggoaa
open Go.RowKit Go.Maps Mem
set_option linter.unusedVariables false

/-- what comes out when the epoch moves on from now -/
def due (now : Nat) (q : List (Int × Nat)) : List (Int × Nat) := q.takeWhile fun x => decide (x.2 + 1 ≤ now)
theorem due_take {now k : Nat} {q : List (Int × Nat)} (h : ∀ x ∈ q.take k, x.2 + 1 ≤ now) (he : ∀ y, q[k]? = some y → ¬ y.2 + 1 ≤ now) : due now q = q.take k := by
  unfold due
  induction k generalizing q with
  | zero =>
    cases q with
    | nil => rfl
    | cons y r =>
      have := he y rfl
      simp [this]
  | succ k ih =>
    cases q with
    | nil => rfl
    | cons y r =>
      have h0 : y.2 + 1 ≤ now := h y (by simp)
      rw [List.take_succ_cons, List.takeWhile_cons, if_pos (by simpa using h0)]
      rw [ih (fun x hx => h x (by rw [List.take_succ_cons]; exact List.mem_cons_of_mem _ hx)) (fun y hy => he y (by simpa using hy))]
/-- the values of the first k -/
def outs (q : List (Int × Nat)) : List Value := q.map fun x => .int .i64 x.1

theorem due_drop (now : Nat) (q : List (Int × Nat)) : q.drop (due now q).length = q.dropWhile fun x => decide (x.2 + 1 ≤ now) := by
  unfold due
  induction q with
  | nil => rfl
  | cons y r ih =>
    rw [List.takeWhile_cons, List.dropWhile_cons]
    split <;> simp [ih]

/-- the rounds over the tickets: those looked at read in no elder epoch -/
def Saw (p : List Nat) (now : Nat) (left : Lit → Bool) : Prop := ∀ z v, look p z = some v → left (.int .i64 z) = false → now ≤ v

def AdvPost (w : World) (g b B now : Nat) (p : List Nat) (q : List (Int × Nat)) (V : Value) (e : Ending) (w' : World) : Prop :=
  (busy now p = true ∧ e = .returned (.tuple #[.slice none 0 0, .int .i64 25]) ∧ Ep w' g b B now p q V ∧ Only (fun _ => False) w w') ∨
  (busy now p = false ∧ ∃ A c V', e = .returned (.tuple #[.slice A (due now q).length c, .int .i64 0]) ∧ w'.ownsRow w.heap.size 2 1 (.slice A (due now q).length c) (due now q).length (outs (due now q)) ∧
    Ep w' g b B (now + 1) p (q.drop (due now q).length) V' ∧ Only (fun k => k = g) w w')

theorem own_lo {w : World} {base e size n : Nat} {v : Value} {xs : List Value} (h : w.ownsRow base e size v n xs) {k : Nat} (hk : v.ownBlock = some k) : base ≤ k := by
  rcases h.2 with ⟨rfl, _⟩ | ⟨g, cap, cur, rfl, hb, _⟩
  · cases hk
  · cases hk
    exact hb

theorem adv_end {g b B now k n : Nat} {p : List Nat} {q : List (Int × Nat)} {V QV : Value} {w W1 wr w3 : World} {A A3 : Option Addr} {c c3 N3 : Nat} {D : DataW Unit} (hnb : busy now p = false) (hk : k ≤ q.length) (hB : B ≤ w.heap.size)
    (hD : ∀ x ∈ q.take k, x.2 + 1 ≤ now) (he : ∀ y, q[k]? = some y → ¬ y.2 + 1 ≤ now) (hA : wr.ownsRow W1.heap.size 2 1 (.slice A k c) k (outs (q.take k)))
    (O1 : Only (fun k => k = g) w W1) (hO : Only (fun _ => False) W1 wr) (e0 : Blk wr g 54 #[.int .i64 ((now : Int) + 1), .int .i64 (p.length : Int), .map (some b), QV])
    (M1 : W1.ownsMap Try.prog 2 (plainElem Try.prog 2) b p.length D) (hp : PinRel D p) (hg3 : (wr.drewN n).grownBy w3 none) (hown3 : w3.ownsRow w.heap.size 56 2 (.slice A3 N3 c3) N3 (qcells (q.drop k))) (hN3 : N3 = q.length - k) :
    AdvPost w g b B now p q V (.returned (.tuple #[.slice A k c, .int .i64 0])) (w3.setCell ⟨g, 3, none⟩ (.slice A3 N3 c3)) := by
  have hdue := due_take hD he
  have hlen : (due now q).length = k := by rw [hdue, List.length_take]; omega
  have Oa : Only (fun k => k = g) w wr := O1.trans (hO) (fun _ _ h => h.elim)
  have Ob : Only (fun k => k = g) w w3 := (Oa.drewN n).grown hg3 (fun k hk => by cases hk)
  have G3 : Blk w3 g 54 _ := (e0.drewN n).grown hg3 (by simp)
  have M2 : wr.ownsMap Try.prog 2 (plainElem Try.prog 2) b p.length D := by
    obtain ⟨es, clock, hb, r⟩ := M1
    exact ⟨es, clock, (hO.block b (Array.getElem?_eq_some_iff.1 hb).1 id).trans hb, r⟩
  have M2' : (wr.drewN n).ownsMap Try.prog 2 (plainElem Try.prog 2) b p.length D := M2
  have M3 := M2'.kept hg3 (by simp)
  have hgb := map_blk_ne M3 G3
  have Os := (Only.refl (fun k => k = g) w3).setCell (p := ⟨g, 3, none⟩) (.inl rfl) (.slice A3 N3 c3)
  refine .inr ⟨hnb, A, c, .slice A3 N3 c3, by rw [hlen], ?_, ⟨A3, c3, D, ?_, ?_, M3.setCell hgb _, hp, ?_⟩, Ob.setCell (.inl rfl) _⟩
  · rw [hlen, hdue]
    have A2 := own_grown (own_drewN hA n) hg3 (fun _ _ => by simp)
    exact ownsRow_mono (own_only A2 Os (own_far A2 G3 (by decide))) O1.size
  · rw [hlen, List.length_drop, hN3]
  · have := G3.set_ 3 (.slice A3 N3 c3)
    simpa using this
  · rw [hlen, List.length_drop, ← hN3]
    exact ownsRow_mono (own_only hown3 Os (own_far hown3 G3 (by decide))) hB

theorem advance_any {g b B now : Nat} {p : List Nat} {q : List (Int × Nat)} {V : Value} (w : World) (h : Ep w g b B now p q V) (hn : now ≤ 4294967296) (hq0 : q.length ≤ 2000000) (hB : B ≤ w.heap.size) :
    Calls Try.prog 13 #[.pointer (some ⟨g, 0, none⟩)] w fun e w' => AdvPost w g b B now p q V e w' := by
  obtain ⟨QA, qc, D, rfl, hg, hm, hp, hq⟩ := h
  have hgb := map_blk_ne hm hg
  have hqb := own_map_ne hm hq
  have hqg := own_far hq hg (by decide)
  have hbl := map_lt hm
  have hgl := hg.lt
  have h2 : w.cell? ⟨g, 2, none⟩ = some (.map (some b)) := by rw [hg.cell]; rfl
  go_enter Try.func13, Try.ntmps13
  go_wp2_with (first
    | (at_range; refine wpList_range_own _ rfl _ 51 rfl 2 2 key2 Try.underlying51 _ b _ D rfl hm ?_; intro w0 hrg0 hg0 hs0)
    | go_in)
  go_frame
  go_loopw [5] (fun _ wr => ∃ (left : Lit → Bool) (cnt : Nat), wr.ranges Try.prog 2 (plainElem Try.prog 2) b w.heap.size p.length D left cnt ∧ Hid (Saw p now left) ∧ Hid (Only (fun _ => False) w wr))
    (fun _ wr => wr.rangeLeft b w.heap.size)
  case atStart =>
    refine ⟨_, _, hrg0, ?_, (Only.ofGrown hg0).mono (by intro k _ hk; cases hk)⟩
    intro z v hl hf
    rw [hp.has_, hl] at hf
    cases hf
  case round =>
    obtain ⟨left, cnt, hrg, hS, hO⟩ := hrel
    have c0 : wr.cell? ⟨g, 0, none⟩ = some (.int .i64 (now : Int)) := by rw [hO.out.cell hgl id, hg.cell]; rfl
    go_wp2_with (first
      | (at_next; refine wpList_next_ranges_ii _ rfl _ rfl 2 2 .i64 .i64 key2 Try.underlying2 Try.underlying2 b w.heap.size p.length _ _ _ rfl hrg ?_ ?_)
      | go_in)
    · intro hc0 hl0
      have hnb : busy now p = false := by
        cases hbz : busy now p with
        | false => rfl
        | true =>
          obtain ⟨z, v, hz, hlt⟩ := busy_iff.1 hbz
          have := hS.out z v hz (hl0 _)
          omega
      have f0 : wr.frozen? ⟨g, 0, none⟩ = false := by rw [hO.out.frozen hgl id]; exact hg.frozen 0
      have G0 := hg.only hO.out id
      have M0 := hrg.owns
      have Q0 := own_only hq hO.out (fun _ _ => id)
      have hHN := hide hnb
      clear hnb h2 hrg hS
      go_wp2
      have G1 := G0.set_ 0 (.int .i64 ((now : Int) + 1))
      have M1 := M0.setCell (a := ⟨g, 0, none⟩) hgb (.int .i64 ((now : Int) + 1))
      have O1 := (hO.out.mono (S' := fun k => k = g) (by intro k _ hk; exact hk.elim)).setCell (p := ⟨g, 0, none⟩) (.inl rfl) (.int .i64 ((now : Int) + 1))
      have Q1 := own_only Q0 ((Only.refl (fun k => k = g) wr).setCell (p := ⟨g, 0, none⟩) (.inl rfl) (.int .i64 ((now : Int) + 1))) hqg
      generalize hW : wr.setCell _ _ = W1
      rw [hW] at G1 M1 O1 Q1
      have HG := hide (And.intro G1 (And.intro M1 (And.intro O1 Q1)))
      clear G1 M1 O1 Q1 hW c0 f0 G0 M0 Q0 hO hm hg hq
      go_loopw [6, 7] (fun o i wr => ∃ k A c, k ≤ q.length ∧ o = .slice A k c ∧ i = .int .i64 k ∧ Hid (wr.ownsRow W1.heap.size 2 1 (.slice A k c) k (outs (q.take k))) ∧ Hid (Only (fun _ => False) W1 wr) ∧ Hid (∀ x ∈ q.take k, x.2 + 1 ≤ now))
        (fun _ i _ => q.length - (intOf i).toNat)
      case atStart => exact ⟨0, none, 0, Nat.zero_le _, rfl, rfl, World.ownsRow_nil _ _ _ _, Only.refl _ _, by intro x hx; simp at hx⟩
      case round =>
        obtain ⟨k, A, c, hk, rfl, rfl, hA, hO, hD⟩ := hrel
        obtain ⟨G1, M1, O1, Q1⟩ := HG.out
        have e0 : Blk wr g 54 #[.int .i64 ((now : Int) + 1), .int .i64 (p.length : Int), .map (some b), .slice QA q.length qc] := by simpa using G1.only hO.out id
        have hgl' := e0.lt
        have c0 : wr.cell? ⟨g, 0, none⟩ = some (.int .i64 ((now : Int) + 1)) := by rw [e0.cell]; rfl
        have c3 : wr.cell? ⟨g, 3, none⟩ = some (.slice QA q.length qc) := by rw [e0.cell]; rfl
        have Q2 := own_only Q1 hO.out (fun _ _ => id)
        by_cases hlt : k < q.length
        · obtain ⟨QA', qc', eQ, hqc, hqr⟩ := own_form Q2
          cases eQ
          obtain ⟨qb, qo, rfl, _, _, hqbl, hqcell⟩ := hqr.plain (by omega) (by omega)
          obtain ⟨u1, u2⟩ := qcells_at hlt
          have d0 : wr.cell? ⟨qb, qo + k * 2, none⟩ = some (.int .i64 (q[k]).1) := by rw [hqcell _ (by omega), u1]
          have d1 : wr.cell? ⟨qb, qo + (k * 2 + 1), none⟩ = some (.int .i64 ((q[k]).2 : Int)) := by rw [hqcell _ (by omega), u2]
          have d1' : wr.cell? ⟨qb, qo + k * 2 + 1, none⟩ = some (.int .i64 ((q[k]).2 : Int)) := by rw [Nat.add_assoc, d1]
          have hget : q[k]? = some q[k] := List.getElem?_eq_getElem hlt
          generalize hy : q[k] = y at d0 d1 d1' hget u1 u2
          have hO' := hO.size
          have HH := hide (And.intro u1 (And.intro u2 (And.intro hqc (And.intro hqr (And.intro hqcell (And.intro hget (And.intro Q2 (And.intro e0 hO))))))))
          clear u1 u2 hqr hqcell hget Q2 e0 hO G1 M1 O1 Q1 hy
          by_cases hdu : y.2 + 1 ≤ now
          · go_wp2
            go_quiet (fail)
            go_wp2_with (first
              | (at_builtin; refine wpList_app el33 (.tmp 53) (.tmp 62) ((own_drewN hA.out _).alloc _) (Reads.lit _ #[.int .i64 y.1] 2 1 1 rfl) (by intro u hu; rcases List.mem_cons.1 hu with rfl | hu; rfl; cases hu) (N := k + 1) rfl rfl (by unfold maxLen; omega) (by omega) (by simp at hO' ⊢; omega) rfl rfl rfl rfl ?_; intro A2 c2 w2 hown2 hg2 hb2)
              | go_in)
            go_roundw
            case rel =>
              obtain ⟨u1, u2, hqc', hqr, hqcell, hget, Q2, e0, hO⟩ := HH.out
              refine ⟨k + 1, A2, c2, hlt, rfl, by go_num, ?_, ?_, ?_⟩
              · have e : outs (q.take (k + 1)) = outs (q.take k) ++ [Value.int .i64 y.1] := by rw [List.take_add_one, hget]; simp [outs]
                rw [e]
                exact hown2
              · have O3 : Only (fun _ => False) W1 (wr.drewN nq) := hO.drewN nq
                refine (O3.alloc _).grown hg2 (fun k hk => .inr ?_)
                exact own_lo hA.out hk
              · intro x hx
                rw [List.take_add_one, hget] at hx
                rcases List.mem_append.1 hx with hx | hx
                · exact hD.out x hx
                · rcases List.mem_cons.1 hx with rfl | hx
                  · exact hdu
                  · cases hx
            case measure => simp [intOf]; omega
          · go_wp2
            go_quiet (fail)
            obtain ⟨u1, u2, hqc', hqr, hqcell, hget, Q2, e0, hO⟩ := HH.out
            have f3 : wr.frozen? ⟨g, 3, none⟩ = false := e0.frozen 3
            have HH2 := hide (And.intro u1 (And.intro u2 (And.intro hqr (And.intro hqcell (And.intro hget (And.intro Q2 (And.intro e0 hO)))))))
            have hcut : Reads (wr.drewN nq) B wr.heap.size 2 (some ⟨qb, qo + k * 2, none⟩) (q.length - k) (qcells (q.drop k)) := by
              have := (hqr.drewN nq).cut_ (k := k) hk
              rw [qcells_drop] at this
              simpa [add_lit] using this
            have HC := hide hcut
            clear u1 u2 hqr hqcell hget Q2 e0 hO hcut
            go_wp2_with (first
              | (at_builtin; refine wpList_app el52 (.const (.slice none 0 0)) (.tmp 72) (World.ownsRow_nil _ w.heap.size 56 2) HC.out (qcells_one _) (N := q.length - k) (ys := qcells (q.drop k)) (by simp) (by simp) (by unfold maxLen; omega) (by omega) (by obtain ⟨_, _, _, _, _, _, _, hO⟩ := HH2.out; have := HG.out.2.2.1.size; have := hO.size; simp at *; omega) rfl rfl rfl rfl ?_; intro A3 c3 w3 hown3 hg3 hb3
                 have G3 := (HH2.out.2.2.2.2.2.2.1.drewN nq).grown hg3 (by simp [Value.ownBlock]); have k3 : w3.cell? ⟨g, 3, none⟩ = some (.slice (some ⟨qb, qo, none⟩) q.length qc) := (by rw [G3.cell]; rfl); have f4 := G3.frozen 3)
              | go_in)
            go_ret2
            obtain ⟨u1, u2, hqr, hqcell, hget, Q2, e0, hO⟩ := HH2.out
            obtain ⟨G1, M1, O1, Q1⟩ := HG.out
            exact adv_end hHN.out hk hB hD.out (fun y' hy' => by rw [hget] at hy'; cases hy'; exact hdu) hA.out O1 hO e0 M1 hp hg3 hown3 rfl
        · have hkk : k = q.length := by omega
          subst hkk
          have f3 : wr.frozen? ⟨g, 3, none⟩ = false := e0.frozen 3
          have hsz := O1.size
          have hsz2 := hO.out.size
          have hnil : qcells (q.drop q.length) = [] := by rw [List.drop_length]; rfl
          have HH2 := hide (And.intro hnil (And.intro e0 hO))
          have hcase : (QA = none ∧ q.length = 0 ∧ qc = 0) ∨ ∃ qb, QA = some ⟨qb, 0, none⟩ ∧ q.length ≤ qc := by
            rcases Q2.2 with ⟨e1, e2⟩ | ⟨g', cap, cur, e1, _, hh, hc, _⟩
            · injection e1 with e1 e4 e3
              exact .inl ⟨e1, e2, e3⟩
            · cases e1
              obtain ⟨_, _, e2, hcap, _⟩ := own_form Q2
              cases e2
              exact .inr ⟨g', rfl, hcap⟩
          clear Q2 G1 M1 O1 Q1 e0 hO hnil
          rcases hcase with ⟨rfl, hq1, rfl⟩ | ⟨qb, rfl, hqc⟩
          · have hq2 : q = [] := List.eq_nil_of_length_eq_zero hq1
            subst hq2
            simp only [List.length_nil, Int.natCast_zero, List.drop_nil] at *
            go_wp2
            go_quiet (fail)
            go_wp2_with (first
              | (at_builtin; refine wpList_app el52 (.const (.slice none 0 0)) (.tmp 72) (World.ownsRow_nil _ w.heap.size 56 2) (Reads.zero (lo := 0) (hi := 0) rfl rfl) (qcells_one []) (N := 0) (ys := []) rfl rfl (by unfold maxLen; omega) (by omega) (by simp at *; omega) rfl rfl rfl rfl ?_; intro A3 c3 w3 hown3 hg3 hb3
                 have G3 := (HH2.out.2.1.drewN nq).grown hg3 (by simp [Value.ownBlock]); have k3 : w3.cell? ⟨g, 3, none⟩ = some (.slice none 0 0) := (by rw [G3.cell]; rfl); have f4 := G3.frozen 3)
              | go_in)
            go_ret2
            obtain ⟨hnil, e0, hO⟩ := HH2.out
            obtain ⟨G1, M1, O1, Q1⟩ := HG.out
            exact adv_end hHN.out (Nat.le_refl _) hB (fun x hx => by simp at hx) (fun y' hy' => by simp at hy') hA.out O1 hO e0 M1 hp hg3 hown3 (by simp)
          · go_wp2
            go_quiet (fail)
            go_wp2_with (first
              | (at_builtin; refine wpList_app el52 (.const (.slice none 0 0)) (.tmp 72) (World.ownsRow_nil _ w.heap.size 56 2) (Reads.zero (lo := 0) (hi := 0) (by simp) HH2.out.1) (qcells_one _) (N := 0) (ys := qcells (q.drop q.length)) (by simp) (by simp) (by unfold maxLen; omega) (by omega) (by simp at *; omega) rfl rfl rfl rfl ?_; intro A3 c3 w3 hown3 hg3 hb3
                 have G3 := (HH2.out.2.1.drewN nq).grown hg3 (by simp [Value.ownBlock]); have k3 : w3.cell? ⟨g, 3, none⟩ = some (.slice (some ⟨qb, 0, none⟩) q.length qc) := (by rw [G3.cell]; rfl); have f4 := G3.frozen 3)
              | go_in)
            all_goals go_ret2
            all_goals obtain ⟨hnil, e0, hO⟩ := HH2.out
            all_goals obtain ⟨G1, M1, O1, Q1⟩ := HG.out
            all_goals exact adv_end hHN.out (Nat.le_refl _) hB hD.out (fun y' hy' => by rw [List.getElem?_eq_none (Nat.le_refl _)] at hy'; cases hy') hA.out O1 hO e0 M1 hp hg3 hown3 (by simp)
    · intro x c w1 cnt1 hwx hwc hlx hat hrg1 hlt hg1 hs1 hen
      obtain ⟨v, hv, rfl⟩ : ∃ v, look p x = some v ∧ c = (v : Int) := by
        cases hl : look p x with
        | none =>
          have h0 : Maps.has D (.int .i64 x) = false := by rw [hp.has_, hl]; rfl
          have := hat (.lit (.int .i64 (c + 1)))
          rw [atKey_of_not_has h0] at this
          injection this with this
          injection this with _ this
          omega
        | some v =>
          have := hat (.lit (.int .i64 0))
          rw [hp.at_ x v hl] at this
          injection this with this
          injection this with _ this
          exact ⟨v, rfl, this.symm⟩
      have c1 : w1.cell? ⟨g, 0, none⟩ = some (.int .i64 (now : Int)) := by rw [← c0]; exact World.cell?_of_block (hg1.block g (by have := hO.out.size; show g < wr.heap.size; omega) (by simp; omega))
      have O1 : Only (fun _ => False) w w1 := hO.out.grown hg1 (fun k hk => .inr (by cases hk; exact Nat.le_refl _))
      by_cases hlt' : v < now
      · go_wp2
        go_ret2
        refine .inl ⟨busy_iff.2 ⟨x, v, hv, hlt'⟩, rfl, ⟨QA, qc, D, rfl, hg.only O1 id, hrg1.owns, hp, own_only hq O1 (fun _ _ => id)⟩, O1⟩
      · go_wp2
        go_roundw
        case rel =>
          refine ⟨_, cnt1, hrg1, ?_, O1⟩
          intro z u hl hf
          cases hz : left (.int .i64 z) with
          | false => exact hS.out z u hl hz
          | true =>
            simp only [hz] at hf
            have : z = x := by
              by_cases e : z = x
              · exact e
              · rw [key_ne e] at hf
                cases hf
            subst this
            rw [hv] at hl
            cases hl
            omega
        case measure => rw [hrg1.left_eq, hrg.left_eq]; exact hlt
end Go.Proofs.Ytajeifeigjggoaa
