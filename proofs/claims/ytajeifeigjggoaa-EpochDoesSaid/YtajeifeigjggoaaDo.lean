/- The law's own do: acts on a keeper, one by one; any acts. -/
import Derived.Test.YtajeifeigjggoaaKe
namespace Go.Proofs.Ytajeifeigjggoaa
open Go.RowKit Go.Maps Mem
set_option linter.unusedVariables false

def opcells (l : List (Int × Int)) : List Value := l.flatMap fun x => [Value.int .i64 x.1, .int .i64 x.2]
theorem opcells_len (l : List (Int × Int)) : (opcells l).length = l.length * 2 := by
  unfold opcells
  induction l with
  | nil => rfl
  | cons x r ih => simp only [List.flatMap_cons, List.length_append, List.length_cons, List.length_nil, ih]; omega
theorem opcells_at {l : List (Int × Int)} {k : Nat} (hk : k < l.length) : (opcells l)[k * 2]? = some (.int .i64 (l[k]).1) ∧ (opcells l)[k * 2 + 1]? = some (.int .i64 (l[k]).2) := by
  induction l generalizing k with
  | nil => simp at hk
  | cons x r ih =>
    cases k with
    | zero => exact ⟨rfl, rfl⟩
    | succ k =>
      have h := ih (k := k) (by simpa using hk)
      have e : opcells (x :: r) = Value.int .i64 x.1 :: .int .i64 x.2 :: opcells r := rfl
      rw [e, show (k + 1) * 2 = k * 2 + 1 + 1 from by omega]
      simpa using h

/-- a keeper's state, and whether x was let go -/
structure KS where
  now : Nat
  p : List Nat
  q : List (Int × Nat)
  gone : Bool
def KS.size (s : KS) : Nat := s.now + s.p.length + s.q.length

def actS (tk x : Int) (s : KS) (o : Int × Int) : KS :=
  if o.1 = 0 then { s with p := pinS s.now s.p }
  else if o.1 = 1 then (if o.2 = tk then s else { s with p := unpS s.p o.2 })
  else if o.1 = 2 then (if o.2 = x then s else { s with q := s.q ++ [(o.2, s.now)] })
  else if o.1 = 3 then { now := advN s.now s.p, p := s.p, q := advQ s.now s.p s.q, gone := s.gone || (advO s.now s.p s.q).any fun y => decide (y.1 = x) }
  else s
def doS (tk x : Int) (s : KS) (l : List (Int × Int)) : KS := l.foldl (actS tk x) s

theorem pinS_len (now : Nat) (p : List Nat) : (pinS now p).length ≤ p.length + 1 := by unfold pinS; split <;> simp
theorem unpS_len (p : List Nat) (t : Int) : (unpS p t).length = p.length := by unfold unpS; split <;> simp
theorem advQ_len (now : Nat) (p : List Nat) (q : List (Int × Nat)) : (advQ now p q).length ≤ q.length := by unfold advQ; split <;> simp
theorem advO_len (now : Nat) (p : List Nat) (q : List (Int × Nat)) : (advO now p q).length ≤ q.length := by
  unfold advO due
  split
  · simp
  · exact (List.takeWhile_prefix _).length_le
theorem advN_le (now : Nat) (p : List Nat) : advN now p ≤ now + 1 := by unfold advN; split <;> omega
theorem advN_ge (now : Nat) (p : List Nat) : now ≤ advN now p := by unfold advN; split <;> omega
theorem act_size (tk x : Int) (s : KS) (o : Int × Int) : (actS tk x s o).size ≤ s.size + 1 ∧ s.now ≤ (actS tk x s o).now := by
  have h1 := pinS_len s.now s.p
  have h2 := unpS_len s.p o.2
  have h3 := advQ_len s.now s.p s.q
  have h4 := advN_le s.now s.p
  have h5 := advN_ge s.now s.p
  unfold actS KS.size
  split
  · exact ⟨by show s.now + (pinS s.now s.p).length + s.q.length ≤ _; omega, Nat.le_refl _⟩
  · split
    · split
      · exact ⟨by omega, Nat.le_refl _⟩
      · exact ⟨by show s.now + (unpS s.p o.2).length + s.q.length ≤ _; omega, Nat.le_refl _⟩
    · split
      · split
        · exact ⟨by omega, Nat.le_refl _⟩
        · exact ⟨by show s.now + s.p.length + (s.q ++ [(o.2, s.now)]).length ≤ _; rw [List.length_append]; simp only [List.length_cons, List.length_nil]; omega, Nat.le_refl _⟩
      · split
        · exact ⟨by show advN s.now s.p + s.p.length + (advQ s.now s.p s.q).length ≤ _; omega, h5⟩
        · exact ⟨by omega, Nat.le_refl _⟩
theorem do_size (tk x : Int) (l : List (Int × Int)) (s : KS) : (doS tk x s l).size ≤ s.size + l.length ∧ s.now ≤ (doS tk x s l).now := by
  unfold doS
  induction l generalizing s with
  | nil => exact ⟨Nat.le_refl _, Nat.le_refl _⟩
  | cons o r ih =>
    have h1 := act_size tk x s o
    have h2 := ih (actS tk x s o)
    simp only [List.foldl_cons, List.length_cons]
    omega
theorem do_snoc (tk x : Int) (s : KS) (l : List (Int × Int)) (k : Nat) (o : Int × Int) (h : l[k]? = some o) : doS tk x s (l.take (k + 1)) = actS tk x (doS tk x s (l.take k)) o := by
  unfold doS
  rw [List.take_add_one, h]
  simp

/-- the keeper stands as s says -/
def Stands (w : World) (base g b : Nat) (s : KS) : Prop := Keep w base g b s.now s.p s.q

set_option maxRecDepth 100000 in
set_option maxHeartbeats 1000000 in
theorem do_any {base g b : Nat} (l : List (Int × Int)) (lo n c : Nat) (A : Option Addr) (w : World) (s : KS) (hr : Reads w lo base 2 A n (opcells l)) (h : Stands w base g b s) (hM : s.size ≤ 2000) (h1 : 1 ≤ s.now) (tk x : Int) :
    Calls Try.prog 8 #[.pointer (some ⟨g, 0, none⟩), .slice A n c, .int .i64 tk, .int .i64 x] w fun e w' => e = .returned (.bool ((doS tk x { s with gone := false } (l.take 300)).gone)) ∧
      Stands w' base g b (doS tk x { s with gone := false } (l.take 300)) ∧ Below base w w' := by
  have hl : l.length = n := by have := hr.1; rw [opcells_len] at this; omega
  have hbase : base ≤ w.heap.size := h.choose_spec.2.2.2
  generalize hs0 : ({ s with gone := false } : KS) = s0
  have hM0 : s0.size ≤ 2000 := by subst hs0; exact hM
  have hn0 : 1 ≤ s0.now := by subst hs0; exact h1
  have hS0 : Stands w base g b s0 := by subst hs0; exact h
  have hg0 : s0.gone = false := by subst hs0; rfl
  clear h hM h1 hs0
  go_enter Try.func8, Try.ntmps8
  go_wp2
  go_loopw [9, 10] (fun d i wr => ∃ k, k ≤ n ∧ k ≤ 300 ∧ d = .bool (doS tk x s0 (l.take k)).gone ∧ i = .int .i64 k ∧ Hid (Stands wr base g b (doS tk x s0 (l.take k))) ∧ Hid (Below base w wr)) (fun _ i _ => 300 - (intOf i).toNat)
  case atStart => exact ⟨0, Nat.zero_le _, Nat.zero_le _, by simp [doS, hg0], rfl, hS0, Below.refl _ _⟩
  case round =>
    obtain ⟨k, hk, hk3, rfl, rfl, hS, hB⟩ := hrel
    by_cases hlt : k < n ∧ k < 300
    · obtain ⟨hlt, hlt3⟩ := hlt
      obtain ⟨ob, oo, rfl, _, hob, _, hcells⟩ := hr.plain (by omega) (by omega)
      obtain ⟨u0, u1⟩ := opcells_at (l := l) (k := k) (by omega)
      have f0 : wr.cell? ⟨ob, oo + k * 2, none⟩ = some (.int .i64 (l[k]'(by omega)).1) := by rw [hB.out.cell hob, hcells _ (by omega), u0]
      have f1 : wr.cell? ⟨ob, oo + k * 2 + 1, none⟩ = some (.int .i64 (l[k]'(by omega)).2) := by rw [hB.out.cell hob, Nat.add_assoc, hcells _ (by omega), u1]
      have hnext := do_snoc tk x s0 l k (l[k]'(by omega)) (List.getElem?_eq_getElem _)
      have hd1 := do_size tk x (l.take k) s0
      have hlk : (l.take k).length ≤ 300 := by rw [List.length_take]; omega
      generalize l[k]'(by omega) = o at f0 f1 hnext
      obtain ⟨K, X⟩ := o
      generalize doS tk x s0 (l.take k) = d at hnext hd1 hS ⊢
      have hdM : d.size ≤ 2300 := by omega
      have hdn : 1 ≤ d.now := by omega
      have hS' := hS.out
      have hd2 : d.now ≤ 2300 ∧ d.p.length ≤ 2300 ∧ d.q.length ≤ 2300 := by unfold KS.size at hdM; omega
      have HN := hide hnext
      clear u0 u1 hcells hr hnext hd1 hS hS0 hdM
      dsimp only at f0 f1
      by_cases k0 : K = 0
      · subst k0
        go_wp2_with fail
        refine (pin_all hS' (by omega) (by omega) hdn).mono ?_
        rintro e w' ⟨rfl, hL⟩
        go_wp2
        go_roundw
        case rel => exact ⟨k + 1, by omega, by omega, by rw [HN.out]; rfl, by go_num, by rw [HN.out]; exact hL.1, hB.out.trans hL.2.2⟩
        case measure => simp [intOf]; omega
      by_cases k1 : K = 1
      · subst k1
        by_cases hX : X = tk
        · have e : actS tk x d (1, X) = d := by unfold actS; rw [if_neg (by simp), if_pos rfl, if_pos hX]
          have E := hide e
          clear e
          go_wp2
          go_roundw
          case rel => exact ⟨k + 1, by omega, by omega, by rw [HN.out, E.out], by go_num, by rw [HN.out, E.out]; exact hS', hB.out⟩
          case measure => simp [intOf]; omega
        · have e : actS tk x d (1, X) = { d with p := unpS d.p X } := by unfold actS; rw [if_neg (by simp), if_pos rfl, if_neg hX]
          have E := hide e
          clear e
          go_wp2_with fail
          refine (unpin_all X hS' (by omega)).mono ?_
          rintro e w' ⟨rfl, hL⟩
          go_wp2
          go_roundw
          case rel => exact ⟨k + 1, by omega, by omega, by rw [HN.out, E.out], by go_num, by rw [HN.out, E.out]; exact hL.1, hB.out.trans hL.2.2⟩
          case measure => simp [intOf]; omega
      by_cases k2 : K = 2
      · subst k2
        by_cases hX : X = x
        · have e : actS tk x d (2, X) = d := by unfold actS; rw [if_neg (by simp), if_neg (by simp), if_pos rfl, if_pos hX]
          have E := hide e
          clear e
          go_wp2
          go_roundw
          case rel => exact ⟨k + 1, by omega, by omega, by rw [HN.out, E.out], by go_num, by rw [HN.out, E.out]; exact hS', hB.out⟩
          case measure => simp [intOf]; omega
        · have e : actS tk x d (2, X) = { d with q := d.q ++ [(X, d.now)] } := by unfold actS; rw [if_neg (by simp), if_neg (by simp), if_pos rfl, if_neg hX]
          have E := hide e
          clear e
          go_wp2_with fail
          refine (retire_all X hS' (by omega)).mono ?_
          rintro e w' ⟨rfl, hL⟩
          go_wp2
          go_roundw
          case rel => exact ⟨k + 1, by omega, by omega, by rw [HN.out, E.out], by go_num, by rw [HN.out, E.out]; exact hL.1, hB.out.trans hL.2.2⟩
          case measure => simp [intOf]; omega
      by_cases k3 : K = 3
      · subst k3
        have e : actS tk x d (3, X) = { now := advN d.now d.p, p := d.p, q := advQ d.now d.p d.q, gone := d.gone || (advO d.now d.p d.q).any fun y => decide (y.1 = x) } := by
          unfold actS; rw [if_neg (by simp), if_neg (by simp), if_neg (by simp), if_pos rfl]
        have E := hide e
        clear e
        go_wp2_with fail
        refine (advance_all hS' (by omega) (by omega)).mono ?_
        rintro e w' ⟨A1, c1, rfl, hA, hL⟩
        have hOl : (advO d.now d.p d.q).length ≤ 2300 := by
          have := advO_len d.now d.p d.q
          omega
        obtain ⟨_, _, eA, _, hRA⟩ := own_form hA
        cases eA
        generalize advO d.now d.p d.q = O at hA E hOl hRA ⊢
        clear hA
        obtain ⟨wo, rfl⟩ : ∃ wo : World, wo = wr := ⟨_, rfl⟩
        go_wp2
        go_loopw [9, 13] (fun v j wr' => ∃ m, m ≤ O.length ∧ j = .int .i64 (m : Nat) ∧ v = .bool (d.gone || (O.take m).any fun y => decide (y.1 = x)) ∧ wr' = w') (fun _ j _ => O.length - (intOf j).toNat)
        case atStart => exact ⟨0, Nat.zero_le _, rfl, by simp, rfl⟩
        case round =>
          obtain ⟨m, hm, rfl, rfl, rfl⟩ := hrel
          by_cases hmo : m < O.length
          · obtain ⟨ab, ao, rfl, _, _, _, hac⟩ := hRA.plain (by omega) (by omega)
            have hy : O[m]? = some O[m] := List.getElem?_eq_getElem hmo
            have a0 : wr.cell? ⟨ab, ao + m, none⟩ = some (.int .i64 (O[m]).1) := by
              rw [hac m (by omega)]
              unfold outs
              rw [List.getElem?_map, hy]
              rfl
            generalize O[m] = y at hy a0
            have hstep : (d.gone || (O.take (m + 1)).any fun y => decide (y.1 = x)) = ((d.gone || (O.take m).any fun y => decide (y.1 = x)) || decide (y.1 = x)) := by
              rw [List.take_add_one, hy, List.any_append]
              simp [Bool.or_assoc]
            have HST := hide hstep
            clear hstep hac hy
            generalize hgm : (d.gone || (O.take m).any fun y => decide (y.1 = x)) = gm at HST ⊢
            cases gm with
            | true =>
              go_wp2
              go_roundw
              case rel => exact ⟨m + 1, by omega, by go_num, by rw [HST.out]; rfl, trivial⟩
              case measure => simp [intOf]; omega
            | false =>
              by_cases hyx : y.1 = x
              · go_wp2
                go_roundw
                case rel => exact ⟨m + 1, by omega, by go_num, by rw [HST.out]; simp [hyx], trivial⟩
                case measure => simp [intOf]; omega
              · go_wp2
                go_roundw
                case rel => exact ⟨m + 1, by omega, by go_num, by rw [HST.out]; simp [hyx], trivial⟩
                case measure => simp [intOf]; omega
          · have hO : O.take m = O := List.take_of_length_le (by omega)
            rw [hO]
            have HOO := hide hO
            clear hO
            go_wp2
            go_roundw
            case rel => exact ⟨k + 1, by omega, by omega, by rw [HN.out, E.out], by go_num, by rw [HN.out, E.out]; exact hL.1, hB.out.trans hL.2.2⟩
            case measure => simp [intOf]; omega
      · have e : actS tk x d (K, X) = d := by unfold actS; rw [if_neg k0, if_neg k1, if_neg k2, if_neg k3]
        have E := hide e
        clear e
        go_wp2
        go_roundw
        case rel => exact ⟨k + 1, by omega, by omega, by rw [HN.out, E.out], by go_num, by rw [HN.out, E.out]; exact hS', hB.out⟩
        case measure => simp [intOf]; omega
    · have hkk : l.take k = l.take 300 := by
        by_cases h3 : k = 300
        · rw [h3]
        · rw [List.take_of_length_le (by omega), List.take_of_length_le (by omega)]
      have hS2 : Stands wr base g b (doS tk x s0 (l.take 300)) := hkk ▸ hS.out
      have hgn : (doS tk x s0 (l.take k)).gone = (doS tk x s0 (l.take 300)).gone := by rw [hkk]
      have HS2 := hide hS2
      have HGN := hide hgn
      clear hgn hkk hS hS2 hr hS0
      by_cases hkn : k < n
      · have hk30 : ¬ k < 300 := by omega
        go_wp2
        go_ret
        exact ⟨by rw [← HGN.out]; rfl, HS2.out, hB.out⟩
      · go_wp2
        go_ret
        exact ⟨by rw [← HGN.out]; rfl, HS2.out, hB.out⟩
end Go.Proofs.Ytajeifeigjggoaa
