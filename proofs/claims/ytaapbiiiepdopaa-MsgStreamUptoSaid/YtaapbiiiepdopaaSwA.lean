/- Messages sent in frames, in plain Lean; each law's condition stands in its statement. MsgStream: messages sent in frames come as they were, in any pieces; where what comes in is of small bulk. MsgStream, of arguments. -/
import Derived.Test.YtaapbiiiepdopaaFrA
import Derived.Test.YtaapbiiiepdopaaLa
import Derived.Test.YtaapbiiiepdopaaMoA
import Derived.Deep.CutRange
namespace Go.Proofs.Ytaapbiiiepdopaa.Fr
set_option linter.unusedVariables false

noncomputable def sentB (m : M) : Bool := match encM m with
  | .ok _ => true
  | .error _ => false
noncomputable def sent (l : List M) : List M := l.filter sentB
def load (m : M) : List UInt8 := byt (listM m)
noncomputable def wire (l : List M) : List UInt8 := (sent l).flatMap fun m => encB (load m)
theorem sentB_ok {m : M} (h : sentB m = true) : encM m = .ok (load m) := by
  unfold sentB at h
  cases e : encM m with
  | error z => rw [e] at h; cases h
  | ok bs => rw [← (encM_ok e).2.2.1]; rfl
theorem sentB_iff {m : M} {bs : List UInt8} (h : encM m = .ok bs) : sentB m = true ∧ load m = bs := by
  refine ⟨?_, (encM_ok h).2.2.1⟩
  unfold sentB
  rw [h]
theorem sentB_no {m : M} {z : Int} (h : encM m = .error z) : ¬ sentB m = true := by
  unfold sentB
  rw [h]
  exact Bool.false_ne_true
theorem load_pos (m : M) : 1 ≤ (load m).length := by unfold load listM; rw [byt]; simp
theorem load_le {m : M} (h : sentB m = true) : (load m).length ≤ 32768 := (encM_ok (sentB_ok h)).2.2.2
theorem load_wt {m : M} (h : sentB m = true) (hw : wfM m) : 4 + (load m).length ≤ 59 * wtM m := by
  have h1 := mayB_len (encM_ok (sentB_ok h)).2.1 (wf_list hw)
  have h2 := bulk_rest m
  unfold load wtM
  omega
theorem sent_take {l : List M} {j : Nat} {m : M} (h : l[j]? = some m) : sent (l.take (j + 1)) = sent (l.take j) ++ (if sentB m = true then [m] else []) ∧ wire (l.take (j + 1)) = wire (l.take j) ++ (if sentB m = true then encB (load m) else []) := by
  unfold wire sent
  rw [List.take_add_one, h, List.filter_append]
  by_cases hg : sentB m = true <;> simp [hg]
theorem wire_wt {l : List M} (hw : ∀ m ∈ l, wfM m) : (wire l).length ≤ 59 * wtMs l := by
  unfold wire sent
  induction l with
  | nil => simp
  | cons m r ih =>
    have h1 := ih fun m hm => hw m (List.mem_cons_of_mem _ hm)
    simp only [wtMs]
    by_cases hg : sentB m = true
    · have h2 := load_wt hg (hw m List.mem_cons_self)
      rw [List.filter_cons_of_pos hg, List.flatMap_cons, List.length_append, encB_len]
      omega
    · rw [List.filter_cons_of_neg hg]
      omega
theorem sent_len (l : List M) : (sent l).length ≤ l.length := List.length_filter_le _ _
theorem wtMs_take : ∀ (l : List M) (j : Nat), wtMs (l.take j) ≤ wtMs l
  | [], j => by simp
  | m :: l, 0 => by simp [wtMs]
  | m :: l, j + 1 => by
    have := wtMs_take l j
    simp only [List.take_succ_cons, wtMs]
    omega
theorem sent_mem {l : List M} {k : Nat} {m : M} (h : (sent l)[k]? = some m) : sentB m = true ∧ m ∈ l := by
  have hm := List.mem_of_getElem? h
  unfold sent at hm
  rw [List.mem_filter] at hm
  exact ⟨hm.2, hm.1⟩
theorem wire_parse (l : List M) : parse (wire l) = ((sent l).map load, some []) := by
  unfold wire
  have key : ∀ r : List M, (∀ m ∈ r, sentB m = true) → parse (r.flatMap fun m => encB (load m)) = (r.map load, some []) := by
    intro r
    induction r with
    | nil => intro _; rfl
    | cons m r ih =>
      intro h
      rw [List.flatMap_cons, parse_enc _ _ (load_pos m) (load_le (h m List.mem_cons_self)), ih fun m hm => h m (List.mem_cons_of_mem _ hm), List.map_cons]
  exact key _ fun m hm => by unfold sent at hm; exact (List.mem_filter.1 hm).2
/-- the front of such a stream -/
theorem wire_front (l : List M) (t : Nat) : ∃ r, (parse ((wire l).take t)).2 = some r ∧ r.length ≤ 32771 ∧ (parse ((wire l).take t)).1 = ((sent l).take (parse ((wire l).take t)).1.length).map load ∧ (parse ((wire l).take t)).1.length ≤ (sent l).length := by
  cases h : (parse ((wire l).take t)).2 with
  | none =>
    have e := (parse_append _ ((wire l).take t) ((wire l).drop t) (Nat.le_refl _)).2 h
    rw [List.take_append_drop, wire_parse] at e
    rw [← e] at h
    cases h
  | some r =>
    have e := (parse_append _ ((wire l).take t) ((wire l).drop t) (Nat.le_refl _)).1 r h
    rw [List.take_append_drop, wire_parse] at e
    have e1 := congrArg Prod.fst e
    simp only at e1
    have hr := parse_rest _ ((wire l).take t) (Nat.le_refl _)
    rw [h] at hr
    have hlen : (parse ((wire l).take t)).1.length ≤ (sent l).length := by
      have := congrArg List.length e1
      simp only [List.length_map, List.length_append] at this
      omega
    refine ⟨r, rfl, hr, ?_, hlen⟩
    have e2 := congrArg (List.take (parse ((wire l).take t)).1.length) e1
    rw [List.take_left, ← List.map_take] at e2
    exact e2.symm
/-- so many messages have come with the first t bytes -/
noncomputable def came (l : List M) (t : Nat) : Nat := (parse ((wire l).take t)).1.length
theorem came_le (l : List M) (t : Nat) : came l t ≤ (sent l).length := (wire_front l t).choose_spec.2.2.2
theorem came_zero (l : List M) : came l 0 = 0 := rfl
theorem came_all (l : List M) {t : Nat} (h : (wire l).length ≤ t) : came l t = (sent l).length := by
  unfold came
  rw [List.take_of_length_le h, wire_parse, List.length_map]
theorem came_step (l : List M) {t m : Nat} {rest : List UInt8} {fs : List (List UInt8)} {r : Option (List UInt8)} (h : (parse ((wire l).take t)).2 = some rest) (hp : (fs, r) = parse (rest ++ ((wire l).drop t).take m)) :
    (∃ r', r = some r' ∧ (parse ((wire l).take (t + m))).2 = some r') ∧ came l (t + m) = came l t + fs.length ∧ ∀ i x, fs[i]? = some x → ∃ u, (sent l)[came l t + i]? = some u ∧ x = load u := by
  have e : parse ((wire l).take (t + m)) = ((parse ((wire l).take t)).1 ++ fs, r) := by
    rw [List.take_add, (parse_append _ _ (((wire l).drop t).take m) (Nat.le_refl _)).1 rest h, ← hp]
  obtain ⟨r', h1, _, h2, h3⟩ := wire_front l (t + m)
  rw [e] at h1 h2 h3
  simp only at h1 h2 h3
  have hc : came l (t + m) = came l t + fs.length := by
    unfold came
    rw [e]
    simp
  refine ⟨⟨r', h1, by rw [e]; exact h1⟩, hc, fun i x hx => ?_⟩
  have h4 : ((parse ((wire l).take t)).1 ++ fs)[came l t + i]? = some x := by
    rw [List.getElem?_append_right (by unfold came; omega)]
    have : came l t + i - (parse ((wire l).take t)).1.length = i := by unfold came; omega
    rw [this]
    exact hx
  rw [h2, List.getElem?_map] at h4
  cases hu : ((sent l).take ((parse ((wire l).take t)).1 ++ fs).length)[came l t + i]? with
  | none => rw [hu] at h4; cases h4
  | some u =>
    rw [hu] at h4
    simp only [Option.map_some, Option.some.injEq] at h4
    refine ⟨u, ?_, h4.symm⟩
    rw [List.getElem?_take] at hu
    split at hu
    · exact hu
    · cases hu
theorem load_back {l : List M} (hw : ∀ m ∈ l, wfM m) {k : Nat} {u : M} (h : (sent l)[k]? = some u) : decM (load u) = some u := by
  obtain ⟨h1, h2⟩ := sent_mem h
  exact dec_enc (sentB_ok h1) (hw u h2)
end Go.Proofs.Ytaapbiiiepdopaa.Fr

namespace Go.Proofs.Ytaapbiiiepdopaa.Fr
open Go.RowKit Go.WideShapes Mem Go.Deep
set_option linter.unusedVariables false
set_option linter.unusedSimpArgs false

theorem el49 : Elem Try.prog 49 41 (.agg #[.int .i64 0, .string ⟨#[]⟩, .string ⟨#[]⟩, .int .i64 0, .int .i64 0, .bool false, .int .i64 0, .string ⟨#[]⟩, .slice none 0 0, .slice none 0 0]) 10 136 := ⟨Try.underlying49, by kernel_rfl, rfl, by decide⟩
theorem IsMs.wf {w : World} {S : Nat → Prop} : ∀ {l : List M} {xs : List Value}, IsMs w S l xs → ∀ m ∈ l, wfM m
  | [], _, _, m, h => by cases h
  | u :: l, xs, ⟨cs, ys, e, h1, h2⟩, m, h => by
    rcases List.mem_cons.1 h with rfl | h
    · exact h1.wf
    · exact IsMs.wf h2 m h
theorem own_cap {w : World} {base e size n c : Nat} {A : Option Addr} {ys : List Value} (h : w.ownsRow base e size (.slice A n c) n ys) : n ≤ c ∧ c ≤ 9223372036854775807 := by
  rcases h.2 with ⟨e1, rfl⟩ | ⟨g, cap, cur, e1, hb, hh, h1, h2, _⟩
  · cases e1; exact ⟨Nat.le_refl _, by decide⟩
  · cases e1; exact ⟨h1, h2⟩
theorem piece_num (z : Int) : wrap64 (1 + wrap64 ((IntKind.u64.wrap z).tmod 13)) = ((1 + ((z % 18446744073709551616) % 13).toNat : Nat) : Int) := by
  rw [IntKind.wrap_u64, Int.tmod_eq_emod_of_nonneg (by omega)]
  unfold wrap64
  omega
/-- what is told of the messages does not lie in the blocks that are written -/
def GS (g : Nat) (h got : Value) : Nat → Prop := fun b => b ≠ g ∧ h.ownBlock ≠ some b ∧ got.ownBlock ≠ some b
theorem GS_step {g base n : Nat} {h got got' : Value} {l : List M} {u : M} {ys : List Value} {cs : Array Value} {wx w5 w6 w7 : World} (hown : wx.ownsRow base 41 10 got n ys) (hI : IsMs wx (GS g h got) l ys) (hb : Below wx.heap.size wx w5)
    (hM : IsM w5 (fun b => wx.heap.size ≤ b) u cs) (hal : Below w5.heap.size w5 w6) (hg : w6.grownBy w7 got.ownBlock) (hnew : got'.ownBlock = got.ownBlock ∨ got'.ownBlock = some w6.heap.size) (hgl : g < wx.heap.size)
    (hh : ∀ k, h.ownBlock = some k → k < wx.heap.size) : IsMs w7 (GS g h got') (l ++ [u]) (ys ++ cs.toList) := by
  have h5 := hb.size
  have h6 := hal.size
  have hs : ∀ b, b < w6.heap.size → got.ownBlock ≠ some b → got'.ownBlock ≠ some b := by
    intro b hb6 hn
    rcases hnew with e | e <;> rw [e]
    · exact hn
    · intro e2
      simp only [Option.some.injEq] at e2
      omega
  have hgo : ∀ k, got.ownBlock = some k → k < wx.heap.size := fun k hk => (hown.lt k hk).2
  have a1 : IsMs w6 (GS g h got) l ys := (hI.grow hb).grow hal
  have a2 : IsMs w7 (GS g h got') l ys := a1.keep (fun b hS hlt => hg.block b hlt (fun e => hS.2.2 e.symm)) (fun b hS hlt => ⟨hS.1, hS.2.1, hs b hlt hS.2.2⟩)
  have b1 : IsM w6 (fun b => wx.heap.size ≤ b) u cs := hM.grow hal
  have b2 : IsM w7 (GS g h got') u cs := b1.keep (fun b hS hlt => hg.block b hlt (fun e => by have := hgo b e.symm; omega))
    (fun b hS hlt => ⟨by omega, fun e => by have := hh b e; omega, hs b hlt (fun e => by have := hgo b e; omega)⟩)
  exact a2.app (IsMs.one b2)
theorem GS_feed {g mid : Nat} {h h' got : Value} {l : List M} {ys : List Value} {wr w4 : World} (hI : IsMs wr (GS g h got) l ys) (ho : Only (fun k => k = g ∨ h.ownBlock = some k) wr w4) (h7 : ∀ k, h'.ownBlock = some k → mid ≤ k) (hm : wr.heap.size ≤ mid) :
    IsMs w4 (GS g h' got) l ys := hI.keep (fun b hS hlt => ho.block b hlt (by
      rintro (e | e)
      · exact hS.1 e
      · exact hS.2.1 e)) (fun b hS hlt => ⟨hS.1, fun e => by have := h7 b e; omega, hS.2.2⟩)
theorem own2_at {w : World} {e lo hi : Nat} : ∀ {vs : List Value} {xs : List (List UInt8)}, Own2 w e lo hi vs xs → ∀ {k : Nat} {x : List UInt8}, xs[k]? = some x → ∃ A c, vs[k]? = some (.slice A x.length c) ∧ w.ownsRow lo e 1 (.slice A x.length c) x.length (x.map B8) ∧ ∀ b, (Value.slice A x.length c).ownBlock = some b → b < hi
  | [], [], _, k, x, h => by simp at h
  | [], _ :: _, h, _, _, _ => h.elim
  | _ :: _, [], h, _, _, _ => h.elim
  | v :: vs, y :: ys, h, 0, x, hx => by
    simp at hx
    subst hx
    obtain ⟨A, c, e1, _⟩ := own_form h.1.1
    subst e1
    exact ⟨A, c, rfl, h.1.1, h.1.2⟩
  | v :: vs, y :: ys, h, k + 1, x, hx => by
    obtain ⟨A, c, h1, h2⟩ := own2_at h.2 (k := k) (x := x) (by simpa using hx)
    exact ⟨A, c, by simpa using h1, h2⟩
/-- what stands at each round's head of the first loop -/
def EncInv (n : Nat) (ms : List M) (w : World) (b want i : Value) (wr : World) : Prop :=
  ∃ (j : Nat) (BA WA : Option Addr) (bc wc : Nat) (ys : List Value), j ≤ n ∧ i = .int .i64 (j : Int) ∧ b = .slice BA (wire (ms.take j)).length bc ∧ want = .slice WA (sent (ms.take j)).length wc ∧
    wr.ownsRow w.heap.size 5 1 (.slice BA (wire (ms.take j)).length bc) (wire (ms.take j)).length ((wire (ms.take j)).map B8) ∧
    wr.ownsRow w.heap.size 41 10 (.slice WA (sent (ms.take j)).length wc) (sent (ms.take j)).length ys ∧ IsMs w (fun b => b < w.heap.size) (sent (ms.take j)) ys ∧ Below w.heap.size w wr
/-- what stands at each round's head of the second loop; g: the reader's block, B: the world in which it was made -/
def GotInv (N g : Nat) (ms : List M) (B : World) (k : Nat) (got i at_ : Value) (wr : World) : Prop :=
  ∃ (t j : Nat) (HA GA : Option Addr) (hc gc mid : Nat) (rest : List UInt8) (ys : List Value), i = .int .i64 (j : Int) ∧ at_ = .int .i64 (t : Int) ∧ t ≤ N ∧ k = N - t ∧ j ≤ t ∧ got = .slice GA (came ms t) gc ∧
    (parse ((wire ms).take t)).2 = some rest ∧ Blk wr g 81 #[.slice HA rest.length hc, .bool false] ∧ wr.ownsRow mid 5 1 (.slice HA rest.length hc) rest.length (rest.map B8) ∧
    wr.ownsRow B.heap.size 41 10 (.slice GA (came ms t) gc) (came ms t) ys ∧ IsMs wr (GS g (.slice HA rest.length hc) (.slice GA (came ms t) gc)) ((sent ms).take (came ms t)) ys ∧ B.heap.size ≤ mid ∧ mid ≤ wr.heap.size ∧ Only (fun k => k = g) B wr
/-- what stands at each round's head of the third loop; w4: the world behind Feed -/
def InInv (g c0 n : Nat) (ms : List M) (base : Nat) (held got0 : Value) (w4 : World) (k : Nat) (got q : Value) (wx : World) : Prop :=
  ∃ (i : Nat) (GA : Option Addr) (gc : Nat) (ys : List Value), q = .int .i64 (i : Int) ∧ i ≤ n ∧ k = n - i ∧ got = .slice GA (c0 + i) gc ∧ wx.ownsRow base 41 10 (.slice GA (c0 + i) gc) (c0 + i) ys ∧
    IsMs wx (GS g held (.slice GA (c0 + i) gc)) ((sent ms).take (c0 + i)) ys ∧ (∀ b, (Value.slice GA (c0 + i) gc).ownBlock = some b → got0.ownBlock = some b ∨ w4.heap.size ≤ b) ∧ Only (fun b => got0.ownBlock = some b) w4 wx

set_option maxRecDepth 100000 in
set_option maxHeartbeats 8000000 in
theorem stream_any (n c cn cc : Nat) (A CA : Option Addr) (ms : List M) (xs : List Value) (zs : List Int) (w : World) (hn : ms.length = n) (hR : RdS w (fun b => b < w.heap.size) 10 A n xs) (hI : IsMs w (fun b => b < w.heap.size) ms xs)
    (hz : Reads w 0 w.heap.size 1 CA cn (zs.map (Value.int .i64))) (hsz : wtMs ms ≤ 1048576) :
    Calls Try.prog 13 #[.slice A n c, .slice CA cn cc] w fun e w' => e = .returned (.bool true) ∧ Below w.heap.size w w' := by
  have hnn : n ≤ 1048576 := by have := wtMs_len ms; omega
  have hwf := IsMs.wf hI
  have hwire : (wire ms).length ≤ 61865984 := by have := wire_wt hwf; omega
  have hsent : (sent ms).length ≤ 1048576 := by have := sent_len ms; omega
  have HL := hide hn
  have HX := hide (And.intro hR (And.intro hI hsz))
  have HWF := hide hwf
  have HZ := hide hz
  clear hn hR hI hsz hz hwf
  go_enter Try.func13, Try.ntmps13
  go_wp2_with fail
  go_loopw [5, 6, 7] (fun b want i wr => EncInv n ms w b want i wr) (fun _ _ i _ => n - (intOf i).toNat)
  case atStart => exact ⟨0, none, none, 0, 0, [], Nat.zero_le _, rfl, rfl, rfl, World.ownsRow_nil _ _ _ _, World.ownsRow_nil _ _ _ _, rfl, Below.refl _ _⟩
  case round =>
    obtain ⟨j, BA, WA, bc, wc, ys, hj, rfl, rfl, rfl, hb, hw, hwr, hB⟩ := hrel
    have hS := hB.size
    by_cases hlt : j < n
    · obtain ⟨hR, hI, hsz⟩ := HX.out
      have hR1 := hR
      rw [← HL.out] at hR1
      have hltm : j < ms.length := by rw [HL.out]; exact hlt
      obtain ⟨bA, oA, cs, rfl, hbw, hbA, hM, hcs⟩ := (hI.below hB (fun b h => h)).get (hR1.below hB (fun b h => h)) hltm
      obtain ⟨k2, s2, t2, n2, vk2, vb2, vn2, vs2, AL2, nL2, cL2, AK2, nK2, cK2, rfl⟩ := hM.ten
      obtain ⟨m, hm⟩ : ∃ m, m = ms[j] := ⟨_, rfl⟩
      have hmj : ms[j]? = some m := by rw [List.getElem?_eq_getElem hltm, hm]
      rw [← hm] at hM
      have hMw : IsM w (fun b => b < w.heap.size) m #[.int .i64 k2, .string s2, .string t2, .int .i64 n2, .int .i64 vk2, .bool vb2, .int .i64 vn2, .string vs2, .slice AL2 nL2 cL2, .slice AK2 nK2 cK2] := hM.keep (fun b h1 _ => (hB.block b h1).symm) (fun _ h _ => h)
      have hwm : wtM m ≤ 1048576 := by have := wtMs_mem hmj; omega
      have hlv : mayB (listM m) = true → (byt (listM m)).length ≤ 35184372088832 := fun h => by
        have h1 := mayB_len h (wf_list hM.wf)
        have h2 := bulk_rest m
        unfold wtM at hwm
        omega
      have hst2 : (wire (ms.take j)).length ≤ 61865984 := by
        have h1 := wire_wt (l := ms.take j) (fun m h => HWF.out m (List.mem_of_mem_take h))
        have h2 := wtMs_take ms j
        omega
      have hfl : (sent (ms.take j)).length ≤ 1048576 := by
        have h1 := sent_len (ms.take j)
        rw [List.length_take] at h1
        omega
      have HST := hide (sent_take hmj)
      have HLV := hide hlv
      clear hlv
      have hbA' : bA < wr.heap.size := hbA
      have g0 : wr.cell? ⟨bA, oA + j * 10, none⟩ = some (.int .i64 k2) := hcs 0 (by decide)
      have g1 : wr.cell? ⟨bA, oA + j * 10 + 1, none⟩ = some (.string s2) := hcs 1 (by decide)
      have g2 : wr.cell? ⟨bA, oA + j * 10 + 2, none⟩ = some (.string t2) := hcs 2 (by decide)
      have g3 : wr.cell? ⟨bA, oA + j * 10 + 3, none⟩ = some (.int .i64 n2) := hcs 3 (by decide)
      have g4 : wr.cell? ⟨bA, oA + j * 10 + 4, none⟩ = some (.int .i64 vk2) := hcs 4 (by decide)
      have g5 : wr.cell? ⟨bA, oA + j * 10 + 5, none⟩ = some (.bool vb2) := hcs 5 (by decide)
      have g6 : wr.cell? ⟨bA, oA + j * 10 + 6, none⟩ = some (.int .i64 vn2) := hcs 6 (by decide)
      have g7 : wr.cell? ⟨bA, oA + j * 10 + 7, none⟩ = some (.string vs2) := hcs 7 (by decide)
      have g8 : wr.cell? ⟨bA, oA + j * 10 + 8, none⟩ = some (.slice AL2 nL2 cL2) := hcs 8 (by decide)
      have g9 : wr.cell? ⟨bA, oA + j * 10 + 9, none⟩ = some (.slice AK2 nK2 cK2) := hcs 9 (by decide)
      have HCS := hide hcs
      have HMw := hide hMw
      have HMr := hide hM
      clear hcs hm hmj hwm hR hI hsz hR1 hltm hM hMw
      go_wp2_with fail
      refine (encodeM_any HMr.out HLV.out).mono ?_
      intro e w1 he
      have hb1 := he.1
      have HB1 := hide (hB.trans (hb1.mono hS))
      cases hen : encM m with
      | error z =>
        obtain ⟨s1, s2⟩ := HST.out
        obtain ⟨_, rfl⟩ := EncMP_err he.p hen
        have hz : ¬ z = 0 := by
          unfold encM at hen
          split at hen
          · split at hen
            · cases hen
            · cases hen; decide
          · cases hen; decide
        have tz : (z == 0) = false := by simp [hz]
        have tz2 : (z != 0) = true := by simp [hz]
        have hno := sentB_no hen
        rw [if_neg hno, List.append_nil] at s1 s2
        have HF : Hid (EncInv n ms w (.slice BA (wire (ms.take j)).length bc) (.slice WA (sent (ms.take j)).length wc) (.int .i64 ((j : Int) + 1)) w1) := by
          refine ⟨j + 1, BA, WA, bc, wc, ys, hlt, by go_num, ?_⟩
          rw [s1, s2]
          exact ⟨rfl, rfl, own_only hb (Only.ofBelow (S := fun _ => False) hb1) (by simp), own_only hw (Only.ofBelow (S := fun _ => False) hb1) (by simp), hwr, HB1.out⟩
        have HZ0 := hide hz
        clear he hen hb1 hz hno s1 s2 hb hw hwr g0 g1 g2 g3 g4 g5 g6 g7 g8 g9
        go_wp2_with fail
        go_roundw
        case rel => exact HF.out
        case measure => simp [intOf]; omega
      | ok bs =>
        obtain ⟨s1, s2⟩ := HST.out
        obtain ⟨_, A1, c1, rfl, hr1, hcap⟩ := EncMQ_get he hen
        obtain ⟨hsb, hld⟩ := sentB_iff hen
        rw [if_pos hsb, hld] at s2
        rw [if_pos hsb] at s1
        have hpos : 1 ≤ bs.length := by rw [← hld]; exact load_pos m
        have hle : bs.length ≤ 32768 := by rw [← hld]; exact load_le hsb
        have HS := hide (And.intro s2 s1)
        have HR1 := hide hr1
        have hs1 := hb1.size
        have HW1 := hide (own_only hb (Only.ofBelow (S := fun _ => False) hb1) (by simp))
        have HW2 := hide (own_only hw (Only.ofBelow (S := fun _ => False) hb1) (by simp))
        have HBB := hide hb1
        clear he hen s1 s2 hsb hld hb hw hr1 hb1 g0 g1 g2 g3 g4 g5 g6 g7 g8 g9
        generalize hbl : bs.length = L at hpos hle hcap HR1 ⊢
        have HBL := hide hbl
        clear hbl
        go_wp2_with fail
        refine (enc_ok w1.heap.size L c1 A1 bs w1 HR1.out hpos hle (Nat.le_refl _)).mono ?_
        rintro e w2 ⟨A2, c2, rfl, hown2, hB2⟩
        obtain ⟨_, _, e, _, r2⟩ := own_form hown2
        cases e
        have hs2 := hB2.size
        have hw2 := own_only HW1.out (Only.ofBelow (S := fun _ => False) hB2) (by simp)
        have hv2 := own_only HW2.out (Only.ofBelow (S := fun _ => False) hB2) (by simp)
        have hlen2 : (wire (ms.take (j + 1))).length = (wire (ms.take j)).length + (4 + L) := by rw [HS.out.1, List.length_append, encB_len, HBL.out]
        have HLEN := hide hlen2
        clear hlen2
        go_wp2_with (at_builtin; refine pause ?_)
        refine unpause ?_
        refine wpList_app el27 (.tmp 45) (.tmp 46) hw2 r2 (B8_one _) (N := (wire (ms.take (j + 1))).length) (ys := (wire (ms.take (j + 1))).map B8) (by rw [HLEN.out]) (by rw [HS.out.1, List.map_append]) (by rw [HLEN.out]; unfold maxLen; omega) (by rw [HLEN.out]; omega) (by omega) rfl rfl rfl rfl ?_
        intro A3 c3 w3 hown3 hg3 hb3
        have key : ∀ r, r < 10 → w3.cell? ⟨bA, oA + j * 10 + r, none⟩ = #[.int .i64 k2, .string s2, .string t2, .int .i64 n2, .int .i64 vk2, .bool vb2, .int .i64 vn2, .string vs2, .slice AL2 nL2 cL2, .slice AK2 nK2 cK2][r]? := fun r hr => by
          rw [World.cell?_of_block (w := w2) (hg3.block bA (by omega) (fun h => by have := (hw2.lt bA h.symm).1; have hbw : bA < w.heap.size := hbw; omega)), hB2.cell (by show bA < w1.heap.size; omega), HBB.out.cell hbA']
          exact HCS.out r hr
        have hs3 := hg3.size
        have hv3 := (own_grown hv2 hg3 (own_own_ne hv2 hw2 (by decide))).alloc (.cells #[.int .i64 k2, .string s2, .string t2, .int .i64 n2, .int .i64 vk2, .bool vb2, .int .i64 vn2, .string vs2, .slice AL2 nL2 cL2, .slice AK2 nK2 cK2] 41)
        have HO3 := hide hown3
        have HG3 := hide hg3
        have HW3 := hide hw2
        have q0 : w3.cell? ⟨bA, oA + j * 10, none⟩ = some (.int .i64 k2) := key 0 (by decide)
        have q1 : w3.cell? ⟨bA, oA + j * 10 + 1, none⟩ = some (.string s2) := key 1 (by decide)
        have q2 : w3.cell? ⟨bA, oA + j * 10 + 2, none⟩ = some (.string t2) := key 2 (by decide)
        have q3 : w3.cell? ⟨bA, oA + j * 10 + 3, none⟩ = some (.int .i64 n2) := key 3 (by decide)
        have q4 : w3.cell? ⟨bA, oA + j * 10 + 4, none⟩ = some (.int .i64 vk2) := key 4 (by decide)
        have q5 : w3.cell? ⟨bA, oA + j * 10 + 5, none⟩ = some (.bool vb2) := key 5 (by decide)
        have q6 : w3.cell? ⟨bA, oA + j * 10 + 6, none⟩ = some (.int .i64 vn2) := key 6 (by decide)
        have q7 : w3.cell? ⟨bA, oA + j * 10 + 7, none⟩ = some (.string vs2) := key 7 (by decide)
        have q8 : w3.cell? ⟨bA, oA + j * 10 + 8, none⟩ = some (.slice AL2 nL2 cL2) := key 8 (by decide)
        have q9 : w3.cell? ⟨bA, oA + j * 10 + 9, none⟩ = some (.slice AK2 nK2 cK2) := key 9 (by decide)
        clear key hw2 hv2 hg3 hb3 hown3 r2 hown2
        go_wp2_with (at_builtin; refine pause ?_)
        refine unpause ?_
        refine wpList_app el49 (.tmp 48) (.tmp 53) hv3 (Reads.lit _ _ _ 1 10 rfl) HMr.out.oneCell (N := (sent (ms.take (j + 1))).length) (ys := ys ++ #[.int .i64 k2, .string s2, .string t2, .int .i64 n2, .int .i64 vk2, .bool vb2, .int .i64 vn2, .string vs2, .slice AL2 nL2 cL2, .slice AK2 nK2 cK2].toList) (by rw [HS.out.2, List.length_append]; rfl) rfl ?_ ?_ (by simp; omega) rfl rfl rfl rfl ?_
        · rw [HS.out.2, List.length_append]; unfold maxLen; simp; omega
        · rw [HS.out.2, List.length_append]; simp; omega
        intro A4 c4 w4 hown4 hg4 hb4
        have hB3 : Below w.heap.size w w3 := (HB1.out.trans (hB2.mono HB1.out.size)).grown HG3.out (by omega) (fun k hk => (HW3.out.lt k hk).1)
        have hB4 : Below w.heap.size w w4 := (hB3.alloc hB3.size (.cells #[.int .i64 k2, .string s2, .string t2, .int .i64 n2, .int .i64 vk2, .bool vb2, .int .i64 vn2, .string vs2, .slice AL2 nL2 cL2, .slice AK2 nK2 cK2] 41)).grown hg4 (by simp; omega) (fun k hk => (hv3.lt k hk).1)
        have ho4 := own_grown (HO3.out.alloc (.cells #[.int .i64 k2, .string s2, .string t2, .int .i64 n2, .int .i64 vk2, .bool vb2, .int .i64 vn2, .string vs2, .slice AL2 nL2 cL2, .slice AK2 nK2 cK2] 41)) hg4 (own_own_ne (HO3.out.alloc _) hv3 (by decide))
        have hIS : IsMs w (fun b => b < w.heap.size) (sent (ms.take (j + 1))) (ys ++ #[.int .i64 k2, .string s2, .string t2, .int .i64 n2, .int .i64 vk2, .bool vb2, .int .i64 vn2, .string vs2, .slice AL2 nL2 cL2, .slice AK2 nK2 cK2].toList) := by
          rw [HS.out.2]
          exact hwr.app (IsMs.one HMw.out)
        have HF := hide (And.intro ho4 (And.intro hown4 (And.intro hIS hB4)))
        clear ho4 hown4 hIS hB4 hg4 hb4 hv3 hwr hB3 q0 q1 q2 q3 q4 q5 q6 q7 q8 q9
        go_wp2_with fail
        go_roundw
        case rel => exact ⟨j + 1, A3, A4, c3, c4, _, hlt, by go_num, rfl, rfl, HF.out.1, HF.out.2.1, HF.out.2.2.1, HF.out.2.2.2⟩
        case measure => simp [intOf]; omega
    · have hjn : j = n := by omega
      subst hjn
      have ex : ms.take j = ms := List.take_of_length_le (by rw [HL.out]; exact Nat.le_refl _)
      rw [ex] at hb hw hwr
      have eb : wire (ms.take j) = wire ms := by rw [ex]
      have eg : sent (ms.take j) = sent ms := by rw [ex]
      obtain ⟨_, _, e, hbc, rb⟩ := own_form hb
      cases e
      clear ex
      go_wp2_with (go_at_call 31; refine (new_any _).mono ?_; rintro e w1 ⟨rfl, rfl⟩)
      obtain ⟨W2, hW2⟩ : ∃ W2, W2 = wr.alloc (.cells #[.slice none 0 0, .bool false] 81) := ⟨_, rfl⟩
      have hB2 : Below wr.heap.size wr W2 := by rw [hW2]; exact (Below.refl _ wr).alloc (Nat.le_refl _) _
      have hy2 : Blk W2 wr.heap.size 81 #[.slice none 0 0, .bool false] := by rw [hW2]; exact Blk.new wr 81 _
      have hs2 : W2.heap.size = wr.heap.size + 1 := by rw [hW2]; simp
      rw [← hW2]
      clear hW2
      have rb2 : Reads W2 w.heap.size wr.heap.size 1 BA (wire ms).length ((wire ms).map B8) := rb.below hB2 (Nat.le_refl _)
      have rz2 := HZ.out.below (hB.trans (hB2.mono hS)) (Nat.le_refl _)
      obtain ⟨_, _, e, hwc, rw0⟩ := own_form hw
      cases e
      have HRW := hide (RdS.ofReads (S := fun b => b < wr.heap.size) (rw0.below hB2 (Nat.le_refl _)) (fun b _ h => h) (by omega))
      have HY := hide hy2
      have HS := hide hs2
      have HRB := hide rb2
      have HRZ := hide rz2
      have HIW := hide hwr
      have hgW : wr.heap.size < W2.heap.size := by omega
      have HEB := hide (And.intro eb eg)
      clear hs2 hy2 rb hb hw hwr rw0 rb2 rz2 eb eg
      obtain ⟨wo, rfl⟩ : ∃ wo : World, wo = wr := ⟨_, rfl⟩
      obtain ⟨LW, hLW⟩ : ∃ LW, LW = (wire ms).length := ⟨_, rfl⟩
      obtain ⟨LS, hLS⟩ : ∃ LS, LS = (sent ms).length := ⟨_, rfl⟩
      rw [← hLW, ← hLS]
      have HLW := hide hLW
      have HLS := hide hLS
      have hNle : LW ≤ 61865984 := by rw [hLW]; exact hwire
      have hbcl : LW ≤ bc := by rw [hLW]; exact hbc
      clear hbc
      clear hLW hLS
      have hc0 : came ms 0 = 0 := came_zero ms
      go_loopg [13, 14, 15] LW (fun k got i at_ wx => GotInv LW wo.heap.size ms W2 k got i at_ wx)
      case atStart => exact ⟨0, 0, none, none, 0, 0, W2.heap.size, [], [], rfl, rfl, Nat.zero_le _, rfl, Nat.le_refl _, by rw [hc0], rfl, HY.out, World.ownsRow_nil _ _ _ _, by rw [hc0]; exact World.ownsRow_nil _ _ _ _, by rw [hc0]; exact rfl, Nat.le_refl _, Nat.le_refl _, Only.refl _ _⟩
      case round =>
        clear hc0
        obtain ⟨t, jj, HA, GA, hc, gc, mid, rest, ys, rfl, rfl, ht, rfl, hjj, rfl, hpr, h1, h2, h3, h4, h5, h6, h7⟩ := hrel
        have hs7 := h7.size
        have hcl : came ms t ≤ 1048576 := Nat.le_trans (came_le ms t) hsent
        by_cases hlt : t < LW
        · have hrest : rest.length ≤ 32771 := by
            have := parse_rest _ ((wire ms).take t) (Nat.le_refl _)
            rw [hpr] at this
            exact this
          have H1 := hide h1
          have H2 := hide h2
          have H3 := hide h3
          have H4 := hide h4
          have H7 := hide h7
          have HPR := hide hpr
          have hcm0 : ∃ c0, c0 = came ms t := ⟨_, rfl⟩
          obtain ⟨c0, hc0⟩ := hcm0
          rw [← hc0] at hcl H3 H4 ⊢
          have HC0 := hide hc0
          have hrz : zs.length = cn ∧ (jj < cn → ∃ b off z, CA = some ⟨b, off, none⟩ ∧ wr.cell? ⟨b, off + jj, none⟩ = some (.int .i64 z)) := by
            have hrz := HRZ.out.below (h7.below (fun k _ h => by omega) (by omega)) (Nat.le_refl _)
            have hl : zs.length = cn := by simpa using hrz.1
            refine ⟨hl, fun hlt2 => ?_⟩
            obtain ⟨b, off, rfl, _, _, _, hcc⟩ := hrz.plain (by omega) (by omega)
            refine ⟨b, off, zs.getD jj 0, rfl, ?_⟩
            rw [hcc jj (by omega)]
            simp [List.getElem?_eq_getElem (show jj < zs.length by omega), List.getD]
          obtain ⟨_, hcut⟩ := hrz
          have HCUT := hide hcut
          clear hc0 h1 h2 h3 h4 h7 hpr hcut
          go_upto_if 71 with (fail)
          go_cut [16] from 58 to 117 (fun nv wx => ∃ m : Nat, nv = .int .i64 (m : Int) ∧ 1 ≤ m ∧ m ≤ LW - t ∧ wr = wx)
          case first =>
            by_cases hj2 : jj < cn
            · obtain ⟨b, off, z, rfl, hcc⟩ := HCUT.out hj2
              have tj : decide ((jj : Int) < (cn : Int)) = true := by simp; omega
              have tj2 : (jj : Int) < (cn : Int) := by omega
              go_wp2_with fail
              all_goals
                have e := piece_num z
                rename_i h
                rw [e] at h
                go_meet
                first
                | exact ⟨LW - t, congrArg (Value.int .i64) (by omega), by omega, Nat.le_refl _, rfl⟩
                | exact ⟨1 + ((z % 18446744073709551616) % 13).toNat, congrArg (Value.int .i64) (by omega), by omega, by omega, rfl⟩
                | exact ⟨1 + ((z % 18446744073709551616) % 13).toNat, congrArg (Value.int .i64) (e.trans (by omega)), by omega, by omega, rfl⟩
            · have tj : decide ((jj : Int) < (cn : Int)) = false := by simp; omega
              have tj2 : ¬ (jj : Int) < (cn : Int) := by omega
              go_wp2_with fail
              go_meet
              exact ⟨LW - t, by go_num, by omega, Nat.le_refl _, rfl⟩
          case rest =>
            obtain ⟨m, rfl, hm1, hm2, rfl⟩ := hcut
            have hmn : t + m ≤ LW := by omega
            have hpc : Reads wr w.heap.size wo.heap.size 1 (BA.map (·.add t)) m ((((wire ms).drop t).take m).map B8) := by
              have h := ((HRB.out.only H7.out (fun k _ h2 h => by omega) (by omega)).cut_ (k := t) (by rw [← HLW.out]; omega)).take (k := m) (by rw [← HLW.out]; omega)
              rw [Nat.mul_one, Nat.mul_one, ← List.map_drop, ← List.map_take] at h
              exact h
            have HPC := hide hpc
            clear hpc
            go_wp2_with fail
            refine (feed_ok wo.heap.size mid w.heap.size wo.heap.size rest.length m _ _ _ rest (((wire ms).drop t).take m) wr H1.out H2.out HPC.out (by omega) h6).mono ?_
            intro e w4 hf
            obtain ⟨fs, r, A6, A7, c6, c7, mid4, us, hp4, rfl, k1, k2, k3, k4, k5, k6, k7, k8, k9, k10⟩ := feed_open hf
            obtain ⟨⟨r', hr1, hr2⟩, hcs, hfs⟩ := came_step ms HPR.out hp4
            subst hr1
            have h31 : w4.ownsRow W2.heap.size 41 10 (.slice GA c0 gc) c0 ys := own_only H3.out k8 (fun k hk h => by
              rcases h with rfl | h
              · exact own_ne_blk H3.out H1.out (by decide) _ hk rfl
              · exact own_own_ne H3.out H2.out (by decide) k hk h)
            have h41 := GS_feed H4.out k8 (fun k hk => (k7.lt k hk).1) k1
            have hs4 := k8.size
            have k9' : fs.length ≤ 61898755 := by
              rw [List.length_append, List.length_take, List.length_drop, ← HLW.out] at k9
              omega
            obtain ⟨_, _, e, _, rk⟩ := own_form k3
            cases e
            have K3 := hide rk
            have K5 := hide k5
            have K6 := hide k6
            have K7 := hide k7
            have K8 := hide k8
            have H31 := hide h31
            have H41 := hide h41
            have HFS := hide hfs
            have hcl2 := came_le ms (t + m)
            rw [hcs, ← HC0.out] at hcl2
            have HCS := hide hcs
            have HR2 := hide hr2
            have hcl3 : c0 + fs.length ≤ 1048576 := by omega
            have hgo : ∀ b, (Value.slice GA c0 gc).ownBlock = some b → b < wr.heap.size := fun b hb => (H3.out.lt b hb).2
            have HGO := hide hgo
            clear hf hp4 hr2 hcs hfs h31 h41 k3 k4 k5 k6 k7 k8 k9 rk hgo hcl2 HPC
            generalize hfl : fs.length = F at k9' hcl3 ⊢
            have HFL := hide hfl
            clear hfl
            have e9 : errOf (some r') = 0 := rfl
            go_wp2_with fail
            clear e9
            obtain ⟨wq, rfl⟩ : ∃ wq : World, wq = wr := ⟨_, rfl⟩
            go_loopg [13, 19] F (fun k got q wx => InInv wo.heap.size c0 F ms W2.heap.size (.slice A7 (Option.getD (some r') []).length c7) (.slice GA c0 gc) w4 k got q wx)
            case atStart => exact ⟨0, GA, gc, ys, rfl, Nat.zero_le _, rfl, rfl, H31.out, H41.out, fun b hb => .inl hb, Only.refl _ _⟩
            case round =>
              obtain ⟨i, GA1, gc1, zs1, rfl, hi, rfl, rfl, o1, o2, o3, o4⟩ := hrel
              have hs9 := o4.size
              by_cases hif : i < F
              · obtain ⟨x, hx⟩ : ∃ x, fs[i]? = some x := ⟨_, List.getElem?_eq_getElem (by rw [HFL.out]; exact hif)⟩
                obtain ⟨Ax, cx, hv1, hv2, hv3⟩ := own2_at K5.out hx
                obtain ⟨u, hu, rfl⟩ := HFS.out i x hx
                rw [← HC0.out] at hu
                have hd := load_back HWF.out hu
                have hcap := own_cap hv2
                have hrx : Reads wr 0 wr.heap.size 1 Ax (load u).length ((load u).map B8) := ((Reads.of_own hv2).only o4 (fun k h1 h2 h => by have := HGO.out k h; omega) (Nat.le_refl _)).more (Nat.zero_le _) hs9
                have hk3 := K3.out
                rw [HFL.out] at hk3
                obtain ⟨b0, o0, rfl, _, hb0, _, hcell⟩ := (hk3.only o4 (fun k h1 h2 h => by have := HGO.out k h; omega) (Nat.le_refl _)).plain (by omega) (by omega)
                have c0x : wr.cell? ⟨b0, o0 + i, none⟩ = some (.slice Ax (load u).length cx) := by rw [hcell i (by omega), hv1]
                have HU := hide hu
                have HD := hide hd
                have HRX := hide hrx
                have O1 := hide o1
                have O2 := hide o2
                have O3 := hide o3
                have O4 := hide o4
                clear hx hv1 hv2 hv3 hu hd hrx hk3 hcell o1 o2 o3 o4
                generalize hll : (load u).length = LL at hcap HRX c0x
                clear hll
                have tiF : (i : Int) < (F : Int) := by omega
                go_wp2_with fail
                refine (mdecode_any HRX.out hcap).mono ?_
                rintro e w5 ⟨u', ds, z, rfl, hU, hb5, hdv⟩
                rw [HD.out] at hdv
                obtain ⟨rfl, rfl⟩ := hdv
                obtain ⟨k2, s2, t2, n2, vk2, vb2, vn2, vs2, AL2, nL2, cL2, AK2, nK2, cK2, rfl⟩ := hU.ten
                have HU5 := hide hU
                have HN6 := hide (Blk.new w5 41 #[.int .i64 k2, .string s2, .string t2, .int .i64 n2, .int .i64 vk2, .bool vb2, .int .i64 vn2, .string vs2, .slice AL2 nL2 cL2, .slice AK2 nK2 cK2])
                have HB5 := hide hb5
                have HB6 := hide ((Below.refl w5.heap.size w5).alloc (Nat.le_refl _) (.cells #[.int .i64 k2, .string s2, .string t2, .int .i64 n2, .int .i64 vk2, .bool vb2, .int .i64 vn2, .string vs2, .slice AL2 nL2 cL2, .slice AK2 nK2 cK2] 41))
                have HO6 := hide ((own_only O1.out (Only.ofBelow (S := fun _ => False) hb5) (fun _ _ h => h)).alloc (.cells #[.int .i64 k2, .string s2, .string t2, .int .i64 n2, .int .i64 vk2, .bool vb2, .int .i64 vn2, .string vs2, .slice AL2 nL2 cL2, .slice AK2 nK2 cK2] 41))
                have hs5 := hb5.size
                clear hU hb5
                go_upto_region 30 with (fail)
                generalize w5.alloc (.cells #[.int .i64 k2, .string s2, .string t2, .int .i64 n2, .int .i64 vk2, .bool vb2, .int .i64 vn2, .string vs2, .slice AL2 nL2 cL2, .slice AK2 nK2 cK2] 41) = w6 at HN6 HB6 HO6 ⊢
                have hs6 := HB6.out.size
                have hs6x := HN6.out.lt
                have y0 : w6.cell? ⟨w5.heap.size, 0, none⟩ = some (.int .i64 k2) := blkR HN6.out rfl
                have y1 : w6.cell? ⟨w5.heap.size, 1, none⟩ = some (.string s2) := blkR HN6.out rfl
                have y2 : w6.cell? ⟨w5.heap.size, 2, none⟩ = some (.string t2) := blkR HN6.out rfl
                have y3 : w6.cell? ⟨w5.heap.size, 3, none⟩ = some (.int .i64 n2) := blkR HN6.out rfl
                have y4 : w6.cell? ⟨w5.heap.size, 4, none⟩ = some (.int .i64 vk2) := blkR HN6.out rfl
                have y5 : w6.cell? ⟨w5.heap.size, 5, none⟩ = some (.bool vb2) := blkR HN6.out rfl
                have y6 : w6.cell? ⟨w5.heap.size, 6, none⟩ = some (.int .i64 vn2) := blkR HN6.out rfl
                have y7 : w6.cell? ⟨w5.heap.size, 7, none⟩ = some (.string vs2) := blkR HN6.out rfl
                have y8 : w6.cell? ⟨w5.heap.size, 8, none⟩ = some (.slice AL2 nL2 cL2) := blkR HN6.out rfl
                have y9 : w6.cell? ⟨w5.heap.size, 9, none⟩ = some (.slice AK2 nK2 cK2) := blkR HN6.out rfl
                go_wp2_with (at_builtin; refine pause ?_)
                refine unpause ?_
                have ho7 := HO6.out.alloc (.cells #[.int .i64 k2, .string s2, .string t2, .int .i64 n2, .int .i64 vk2, .bool vb2, .int .i64 vn2, .string vs2, .slice AL2 nL2 cL2, .slice AK2 nK2 cK2] 41)
                refine wpList_app el49 (.tmp 111) (.tmp 113) ho7 (Reads.lit _ _ _ 1 10 rfl) HU5.out.oneCell (N := c0 + (i + 1)) (ys := zs1 ++ #[.int .i64 k2, .string s2, .string t2, .int .i64 n2, .int .i64 vk2, .bool vb2, .int .i64 vn2, .string vs2, .slice AL2 nL2 cL2, .slice AK2 nK2 cK2].toList) (by omega) rfl (by unfold maxLen; omega) (by omega) (by simp; omega) rfl rfl rfl rfl ?_
                intro A8 c8 w8 hown8 hg8 hb8
                have hI8 := GS_step O1.out O2.out HB5.out HU5.out (HB6.out.alloc HB6.out.size (.cells #[.int .i64 k2, .string s2, .string t2, .int .i64 n2, .int .i64 vk2, .bool vb2, .int .i64 vn2, .string vs2, .slice AL2 nL2 cL2, .slice AK2 nK2 cK2] 41)) hg8 hb8 (by omega) (fun k hk => by have := (K7.out.lt k hk).2; omega)
                have ht8 : (sent ms).take (c0 + (i + 1)) = (sent ms).take (c0 + i) ++ [u'] := by rw [← Nat.add_assoc, List.take_add_one, HU.out]; rfl
                rw [← ht8] at hI8
                have h38 : ∀ b, (Value.slice A8 (c0 + (i + 1)) c8).ownBlock = some b → (Value.slice GA c0 gc).ownBlock = some b ∨ w4.heap.size ≤ b := fun b hb => by
                  rcases hb8 with e | e
                  · rw [e] at hb; exact O3.out b hb
                  · rw [e] at hb
                    simp only [Option.some.injEq, World.size_alloc] at hb
                    exact .inr (by omega)
                have h48 : Only (fun b => (Value.slice GA c0 gc).ownBlock = some b) w4 w8 := by
                  have a1 := (O4.out.trans (Only.ofBelow (S := fun _ => False) HB5.out) (fun _ _ h => h.elim)).trans (Only.ofBelow (S := fun _ => False) (HB6.out.alloc HB6.out.size (.cells #[.int .i64 k2, .string s2, .string t2, .int .i64 n2, .int .i64 vk2, .bool vb2, .int .i64 vn2, .string vs2, .slice AL2 nL2 cL2, .slice AK2 nK2 cK2] 41))) (fun _ _ h => h.elim)
                  exact a1.grown hg8 (fun k hk => O3.out k hk)
                have HF := hide (And.intro hown8 (And.intro hI8 (And.intro h38 h48)))
                clear hown8 hI8 h38 h48 hg8 hb8 ho7 ht8 y0 y1 y2 y3 y4 y5 y6 y7 y8 y9 c0x
                go_wp2_with fail
                go_roundg (F - (i + 1))
                case measure => omega
                case rel => exact ⟨i + 1, A8, c8, _, by go_num, by omega, rfl, rfl, HF.out.1, HF.out.2.1, HF.out.2.2.1, HF.out.2.2.2⟩
              · have hiF : i = F := by omega
                subst hiF
                have hcm : came ms (t + m) = c0 + i := by rw [HCS.out, ← HC0.out, HFL.out]
                have HCM := hide hcm
                have hsW := H7.out.size
                have k6' := K6.out.only o4 (fun h => by have := own_ne_blk H3.out H1.out (by decide) _ h; exact this rfl)
                have k7' := own_only K7.out o4 (fun k hk h => by have := HGO.out k h; have := (K7.out.lt k hk).1; omega)
                have hO : Only (fun k => k = wo.heap.size) W2 wr := (H7.out.trans K8.out (fun k hk h => by
                  rcases h with h | h
                  · exact h
                  · have := (H2.out.lt k h).1; omega)).trans o4 (fun k hk h => by have := (H3.out.lt k h).1; omega)
                have HF := hide (And.intro k6' (And.intro k7' (And.intro o1 (And.intro o2 hO))))
                clear k6' k7' o1 o2 o3 o4 hO hcm
                go_wp2_with fail
                go_roundg (LW - (t + m))
                case measure => omega
                case rel => exact ⟨t + m, jj + 1, A7, GA1, c7, gc1, mid4, r', zs1, by go_num, by go_num, hmn, rfl, by omega, by rw [HCM.out], HR2.out, HF.out.1, HF.out.2.1, by rw [HCM.out]; exact HF.out.2.2.1, by rw [HCM.out]; exact HF.out.2.2.2.1, by omega, by omega, HF.out.2.2.2.2⟩
        · have htn : t = LW := by omega
          subst htn
          have hca : came ms t = (sent ms).length := came_all ms (by rw [HLW.out]; exact Nat.le_refl _)
          rw [hca] at h3 h4 hcl ⊢
          rw [List.take_of_length_le (Nat.le_refl _)] at h4
          obtain rfl := HLS.out
          have HGR := hide (RdS.ofOwn (S := fun _ => True) h3 (fun _ _ => trivial))
          have HGI := hide (h4.mono (S' := fun _ => True) (fun _ _ _ => trivial))
          have hBw : Below w.heap.size w wr := hB.trans ((hB2.mono hS).trans ((h7.below (B := wo.heap.size) (fun k _ h => by omega) (by omega)).mono hS))
          have HBW := hide hBw
          have HWR := hide (HRW.out.only h7 (fun b hb e => by have hb : b < wo.heap.size := hb; have e : b = wo.heap.size := e; omega))
          have HWI := hide ((HIW.out.below hBw (fun b h => h)).mono (S' := fun b => b < wo.heap.size) (fun b h _ => by have h : b < w.heap.size := h; show b < wo.heap.size; omega))
          clear hca h1 h2 h3 h4 h5 h6 h7 hpr hBw
          go_wp2_with fail
          refine (sameall_any (sent ms) HGR.out HGI.out HWR.out HWI.out (by omega)).mono ?_
          rintro e w5 ⟨rfl, hb5⟩
          have HB5 := hide (HBW.out.trans (hb5.mono HBW.out.size))
          clear hb5
          go_wp2_with fail
          refine mworks_any.mono ?_
          rintro e w6 ⟨rfl, hb6⟩
          have HB6 := hide (HB5.out.trans (hb6.mono HB5.out.size))
          clear hb6
          go_wp2
          go_ret
          exact ⟨rfl, HB6.out⟩
end Go.Proofs.Ytaapbiiiepdopaa.Fr

namespace Go.Proofs.Ytaapbiiiepdopaa
open Go.RowKit Mem Go.Deep Go.ChangeShapes Go.WideShapes
set_option linter.unusedVariables false
theorem msgStream_walk (H : Type) (enc : TypeId × Value → H) (W : World) (base : Nat) (v0 : Value) (d0 : DataW H) (p0 : List MemPlace) (v1 : Value) (d1 : DataW H) (p1 : List MemPlace)
    (x0 : Value.okWide Try.prog W .any base 49 v0) (h0 : DataW.Trod enc Try.prog W 0 (fun _ => true) true 49 v0 d0 p0)
    (x1 : Value.okWide Try.prog W .any base 50 v1) (h1 : DataW.Trod enc Try.prog W 0 (fun _ => true) true 50 v1 d1 p1) (hk : Rows.uptoSmall H ([d0, d1] ++ []) = true) :
    Calls Try.prog 13 #[v0, v1] W fun e W' => e = .returned (.bool true) ∧ Below W.heap.size W W' := by
  obtain ⟨A, c, ms, xs, rfl, _, _, hR, hI, hb⟩ := arg_msgs x0 h0
  obtain ⟨A1, n1, c1, zs, rfl, hc1, hr1, _, hb1⟩ := arg_ints x1 h1
  have h := small2 hk
  exact Fr.stream_any ms.length c n1 c1 A A1 ms xs zs W rfl hR hI hr1 (by omega)
end Go.Proofs.Ytaapbiiiepdopaa
