/-
  Queries, asked one behind the other: what was admitted.
-/
import Derived.Test.YtmmmdidbnjcooaaDoorAdE
namespace Go.Proofs.YtmmmdidbnjcooaaDoor
open Go Go.RowKit Go.Maps Go.Shelf Go.Proofs

attribute [local go_sem] Oper.semAt_some

noncomputable def stepP (p : Par) (s : List Ask) (a : Ask) : List Ask := if queryP p s a.id a.x = 0 then s ++ [a] else s
noncomputable def playL (p : Par) (l : List Ask) : List Ask := l.foldl (stepP p) []
theorem playL_snoc {p : Par} {l : List Ask} {k : Nat} {a : Ask} (h : l[k]? = some a) : playL p (l.take (k + 1)) = stepP p (playL p (l.take k)) a := by
  unfold playL
  rw [take_snocR h, List.foldl_append]; rfl
theorem queryP_zero {p : Par} {s : List Ask} {id : Int} {x : List Int} (h : queryP p s id x = 0) : queryE p x = 0 ∧ 1 ≤ id ∧ hasId s id = false ∧ s.length < 8 ∧ (rankV (rowsP p s [x]) p.Q : Int) ≤ p.R := by
  unfold queryP at h
  split at h
  · exact absurd h (by decide)
  rename_i h0
  split at h
  · rename_i h1
    simp only [wrongB, decide_eq_true_eq] at h1
    exact absurd h h1
  rename_i h1
  split at h
  · exact absurd h (by decide)
  rename_i h2
  split at h
  · exact absurd h (by decide)
  rename_i h3
  split at h
  · exact absurd h (by decide)
  rename_i h4
  simp only [wrongB, decide_eq_true_eq, Bool.or_eq_true, not_or, Bool.not_eq_true] at h0 h1 h2 h3 h4
  exact ⟨by omega, by omega, h2, by omega, by omega⟩
/-- what was admitted. -/
structure GoodQ (p : Par) (l s : List Ask) : Prop where
  q : ∀ a ∈ s, queryE p a.x = 0 ∧ 1 ≤ a.id
  ids : s.Pairwise fun a b => a.id ≠ b.id
  rank : ∀ i, i < s.length → (rankP p (s.take (i + 1)) : Int) ≤ p.R
  few : s.length ≤ 8
  mem : ∀ a ∈ s, a ∈ l
theorem GoodQ.step {p : Par} {l s : List Ask} {a : Ask} (h : GoodQ p l s) (ha : a ∈ l) : GoodQ p l (stepP p s a) := by
  unfold stepP
  split
  · rename_i h0
    obtain ⟨e1, e2, e3, e4, e5⟩ := queryP_zero h0
    refine ⟨fun b hb => ?_, ?_, fun i hi => ?_, by rw [List.length_append]; simp; omega, fun b hb => ?_⟩
    · rcases List.mem_append.1 hb with hb | hb
      · exact h.q b hb
      · obtain rfl := List.mem_singleton.1 hb
        exact ⟨e1, e2⟩
    · rw [List.pairwise_append]
      refine ⟨h.ids, List.pairwise_singleton _ _, fun b hb c hc => ?_⟩
      obtain rfl := List.mem_singleton.1 hc
      intro e
      unfold hasId at e3
      rw [List.any_eq_false] at e3
      exact e3 b hb (by simpa using e)
    · rcases Nat.lt_or_ge i s.length with h1 | h1
      · rw [List.take_append_of_le_length (by omega)]
        exact h.rank i h1
      · rw [List.length_append] at hi
        have hi : i = s.length := by simp at hi; omega
        rw [List.take_of_length_le (by rw [List.length_append]; simp; omega)]
        have e : rowsP p (s ++ [a]) [] = rowsP p s [a.x] := by unfold rowsP; simp
        unfold rankP
        rw [e]; exact e5
    · rcases List.mem_append.1 hb with hb | hb
      · exact h.mem b hb
      · obtain rfl := List.mem_singleton.1 hb
        exact ha
  · exact h
theorem GoodQ.play (p : Par) (l : List Ask) : ∀ k, k ≤ l.length → GoodQ p l (playL p (l.take k)) := by
  intro k
  induction k with
  | zero => intro _; exact ⟨fun a h => (by simp [playL] at h), (by simp [playL]), fun i h => (by simp [playL] at h), (by simp [playL]), fun a h => (by simp [playL] at h)⟩
  | succ k ih =>
    intro hk
    obtain ⟨a, ha⟩ := get_of_lt (show k < l.length by omega)
    rw [playL_snoc ha]
    exact (ih (by omega)).step (List.mem_of_getElem? ha)
theorem GoodQ.ok {p : Par} {l s : List Ask} (h : GoodQ p l s) (hl : AskOk l) : AskOk s := ⟨by have := h.few; omega, fun a ha => hl.id a (h.mem a ha), fun a ha => hl.x a (h.mem a ha), fun a ha => hl.len a (h.mem a ha)⟩
/-- what is told of a query that was put. -/
def NextV (p : Par) (s : List Ask) (a : Ask) (base : Nat) (w : World) (v : Value) : Prop := (queryP p s a.id a.x = 0 → OwnA w base v (s ++ [a])) ∧ (queryP p s a.id a.x ≠ 0 → v = .slice none 0 0)
theorem NextV.below {p : Par} {s : List Ask} {a : Ask} {base : Nat} {w w' : World} {v : Value} (h : NextV p s a base w v) (hb : Below w.heap.size w w') : NextV p s a base w' v := ⟨fun h0 => (h.1 h0).below hb, h.2⟩
def PutV (p : Par) (s : List Ask) (a : Ask) (base : Nat) (w : World) (v : Value) : Prop := ∃ v', v = .tuple #[v', .int .i64 (queryP p s a.id a.x)] ∧ NextV p s a base w v'
theorem PutV.below {p : Par} {s : List Ask} {a : Ask} {base : Nat} {w w' : World} {v : Value} (h : PutV p s a base w v) (hb : Below w.heap.size w w') : PutV p s a base w' v := by
  obtain ⟨v', rfl, h1⟩ := h
  exact ⟨v', rfl, h1.below hb⟩
set_option maxRecDepth 100000 in
set_option maxHeartbeats 4000000 in
theorem play_c (p : Par) (hp : p.ok) (A : Option Addr) (l : List Ask) (c : Nat) (w : World) (hA : Asks w A l) (hl : AskOk l) (hTab : Tabs w) [DecidableEq Lit] :
    Calls Tryd.prog 18 #[pval p, .slice A l.length c] w fun e w' => ∃ v, e = .returned v ∧ OwnA w' w.heap.size v (playL p l) ∧ Below w.heap.size w w' := by
  have hlf := hl.few
  have hb0 := below_alloc w (.cells (pcells p).toArray 34)
  have hP := row1_new w (pcells p) 34
  have HA := hid hA
  have HL := hid hl
  have HG := hid (GoodQ.play p l)
  have HT := hid hTab
  clear hA hl hTab
  go_enter Tryd.func18, Tryd.ntmps18
  go_wp2
  simp only [List.toArray] at hb0 hP
  generalize w.alloc (.cells #[.int .u64 p.P, .int .u64 p.Q, .int .u64 p.G, .int .u64 p.H, .int .i64 p.Nodes, .int .i64 p.N, .int .i64 p.T, .int .i64 p.K, .int .i64 p.D, .int .i64 p.R, .int .i64 p.M, .int .i64 p.X] 34) = w1 at *
  have HP := hid hP
  have HB := hid hb0
  clear hP hb0
  go_loopw [5, 6] (fun o i wr => ∃ k : Nat, i = .int .i64 (k : Int) ∧ k ≤ l.length ∧ Hid (OwnA wr w.heap.size o (playL p (l.take k)) ∧ Row1 wr w.heap.size 34 (pcells p) ∧ Below w.heap.size w wr)) (fun _ i _ => l.length - (intOf i).toNat)
  case atStart => exact ⟨0, rfl, by omega, hid ⟨OwnA.nil _ _, HP.out, HB.out⟩⟩
  case round =>
    obtain ⟨k, rfl, hk, HI⟩ := hrel
    rename_i o wr
    by_cases hlt : k < l.length
    · obtain ⟨a, ha⟩ := get_of_lt hlt
      obtain ⟨b, off, A', c', rfl, ca, cx, hcs, hxl⟩ := (HA.out.below HI.out.2.2).at_ ha
      obtain ⟨A2, c2, rfl, hA2⟩ := HI.out.1.asks
      have hok := (HG.out k hk).ok HL.out
      have hO := HI.out.1
      have hP := HI.out.2.1
      have hbw := HI.out.2.2
      have hT := HT.out.below hbw
      have HS := hid (playL_snoc (p := p) ha)
      have hal := HL.out.len a (List.mem_of_getElem? ha)
      have hax := HL.out.x a (List.mem_of_getElem? ha)
      clear ha HI
      generalize playL p (l.take k) = s at *
      have HSt := hid (show stepP p s a = if queryP p s a.id a.x = 0 then s ++ [a] else s from rfl)
      obtain ⟨E, hE⟩ : ∃ E, queryP p s a.id a.x = E := ⟨_, rfl⟩
      have HE := hid hE
      have hTab := hT
      clear hT hE
      go_upto_region 5 with (fail)
      refine Rg.wp_region (l := [_, _, _, _, _, _, _, _, _, _, _, _, _, _, _, _, _]) (tail := [_]) (Rg.grows _ 18) [some 16, some 17, some 18, some 19, some 20, some 21, some 22, some 23, some 24, some 25, some 26, some 27, some 28, some 15, some 29, some 30, some 7, some 8] 35 (by kernel_rfl) (by kernel_rfl) (by kernel_rfl) rfl (Rg.grows_fair _ _) (Rg.keep_drew _) (trivial) ?_
      refine Rg.op_is (pval p) [] rfl rfl (by kernel_rfl) ?_ ?_
      · intro wx hb
        refine Rg.from_nil fun T hT => ?_
        obtain ⟨p0, p1, p2, p3, p4, p5, p6, p7, p8, p9, p10, p11⟩ := par_cells (hP.below hb)
        go_wp2
        exact hT _ _ rfl (by first | exact Rg.Keep.refl _ | exact below_of_dr hw2 | exact hw2 | exact (Below.refl _ _).alloc (Nat.le_refl _) _) (by first | rfl | exact congrArg _ (by decide))
      refine' Rg.op_is _ [] rfl rfl (by kernel_rfl) ?_ ?_
      rotate_left
      · intro wx hb
        refine Rg.from_nil fun T hT => ?_
        go_wp2
        refine hT _ _ rfl (by first | exact Rg.Keep.refl _ | exact below_of_dr hw2 | exact hw2 | exact (Below.refl _ _).alloc (Nat.le_refl _) _) ?_
        simp only [Rg.last, List.getElem?_toArray, List.getElem?_cons_succ, List.getElem?_cons_zero, Option.getD_some]
        rfl
      refine' Rg.op_is _ [] rfl rfl (by kernel_rfl) ?_ ?_
      rotate_left
      · intro wx hb
        refine Rg.from_nil fun T hT => ?_
        go_wp2
        refine hT _ _ rfl (by first | exact Rg.Keep.refl _ | exact below_of_dr hw2 | exact hw2 | exact (Below.refl _ _).alloc (Nat.le_refl _) _) ?_
        simp only [Rg.last, List.getElem?_toArray, List.getElem?_cons_succ, List.getElem?_cons_zero, Option.getD_some]
        rfl
      refine' Rg.op_is _ [] rfl rfl (by kernel_rfl) ?_ ?_
      rotate_left
      · intro wx hb
        refine Rg.from_nil fun T hT => ?_
        go_wp2
        refine hT _ _ rfl (by first | exact Rg.Keep.refl _ | exact below_of_dr hw2 | exact hw2 | exact (Below.refl _ _).alloc (Nat.le_refl _) _) ?_
        simp only [Rg.last, List.getElem?_toArray, List.getElem?_cons_succ, List.getElem?_cons_zero, Option.getD_some]
        rfl
      refine' Rg.op_is _ [2, 3] rfl rfl (by kernel_rfl) ?_ ?_
      rotate_left
      · intro wx hb
        refine Rg.from_is (some 18) rfl rfl ?_
        refine Rg.from_is (some 19) rfl rfl ?_
        refine Rg.from_nil fun T hT => ?_
        go_wp2
        refine hT _ _ rfl (by first | exact Rg.Keep.refl _ | exact below_of_dr hw2 | exact hw2 | exact (Below.refl _ _).alloc (Nat.le_refl _) _) ?_
        simp only [Rg.last, List.getElem?_toArray, List.getElem?_cons_succ, List.getElem?_cons_zero, Option.getD_some]
        rfl
      refine' Rg.op_is _ [4] rfl rfl (by kernel_rfl) ?_ ?_
      rotate_left
      · intro wx hb
        refine Rg.from_is (some 20) rfl rfl ?_
        refine Rg.from_nil fun T hT => ?_
        go_wp2
        refine hT _ _ rfl (by first | exact Rg.Keep.refl _ | exact below_of_dr hw2 | exact hw2 | exact (Below.refl _ _).alloc (Nat.le_refl _) _) ?_
        simp only [Rg.last, List.getElem?_toArray, List.getElem?_cons_succ, List.getElem?_cons_zero, Option.getD_some]
        rfl
      refine Rg.op_is (.int .i64 a.id) [5] rfl rfl (by kernel_rfl) ?_ ?_
      · intro wx hb
        refine Rg.from_is (some 21) rfl rfl ?_
        refine Rg.from_nil fun T hT => ?_
        have c3 := (hb.cell (lt_of_cell ca)).trans ca
        go_wp2
        exact hT _ _ rfl (by first | exact Rg.Keep.refl _ | exact below_of_dr hw2 | exact hw2 | exact (Below.refl _ _).alloc (Nat.le_refl _) _) (by first | rfl | exact congrArg _ (by decide))
      refine' Rg.op_is _ [] rfl rfl (by kernel_rfl) ?_ ?_
      rotate_left
      · intro wx hb
        refine Rg.from_nil fun T hT => ?_
        go_wp2
        refine hT _ _ rfl (by first | exact Rg.Keep.refl _ | exact below_of_dr hw2 | exact hw2 | exact (Below.refl _ _).alloc (Nat.le_refl _) _) ?_
        simp only [Rg.last, List.getElem?_toArray, List.getElem?_cons_succ, List.getElem?_cons_zero, Option.getD_some]
        rfl
      refine' Rg.op_is _ [] rfl rfl (by kernel_rfl) ?_ ?_
      rotate_left
      · intro wx hb
        refine Rg.from_nil fun T hT => ?_
        go_wp2
        refine hT _ _ rfl (by first | exact Rg.Keep.refl _ | exact below_of_dr hw2 | exact hw2 | exact (Below.refl _ _).alloc (Nat.le_refl _) _) ?_
        simp only [Rg.last, List.getElem?_toArray, List.getElem?_cons_succ, List.getElem?_cons_zero, Option.getD_some]
        rfl
      refine' Rg.op_is _ [7, 8] rfl rfl (by kernel_rfl) ?_ ?_
      rotate_left
      · intro wx hb
        refine Rg.from_is (some 23) rfl rfl ?_
        refine Rg.from_is (some 24) rfl rfl ?_
        refine Rg.from_nil fun T hT => ?_
        go_wp2
        refine hT _ _ rfl (by first | exact Rg.Keep.refl _ | exact below_of_dr hw2 | exact hw2 | exact (Below.refl _ _).alloc (Nat.le_refl _) _) ?_
        simp only [Rg.last, List.getElem?_toArray, List.getElem?_cons_succ, List.getElem?_cons_zero, Option.getD_some]
        rfl
      refine' Rg.op_is _ [9] rfl rfl (by kernel_rfl) ?_ ?_
      rotate_left
      · intro wx hb
        refine Rg.from_is (some 25) rfl rfl ?_
        refine Rg.from_nil fun T hT => ?_
        go_wp2
        refine hT _ _ rfl (by first | exact Rg.Keep.refl _ | exact below_of_dr hw2 | exact hw2 | exact (Below.refl _ _).alloc (Nat.le_refl _) _) ?_
        simp only [Rg.last, List.getElem?_toArray, List.getElem?_cons_succ, List.getElem?_cons_zero, Option.getD_some]
        rfl
      refine Rg.op_is (.slice A' a.x.length c') [10] rfl rfl (by kernel_rfl) ?_ ?_
      · intro wx hb
        refine Rg.from_is (some 26) rfl rfl ?_
        refine Rg.from_nil fun T hT => ?_
        have c3 := (hb.cell (lt_of_cell cx)).trans cx
        go_wp2
        exact hT _ _ rfl (by first | exact Rg.Keep.refl _ | exact below_of_dr hw2 | exact hw2 | exact (Below.refl _ _).alloc (Nat.le_refl _) _) (by first | rfl | exact congrArg _ (by decide))
      refine Rg.op_of (fun w' v => PutV p s a w.heap.size w' v) [0, 1, 6, 11] rfl ?_ ?_ rfl (by kernel_rfl) ?_ ?_
      · exact fun w1 w2 v hk h => h.below hk
      · exact fun w1 w2 v hk h => h.below hk
      · intro wx hb
        refine Rg.from_is (some 16) rfl rfl ?_
        refine Rg.from_is (some 17) rfl rfl ?_
        refine Rg.from_is (some 22) rfl rfl ?_
        refine Rg.from_is (some 27) rfl rfl ?_
        refine Rg.from_nil fun T hT => ?_
        go_wp2_with (fail)
        refine (aput_c p hp A2 s c2 a.id A' a.x c' _ (hA2.below hb) hok (hcs.below hb) (by omega) hax (hTab.below hb)).mono ?_
        rintro e w4 ⟨v, rfl, g1, g2, hw2⟩
        have hpv : PutV p s a w.heap.size w4 (.tuple #[v, .int .i64 (queryP p s a.id a.x)]) := ⟨v, rfl, fun h => (g1 h).from_ (by have h1 := hbw.size; have h2 := hb.size; omega), g2⟩
        clear g1 g2
        go_wp2
        exact hT _ _ rfl hw2 hpv
      refine Rg.op_of (fun w' v => PutV p s a w.heap.size w' v) [12] rfl ?_ ?_ rfl (by kernel_rfl) ?_ ?_
      · exact fun w1 w2 v hk h => h.below hk
      · exact fun w1 w2 v hk h => h.below hk
      · intro wx hb
        refine Rg.from_of (some 28) rfl rfl fun v28 h28 => ?_
        refine Rg.from_nil fun T hT => ?_
        have h := h28
        go_wp2
        exact hT _ _ rfl (Below.refl _ _) h
      refine Rg.op_of (fun w' v => NextV p s a w.heap.size w' v) [13] rfl ?_ ?_ rfl (by kernel_rfl) ?_ ?_
      · exact fun w1 w2 v hk h => h.below hk
      · exact fun w1 w2 v hk h => h.below hk
      · intro wx hb
        refine Rg.from_of (some 15) rfl rfl fun v15 h15 => ?_
        refine Rg.from_nil fun T hT => ?_
        obtain ⟨v', rfl, h⟩ := h15
        go_wp2
        exact hT _ _ rfl (Below.refl _ _) h
      refine Rg.op_is (.int .i64 E) [13] rfl rfl (by kernel_rfl) ?_ ?_
      · intro wx hb
        refine Rg.from_of (some 15) rfl rfl fun v15 h15 => ?_
        refine Rg.from_nil fun T hT => ?_
        obtain ⟨v', rfl, h⟩ := h15
        rw [HE.out]
        go_wp2
        exact hT _ _ rfl (Below.refl _ _) rfl
      refine Rg.op_of (fun w' v => NextV p s a w.heap.size w' v) [14] rfl ?_ ?_ rfl (by kernel_rfl) ?_ ?_
      · exact fun w1 w2 v hk h => h.below hk
      · exact fun w1 w2 v hk h => h.below hk
      · intro wx hb
        refine Rg.from_of (some 29) rfl rfl fun v29 h29 => ?_
        refine Rg.from_nil fun T hT => ?_
        have h := h29
        go_wp2
        exact hT _ _ rfl (Below.refl _ _) h
      refine Rg.walk_nil [0, 1, 2, 3, 4, 5, 6, 7, 8, 9, 10, 11, 12, 13, 14, 15, 16] (by kernel_rfl) ?_
      intro wx hb
      refine Rg.from_is (some 16) rfl rfl ?_
      refine Rg.from_is (some 17) rfl rfl ?_
      refine Rg.from_is (some 18) rfl rfl ?_
      refine Rg.from_is (some 19) rfl rfl ?_
      refine Rg.from_is (some 20) rfl rfl ?_
      refine Rg.from_is (some 21) rfl rfl ?_
      refine Rg.from_is (some 22) rfl rfl ?_
      refine Rg.from_is (some 23) rfl rfl ?_
      refine Rg.from_is (some 24) rfl rfl ?_
      refine Rg.from_is (some 25) rfl rfl ?_
      refine Rg.from_is (some 26) rfl rfl ?_
      refine Rg.from_is (some 27) rfl rfl ?_
      refine Rg.from_of (some 28) rfl rfl fun v28 h28 => ?_
      refine Rg.from_of (some 15) rfl rfl fun v15 h15 => ?_
      refine Rg.from_of (some 29) rfl rfl fun v29 h29 => ?_
      refine Rg.from_is (some 30) rfl rfl ?_
      refine Rg.from_of (some 7) rfl rfl fun v7 h7 => ?_
      refine Rg.from_nil ?_
      simp only [List.map, Act.put, List.setIfInBounds_toArray, List.set_cons_zero, List.set_cons_succ]
      have hO2 := hO.below hb
      have hP2 := hP.below hb
      have hb2 := below_next hbw hbw.size hb
      have hN := h7
      clear h28 h15 h29 h7 hO hP hbw
      by_cases hE0 : E = 0
      · subst hE0
        have HN := hid (And.intro (show OwnA wx w.heap.size v7 (playL p (l.take (k + 1))) by rw [HS.out, HSt.out, if_pos HE.out]; exact hN.1 HE.out) (And.intro hP2 hb2))
        clear hN hO2 hP2 hb2
        go_wp2
        go_roundw
        case rel => exact ⟨k + 1, by go_num, by omega, HN⟩
        case measure => simp [intOf]; omega
      · have hbe : (E == 0) = false := by simpa using hE0
        have HN := hid (And.intro (show OwnA wx w.heap.size (.slice A2 s.length c2) (playL p (l.take (k + 1))) by rw [HS.out, HSt.out, if_neg (by rw [HE.out]; exact hE0)]; exact hO2) (And.intro hP2 hb2))
        clear hN hO2 hP2 hb2
        go_wp2
        go_roundw
        case rel => exact ⟨k + 1, by go_num, by omega, HN⟩
        case measure => simp [intOf]; omega
    · obtain rfl : k = l.length := by omega
      rw [List.take_length] at HI
      go_wp2
      go_ret
      exact ⟨_, rfl, HI.out.1, HI.out.2.2⟩
end Go.Proofs.YtmmmdidbnjcooaaDoor
