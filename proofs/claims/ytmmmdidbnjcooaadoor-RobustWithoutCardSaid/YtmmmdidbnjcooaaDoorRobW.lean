/-
  RobustWithout, plain: the sets of the others, in order; what Decode tells without one that is wrong. (No program in sight.)
  RobustWithout's helper: points.
  RobustWithout's walk.
-/
import Derived.Test.YtmmmdidbnjcooaaDoorRobP
import Derived.Test.YtmmmdidbnjcooaaDoorRobI
import Derived.Test.YtmmmdidbnjcooaaDoorGrow
import Derived.Test.YtmmmdidbnjcooaaDoorRobG
import Derived.Test.YtmmmdidbnjcooaaDoorRegionI

section
namespace Go.Proofs.YtmmmdidbnjcooaaDoor
open Go.RowKit

/-- number i of those that are left without number o. -/
def skip (o i : Nat) : Nat := if i < o then i else i + 1
/-- the number that it has then. -/
def unskip (o i : Nat) : Nat := if i < o then i else i - 1
theorem skip_ne (o i : Nat) : skip o i ≠ o := by unfold skip; split <;> omega
theorem unskip_skip (o i : Nat) : unskip o (skip o i) = i := by
  unfold skip unskip
  by_cases h : i < o
  · rw [if_pos h, if_pos h]
  · rw [if_neg h, if_neg (by omega)]; omega
/-- where the sets from i on begin. -/
def from_o (o i : Nat) : Nat := if i ≤ o then i else i + 1
theorem setsL_step (m fr n : Nat) : setsL (m + 1) fr n = if fr < n then (setsL m (fr + 1) n).map (fr :: ·) ++ setsL (m + 1) (fr + 1) n else [] := by
  rw [setsL]
  by_cases h : fr + m < n
  · obtain ⟨k, hk⟩ : ∃ k, n - m - fr = k + 1 := ⟨n - m - fr - 1, by omega⟩
    rw [if_pos (by omega), hk, List.range'_succ, List.flatMap_cons, setsL, show n - m - (fr + 1) = k by omega]
  · rw [show n - m - fr = 0 by omega]
    split
    · rename_i hf
      cases m with
      | zero => omega
      | succ m =>
        rw [setsL, setsL, show n - m - (fr + 1) = 0 by omega, show n - (m + 1) - (fr + 1) = 0 by omega]
        simp
    · simp
theorem has_cons {o a : Nat} (h : a ≠ o) : ((fun s : List Nat => !s.contains o) ∘ (a :: ·)) = fun s : List Nat => !s.contains o := by
  funext s
  simp only [Function.comp, List.contains_cons]
  have : (o == a) = false := by simpa using fun e => h e.symm
  rw [this, Bool.false_or]
theorem has_self (o : Nat) (L : List (List Nat)) : (L.map (o :: ·)).filter (fun s : List Nat => !s.contains o) = [] := by
  rw [List.filter_eq_nil_iff]
  intro s hs
  obtain ⟨r, _, rfl⟩ := List.mem_map.1 hs
  simp
theorem map_cons_map (o a : Nat) (L : List (List Nat)) : (L.map (a :: ·)).map (·.map (skip o)) = (L.map (·.map (skip o))).map (skip o a :: ·) := by
  rw [List.map_map, List.map_map]
  rfl
theorem filter_cons_map {o a : Nat} (h : a ≠ o) (L : List (List Nat)) : (L.map (a :: ·)).filter (fun s : List Nat => !s.contains o) = (L.filter (fun s : List Nat => !s.contains o)).map (a :: ·) := by
  rw [List.filter_map, has_cons h]
theorem sets_skip (o : Nat) : ∀ (m d fr n : Nat), n + 1 - fr ≤ d → o ≤ n → (setsL m fr n).map (·.map (skip o)) = (setsL m (from_o o fr) (n + 1)).filter (fun s => !s.contains o)
  | 0, d, fr, n, _, _ => by simp [setsL]
  | m + 1, 0, fr, n, hd, ho => by
    rw [setsL_step, if_neg (by omega), setsL_step, if_neg (by unfold from_o; split <;> omega)]
    rfl
  | m + 1, d + 1, fr, n, hd, ho => by
    by_cases h1 : fr < o
    · have e : from_o o fr = fr := by unfold from_o; rw [if_pos (by omega)]
      have e1 : from_o o (fr + 1) = fr + 1 := by unfold from_o; rw [if_pos (by omega)]
      have s1 : skip o fr = fr := by unfold skip; rw [if_pos h1]
      have i1 := sets_skip o m d (fr + 1) n (by omega) ho
      have i2 := sets_skip o (m + 1) d (fr + 1) n (by omega) ho
      rw [e, setsL_step m fr n, setsL_step m fr (n + 1), if_pos (by omega), if_pos (by omega), List.map_append, List.filter_append, map_cons_map, filter_cons_map (by omega), i1, i2, s1, e1]
    · by_cases h2 : fr = o
      · subst h2
        have e : from_o fr fr = fr := by unfold from_o; rw [if_pos (by omega)]
        rw [e, setsL_step m fr (n + 1), if_pos (by omega), List.filter_append, has_self, List.nil_append]
        by_cases h3 : fr < n
        · have e1 : from_o fr (fr + 1) = fr + 1 + 1 := by unfold from_o; rw [if_neg (by omega)]
          have s1 : skip fr fr = fr + 1 := by unfold skip; rw [if_neg (by omega)]
          have i1 := sets_skip fr m d (fr + 1) n (by omega) ho
          have i2 := sets_skip fr (m + 1) d (fr + 1) n (by omega) ho
          rw [setsL_step m fr n, setsL_step m (fr + 1) (n + 1), if_pos h3, if_pos (by omega), List.map_append, List.filter_append, map_cons_map, filter_cons_map (by omega), i1, i2, s1, e1]
        · rw [setsL_step m fr n, setsL_step m (fr + 1) (n + 1), if_neg h3, if_neg (by omega)]
          rfl
      · have e : from_o o fr = fr + 1 := by unfold from_o; rw [if_neg (by omega)]
        have e1 : from_o o (fr + 1) = fr + 1 + 1 := by unfold from_o; rw [if_neg (by omega)]
        have s1 : skip o fr = fr + 1 := by unfold skip; rw [if_neg (by omega)]
        have i1 := sets_skip o m d (fr + 1) n (by omega) ho
        have i2 := sets_skip o (m + 1) d (fr + 1) n (by omega) ho
        rw [e, setsL_step m fr n, setsL_step m (fr + 1) (n + 1)]
        by_cases h3 : fr < n
        · rw [if_pos h3, if_pos (by omega), List.map_append, List.filter_append, map_cons_map, filter_cons_map (by omega), i1, i2, s1, e1]
        · rw [if_neg h3, if_neg (by omega)]
          rfl

/-! ### Points without one -/
theorem getD_erase (l : List Int) (o i : Nat) : (l.eraseIdx o).getD i 0 = l.getD (skip o i) 0 := by
  rw [List.getD_eq_getElem?_getD, List.getD_eq_getElem?_getD, List.getElem?_eraseIdx]
  unfold skip
  split <;> rfl
theorem pick_erase (l : List Int) (o : Nat) (s : List Nat) : pick (l.eraseIdx o) s = pick l (s.map (skip o)) := by
  unfold pick
  rw [List.map_map]
  exact List.map_congr_left fun i _ => getD_erase l o i
theorem range_skip_lt (o : Nat) : ∀ k, k ≤ o → (List.range k).map (skip o) = List.range k := fun k hk => by
  rw [List.map_congr_left (g := id) (fun i hi => by unfold skip; rw [if_pos (by have := List.mem_range.1 hi; omega)]; rfl), List.map_id]
theorem range_skip (o : Nat) : ∀ d, (List.range (o + d)).map (skip o) = (List.range (o + d + 1)).filter fun i => decide (i ≠ o)
  | 0 => by
    rw [Nat.add_zero, range_skip_lt o o (Nat.le_refl _), List.range_succ, List.filter_append, List.filter_eq_self.2 (fun i hi => by have := List.mem_range.1 hi; simp; omega)]
    simp
  | d + 1 => by
    rw [← Nat.add_assoc, List.range_succ, List.map_append, range_skip o d, List.range_succ (n := o + d + 1), List.filter_append]
    congr 1
    simp only [List.map_cons, List.map_nil, List.filter_cons, List.filter_nil]
    rw [if_pos (by simp; omega)]
    unfold skip
    rw [if_neg (by omega)]
/-- the others that are wrong. -/
def othersL (o : Nat) (ws : List Nat) : List Nat := (ws.filter fun i => decide (i ≠ o)).map (unskip o)
theorem off_erase {l m : List Int} (c : List Int) (q : Int) {o : Nat} (ho : o < l.length) : (offL (l.eraseIdx o) (m.eraseIdx o) c q).map (skip o) = (offL l m c q).filter fun i => decide (i ≠ o) := by
  unfold offL offK
  have hB : offB (l.eraseIdx o) (m.eraseIdx o) c q = offB l m c q ∘ skip o := by
    funext i
    unfold offB
    simp only [Function.comp, getD_erase]
  have hl : (l.eraseIdx o).length = o + (l.length - 1 - o) := by rw [List.length_eraseIdx_of_lt ho]; omega
  rw [hB, hl, ← List.filter_map, range_skip, List.filter_filter, List.filter_filter, show o + (l.length - 1 - o) + 1 = l.length by omega]
  congr 1
  funext i
  rw [Bool.and_comm]
theorem off_others {l m : List Int} (c : List Int) (q : Int) {o : Nat} (ho : o < l.length) : offL (l.eraseIdx o) (m.eraseIdx o) c q = othersL o (offL l m c q) := by
  unfold othersL
  rw [← off_erase c q ho, List.map_map]
  rw [List.map_congr_left (g := id) (fun i _ => by simp only [Function.comp, unskip_skip]; rfl), List.map_id]
theorem off_nodup (l m c : List Int) (q : Int) : (offL l m c q).Nodup := List.Pairwise.filter _ List.nodup_range
theorem filter_ne_len {o : Nat} : ∀ {L : List Nat}, L.Nodup → (L.filter fun i => decide (i ≠ o)).length + (if o ∈ L then 1 else 0) = L.length
  | [], _ => by simp
  | a :: L, h => by
    have hL := List.nodup_cons.1 h
    have := filter_ne_len (o := o) hL.2
    by_cases e : a = o
    · subst e
      rw [if_neg hL.1] at this
      rw [List.filter_cons, if_neg (by simp), if_pos (List.mem_cons_self ..), List.length_cons]
      omega
    · rw [List.filter_cons, if_pos (by simpa using e), List.length_cons, List.length_cons]
      simp only [List.mem_cons, show (o = a) = False from eq_false fun h => e h.symm, false_or]
      omega
theorem off_len_erase {l m : List Int} (c : List Int) (q : Int) {o : Nat} (ho : o < l.length) : (offL (l.eraseIdx o) (m.eraseIdx o) c q).length + (if o ∈ offL l m c q then 1 else 0) = (offL l m c q).length := by
  have := congrArg List.length (off_erase (m := m) c q ho)
  rw [List.length_map] at this
  rw [this, filter_ne_len (off_nodup l m c q)]
theorem try_none {xs ys : List Int} {t q : Int} {s : List Nat} (h0 : tErr (pick xs s) (pick ys s) q = 0) : tryS xs ys t q s = none ↔ ¬ (xs.length : Int) - (offL xs ys (tVal (pick xs s) (pick ys s) q) q).length > 2 * t := by
  unfold tryS
  rw [if_pos h0]
  by_cases h : (xs.length : Int) - (offL xs ys (tVal (pick xs s) (pick ys s) q) q).length > 2 * t
  · rw [if_pos h]; simp [h]
  · rw [if_neg h]; simp [h]
/-- **Without one that is told as wrong** the same polynomial is told, and the others are wrong. -/
theorem dec_without {xs ys c : List Int} {wrong : List Nat} {t q : Int} (h : decR xs ys t q = (c, wrong, 0)) {o : Nat} (ho : o ∈ wrong) : decR (xs.eraseIdx o) (ys.eraseIdx o) t q = (c, othersL o wrong, 0) ∧ o < xs.length := by
  unfold decR at h
  split at h
  · cases h
  rename_i h1
  split at h
  · cases h
  rename_i h2
  split at h
  · rename_i h3
    have := congrArg (fun r => r.2.2) h
    exact absurd this h3
  rename_i h3
  have h3 : eAll xs q = 0 := Decidable.not_not.1 h3
  have ht0 : 0 ≤ t := by omega
  have ht2 : t ≤ 2 := by omega
  have hlm : xs.length = ys.length := Decidable.not_not.1 fun e => h1 (.inr (.inr (.inl e)))
  have hp : primeV q = true := by cases e : primeV q with | true => rfl | false => exact absurd (.inr (.inr (.inr e))) h1
  obtain ⟨hq, hq2⟩ := okm_prime hp
  have hap := apart_of_eAll h3
  have hl : xs.length ≤ 7 := by omega
  cases hf : (setsL (t.toNat + 1) 0 xs.length).findSome? (tryS xs ys t q) with
  | none => rw [hf] at h; cases h
  | some r =>
  rw [hf] at h
  have h : r = (c, wrong, 0) := h
  subst h
  obtain ⟨l1, s, l2, hL, hs, hn⟩ := List.findSome?_eq_some_iff.1 hf
  have hm : ∀ u ∈ setsL (t.toNat + 1) 0 xs.length, tErr (pick xs u) (pick ys u) q = 0 ∧ u.Pairwise (· < ·) ∧ (∀ i ∈ u, i < xs.length) ∧ u.length ≤ 1000 := fun u hu => by
    obtain ⟨s1, s2, s3⟩ := (setsL_mem _ _ _ _).1 hu
    have hi : ∀ i ∈ u, i < xs.length := fun i hi => (s3 i hi).2
    exact ⟨(tVal_spec hq hq2 hap (by omega) s2 hi (by omega)).1, s2, hi, by omega⟩
  have hsm : s ∈ setsL (t.toNat + 1) 0 xs.length := by rw [hL]; simp
  obtain ⟨m1, m2, m3, m4⟩ := hm s hsm
  obtain ⟨hr, hgt⟩ := tryS_some hq hq2 hap hl m2 m3 m4 hs
  obtain ⟨_, v1, v2, v3⟩ := tVal_spec (ys := ys) hq hq2 hap (by omega) m2 m3 m4
  injection hr with hc hr
  injection hr with hw _
  subst hc
  subst hw
  generalize hV : tVal (pick xs s) (pick ys s) q = V at *
  have hox : o < xs.length := List.mem_range.1 (List.mem_filter.1 ho).1
  have hos : o ∉ s := fun hi => by
    have h5 := v3 o hi
    have h6 := (List.mem_filter.1 ho).2
    unfold onB at h5
    rw [h6] at h5
    cases h5
  have hel : (xs.eraseIdx o).length + 1 = xs.length := by rw [List.length_eraseIdx_of_lt hox]; omega
  have hel' : (ys.eraseIdx o).length + 1 = ys.length := by rw [List.length_eraseIdx_of_lt (by omega)]; omega
  have hap' : Apart (xs.eraseIdx o) q := List.Pairwise.sublist (List.eraseIdx_sublist xs o) hap
  have hsk := sets_skip o (t.toNat + 1) ((xs.eraseIdx o).length + 1) 0 (xs.eraseIdx o).length (by omega) (by omega)
  rw [show from_o o 0 = 0 by unfold from_o; rw [if_pos (by omega)], hel, hL, List.filter_append, List.filter_cons, if_pos (by simpa using hos)] at hsk
  obtain ⟨l1', l2', hL', e1, e2⟩ := List.map_eq_append_iff.1 hsk
  obtain ⟨s', l3', rfl, e3, e4⟩ := List.map_eq_cons_iff.1 e2
  refine ⟨?_, hox⟩
  unfold decR
  rw [if_neg (by rw [hp]; simp; omega), if_neg (by omega), if_neg (by rw [eAll_apart hq hq2 hap' (by omega)]; simp)]
  have hone : ∀ u : List Nat, tErr (pick (xs.eraseIdx o) u) (pick (ys.eraseIdx o) u) q = tErr (pick xs (u.map (skip o))) (pick ys (u.map (skip o))) q := fun u => by rw [pick_erase, pick_erase]
  have hval : ∀ u : List Nat, tVal (pick (xs.eraseIdx o) u) (pick (ys.eraseIdx o) u) q = tVal (pick xs (u.map (skip o))) (pick ys (u.map (skip o))) q := fun u => by rw [pick_erase, pick_erase]
  have hget : (setsL (t.toNat + 1) 0 (xs.eraseIdx o).length).findSome? (tryS (xs.eraseIdx o) (ys.eraseIdx o) t q) = some (V, othersL o (offL xs ys V q), 0) := by
    rw [List.findSome?_eq_some_iff]
    refine ⟨l1', s', l3', hL', ?_, fun u hu => ?_⟩
    · unfold tryS
      have hln := off_len_erase (m := ys) V q hox
      rw [off_others V q hox, if_pos ho] at hln
      rw [hone, hval, e3, if_pos m1, hV, off_others V q hox, if_pos (by omega)]
    · have hu1 : u.map (skip o) ∈ l1 := by
        have : u.map (skip o) ∈ l1'.map (·.map (skip o)) := List.mem_map.2 ⟨u, hu, rfl⟩
        rw [e1] at this
        exact (List.mem_filter.1 this).1
      have hu2 := hm (u.map (skip o)) (by rw [hL]; exact List.mem_append_left _ hu1)
      have hn1 := (try_none hu2.1).1 (hn _ hu1)
      rw [try_none (by rw [hone]; exact hu2.1), hval]
      generalize tVal (pick xs (u.map (skip o))) (pick ys (u.map (skip o))) q = V at *
      have hln := off_len_erase (m := ys) V q hox
      split at hln <;> omega
  rw [hget]; rfl
end Go.Proofs.YtmmmdidbnjcooaaDoor
end

section
namespace Go.Proofs.YtmmmdidbnjcooaaDoor
open Go Go.RowKit Go.Maps Go.Shelf Go.Proofs

attribute [local go_sem] Oper.semAt_some

/-- two rows of the call's own, of seven numbers at most, as long as one another. -/
structure PtsR (w : World) (base : Nat) (v1 v2 : Value) (X Y : List Int) : Prop where
  x : Own w base 24 v1 (X.map (.int .u64))
  y : Own w base 24 v2 (Y.map (.int .u64))
  ne : ∀ g, v1.ownBlock = some g → v2.ownBlock ≠ some g
  len : X.length = Y.length
  few : X.length ≤ 7
  ux : U64s X
  uy : U64s Y
theorem PtsR.below {w w' : World} {base : Nat} {v1 v2 : Value} {X Y : List Int} (h : PtsR w base v1 v2 X Y) (hb : Below w.heap.size w w') : PtsR w' base v1 v2 X Y := ⟨h.x.below hb, h.y.below hb, h.ne, h.len, h.few, h.ux, h.uy⟩
theorem PtsR.dr {w w' : World} {base : Nat} {v1 v2 : Value} {X Y : List Int} (h : PtsR w base v1 v2 X Y) (hb : Dr w w') : PtsR w' base v1 v2 X Y := ⟨h.x.dr hb, h.y.dr hb, h.ne, h.len, h.few, h.ux, h.uy⟩
theorem U64s.snoc {X : List Int} {z : Int} (h : U64s X) (hz : U64 z) : U64s (X ++ [z]) := fun x hx => by
  rcases List.mem_append.1 hx with hx | hx
  · exact h x hx
  · rw [List.mem_singleton.1 hx]; exact hz
def PointsR (w : World) (e : Ending) (w' : World) : Prop := ∃ v1 v2 X Y, e = .returned (.tuple #[v1, v2]) ∧ PtsR w' w.heap.size v1 v2 X Y ∧ Below w.heap.size w w'
set_option maxRecDepth 100000 in
set_option maxHeartbeats 4000000 in
theorem points_c (A B : Option Addr) (xs ys : List Int) (ca cb : Nat) (q : Int) (w : World) (hA : Cells w A (xs.map (.int .u64))) (hB : Cells w B (ys.map (.int .u64)))
    (hl : xs.length ≤ 1000) (hl' : ys.length ≤ 1000) (hu : U64s xs) (hu' : U64s ys) (_ : U64 q) (hq0 : 0 < q) :
    Calls Tryd.prog 30 #[.slice A xs.length ca, .slice B ys.length cb, .int .u64 q] w (PointsR w) := by
  have HA := hid hA
  have HB := hid hB
  have HU := hid hu
  have HU' := hid hu'
  clear hA hB hu hu'
  have hq1 : (q == 0) = false := by simp; omega
  go_enter Tryd.func30, Tryd.ntmps30
  go_wp2
  go_loopw [8, 9, 10] (fun x y i wr => ∃ (k : Nat) (X Y : List Int), i = .int .i64 (k : Int) ∧ k ≤ xs.length ∧ k ≤ ys.length ∧ Hid (PtsR wr w.heap.size x y X Y ∧ Below w.heap.size w wr)) (fun _ _ i _ => xs.length - (intOf i).toNat)
  case atStart => exact ⟨0, [], [], rfl, by omega, by omega, hid ⟨⟨Own.nil _ _ _, Own.nil _ _ _, fun g h => (by cases h), rfl, by simp, fun z h => (by cases h), fun z h => (by cases h)⟩, Below.refl _ _⟩⟩
  case round =>
    obtain ⟨k, X, Y, rfl, hk, hk', HI⟩ := hrel
    obtain ⟨A8, c8, e8, hc8⟩ := HI.out.1.x.form
    rw [List.length_map] at e8
    subst e8
    have HC8 := hid hc8
    clear hc8
    by_cases hall : k < xs.length ∧ k < ys.length ∧ X.length < 7
    · obtain ⟨h1, h2, h7⟩ := hall
      have h1' : (k : Int) < (xs.length : Int) := by omega
      have h2' : (k : Int) < (ys.length : Int) := by omega
      have h7' : (X.length : Int) < 7 := by omega
      obtain ⟨x, hx⟩ := get_of_lt h1
      obtain ⟨y, hy⟩ := get_of_lt h2
      have hux := HU.out x (List.mem_of_getElem? hx)
      have huy := HU'.out y (List.mem_of_getElem? hy)
      have HXX := hid hx
      have HYY := hid hy
      clear hx hy
      obtain ⟨bx, ox, rfl, cx0⟩ := HA.out.at_map HXX.out
      obtain ⟨by_, oy, rfl, cy0⟩ := HB.out.at_map HYY.out
      have HCX := hid cx0
      have HCY := hid cy0
      clear cx0 cy0
      go_upto_region 7 with (fail)
      generalize wr = wo at *
      go_loopw [11, 12] (fun o i wr => ∃ (j : Nat) (b : Bool), i = .int .i64 (j : Int) ∧ o = .bool b ∧ j ≤ X.length ∧ Hid (Dr wo wr)) (fun _ i _ => X.length - (intOf i).toNat)
      case atStart => exact ⟨0, true, rfl, rfl, by omega, hid (Dr.refl _)⟩
      case round =>
        obtain ⟨j, b, rfl, rfl, hj, HJ⟩ := hrel
        by_cases hjl : j < X.length
        · have hjl' : (j : Int) < (X.length : Int) := by omega
          cases b with
          | false =>
            have HN := HJ
            go_wp2
            go_quiet (fail)
            go_wp2
            go_roundw
            case rel => exact ⟨j + 1, false, by go_num, rfl, by omega, hid (HN.out.more _)⟩
            case measure => simp [intOf]; omega
          | true =>
            obtain ⟨z, hz⟩ := get_of_lt hjl
            obtain ⟨bz, oz, rfl, cz0⟩ := HC8.out.at_map hz
            have huz := HI.out.1.ux z (List.mem_of_getElem? hz)
            have cz := (HJ.out.cell ⟨bz, oz + j, none⟩).trans cz0
            have cx := (HJ.out.cell ⟨bx, ox + k, none⟩).trans ((HI.out.2.cell (lt_of_cell HCX.out)).trans HCX.out)
            have t1 := Int.tmod_eq_emod_of_nonneg (b := q) huz.lo
            have t2 := Int.tmod_eq_emod_of_nonneg (b := q) hux.lo
            obtain ⟨r1, hr1⟩ : ∃ r, z % q = r := ⟨_, rfl⟩
            obtain ⟨r2, hr2⟩ : ∃ r, x % q = r := ⟨_, rfl⟩
            rw [hr1] at t1
            rw [hr2] at t2
            clear hr1 hr2 cz0 hz
            obtain ⟨b2, hb2⟩ : ∃ b2, (r1 != r2) = b2 := ⟨_, rfl⟩
            have HN := HJ
            go_wp2
            go_quiet (fail)
            go_wp2
            go_roundw
            case rel => exact ⟨j + 1, b2, by go_num, rfl, by omega, hid (HN.out.more _)⟩
            case measure => simp [intOf]; omega
        · obtain rfl : j = X.length := by omega
          have hP := HI.out.1.dr HJ.out
          have hbl := below_dr HI.out.2 HJ.out
          cases b with
          | false =>
            have HN := hid (show PtsR wr w.heap.size (.slice A8 X.length c8) u9 X Y ∧ Below w.heap.size w wr from ⟨hP, hbl⟩)
            clear hP hbl
            go_wp2
            go_roundw
            case rel => exact ⟨k + 1, X, Y, by go_num, by omega, by omega, HN⟩
            case measure => simp [intOf]; omega
          | true =>
            have hX := hP.x
            have hY := hP.y
            have hXY := hP.ne
            have HP := hid hP
            have hyl : Y.length = X.length := hP.len.symm
            have cA := (hbl.cell (lt_of_cell HCX.out)).trans HCX.out
            have cB := (hbl.cell (lt_of_cell HCY.out)).trans HCY.out
            have hnx : ∀ b, b < w.heap.size → some b ≠ (Value.slice A8 X.length c8).ownBlock := fun b hb e => by have := (hX.block b e.symm).1; omega
            have hn2 := hnx _ (lt_of_cell HCX.out)
            have hn3 := hnx _ (lt_of_cell HCY.out)
            have hw1r : w.heap.size ≤ wr.heap.size := hbl.size
            clear hnx hP
            go_upto_region 11 with (fail)
            refine Rgb.wp_region (l := [_, _, _, _, _, _, _, _, _, _, _, _, _]) (tail := [_, _, _]) (Rgb.growWay wr (Value.slice A8 X.length c8).ownBlock 6) [some 53, some 54, some 55, some 56, some 57, some 58, some 59, some 60, some 61, some 62, some 63, some 64, some 65, some 66, some 8, some 9] 69 (by kernel_rfl) (by kernel_rfl) (by kernel_rfl) rfl (Rgb.growWay_fair _ _ _) (Rgb.grow_drew _ _) (Rgb.keep_drew _) ?_
            refine' Rgb.op_is _ [] rfl rfl (by kernel_rfl) ?_ ?_
            rotate_left
            · intro wx hb
              refine Rgb.from_nil fun T hT => ?_
              go_wp2
              refine hT _ _ rfl (by first | exact Rgb.Keep.refl _ | exact below_of_dr hw2 | exact hw2 | exact (Below.refl _ _).alloc (Nat.le_refl _) _) ?_
              simp only [Rgb.last, List.getElem?_toArray, List.getElem?_cons_succ, List.getElem?_cons_zero, Option.getD_some]
              rfl
            refine' Rgb.op_is _ [] rfl rfl (by kernel_rfl) ?_ ?_
            rotate_left
            · intro wx hb
              refine Rgb.from_nil fun T hT => ?_
              go_wp2
              refine hT _ _ rfl (by first | exact Rgb.Keep.refl _ | exact below_of_dr hw2 | exact hw2 | exact (Below.refl _ _).alloc (Nat.le_refl _) _) ?_
              simp only [Rgb.last, List.getElem?_toArray, List.getElem?_cons_succ, List.getElem?_cons_zero, Option.getD_some]
              rfl
            refine' Rgb.op_is _ [] rfl rfl (by kernel_rfl) ?_ ?_
            rotate_left
            · intro wx hb
              refine Rgb.from_nil fun T hT => ?_
              go_wp2
              refine hT _ _ rfl (by first | exact Rgb.Keep.refl _ | exact below_of_dr hw2 | exact hw2 | exact (Below.refl _ _).alloc (Nat.le_refl _) _) ?_
              simp only [Rgb.last, List.getElem?_toArray, List.getElem?_cons_succ, List.getElem?_cons_zero, Option.getD_some]
              rfl
            refine Rgb.op_is (.pointer (some ⟨bx, ox + k, none⟩)) [1, 2] rfl rfl (by kernel_rfl) ?_ ?_
            · intro wx hb
              refine Rgb.from_is (some 54) rfl rfl ?_
              refine Rgb.from_is (some 55) rfl rfl ?_
              refine Rgb.from_nil fun T hT => ?_
              go_wp2
              exact hT _ _ rfl (by first | exact Rgb.Keep.refl _ | exact below_of_dr hw2 | exact hw2 | exact (Below.refl _ _).alloc (Nat.le_refl _) _) (by first | rfl | exact congrArg _ (by decide))
            refine Rgb.op_is (.int .u64 x) [3] rfl rfl (by kernel_rfl) ?_ ?_
            · intro wx hb
              refine Rgb.from_is (some 56) rfl rfl ?_
              refine Rgb.from_nil fun T hT => ?_
              have g1 := Rgb.grow_cell hb cA hn2
              go_wp2
              exact hT _ _ rfl (by first | exact Rgb.Keep.refl _ | exact below_of_dr hw2 | exact hw2 | exact (Below.refl _ _).alloc (Nat.le_refl _) _) (by first | rfl | exact congrArg _ (by decide))
            refine Rgb.op_till (fun w' u => ∃ g, u = Value.slice (some ⟨g, 0, none⟩) 1 1 ∧ Row1 w' g 24 [.int .u64 x]) [4] rfl ?_ rfl (by kernel_rfl) ?_ ?_
            · exact fun w1 w2 v hk ⟨g, e, h⟩ => ⟨g, e, h.below hk⟩
            · intro wx hb
              refine Rgb.from_is (some 57) rfl rfl ?_
              refine Rgb.from_nil fun T hT => ?_
              go_wp2
              exact hT _ _ rfl (below_alloc _ _) ⟨_, rfl, row1_new wx [_] 24⟩
            refine Rgb.op_turn (fun w' u => Own w' w.heap.size 24 u (X.map (.int .u64) ++ [.int .u64 x]) ∧ (u.ownBlock = (Value.slice A8 X.length c8).ownBlock ∨ ∃ g, u.ownBlock = some g ∧ wr.heap.size ≤ g)) [0, 5] rfl ?_ rfl (by kernel_rfl) ?_ ?_
            · exact fun w1 w2 v hk h => ⟨h.1.below hk, h.2⟩
            · intro wx hb hb1
              refine Rgb.from_is (some 53) rfl rfl ?_
              refine Rgb.from_till (some 58) rfl rfl fun v58 h58 => ?_
              refine Rgb.from_nil fun T hT => ?_
              obtain ⟨g, rfl, hg⟩ := h58
              refine wpList_push_at elt_u64 _ rfl _ _ rfl w.heap.size (hX.below hb1) rfl (.int .u64 x) g rfl hg rfl (by rw [List.length_map]; omega) (by rw [List.length_map]; omega) (Nat.le_trans hw1r hb1.size) ?_
              intro v' w' hown' hgr hbl
              go_wp2
              exact hT _ _ rfl hgr ⟨hown', hbl.imp id fun h => ⟨_, h, hb1.size⟩⟩
            refine' Rgb.op_is _ [] rfl rfl (by kernel_rfl) ?_ ?_
            rotate_left
            · intro wx hb
              refine Rgb.from_nil fun T hT => ?_
              go_wp2
              refine hT _ _ rfl (by first | exact Rgb.Keep.refl _ | exact below_of_dr hw2 | exact hw2 | exact (Below.refl _ _).alloc (Nat.le_refl _) _) ?_
              simp only [Rgb.last, List.getElem?_toArray, List.getElem?_cons_succ, List.getElem?_cons_zero, Option.getD_some]
              rfl
            refine' Rgb.op_is _ [] rfl rfl (by kernel_rfl) ?_ ?_
            rotate_left
            · intro wx hb
              refine Rgb.from_nil fun T hT => ?_
              go_wp2
              refine hT _ _ rfl (by first | exact Rgb.Keep.refl _ | exact below_of_dr hw2 | exact hw2 | exact (Below.refl _ _).alloc (Nat.le_refl _) _) ?_
              simp only [Rgb.last, List.getElem?_toArray, List.getElem?_cons_succ, List.getElem?_cons_zero, Option.getD_some]
              rfl
            refine' Rgb.op_is _ [] rfl rfl (by kernel_rfl) ?_ ?_
            rotate_left
            · intro wx hb
              refine Rgb.from_nil fun T hT => ?_
              go_wp2
              refine hT _ _ rfl (by first | exact Rgb.Keep.refl _ | exact below_of_dr hw2 | exact hw2 | exact (Below.refl _ _).alloc (Nat.le_refl _) _) ?_
              simp only [Rgb.last, List.getElem?_toArray, List.getElem?_cons_succ, List.getElem?_cons_zero, Option.getD_some]
              rfl
            refine Rgb.op_is (.pointer (some ⟨by_, oy + k, none⟩)) [8, 9] rfl rfl (by kernel_rfl) ?_ ?_
            · intro wx hb
              refine Rgb.from_is (some 61) rfl rfl ?_
              refine Rgb.from_is (some 62) rfl rfl ?_
              refine Rgb.from_nil fun T hT => ?_
              go_wp2
              exact hT _ _ rfl (by first | exact Rgb.Keep.refl _ | exact below_of_dr hw2 | exact hw2 | exact (Below.refl _ _).alloc (Nat.le_refl _) _) (by first | rfl | exact congrArg _ (by decide))
            refine Rgb.op_is (.int .u64 y) [10] rfl rfl (by kernel_rfl) ?_ ?_
            · intro wx hb
              refine Rgb.from_is (some 63) rfl rfl ?_
              refine Rgb.from_nil fun T hT => ?_
              have g1 := Rgb.grow_cell hb cB hn3
              go_wp2
              exact hT _ _ rfl (by first | exact Rgb.Keep.refl _ | exact below_of_dr hw2 | exact hw2 | exact (Below.refl _ _).alloc (Nat.le_refl _) _) (by first | rfl | exact congrArg _ (by decide))
            refine Rgb.op_of (fun w' u => ∃ g, u = Value.slice (some ⟨g, 0, none⟩) 1 1 ∧ Row1 w' g 24 [.int .u64 y] ∧ some g ≠ (Value.slice A8 X.length c8).ownBlock) [11] rfl ?_ ?_ rfl (by kernel_rfl) ?_ ?_
            · exact fun w1 w2 v hk ⟨g, e, h, hn⟩ => ⟨g, e, h.below hk, hn⟩
            · exact fun w1 w2 v hk ⟨g, e, h, hn⟩ => ⟨g, e, h.keep (hk.block g h.lt hn), hn⟩
            · intro wx hb
              refine Rgb.from_is (some 64) rfl rfl ?_
              refine Rgb.from_nil fun T hT => ?_
              go_wp2
              exact hT _ _ rfl (below_alloc _ _) ⟨_, rfl, row1_new wx [_] 24, fun e => by have := (hX.block _ e.symm).2; have := hb.size; omega⟩
            refine Rgb.walk_nil [0, 1, 2, 3, 4, 5, 6, 7, 8, 9, 10, 11, 12] (by kernel_rfl) ?_
            intro wx hb
            refine Rgb.from_is (some 53) rfl rfl ?_
            refine Rgb.from_is (some 54) rfl rfl ?_
            refine Rgb.from_is (some 55) rfl rfl ?_
            refine Rgb.from_is (some 56) rfl rfl ?_
            refine Rgb.from_is (some 57) rfl rfl ?_
            refine Rgb.from_gone (some 58) rfl rfl fun v58 => ?_
            refine Rgb.from_of (some 59) rfl rfl fun v59 h59 => ?_
            refine Rgb.from_is (some 60) rfl rfl ?_
            refine Rgb.from_is (some 61) rfl rfl ?_
            refine Rgb.from_is (some 62) rfl rfl ?_
            refine Rgb.from_is (some 63) rfl rfl ?_
            refine Rgb.from_is (some 64) rfl rfl ?_
            refine Rgb.from_of (some 65) rfl rfl fun v65 h65 => ?_
            refine Rgb.from_nil ?_
            simp only [List.map, Act.put, List.setIfInBounds_toArray, List.set_cons_zero, List.set_cons_succ]
            obtain ⟨g30, rfl, hg30, hne30⟩ := h65
            obtain ⟨h23a, h23b⟩ := h59
            have hYx := hY.keep fun g hg => hb.block g (hY.block g hg).2 fun e => hXY g e.symm hg
            refine wpList_push_at elt_u64 _ rfl _ _ rfl w.heap.size hYx rfl (.int .u64 y) g30 rfl hg30 rfl (by rw [List.length_map]; omega) (by rw [List.length_map]; omega) (Nat.le_trans hw1r hb.size) ?_
            intro v' w' hown' hgr hbl2
            have hd : ∀ g, v59.ownBlock = some g → u9.ownBlock ≠ some g := fun g hg e => by
              rcases h23b with h | ⟨g2, h, hge⟩
              · exact hXY g (h ▸ hg) e
              · rw [h] at hg
                have := (hY.block g e).2
                simp only [Option.some.injEq] at hg
                omega
            have hXn := h23a.keep fun g hg => hgr.block g (h23a.block g hg).2 fun e => hd g hg e.symm
            have hdn : ∀ g, v59.ownBlock = some g → v'.ownBlock ≠ some g := fun g hg e => by
              rcases hbl2 with h | h
              · exact hd g hg (h ▸ e)
              · rw [h] at e
                have := (h23a.block g hg).2
                simp only [Option.some.injEq] at e
                omega
            have hbn : Below w.heap.size w w' := (hbl.grown hb hw1r fun g e => (hX.block g e).1).grown hgr (Nat.le_trans hw1r hb.size) fun g e => (hY.block g e).1
            have HN := hid (show PtsR w' w.heap.size v59 v' (X ++ [x]) (Y ++ [y]) ∧ Below w.heap.size w w' from
              ⟨⟨by rw [List.map_append]; exact hXn, by rw [List.map_append]; exact hown', hdn, by simp [HP.out.len], by simp; omega, HP.out.ux.snoc hux, HP.out.uy.snoc huy⟩, hbn⟩)
            clear hYx hown' hgr hbl2 hd hXn hdn hbn hg30 hne30 h23a h23b hX hY hXY hb hbl
            go_wp2
            go_roundw
            case rel => exact ⟨k + 1, _, _, by go_num, by omega, by omega, HN⟩
            case measure => simp [intOf]; omega
    · have HR := hid (show PointsR w (.returned (.tuple #[.slice A8 X.length c8, u9])) wr from ⟨_, _, X, Y, rfl, HI.out.1, HI.out.2⟩)
      by_cases h1 : k < xs.length
      · have h1' : (k : Int) < (xs.length : Int) := by omega
        by_cases h2 : k < ys.length
        · have h2' : (k : Int) < (ys.length : Int) := by omega
          have h7' : ¬ (X.length : Int) < 7 := by omega
          clear hall HI
          go_wp2
          go_ret2
          exact HR.out
        · have h2' : ¬ (k : Int) < (ys.length : Int) := by omega
          clear hall HI
          go_wp2
          go_ret2
          exact HR.out
      · have h1' : ¬ (k : Int) < (xs.length : Int) := by omega
        clear hall HI
        go_wp2
        go_ret2
        exact HR.out
end Go.Proofs.YtmmmdidbnjcooaaDoor
end

section
namespace Go.Proofs.YtmmmdidbnjcooaaDoor
open Go Go.RowKit Go.Maps Go.Shelf Go.Proofs

attribute [local go_sem] Oper.semAt_some

theorem dec_told {xs ys c : List Int} {wrong : List Nat} {t q : Int} (h : decR xs ys t q = (c, wrong, 0)) : wrong = offL xs ys c q ∧ xs.length ≤ 7 ∧ c.length ≤ 3 := by
  unfold decR at h
  split at h
  · cases h
  rename_i h1
  split at h
  · cases h
  rename_i h2
  split at h
  · rename_i h3
    have := congrArg (fun r => r.2.2) h
    exact absurd this h3
  rename_i h3
  have h3 : eAll xs q = 0 := Decidable.not_not.1 h3
  have hp : primeV q = true := by cases e : primeV q with | true => rfl | false => exact absurd (.inr (.inr (.inr e))) h1
  obtain ⟨hq, hq2⟩ := okm_prime hp
  have hap := apart_of_eAll h3
  have hl : xs.length ≤ 7 := by omega
  cases hf : (setsL (t.toNat + 1) 0 xs.length).findSome? (tryS xs ys t q) with
  | none => rw [hf] at h; cases h
  | some r =>
  rw [hf] at h
  have h : r = (c, wrong, 0) := h
  subst h
  obtain ⟨l1, s, l2, hL, hs, hn⟩ := List.findSome?_eq_some_iff.1 hf
  have hsm : s ∈ setsL (t.toNat + 1) 0 xs.length := by rw [hL]; simp
  obtain ⟨s1, s2, s3⟩ := (setsL_mem _ _ _ _).1 hsm
  have hi : ∀ i ∈ s, i < xs.length := fun i hi => (s3 i hi).2
  obtain ⟨_, v1, v2, v3⟩ := tVal_spec (ys := ys) hq hq2 hap (by omega) s2 hi (by omega)
  obtain ⟨hr, hgt⟩ := tryS_some hq hq2 hap hl s2 hi (by omega) hs
  injection hr with hc hr
  injection hr with hw _
  exact ⟨by rw [hw, hc], hl, by rw [hc, v1]; omega⟩
theorem othersL_snoc (o : Nat) (L : List Nat) (i : Nat) : othersL o (L ++ [i]) = othersL o L ++ if i = o then [] else [unskip o i] := by
  unfold othersL
  rw [List.filter_append, List.map_append]
  congr 1
  by_cases h : i = o
  · rw [if_pos h]; simp [h]
  · rw [if_neg h]; simp [h]
theorem othersL_len (o : Nat) (L : List Nat) : (othersL o L).length ≤ L.length := by
  unfold othersL
  rw [List.length_map]
  exact List.length_filter_le _ _
/-- a new row of none. -/
theorem own_zero {w : World} {g base : Nat} {e : TypeId} (h : Row1 w g e []) (hb : base ≤ g) : Own w base e (.slice (some ⟨g, 0, none⟩) 0 0) [] :=
  ⟨rfl, .inr ⟨g, 0, #[], rfl, hb, h, Nat.le_refl _, by unfold maxLen; omega, rfl, rfl⟩⟩
theorem own_slice {w : World} {base : Nat} {e : TypeId} {A : Option Addr} {c : Nat} {X : List Int} (h : Own w base e (.slice A X.length c) (X.map (.int .u64))) (hne : 0 < X.length) :
    ∃ g, A = some ⟨g, 0, none⟩ ∧ g < w.heap.size ∧ X.length ≤ c ∧ c ≤ 9223372036854775807 ∧ ∀ (k : Nat) (z : Int), X[k]? = some z → w.cell? ⟨g, k, none⟩ = some (.int .u64 z) := by
  obtain ⟨g, cap, e1, hb, hg, hc, _⟩ := h.row (by rw [List.length_map]; exact hne)
  injection e1 with e2 e3 e4
  refine ⟨g, e2, hg, ?_, ?_, fun k z hz => hc k _ (by rw [List.getElem?_map, hz]; rfl)⟩
  · rcases h.2 with ⟨h1, _⟩ | ⟨g', cap', cur, h1, _, _, hn, _⟩
    · injection h1 with _ h2 _
      omega
    · injection h1 with _ _ h2
      rw [List.length_map] at hn
      omega
  · rcases h.2 with ⟨h1, _⟩ | ⟨g', cap', cur, h1, _, _, _, hm, _⟩
    · injection h1 with _ h2 _
      omega
    · injection h1 with _ _ h2
      unfold maxLen at hm
      omega
/-- some numbers are put behind a row of the call's own. -/
theorem wpList_add_at {P : Program} {t e : TypeId} {z : Value} {bytes : Nat} (E : Elt P t e z bytes) (wr : World) {ops : Array Oper} {rest : List Oper} {o : Oper} {a : Act} {Q : Exit → Act → World → Prop}
    (hg : o.guard = none) (s x : Operand) (hop : o.op = .call { callee := .builtin .append, args := #[s, x], argTypes := #[t, t] })
    (base : Nat) {v : Value} {xs : List Value} (hown : Own wr base e v xs) (hs : a.eval s = v) (ad : Addr) (m c : Nat) (news : List Value) (hl : news.length = m) (hx : a.eval x = .slice (some ad) m c) (hu : ∀ j u, news[j]? = some u → wr.cell? (ad.add j) = some u) (h1 : ∀ u ∈ news, u.oneCell' = true)
    (hb : (xs.length + m) * bytes ≤ 140737488355328) (hm : xs.length + m ≤ 9223372036854775807) (hbase : base ≤ wr.heap.size)
    (hK : ∀ v' w', Own w' base e v' (xs ++ news) → wr.grownBy w' v.ownBlock → wpList P ops Q rest (a.put o.dst v') w') :
    wpList P ops Q (o :: rest) a wr := by
  obtain ⟨i, hi, hz, hsz, hby⟩ := E.info
  refine wpList_append_own_at (P := P) wr hg s x t hop base e i z 1 bytes E.under hi hz hsz hby E.one (by decide) v xs.length xs hs hown ad m c news hx (by omega) hu h1 (by unfold maxLen; omega) hb hbase ?_
  intro v' w' h2 h3 _ h5
  refine hK v' w' ?_ h3
  unfold Own; rw [List.length_append, hl]; exact h2
theorem addr_add (g off j : Nat) : (⟨g, off, none⟩ : Addr).add j = ⟨g, off + j, none⟩ := by unfold Addr.add; split <;> simp_all
/-- what is known while a row is made without one. -/
structure EraseB (w0 : World) (L1 L2 : List Value) (g : Rgi.Ghost) (w : World) : Prop where
  b : Below w0.heap.size w0 w
  lit : ∀ v, g 0 = some v → g 4 = none → Own w w0.heap.size 24 v []
  one : ∀ v, g 4 = some v → g 9 = none → Own w w0.heap.size 24 v L1
  two : ∀ v, g 9 = some v → Own w w0.heap.size 24 v (L1 ++ L2)
  ord : g 4 = none → g 9 = none
theorem EraseB.start (w0 : World) (L1 L2 : List Value) : EraseB w0 L1 L2 (fun _ => none) w0.drew :=
  ⟨⟨rfl, rfl, rfl, Nat.le_refl _, fun _ _ => rfl⟩, fun _ h => (by cases h), fun _ h => (by cases h), fun _ h => (by cases h), fun _ => rfl⟩
theorem EraseB.new {w0 w : World} {L1 L2 : List Value} {g : Rgi.Ghost} (h : EraseB w0 L1 L2 g w) : EraseB w0 L1 L2 (g.upd 0 (.slice (some ⟨w.heap.size, 0, none⟩) 0 0)) (w.alloc (.cells #[] 24)) := by
  have hb := below_alloc w (.cells #[] 24)
  refine ⟨below_next h.b h.b.size hb, fun v hv _ => ?_, fun v hv h9 => (h.one v hv h9).below hb, fun v hv => (h.two v hv).below hb, h.ord⟩
  obtain rfl : _ = v := Option.some.inj hv
  exact own_zero (row1_new w [] 24) h.b.size
theorem EraseB.put1 {w0 w w' : World} {L1 L2 : List Value} {g : Rgi.Ghost} (h : EraseB w0 L1 L2 g w) (hg : g 4 = none) {v v' : Value} (ho : Own w w0.heap.size 24 v []) (hw : w.grownBy w' v.ownBlock) (hn : Own w' w0.heap.size 24 v' L1) : EraseB w0 L1 L2 (g.upd 4 v') w' := by
  refine ⟨h.b.grown hw h.b.size fun k e => (ho.block k e).1, fun v _ h4 => (by cases h4), fun u hu _ => ?_, fun u hu => ?_, fun h4 => (by cases h4)⟩
  · obtain rfl : _ = u := Option.some.inj hu
    exact hn
  · have : g 9 = some u := hu
    rw [h.ord hg] at this
    cases this
theorem EraseB.put2 {w0 w w' : World} {L1 L2 : List Value} {g : Rgi.Ghost} (h : EraseB w0 L1 L2 g w) {v4 v v' : Value} (hg4 : g 4 = some v4) (ho : Own w w0.heap.size 24 v L1) (hw : w.grownBy w' v.ownBlock) (hn : Own w' w0.heap.size 24 v' (L1 ++ L2)) : EraseB w0 L1 L2 (g.upd 9 v') w' := by
  refine ⟨h.b.grown hw h.b.size fun k e => (ho.block k e).1, fun v _ h4 => ?_, fun u hu h9 => (by cases h9), fun u hu => ?_, fun h4 => ?_⟩
  · have : g 4 = none := h4
    rw [hg4] at this
    cases this
  · obtain rfl : _ = u := Option.some.inj hu
    exact hn
  · have : g 4 = none := h4
    rw [hg4] at this
    cases this
/-- those ahead of number o. -/
def takeV (X : List Int) (o : Nat) : List Value := (X.take o).map (.int .u64)
/-- those behind it. -/
def dropV (X : List Int) (o : Nat) : List Value := (X.drop (o + 1)).map (.int .u64)
theorem takeV_at {w : World} {g o : Nat} {X : List Int} (h : ∀ (k : Nat) (z : Int), X[k]? = some z → w.cell? ⟨g, k, none⟩ = some (.int .u64 z)) : ∀ (j : Nat) (u : Value), (takeV X o)[j]? = some u → w.cell? ((⟨g, 0, none⟩ : Addr).add j) = some u := by
  intro j u hu
  unfold takeV at hu
  rw [List.getElem?_map, List.getElem?_take] at hu
  split at hu
  · cases hx : X[j]? with
    | none => rw [hx] at hu; cases hu
    | some z =>
      rw [hx] at hu
      obtain rfl := Option.some.inj hu
      rw [addr_add, Nat.zero_add]
      exact h j z hx
  · cases hu
theorem dropV_at {w : World} {g o : Nat} {X : List Int} (h : ∀ (k : Nat) (z : Int), X[k]? = some z → w.cell? ⟨g, k, none⟩ = some (.int .u64 z)) : ∀ (j : Nat) (u : Value), (dropV X o)[j]? = some u → w.cell? ((⟨g, o + 1, none⟩ : Addr).add j) = some u := by
  intro j u hu
  unfold dropV at hu
  rw [List.getElem?_map, List.getElem?_drop] at hu
  cases hx : X[o + 1 + j]? with
  | none => rw [hx] at hu; cases hu
  | some z =>
    rw [hx] at hu
    obtain rfl := Option.some.inj hu
    rw [addr_add]
    exact h _ z hx
theorem take_drop_erase (X : List Int) (o : Nat) : takeV X o ++ dropV X o = (X.eraseIdx o).map (.int .u64) := by
  unfold takeV dropV
  rw [← List.map_append, List.eraseIdx_eq_take_drop_succ]
theorem u64_ones (L : List Int) : ∀ u ∈ L.map (Value.int .u64), u.oneCell' = true := fun u hu => by
  obtain ⟨x, _, rfl⟩ := List.mem_map.1 hu
  rfl
set_option maxRecDepth 100000 in
set_option maxHeartbeats 8000000 in
theorem robustWithout_c (A B : Option Addr) (xs ys : List Int) (ca cb : Nat) (t0 nq wh : Int) (w : World) (hA : Cells w A (xs.map (.int .u64))) (hB : Cells w B (ys.map (.int .u64))) (hl : xs.length ≤ 9223372036854775807) (hl' : ys.length ≤ 9223372036854775807)
    (hu : U64s xs) (hu' : U64s ys) (ht0 : 0 ≤ t0 ∧ t0 < 256) (hn : U64 nq) (_ : I64 wh) (hTab : Tabs w) :
    Calls Tryd.prog 8 #[.slice A xs.length ca, .slice B ys.length cb, .int .u8 t0, .int .u64 nq, .int .i64 wh] w fun e w' => e = .returned (.bool true) ∧ Below w.heap.size w w' := by
  have HA := hid hA
  have HB := hid hB
  have HT := hid hTab
  have HU := hid hu
  have HU' := hid hu'
  obtain ⟨ht1, ht2⟩ := ht0
  have h3 := Int.tmod_eq_emod_of_nonneg (b := 3) ht1
  clear hA hB hTab hu hu'
  go_enter Tryd.func8, Tryd.ntmps8
  by_cases hc0 : (xs.length : Int) > 60
  · go_wp2_with (fail)
    refine (awake05_c w HT.out).mono ?_
    rintro e w2 ⟨rfl, hb2⟩
    go_wp2
    go_ret
    exact ⟨rfl, hb2⟩
  · by_cases hc4 : (ys.length : Int) > 60
    · go_wp2_with (fail)
      refine (awake05_c w HT.out).mono ?_
      rintro e w2 ⟨rfl, hb2⟩
      go_wp2
      go_ret
      exact ⟨rfl, hb2⟩
    · go_wp2_with (fail)
      refine (awake05_c w HT.out).mono ?_
      rintro e w2 ⟨rfl, hb2⟩
      go_wp2_with (fail)
      refine (prime05_c nq hn w2 (HT.out.below hb2)).mono ?_
      rintro e w3 ⟨rfl, hb3⟩
      obtain ⟨hp, hq7⟩ := pickQ_ok hn.lo
      generalize pickQ nq = q at *
      obtain ⟨hok, hq2⟩ := okm_prime hp
      have hqu : U64 q := ⟨by omega, by have := okm_le hok; omega⟩
      replace hb3 := below_next hb2 hb2.size hb3
      clear hb2
      have ht3 : 0 ≤ t0 % 3 ∧ t0 % 3 < 3 := by omega
      obtain ⟨t, htn⟩ : ∃ t : Nat, t0 % 3 = t := ⟨(t0 % 3).toNat, by omega⟩
      rw [htn] at ht3
      clear hp hok
      go_wp2_with (fail)
      refine (points_c A B xs ys ca cb q w3 (HA.out.below hb3) (HB.out.below hb3) (by omega) (by omega) HU.out HU'.out hqu (by omega)).mono ?_
      rintro e w4 ⟨v1, v2, X, Y, rfl, hP4, hb4⟩
      obtain ⟨A1, c1, e1, hX4⟩ := hP4.x.form
      obtain ⟨A2, c2, e2, hY4⟩ := hP4.y.form
      rw [List.length_map] at e1 e2
      subst e1
      subst e2
      have hB4 := below_next hb3 hb3.size hb4
      have HP4 := hid hP4
      have HLN := hid hP4.len
      have hfew := hP4.few
      have hfew' : Y.length ≤ 7 := by have := hP4.len; omega
      clear hP4 hb3 hb4
      go_wp2_with (fail)
      refine (dec_c A1 A2 X Y c1 c2 t q w4 hX4 hY4 (by omega) (by omega) HP4.out.ux HP4.out.uy ⟨by omega, by omega⟩ hqu (HT.out.below hB4)).mono ?_
      have HD := hid (show decR X Y t q = decR X Y t q from rfl)
      generalize hdr : decR X Y t q = r at *
      have HDR := hid hdr
      clear hdr HD
      obtain ⟨C, W, er⟩ := r
      rintro e w5 ⟨v3, v4, rfl, oC, oW, hb5⟩
      dsimp only at oC oW ⊢
      obtain ⟨A3, c3, e3, hC5⟩ := oC.form
      obtain ⟨A4, c4, e4, hW5⟩ := oW.form
      have hCl := oC.len_le
      have hWl := oW.len_le
      rw [List.length_map] at e3 e4 hCl hWl
      subst e3
      subst e4
      have HP5 := hid (HP4.out.below hb5)
      have HB5 := hid (below_next hB4 hB4.size hb5)
      have HC5 := hid hC5
      have HW5 := hid hW5
      clear HP4 hX4 hY4 hB4 hb5 oC oW hC5 hW5
      by_cases he : er = 0
      · subst he
        by_cases hW0 : W.length = 0
        · have hW0' : (W.length : Int) = 0 := by omega
          go_wp2
          go_ret
          exact ⟨rfl, HB5.out⟩
        · have hW0' : ¬ (W.length : Int) = 0 := by omega
          have hne1 : ((W.length : Int) == 0) = false := by simpa using hW0'
          obtain ⟨hWe, _, hC3⟩ := dec_told HDR.out
          have hWx : W.length ≤ X.length := by rw [hWe]; exact offK_len _ _ _ _ _
          have hw0 : 0 ≤ IntKind.u64.wrap wh := by simp [IntKind.wrap, IntKind.signed, IntKind.bits]; omega
          have hr1 := Int.emod_nonneg (IntKind.u64.wrap wh) (show (W.length : Int) ≠ 0 by omega)
          have hr2 := Int.emod_lt_of_pos (IntKind.u64.wrap wh) (show 0 < (W.length : Int) by omega)
          obtain ⟨kk, hkk⟩ : ∃ kk : Nat, IntKind.u64.wrap wh % (W.length : Int) = kk := ⟨(IntKind.u64.wrap wh % (W.length : Int)).toNat, by omega⟩
          have hkl : kk < W.length := by omega
          obtain ⟨o, ho⟩ := get_of_lt hkl
          obtain ⟨b4, o4, rfl, cO⟩ := HW5.out.at_map ho
          rw [show kk = (IntKind.u64.wrap wh % (W.length : Int)).toNat by omega] at cO
          have HO := hid ho
          have HWE := hid hWe
          have HKK := hid hkk
          have HI3 := hid (show ∀ i ∈ W, i < X.length from fun i hi => by rw [hWe] at hi; exact List.mem_range.1 (List.mem_filter.1 hi).1)
          clear ho hWe hkk
          go_wp2_with (fail)
          go_loopw [17, 75] (fun x i wr => ∃ k : Nat, i = .int .i64 (k : Int) ∧ k ≤ W.length ∧ Hid (Own wr w5.heap.size 3 x (natv (othersL o (W.take k))) ∧ Below w5.heap.size w5 wr)) (fun _ i _ => W.length - (intOf i).toNat)
          case atStart => exact ⟨0, rfl, by omega, hid ⟨Own.nil _ _ _, Below.refl _ _⟩⟩
          case round =>
            obtain ⟨k, rfl, hk, HI⟩ := hrel
            by_cases hlt : k < W.length
            · obtain ⟨i, hi⟩ := get_of_lt hlt
              obtain ⟨bb, off, he4, ci0⟩ := HW5.out.at_map hi
              injection he4 with he5
              injection he5 with he6 he7 _
              subst he6
              subst he7
              have ci := (HI.out.2.cell (lt_of_cell ci0)).trans ci0
              have HSN := hid (show natv (othersL o (W.take (k + 1))) = natv (othersL o (W.take k)) ++ natv (if i = o then [] else [unskip o i]) by
                rw [take_snocP hi, othersL_snoc, natv, List.map_append])
              have hi9 := List.mem_of_getElem? hi
              have hX := HI.out.1
              have hbl := HI.out.2
              have hlX : (natv (othersL o (W.take k))).length ≤ 1000 := by
                have := othersL_len o (W.take k)
                rw [List.length_take] at this
                rw [List.length_map]; omega
              have hB := Bun.nil wr
              clear HI ci0 hi
              by_cases h1 : i < o
              · clear hi9
                have h1' : (i : Int) < (o : Int) := by omega
                have HUN := hid (show natv (if i = o then [] else [unskip o i]) = [.int .i64 (i : Int)] by rw [if_neg (by omega)]; unfold unskip; rw [if_pos h1]; rfl)
                have h2' : ¬ (i : Int) > (o : Int) := by omega
                go_wp2_with (first | (refine wpList_named hB rfl ?_; clear hB; intro wn gn hB hbn hg; (try rw [hg]); clear hg; replace hX := hX.below hbn; clear hbn) | (at_builtin; refine wpList_push_at elt_int _ rfl _ _ rfl w5.heap.size hX rfl (.int .i64 (i : Int)) _ rfl (hB.row (i := 0) rfl) rfl (by omega) (by omega) (Nat.le_trans hbl.size hB.b.size) ?_; intro v8 w8 ho8 hg8 _))
                have HN := hid (show Own w8 w5.heap.size 3 v8 (natv (othersL o (W.take (k + 1)))) ∧ Below w5.heap.size w5 w8 from
                  ⟨by rw [HSN.out, HUN.out]; exact ho8, (below_next hbl hbl.size hB.b).grown hg8 (Nat.le_trans hbl.size hB.b.size) fun g e => (hX.block g e).1⟩)
                clear hX hbl hB ho8 hg8
                go_roundw
                case rel => exact ⟨k + 1, by go_num, by omega, HN⟩
                case measure => simp [intOf]; omega
              · have h1' : ¬ (i : Int) < (o : Int) := by omega
                by_cases h2 : i = o
                · clear hi9
                  have h2' : ¬ (i : Int) > (o : Int) := by omega
                  have HN := hid (show Own wr w5.heap.size 3 u17 (natv (othersL o (W.take (k + 1)))) ∧ Below w5.heap.size w5 wr from
                    ⟨by rw [HSN.out, if_pos h2]; simpa using hX, hbl⟩)
                  clear hX hbl hB h2
                  go_wp2
                  go_roundw
                  case rel => exact ⟨k + 1, by go_num, by omega, HN⟩
                  case measure => simp [intOf]; omega
                · have h2' : (i : Int) > (o : Int) := by omega
                  have HUN := hid (show natv (if i = o then [] else [unskip o i]) = [.int .i64 ((i : Int) - 1)] by
                    rw [if_neg h2]; unfold unskip; rw [if_neg h1]
                    show [Value.int .i64 ((i - 1 : Nat) : Int)] = _
                    rw [show ((i - 1 : Nat) : Int) = (i : Int) - 1 by omega])
                  have hii : i ≤ 1000 := by
                    have := HI3.out i hi9
                    omega
                  clear hi9
                  go_wp2_with (first | (refine wpList_named hB rfl ?_; clear hB; intro wn gn hB hbn hg; (try rw [hg]); clear hg; replace hX := hX.below hbn; clear hbn) | (at_builtin; refine wpList_push_at elt_int _ rfl _ _ rfl w5.heap.size hX rfl (.int .i64 ((i : Int) - 1)) _ rfl (hB.row (i := 0) rfl) rfl (by omega) (by omega) (Nat.le_trans hbl.size hB.b.size) ?_; intro v8 w8 ho8 hg8 _))
                  have HN := hid (show Own w8 w5.heap.size 3 v8 (natv (othersL o (W.take (k + 1)))) ∧ Below w5.heap.size w5 w8 from
                    ⟨by rw [HSN.out, HUN.out]; exact ho8, (below_next hbl hbl.size hB.b).grown hg8 (Nat.le_trans hbl.size hB.b.size) fun g e => (hX.block g e).1⟩)
                  clear hX hbl hB ho8 hg8
                  go_roundw
                  case rel => exact ⟨k + 1, by go_num, by omega, HN⟩
                  case measure => simp [intOf]; omega
            · rw [show (k : Int) = (W.length : Int) by omega]
              obtain rfl : k = W.length := by omega
              rw [List.take_length] at HI
              have hwo := dec_without HDR.out (List.mem_of_getElem? HO.out)
              have HDW := hid hwo.1
              have hox := hwo.2
              have hPr := HP5.out.below HI.out.2
              have hyl := hPr.len
              obtain ⟨gX, rfl, hgX, hcX, hcX', cX⟩ := own_slice hPr.x (by omega)
              obtain ⟨gY, rfl, hgY, hcY, hcY', cY⟩ := own_slice hPr.y (by omega)
              have HYL := hid hyl
              have HCX := hid cX
              have HCY := hid cY
              obtain ⟨aX, hAX1, hAX2⟩ : ∃ a : Addr, (c1 = o + 1 → a = ⟨gX, 0, none⟩) ∧ (¬ c1 = o + 1 → a = ⟨gX, o + 1, none⟩) := by
                by_cases h : c1 = o + 1
                · exact ⟨_, fun _ => rfl, fun h' => absurd h h'⟩
                · exact ⟨_, fun h' => absurd h' h, fun _ => rfl⟩
              have HAX1 := hid hAX1
              have HAX2 := hid hAX2
              have HPR := hid hPr
              have hoy : o < Y.length := by omega
              clear hwo hyl cX cY hAX1 hAX2 hPr
              go_upto_region 18 with (fail)
              refine Rgi.wp_region (l := [_, _, _, _, _, _, _, _, _, _]) (tail := [_]) (⟨EraseB wr (takeV X o) (dropV X o), [0, 4, 9]⟩) [some 95, some 96, some 97, some 98, some 99, some 100, some 101, some 102, some 103, some 104, some 20] 122 rfl (by kernel_rfl) (by kernel_rfl) rfl (EraseB.start _ _ _) ?_
              refine Rgi.op_sp [] rfl rfl (by kernel_rfl) ?_ ?_
              · intro g wx hb hg
                refine Rgi.from_nil fun T hT => ?_
                go_wp2
                exact hT _ _ rfl (EraseB.new hb)
              refine' Rgi.op_is _ [] rfl rfl (by kernel_rfl) ?_ ?_
              rotate_left
              · intro g wx hb
                refine Rgi.from_nil fun T hT => ?_
                go_wp2
                refine hT _ _ rfl hb ?_
                simp only [Rgi.last, List.getElem?_toArray, List.getElem?_cons_succ, List.getElem?_cons_zero, Option.getD_some]
                rfl
              refine' Rgi.op_is _ [] rfl rfl (by kernel_rfl) ?_ ?_
              rotate_left
              · intro g wx hb
                refine Rgi.from_nil fun T hT => ?_
                go_wp2
                refine hT _ _ rfl hb ?_
                simp only [Rgi.last, List.getElem?_toArray, List.getElem?_cons_succ, List.getElem?_cons_zero, Option.getD_some]
                rfl
              refine Rgi.op_is (.slice (some ⟨gX, 0, none⟩) o c1) [1, 2] rfl rfl (by kernel_rfl) ?_ ?_
              · intro g wx hb
                refine Rgi.from_is (some 96) rfl rfl ?_
                refine Rgi.from_is (some 97) rfl rfl ?_
                refine Rgi.from_nil fun T hT => ?_
                go_wp2
                exact hT _ _ rfl hb (by first | rfl | exact congrArg _ (by decide))
              refine Rgi.op_sp [0, 3] rfl rfl (by kernel_rfl) ?_ ?_
              · intro g wx hb hg
                refine Rgi.from_sp (some 95) rfl rfl rfl fun v95 h95 => ?_
                refine Rgi.from_is (some 98) rfl rfl ?_
                refine Rgi.from_nil fun T hT => ?_
                have ho := EraseB.lit hb _ h95 hg
                at_builtin
                refine wpList_add_at elt_u64 _ rfl _ _ rfl wr.heap.size ho rfl ⟨gX, 0, none⟩ o c1 (takeV X o) (by simp [takeV]; omega) rfl ?_ (by first | exact u64_ones _ | (unfold takeV; exact u64_ones _) | (unfold dropV; exact u64_ones _)) (by simp; omega) (by simp; omega) (EraseB.b hb).size ?_
                · exact takeV_at fun k z hz => ((EraseB.b hb).cell (lt_of_cell (HCX.out k z hz))).trans (HCX.out k z hz)
                · intro v' w' ho' hw'
                  go_wp2
                  exact hT _ _ rfl (EraseB.put1 hb hg ho hw' ho')
              refine' Rgi.op_is _ [] rfl rfl (by kernel_rfl) ?_ ?_
              rotate_left
              · intro g wx hb
                refine Rgi.from_nil fun T hT => ?_
                go_wp2
                refine hT _ _ rfl hb ?_
                simp only [Rgi.last, List.getElem?_toArray, List.getElem?_cons_succ, List.getElem?_cons_zero, Option.getD_some]
                rfl
              refine' Rgi.op_is _ [] rfl rfl (by kernel_rfl) ?_ ?_
              rotate_left
              · intro g wx hb
                refine Rgi.from_nil fun T hT => ?_
                go_wp2
                refine hT _ _ rfl hb ?_
                simp only [Rgi.last, List.getElem?_toArray, List.getElem?_cons_succ, List.getElem?_cons_zero, Option.getD_some]
                rfl
              refine' Rgi.op_is _ [6] rfl rfl (by kernel_rfl) ?_ ?_
              rotate_left
              · intro g wx hb
                refine Rgi.from_is (some 101) rfl rfl ?_
                refine Rgi.from_nil fun T hT => ?_
                go_wp2
                refine hT _ _ rfl hb ?_
                simp only [Rgi.last, List.getElem?_toArray, List.getElem?_cons_succ, List.getElem?_cons_zero, Option.getD_some]
                rfl
              refine Rgi.op_is (.slice (some aX) (X.length - (o + 1)) (c1 - (o + 1))) [5, 7] rfl rfl (by kernel_rfl) ?_ ?_
              · intro g wx hb
                refine Rgi.from_is (some 100) rfl rfl ?_
                refine Rgi.from_is (some 102) rfl rfl ?_
                refine Rgi.from_nil fun T hT => ?_
                by_cases hcc : c1 = o + 1
                · go_wp2
                  exact hT _ _ rfl hb (by rw [HAX1.out hcc, show c1 - (o + 1) = 0 by omega]; first | rfl | (rw [← Nat.sub_self (o + 1)]; rfl))
                · go_wp2
                  exact hT _ _ rfl hb (by rw [HAX2.out hcc]; rfl)
              refine Rgi.op_sp [4, 8] rfl rfl (by kernel_rfl) ?_ ?_
              · intro g wx hb hg
                refine Rgi.from_sp (some 99) rfl rfl rfl fun v99 h99 => ?_
                refine Rgi.from_is (some 103) rfl rfl ?_
                refine Rgi.from_nil fun T hT => ?_
                have ho := EraseB.one hb _ h99 hg
                at_builtin
                refine wpList_add_at elt_u64 _ rfl _ _ rfl wr.heap.size ho rfl aX (X.length - (o + 1)) (c1 - (o + 1)) (dropV X o) (by simp [dropV]) rfl ?_ (by unfold dropV; exact u64_ones _) (by simp [takeV]; omega) (by simp [takeV]; omega) (EraseB.b hb).size ?_
                · by_cases hcc : c1 = o + 1
                  · intro j u hu
                    have : dropV X o = [] := by unfold dropV; rw [List.drop_eq_nil_of_le (by omega)]; rfl
                    rw [this] at hu
                    cases hu
                  · rw [HAX2.out hcc]
                    exact dropV_at fun k z hz => ((EraseB.b hb).cell (lt_of_cell (HCX.out k z hz))).trans (HCX.out k z hz)
                · intro v' w' ho' hw'
                  go_wp2
                  exact hT _ _ rfl (EraseB.put2 hb h99 ho hw' ho')
              refine Rgi.walk_nil [0, 1, 2, 3, 4, 5, 6, 7, 8, 9] (by kernel_rfl) ?_
              intro g wx hb
              refine Rgi.from_sp (some 95) rfl rfl rfl fun v95 h95 => ?_
              refine Rgi.from_is (some 96) rfl rfl ?_
              refine Rgi.from_is (some 97) rfl rfl ?_
              refine Rgi.from_is (some 98) rfl rfl ?_
              refine Rgi.from_sp (some 99) rfl rfl rfl fun v99 h99 => ?_
              refine Rgi.from_is (some 100) rfl rfl ?_
              refine Rgi.from_is (some 101) rfl rfl ?_
              refine Rgi.from_is (some 102) rfl rfl ?_
              refine Rgi.from_is (some 103) rfl rfl ?_
              refine Rgi.from_sp (some 104) rfl rfl rfl fun v104 h104 => ?_
              refine Rgi.from_nil ?_
              simp only [List.map, Act.put, List.setIfInBounds_toArray, List.set_cons_zero, List.set_cons_succ]
              have hX6 : Own wx wr.heap.size 24 v104 ((X.eraseIdx o).map (.int .u64)) := by rw [← take_drop_erase]; exact EraseB.two hb _ h104
              have hb6 : Below wr.heap.size wr wx := EraseB.b hb
              have HCY6 := hid (show ∀ (k : Nat) (z : Int), Y[k]? = some z → wx.cell? ⟨gY, k, none⟩ = some (.int .u64 z) from fun k z hz => (hb6.cell (lt_of_cell (HCY.out k z hz))).trans (HCY.out k z hz))
              clear h95 h99 h104 hb
              generalize wx = w6 at *
              obtain ⟨aY, hAY1, hAY2⟩ : ∃ a : Addr, (c2 = o + 1 → a = ⟨gY, 0, none⟩) ∧ (¬ c2 = o + 1 → a = ⟨gY, o + 1, none⟩) := by
                by_cases h : c2 = o + 1
                · exact ⟨_, fun _ => rfl, fun h' => absurd h h'⟩
                · exact ⟨_, fun h' => absurd h' h, fun _ => rfl⟩
              have HAY1 := hid hAY1
              have HAY2 := hid hAY2
              have HX6 := hid hX6
              have HB6 := hid hb6
              clear hAY1 hAY2 hX6 hb6
              go_upto_region 19 with (fail)
              refine Rgi.wp_region (l := [_, _, _, _, _, _, _, _, _, _]) (tail := [_]) (⟨EraseB w6 (takeV Y o) (dropV Y o), [0, 4, 9]⟩) [some 105, some 106, some 107, some 108, some 109, some 110, some 111, some 112, some 113, some 114, some 21] 122 rfl (by kernel_rfl) (by kernel_rfl) rfl (EraseB.start _ _ _) ?_
              refine Rgi.op_sp [] rfl rfl (by kernel_rfl) ?_ ?_
              · intro g wx hb hg
                refine Rgi.from_nil fun T hT => ?_
                go_wp2
                exact hT _ _ rfl (EraseB.new hb)
              refine' Rgi.op_is _ [] rfl rfl (by kernel_rfl) ?_ ?_
              rotate_left
              · intro g wx hb
                refine Rgi.from_nil fun T hT => ?_
                go_wp2
                refine hT _ _ rfl hb ?_
                simp only [Rgi.last, List.getElem?_toArray, List.getElem?_cons_succ, List.getElem?_cons_zero, Option.getD_some]
                rfl
              refine' Rgi.op_is _ [] rfl rfl (by kernel_rfl) ?_ ?_
              rotate_left
              · intro g wx hb
                refine Rgi.from_nil fun T hT => ?_
                go_wp2
                refine hT _ _ rfl hb ?_
                simp only [Rgi.last, List.getElem?_toArray, List.getElem?_cons_succ, List.getElem?_cons_zero, Option.getD_some]
                rfl
              refine Rgi.op_is (.slice (some ⟨gY, 0, none⟩) o c2) [1, 2] rfl rfl (by kernel_rfl) ?_ ?_
              · intro g wx hb
                refine Rgi.from_is (some 106) rfl rfl ?_
                refine Rgi.from_is (some 107) rfl rfl ?_
                refine Rgi.from_nil fun T hT => ?_
                go_wp2
                exact hT _ _ rfl hb (by first | rfl | exact congrArg _ (by decide))
              refine Rgi.op_sp [0, 3] rfl rfl (by kernel_rfl) ?_ ?_
              · intro g wx hb hg
                refine Rgi.from_sp (some 105) rfl rfl rfl fun v105 h105 => ?_
                refine Rgi.from_is (some 108) rfl rfl ?_
                refine Rgi.from_nil fun T hT => ?_
                have ho := EraseB.lit hb _ h105 hg
                at_builtin
                refine wpList_add_at elt_u64 _ rfl _ _ rfl w6.heap.size ho rfl ⟨gY, 0, none⟩ o c2 (takeV Y o) (by simp [takeV]; omega) rfl ?_ (by first | exact u64_ones _ | (unfold takeV; exact u64_ones _) | (unfold dropV; exact u64_ones _)) (by simp; omega) (by simp; omega) (EraseB.b hb).size ?_
                · exact takeV_at fun k z hz => ((EraseB.b hb).cell (lt_of_cell (HCY6.out k z hz))).trans (HCY6.out k z hz)
                · intro v' w' ho' hw'
                  go_wp2
                  exact hT _ _ rfl (EraseB.put1 hb hg ho hw' ho')
              refine' Rgi.op_is _ [] rfl rfl (by kernel_rfl) ?_ ?_
              rotate_left
              · intro g wx hb
                refine Rgi.from_nil fun T hT => ?_
                go_wp2
                refine hT _ _ rfl hb ?_
                simp only [Rgi.last, List.getElem?_toArray, List.getElem?_cons_succ, List.getElem?_cons_zero, Option.getD_some]
                rfl
              refine' Rgi.op_is _ [] rfl rfl (by kernel_rfl) ?_ ?_
              rotate_left
              · intro g wx hb
                refine Rgi.from_nil fun T hT => ?_
                go_wp2
                refine hT _ _ rfl hb ?_
                simp only [Rgi.last, List.getElem?_toArray, List.getElem?_cons_succ, List.getElem?_cons_zero, Option.getD_some]
                rfl
              refine' Rgi.op_is _ [6] rfl rfl (by kernel_rfl) ?_ ?_
              rotate_left
              · intro g wx hb
                refine Rgi.from_is (some 111) rfl rfl ?_
                refine Rgi.from_nil fun T hT => ?_
                go_wp2
                refine hT _ _ rfl hb ?_
                simp only [Rgi.last, List.getElem?_toArray, List.getElem?_cons_succ, List.getElem?_cons_zero, Option.getD_some]
                rfl
              refine Rgi.op_is (.slice (some aY) (Y.length - (o + 1)) (c2 - (o + 1))) [5, 7] rfl rfl (by kernel_rfl) ?_ ?_
              · intro g wx hb
                refine Rgi.from_is (some 110) rfl rfl ?_
                refine Rgi.from_is (some 112) rfl rfl ?_
                refine Rgi.from_nil fun T hT => ?_
                by_cases hcc : c2 = o + 1
                · go_wp2
                  exact hT _ _ rfl hb (by rw [HAY1.out hcc, show c2 - (o + 1) = 0 by omega]; first | rfl | (rw [← Nat.sub_self (o + 1)]; rfl))
                · go_wp2
                  exact hT _ _ rfl hb (by rw [HAY2.out hcc]; rfl)
              refine Rgi.op_sp [4, 8] rfl rfl (by kernel_rfl) ?_ ?_
              · intro g wx hb hg
                refine Rgi.from_sp (some 109) rfl rfl rfl fun v109 h109 => ?_
                refine Rgi.from_is (some 113) rfl rfl ?_
                refine Rgi.from_nil fun T hT => ?_
                have ho := EraseB.one hb _ h109 hg
                at_builtin
                refine wpList_add_at elt_u64 _ rfl _ _ rfl w6.heap.size ho rfl aY (Y.length - (o + 1)) (c2 - (o + 1)) (dropV Y o) (by simp [dropV]) rfl ?_ (by unfold dropV; exact u64_ones _) (by simp [takeV]; omega) (by simp [takeV]; omega) (EraseB.b hb).size ?_
                · by_cases hcc : c2 = o + 1
                  · intro j u hu
                    have : dropV Y o = [] := by unfold dropV; rw [List.drop_eq_nil_of_le (by omega)]; rfl
                    rw [this] at hu
                    cases hu
                  · rw [HAY2.out hcc]
                    exact dropV_at fun k z hz => ((EraseB.b hb).cell (lt_of_cell (HCY6.out k z hz))).trans (HCY6.out k z hz)
                · intro v' w' ho' hw'
                  go_wp2
                  exact hT _ _ rfl (EraseB.put2 hb h109 ho hw' ho')
              refine Rgi.walk_nil [0, 1, 2, 3, 4, 5, 6, 7, 8, 9] (by kernel_rfl) ?_
              intro g wx hb
              refine Rgi.from_sp (some 105) rfl rfl rfl fun v105 h105 => ?_
              refine Rgi.from_is (some 106) rfl rfl ?_
              refine Rgi.from_is (some 107) rfl rfl ?_
              refine Rgi.from_is (some 108) rfl rfl ?_
              refine Rgi.from_sp (some 109) rfl rfl rfl fun v109 h109 => ?_
              refine Rgi.from_is (some 110) rfl rfl ?_
              refine Rgi.from_is (some 111) rfl rfl ?_
              refine Rgi.from_is (some 112) rfl rfl ?_
              refine Rgi.from_is (some 113) rfl rfl ?_
              refine Rgi.from_sp (some 114) rfl rfl rfl fun v114 h114 => ?_
              refine Rgi.from_nil ?_
              simp only [List.map, Act.put, List.setIfInBounds_toArray, List.set_cons_zero, List.set_cons_succ]
              have hY7 : Own wx w6.heap.size 24 v114 ((Y.eraseIdx o).map (.int .u64)) := by rw [← take_drop_erase]; exact EraseB.two hb _ h114
              have hb7 : Below w6.heap.size w6 wx := EraseB.b hb
              have hX7 := HX6.out.below hb7
              have hbr := below_next HB6.out HB6.out.size hb7
              have hb5r := below_next HI.out.2 HI.out.2.size hbr
              obtain ⟨B7, c7, e7, hXc⟩ := hX7.form
              obtain ⟨B8, c8, e8, hYc⟩ := hY7.form
              obtain ⟨B9, c9, e9, hOc⟩ := (HI.out.1.below hbr).form
              rw [List.length_map] at e7 e8 e9
              subst e7
              subst e8
              subst e9
              have hxe : (X.eraseIdx o).length ≤ 7 := Nat.le_trans (List.length_eraseIdx_le X o) hfew
              have hye : (Y.eraseIdx o).length ≤ 7 := Nat.le_trans (List.length_eraseIdx_le Y o) hfew'
              have hoe := othersL_len o W
              have hp := is_c B7 B8 A3 B9 (X.eraseIdx o) (Y.eraseIdx o) C (othersL o W) c7 c8 c3 c9 t q wx hXc hYc (HC5.out.below hb5r) hOc (by omega) (by omega) (by omega) (by omega)
                (fun x hx => HPR.out.ux x ((List.eraseIdx_sublist X o).subset hx)) (fun x hx => HPR.out.uy x ((List.eraseIdx_sublist Y o).subset hx)) ⟨by omega, by omega⟩ hqu (HT.out.below (below_next HB5.out HB5.out.size hb5r))
              rw [isB_at HDW.out] at hp
              have HPP := hid hp
              have HBW := hid (below_next HB5.out HB5.out.size hb5r)
              clear hp hY7 hb7 hX7 hbr hb5r hXc hYc hOc h105 h109 h114 hb HI
              go_wp2_with (fail)
              refine HPP.out.mono ?_
              rintro e w9 ⟨rfl, hb9⟩
              go_wp2
              go_ret
              exact ⟨rfl, below_next HBW.out HBW.out.size hb9⟩
      · have hne1 : (er == 0) = false := by simpa using he
        go_wp2
        go_ret
        exact ⟨rfl, HB5.out⟩
end Go.Proofs.YtmmmdidbnjcooaaDoor
end
