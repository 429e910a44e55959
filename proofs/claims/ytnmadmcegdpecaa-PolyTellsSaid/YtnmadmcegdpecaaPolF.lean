/-
  Numbers told and written over; a polynomial divided by one of the power 1.
-/
import Derived.Test.YtnmadmcegdpecaaPolA
import Derived.Test.YtnmadmcegdpecaaMany
import Derived.Test.YtnmadmcegdpecaaCmp
namespace Go.Proofs.Ytnmadmcegdpecaa
open Go.RowKit

attribute [local go_sem] Oper.semAt_some

set_option maxRecDepth 100000 in
set_option maxHeartbeats 2000000 in
theorem told_c (A B : Option Addr) (g v : List Int) (c d base : Nat) (w : World) (hW : Writ w base 23 (.slice A g.length c) g.length) (hA : Cells w A (g.map (.int .u64))) (hB : Cells w B (v.map (.int .u64))) (hl : g.length ≤ 9223372036854775807) (hl' : v.length ≤ 9223372036854775807) :
    Calls Try.prog 58 #[.slice A g.length c, .slice B v.length d] w fun e w' => e = .returned (.bool (decide (g = v))) ∧ Below base w w' := by
  go_enter Try.func58, Try.ntmps58
  go_wp2_with (fail)
  refine (numbers_c A B g v c d w hA hB hl hl').mono ?_
  rintro e w2 ⟨rfl, hw2⟩
  have hW2 := hW.below (below_of_dr hw2)
  have hb2 : Below base w w2 := below_of_dr hw2
  obtain ⟨r, hr⟩ : ∃ r, decide (g = v) = r := ⟨_, rfl⟩
  rw [hr]
  have HR := hid hr
  generalize g.length = n at *
  clear hr hW hw2 hA hB
  go_wp2
  go_loopw [6] (fun i wr => ∃ j : Nat, i = .int .i64 j ∧ j ≤ n ∧ Writ wr base 23 (.slice A n c) n ∧ Below base w wr) (fun i _ => n - (intOf i).toNat)
  case atStart => exact ⟨0, rfl, by omega, hW2, hb2⟩
  case round =>
    obtain ⟨j, rfl, hj, hwa, hbo⟩ := hrel
    clear hW2 hb2
    by_cases hltj : j < n
    · obtain ⟨g1, cap, u0, he, hg1', hg2, hg3, hg4, ar, hg5⟩ := hwa.at_ hltj
      simp only [Value.slice.injEq, true_and] at he
      obtain ⟨rfl, rfl⟩ := he
      have hwa3 := hwa.set g1 j (.int .u64 77)
      have hbo3 := hbo.setCell (p := ⟨g1, j, none⟩) hg1' (.int .u64 77)
      clear hwa hbo hg5
      go_wp2
      go_roundw
      case rel => exact ⟨j + 1, by go_num, by omega, hwa3, hbo3⟩
      case measure => simp [intOf]; omega
    · obtain rfl : j = n := by omega
      go_wp2
      go_ret
      exact ⟨ret_bool HR.out.symm, hbo⟩

/-- c divided by the polynomial of the power 1 that is 0 at x. -/
def withoutL (c : List Int) (x q : Int) : List Int := (List.range (c.length - 1)).map fun j => mEval (c.drop (j + 1)) x q
def woRow (c : List Int) (x q : Int) (k : Nat) : List Int := (List.range (c.length - 1)).map fun j => if k ≤ j then mEval (c.drop (j + 1)) x q else 0
theorem woRow_len (c : List Int) (x q : Int) (k : Nat) : (woRow c x q k).length = c.length - 1 := by simp [woRow]
theorem woRow_start (c : List Int) (x q : Int) : woRow c x q (c.length - 1) = List.replicate (c.length - 1) 0 := by
  unfold woRow
  rw [List.eq_replicate_iff]
  refine ⟨by simp, fun z hz => ?_⟩
  obtain ⟨j, hj, rfl⟩ := List.mem_map.1 hz
  rw [if_neg (by have := List.mem_range.1 hj; omega)]
theorem woRow_all (c : List Int) (x q : Int) : woRow c x q 0 = withoutL c x q := by
  unfold woRow withoutL
  apply List.map_congr_left
  intro j _
  rw [if_pos (by omega)]
theorem woRow_at {c : List Int} {x q : Int} {k : Nat} (h : k < c.length - 1) : (woRow c x q (k + 1))[k]? = some 0 := by
  unfold woRow
  rw [List.getElem?_map, List.getElem?_range h, Option.map_some, if_neg (by omega)]
theorem woRow_set {c : List Int} {x q : Int} {k : Nat} (h : k < c.length - 1) : (woRow c x q (k + 1)).set k (mEval (c.drop (k + 1)) x q) = woRow c x q k := by
  apply List.ext_getElem?
  intro j
  rw [List.getElem?_set]
  split
  · rename_i hj
    subst hj
    rw [if_pos (by rw [woRow_len]; exact h)]
    unfold woRow
    rw [List.getElem?_map, List.getElem?_range h, Option.map_some, if_pos (Nat.le_refl _)]
  · rename_i hj
    unfold woRow
    rw [List.getElem?_map, List.getElem?_map]
    rcases Nat.lt_or_ge j (c.length - 1) with h1 | h1
    · rw [List.getElem?_range h1, Option.map_some, Option.map_some]
      congr 1
      by_cases hc : k ≤ j
      · rw [if_pos (by omega), if_pos hc]
      · rw [if_neg (by omega), if_neg hc]
    · rw [List.getElem?_eq_none (by simpa using h1)]; rfl

set_option maxRecDepth 100000 in
set_option maxHeartbeats 2000000 in
theorem without_c (A : Option Addr) (l : List Int) (c : Nat) (x q : Int) (w : World) (hA : Cells w A (l.map (.int .u64))) (h1 : 1 ≤ l.length) (hl : l.length ≤ 1000000) (hu : U64s l) (hx : U64 x) (hq : U64 q) :
    Calls Try.prog 102 #[.slice A l.length c, .int .u64 x, .int .u64 q] w (NewNums (withoutL l x q) w) := by
  have hi0 : (l.length : Int) - 1 = ((l.length - 1 : Nat) : Int) := by omega
  have HI := hid hi0
  clear hi0
  go_enter Try.func102, Try.ntmps102
  go_wp2_with (at_make; refine wpList_make_row elt_u64 _ rfl _ _ rfl .i64 .i64 _ _ (l.length - 1) rfl rfl (by first | rfl | exact HI.out) (by first | rfl | exact HI.out) (by omega) (by omega) ?_; intro w1 hr1 hs1 hb1)
  go_loopw [8, 9] (fun o i wr => ∃ k : Nat, i = .int .i64 k ∧ k ≤ l.length - 1 ∧ o = .int .u64 (mEval (l.drop (k + 1)) x q) ∧ Row1 wr w.heap.size 23 ((woRow l x q k).map (.int .u64)) ∧ Below w.heap.size w wr) (fun _ i _ => (intOf i).toNat)
  case atStart => exact ⟨l.length - 1, by rw [← HI.out], Nat.le_refl _, by rw [show l.length - 1 + 1 = l.length by omega, List.drop_length, mEval_nil], by rw [woRow_start, List.map_replicate]; exact hr1, hb1⟩
  case round =>
    obtain ⟨k, rfl, hk, rfl, hr, hb⟩ := hrel
    cases k with
    | zero =>
      go_wp2
      go_ret
      rw [woRow_all] at hr
      have h9 := hr.own (Nat.le_refl _) (by rw [List.length_map]; simp [withoutL]; omega)
      have hlen : (withoutL l x q).length = l.length - 1 := by simp [withoutL]
      rw [List.length_map, hlen] at h9
      exact ⟨_, rfl, h9, hb⟩
    | succ k =>
      obtain ⟨z, hz⟩ := get_of_lt (l := l) (show k + 1 < l.length by omega)
      obtain ⟨o2, off2, rfl, hcz⟩ := (hA.keep fun p hp => hb.cell hp).at_map hz
      have huz := hu.at_ hz
      have hstep := mEval_drop hz x q
      have hm := mEval_u64 (l.drop (k + 1 + 1)) x q
      have hset := woRow_set (c := l) (x := x) (q := q) (k := k) (by omega)
      have hat := woRow_at (c := l) (x := x) (q := q) (k := k) (by omega)
      rw [hstep] at hset
      obtain ⟨v, hv⟩ : ∃ v, mEval (l.drop (k + 1 + 1)) x q = v := ⟨_, rfl⟩
      rw [hv] at hset hm hstep ⊢
      have hcO := hr.cell (k := k) (u := .int .u64 0) (by rw [List.getElem?_map, hat]; rfl)
      have HS := hid (⟨hset, hstep⟩ : _ ∧ _)
      have hi : ((k + 1 : Nat) : Int) - 1 = (k : Int) := by omega
      clear hset hstep hv hat hz
      go_wp2
      go_quiet (first | (go_at_call 33; exact quiet_dr (mul_c _ _ _ hm hx hq _)) | (go_at_call 32; exact quiet_dr (add_c _ _ _ (mMul_u64 _ _ _) huz hq _)))
      have hfO := hr.frozen k
      go_wp2
      go_roundw
      case rel =>
        refine ⟨k, by go_num, by omega, by rw [HS.out.2], ?_, ?_⟩
        · have h9 := hr.set k (.int .u64 (mAdd (mMul v x q) z q))
          rw [← List.map_set, HS.out.1] at h9
          exact h9
        · exact (below_dr hb ⟨_, rfl⟩).setCell (p := ⟨w.heap.size, k, none⟩) (Nat.le_refl _) _
      case measure => simp [intOf]

end Go.Proofs.Ytnmadmcegdpecaa
