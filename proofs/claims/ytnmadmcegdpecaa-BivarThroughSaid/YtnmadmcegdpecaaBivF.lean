/-
  The program's columns of a list of lists: the iterator.
-/
import Derived.Test.YtnmadmcegdpecaaBivE
import Derived.Test.YtnmadmcegdpecaaRange
import Derived.Shelf.Abstract
import Derived.Shelf.RegionOpen
import Derived.OwnWalkIn
import Derived.TacticsInMore
import Derived.LoopNIn
import Derived.LoopIn
import Derived.Deep.Cut
namespace Go.Proofs.Ytnmadmcegdpecaa
open Go.RowKit Go.Shelf

attribute [local go_sem] Oper.semAt_some

/-- what the iterator has captured. -/
structure Fit (A : Option Addr) (f : List (List Int)) (c g1 g2 g3 : Nat) (w : World) : Prop where
  r1 : Row1 w g1 22 [.slice A f.length c]
  r2 : Row1 w g2 22 [.slice A f.length c]
  r3 : Row1 w g3 105 [.func (.func 117) #[] #[.pointer (some ⟨g2, 0, none⟩)]]
  A : Grid w A f
theorem Fit.below {A : Option Addr} {f : List (List Int)} {c g1 g2 g3 : Nat} {w w' : World} (h : Fit A f c g1 g2 g3 w) (hb : Below w.heap.size w w') : Fit A f c g1 g2 g3 w' := ⟨h.r1.below hb, h.r2.below hb, h.r3.below hb, h.A.below hb⟩
theorem Fit.dr {A : Option Addr} {f : List (List Int)} {c g1 g2 g3 : Nat} {w w' : World} (h : Fit A f c g1 g2 g3 w) (hd : Dr w w') : Fit A f c g1 g2 g3 w' := h.below (below_of_dr hd)

/-- one number; 0, if there is nothing. -/
theorem reads1_c (A : Option Addr) (f : List (List Int)) (c g2 i j : Nat) (l : List Int) (w : World) (hA : Grid w A f) (hr : Row1 w g2 22 [.slice A f.length c]) (_ : f.length ≤ 9223372036854775807) (hx : f[i]? = some l) (_ : j ≤ 9223372036854775807) :
    Calls Try.prog 117 #[.int .i64 i, .int .i64 j, .pointer (some ⟨g2, 0, none⟩)] w fun e w' => e = .returned (.int .u64 (l.getD j 0)) ∧ w = w' := by
  have hc := hr.cell (k := 0) rfl
  have hi : i < f.length := (List.getElem?_eq_some_iff.1 hx).1
  obtain ⟨o1, off, A', c', rfl, hc1, hcs, hln⟩ := hA.at_ hx
  clear hx
  go_enter Try.func117, Try.ntmps117
  by_cases hin : j < l.length
  · obtain ⟨z, hz⟩ := get_of_lt hin
    obtain ⟨o2, off2, rfl, hcz⟩ := hcs.at_map hz
    have hgd := hid (show l.getD j 0 = z by rw [List.getD_eq_getElem?_getD, hz]; rfl)
    clear hz
    go_wp2
    go_ret
    exact ⟨ret_int hgd.out.symm, rfl⟩
  · have hgd := hid (show l.getD j 0 = 0 by rw [List.getD_eq_getElem?_getD, List.getElem?_eq_none (by omega)]; rfl)
    go_wp2
    go_ret
    exact ⟨ret_int hgd.out.symm, rfl⟩

theorem reads_c (A : Option Addr) (n c : Nat) (w : World) : Calls Try.prog 107 #[.slice A n c] w fun e w' => e = .returned (.func (.func 117) #[] #[.pointer (some ⟨w.heap.size, 0, none⟩)]) ∧ w.alloc (.cells #[.slice A n c] 22) = w' := by
  go_enter Try.func107, Try.ntmps107
  go_wp2
  go_ret
  exact ⟨rfl, rfl⟩

set_option maxRecDepth 100000 in
set_option maxHeartbeats 2000000 in
theorem columns1_c (A : Option Addr) (f : List (List Int)) (c g1 g2 g3 l n : Nat) (w : World) (J : List (Nat × Value) → World → Prop) (hJ : ∀ xs A B, w.heap.size ≤ A.heap.size → J xs A → Below A.heap.size A B → J xs B)
    (hY : ∀ pre x W, w.heap.size ≤ W.heap.size → J pre W → x.1 < wide f → RowT W 23 x.2 ((colJ f x.1).map (.int .u64)) → YieldAt Fence.wide n Try.prog l #[.int .i64 (x.1 : Int), x.2] W fun e B => e = .returned (.bool true) ∧ J (pre ++ [x]) B ∧ (Fit A f c g1 g2 g3 W → Fit A f c g1 g2 g3 B) ∧ W.heap.size ≤ B.heap.size)
    (hF : Fit A f c g1 g2 g3 w) (hl : f.length ≤ 1000000) (hwd : wide f ≤ 1000000) (h0 : J [] w) :
    Calls Try.prog 108 #[.func (.yield l) #[] #[], .pointer (some ⟨g1, 0, none⟩), .pointer (some ⟨g3, 0, none⟩)] w fun e w' => (∃ v, e = .returned v) ∧ ∃ xs, xs.map Prod.fst = List.range (wide f) ∧ J xs w' := by
  have hc1 := hF.r1.cell (k := 0) rfl
  go_enter Try.func108, Try.ntmps108
  have hpw := pwide_c A f c w hF.A (by omega)
  obtain ⟨m, hm⟩ : ∃ m, wide f = m := ⟨_, rfl⟩
  rw [hm] at hpw hwd hY ⊢
  have HPW := hid hpw
  clear hpw hm
  go_wp2_with (go_at_call 76; refine HPW.out.mono ?_; rintro e w2 ⟨rfl, rfl⟩)
  clear hc1
  go_loopw [4, 5, 6, 9] (fun _ _ _ j wr => ∃ k : Nat, j = .int .i64 k ∧ k ≤ m ∧ w.heap.size ≤ wr.heap.size ∧ Fit A f c g1 g2 g3 wr ∧ ∃ xs : List (Nat × Value), xs.map Prod.fst = List.range k ∧ J xs wr) (fun _ _ _ j _ => m - (intOf j).toNat)
  case atStart => exact ⟨0, rfl, by omega, Nat.le_refl _, hF, [], rfl, h0⟩
  case round =>
    obtain ⟨k, rfl, hk, hsz, hF2, xs, hxs, hJx⟩ := hrel
    have HXS := hid hxs
    clear hxs
    by_cases hlt : k < m
    · have hc1 := hF2.r1.cell (k := 0) rfl
      go_wp2
      generalize wr = wo at *
      clear hc1
      go_loopw [5, 6, 14] (fun o _ i w4 => ∃ i' : Nat, i = .int .i64 i' ∧ i' ≤ f.length ∧ Own w4 wo.heap.size 23 o (((colJ f k).take i').map (.int .u64)) ∧ Below wo.heap.size wo w4) (fun _ _ i _ => f.length - (intOf i).toNat)
      case atStart => exact ⟨0, rfl, by omega, by simpa using Own.nil wo wo.heap.size 23, Below.refl _ _⟩
      case round =>
        obtain ⟨i, rfl, hi, hown4, hb4⟩ := hrel
        have hF4 := hF2.below hb4
        by_cases hlt2 : i < f.length
        · obtain ⟨l2, hxl⟩ := get_of_lt hlt2
          have hcj := colJ_at hxl k
          have hs : ((colJ f k).take i).map (Value.int .u64) ++ [Value.int .u64 (l2.getD k 0)] = ((colJ f k).take (i + 1)).map (Value.int .u64) := by
            rw [take_snoc' hcj]; simp
          have hlen : (((colJ f k).take i).map (Value.int .u64)).length = i := by simp [colJ_len]; omega
          have HS := hid (⟨hs, hlen, hxl⟩ : _ ∧ _ ∧ _)
          clear hs hlen hcj hxl
          have hc3 := hF4.r3.cell (k := 0) rfl
          go_wp2_with (first | (go_at_call 117; refine (reads1_c A f c g2 i k l2 _ hF4.A hF4.r2 (by omega) HS.out.2.2 (by omega)).mono ?_; rintro e w2 ⟨rfl, rfl⟩) | (at_builtin; refine wpList_push elt_u64 wr rfl _ _ rfl wo.heap.size hown4 rfl (.int .u64 (l2.getD k 0)) rfl rfl (by rw [HS.out.2.1]; omega) (by rw [HS.out.2.1]; omega) hb4.size ?_; intro v' w3 hown5 _ hb5))
          go_roundw
          case rel =>
            rw [HS.out.1] at hown5
            exact ⟨i + 1, by go_num, by omega, hown5, hb4.trans hb5⟩
          case measure => simp [intOf]; omega
        · obtain rfl : i = f.length := by omega
          rw [List.take_of_length_le (by rw [colJ_len]; exact Nat.le_refl _)] at hown4
          have hrt := hown4.rowT
          obtain ⟨A5, c5, rfl, _⟩ := hown4.form
          rw [List.length_map] at hrt
          have hs4 := hb4.size
          have hJ4 := hJ _ _ _ hsz hJx hb4
          obtain ⟨fn, tmps, assign, body, hy, hR⟩ := hY xs (k, .slice A5 (colJ f k).length c5) wr (by omega) hJ4 hlt hrt
          dsimp only at hy
          clear hown4 hJx
          go_upto_region 9 with (fail)
          refine (wpIn_wide (n := n + 1)).1 ?_
          gi_wp2
          refine hR.mono ?_
          rintro e B ⟨rfl, hJB, hKB, hszB⟩
          gi_wp2
          go_wp2
          go_roundw
          case rel => exact ⟨k + 1, by go_num, by omega, by omega, hKB hF4, xs ++ [(k, .slice A5 (colJ f k).length c5)], by rw [List.map_append, HXS.out, List.range_succ]; rfl, hJB⟩
          case measure => simp [intOf]; omega
    · obtain rfl : k = m := by omega
      go_wp2
      go_end0
      exact ⟨⟨_, rfl⟩, xs, HXS.out, hJx⟩

end Go.Proofs.Ytnmadmcegdpecaa
