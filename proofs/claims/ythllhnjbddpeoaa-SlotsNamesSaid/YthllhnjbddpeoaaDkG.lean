/-
  The writes that wait, from the last one on; what a sector has.
-/
import Derived.Test.YthllhnjbddpeoaaDkF
import Derived.RangeFuncNested
import Derived.RangeFuncBound
import Derived.RangeFuncCalls
import Derived.RangeFuncLeaves
import Derived.Shelf.Abstract
import Derived.Shelf.RegionOpen
import Derived.OwnWalkIn
import Derived.TacticsInMore
import Derived.LoopNIn
import Derived.LoopIn
namespace Go.Proofs.Ythllhnjbddpeoaa
open Go.RowKit Go.Maps Go.Shelf Go.Proofs

attribute [local go_sem] Oper.semAt_some

/-- what comes at round j. -/
def bk (C : List Pt) (j : Nat) : Nat × Pt := (C.length - 1 - j, (C.reverse[j]?).getD ⟨0, ⟨#[]⟩⟩)
def bks (C : List Pt) (k : Nat) : List (Nat × Pt) := (List.range k).map (bk C)
theorem bks_succ (C : List Pt) (k : Nat) : bks C (k + 1) = bks C k ++ [bk C k] := by simp [bks, List.range_succ]
theorem bks_len (C : List Pt) (k : Nat) : (bks C k).length = k := by simp [bks]
theorem bks_pts (C : List Pt) {k : Nat} (h : k ≤ C.length) : (bks C k).map (·.2) = C.reverse.take k := by
  apply List.ext_getElem
  · simp [bks, h]
  · intro i h1 h2
    have h3 : i < C.length := by simp [bks] at h1; omega
    simp [bks, bk, h3]
abbrev encB (x : Nat × Pt) : Array Value := #[.int .i64 (x.1 : Int), pval x.2]

/-- what a round keeps: the row that is walked, and its box. -/
def KpB (Bs : Nat) (v : Value) (W W' : World) : Prop := W'.heap[Bs]? = W.heap[Bs]? ∧ ∀ b, v.ownBlock = some b → W'.heap[b]? = W.heap[b]?
theorem KpB.trans {Bs : Nat} {v : Value} {A B C : World} (h : KpB Bs v A B) (k : KpB Bs v B C) : KpB Bs v A C := ⟨k.1.trans h.1, fun b hb => (k.2 b hb).trans (h.2 b hb)⟩
theorem KpB.refl {Bs : Nat} {v : Value} {A : World} : KpB Bs v A A := ⟨rfl, fun _ _ => rfl⟩
theorem KpB.below {n Bs : Nat} {v : Value} {A B : World} (h : Below n A B) (h1 : Bs < n) (h2 : ∀ b, v.ownBlock = some b → b < n) : KpB Bs v A B := ⟨h.block _ h1, fun b hb => h.block b (h2 b hb)⟩

set_option maxRecDepth 100000 in
set_option maxHeartbeats 2000000 in
theorem back1_c (l Bs n : Nat) (v : Value) (C : List Pt) (hl : C.length ≤ 1000000) (J Jx : List (Nat × Pt) → World → Prop)
    (hY : ∀ pre x W, J pre W → pre.length < C.length → YieldAt Fence.wide (n - 1) Try.prog l (encB x) W fun e W' =>
      (e = .returned (.bool true) ∧ J (pre ++ [x]) W' ∧ KpB Bs v W W') ∨ (e = .returned (.bool false) ∧ Jx (pre ++ [x]) W'))
    (W : World) (hBs : Row1 W Bs 83 [v]) (hO : OwnP W 0 v C) (h0 : J [] W) :
    CallsIn Fence.wide n Try.prog 92 #[.func (.yield l) #[] #[], .pointer (some ⟨Bs, 0, none⟩)] W fun e W' => (∃ v, e = .returned v) ∧
      ((∃ ys, ys = bks C C.length ∧ J ys W') ∨ (∃ pre, (∃ k, k ≤ C.length ∧ pre = bks C k) ∧ Jx pre W')) := by
  obtain ⟨A0, cap0, rfl⟩ := hO.form
  have HO := hid hO
  have HY := hid hY
  have HBS := hid hBs
  have c0 := hBs.cell (k := 0) rfl
  clear hO hY hBs
  refine callsIn_of_wp Try.func92 rfl trivial ?_ rfl
  simp only [Try.ntmps92, List.size_toArray, List.length_cons, List.length_nil, Nat.reduceAdd, Nat.reduceSub, Array.replicate_succ, Array.replicate_zero, List.push_toArray, List.append_toArray, List.nil_append, List.cons_append]
  gi_wp2
  gi_loopw [3] (fun i wr => ((∃ k : Nat, k < C.length ∧ i = .int .i64 k ∧ J (bks C (C.length - 1 - k)) wr) ∨ (i = .int .i64 (-1) ∧ J (bks C C.length) wr)) ∧ KpB Bs (.slice A0 C.length cap0) W wr)
    (fun i _ => (intOf i + 1).toNat)
  case atStart =>
    refine ⟨?_, KpB.refl⟩
    rcases Nat.eq_zero_or_pos C.length with h | h
    · refine .inr ⟨by rw [h]; rfl, ?_⟩
      rw [h]; exact h0
    · refine .inl ⟨C.length - 1, by omega, by congr 1; omega, ?_⟩
      rw [show C.length - 1 - (C.length - 1) = 0 by omega]
      exact h0
  case round =>
    obtain ⟨hrel, hnx⟩ := hrel
    clear c0
    have c0 := (HBS.out.keep hnx.1).cell (k := 0) rfl
    rcases hrel with ⟨k, hk, rfl, hJs⟩ | ⟨rfl, hJs⟩
    · obtain ⟨p, hp⟩ := get_of_lt hk
      have hO' : OwnP _ 0 (.slice A0 C.length cap0) C := HO.out.keep fun b hb' => hnx.2 b hb'
      obtain ⟨b, cap, hv, c1, c2⟩ := hO'.at_ hp
      obtain rfl : A0 = some ⟨b, 0, none⟩ := by injection hv
      have hbk : bk C (C.length - 1 - k) = (k, p) := by
        unfold bk
        rw [show C.length - 1 - (C.length - 1 - k) = k by omega, List.getElem?_reverse (by omega), show C.length - 1 - (C.length - 1 - k) = k by omega, hp]
        rfl
      have HBK := hid hbk
      obtain ⟨fn, tmps, assign, body, hy, hR⟩ := HY.out _ (k, p) _ hJs (by rw [bks_len]; omega)
      simp only [encB] at hy
      clear hp hv hbk hO'
      gi_wp2
      refine ⟨fun h => absurd h (by decide), ?_⟩
      refine hR.mono ?_
      rintro e W3 (⟨rfl, hJ3, hk3⟩ | ⟨rfl, hJx3⟩)
      · gi_wp2
        go_roundw
        case rel =>
          refine ⟨?_, hnx.trans hk3⟩
          rw [← HBK.out, ← bks_succ] at hJ3
          rcases Nat.eq_zero_or_pos k with h | h
          · refine .inr ⟨by rw [h]; rfl, ?_⟩
            rw [show C.length - 1 - k + 1 = C.length by omega] at hJ3
            exact hJ3
          · refine .inl ⟨k - 1, by omega, by congr 1; omega, ?_⟩
            rw [show C.length - 1 - k + 1 = C.length - 1 - (k - 1) by omega] at hJ3
            exact hJ3
        case measure => simp [intOf]
      · gi_wp2
        refine bodyPost_ret (results_none rfl _ _ _) rfl ?_
        rw [← HBK.out, ← bks_succ] at hJx3
        exact ⟨⟨_, rfl⟩, .inr ⟨_, ⟨_, by omega, rfl⟩, hJx3⟩⟩
    · gi_wp2
      go_end0
      exact ⟨⟨_, rfl⟩, .inl ⟨_, rfl, hJs⟩⟩
theorem back_stops (n Bs : Nat) (v : Value) (C : List Pt) (hl : C.length ≤ 1000000) (w : World) (hBs : Row1 w Bs 83 [v]) (hO : OwnP w 0 v C) :
    SeqStopsK Fence.wide n Try.prog 92 #[.pointer (some ⟨Bs, 0, none⟩)] encB (KpB Bs v) (fun ys => ys = bks C C.length) (fun pre => ∃ k, k ≤ C.length ∧ pre = bks C k) C.length w := fun l J Jx W hW _ _ hY h0 =>
  back1_c l Bs n v C hl J Jx hY W (hBs.below hW) (hO.keep fun b hb => hW.block b (hO.block b hb).2) h0
theorem back_c (A : Option Addr) (n cap : Nat) (w : World) :
    Calls Try.prog 81 #[.slice A n cap] w fun e w' => e = .returned (.func (.func 92) #[] #[.pointer (some ⟨w.heap.size, 0, none⟩)]) ∧ w' = w.alloc (.cells #[.slice A n cap] 83) := by
  go_enter Try.func81, Try.ntmps81
  go_wp2
  go_ret
  exact ⟨rfl, rfl⟩
theorem waiting_c (g gm : Nat) (A : Option Addr) (n cap : Nat) (d : Dk) (w : World) (h : Dsk w g gm (.slice A n cap) d) :
    Calls Try.prog 52 #[.pointer (some ⟨g, 0, none⟩)] w fun e w' => e = .returned (.func (.func 92) #[] #[.pointer (some ⟨w.heap.size, 0, none⟩)]) ∧ w' = w.alloc (.cells #[.slice A n cap] 83) := by
  obtain ⟨c0, c1, c2, c3, c4⟩ := h.cells
  go_enter Try.func52, Try.ntmps52
  go_wp2_with (fail)
  refine (back_c A n cap w).mono ?_
  rintro e _ ⟨rfl, rfl⟩
  go_wp2
  go_ret
  exact ⟨rfl, rfl⟩
end Go.Proofs.Ythllhnjbddpeoaa
