/-
  The points through which a polynomial goes, as the statements' helper tells them.
-/
import Derived.Test.YtcojnjhffmhbiaaDoorRobQ1
import Derived.Test.YtcojnjhffmhbiaaDoorRobQ2
import Derived.Test.YtcojnjhffmhbiaaDoorRobQ3
import Derived.Test.YtcojnjhffmhbiaaDoorRobQ4
import Derived.Test.YtcojnjhffmhbiaaDoorRobQ5
import Derived.Test.YtcojnjhffmhbiaaDoorRobQ6
import Derived.Test.YtcojnjhffmhbiaaDoorRobQ7
import Derived.Test.YtcojnjhffmhbiaaDoorRobQ8
import Derived.Test.YtcojnjhffmhbiaaDoorRobQ9
import Derived.Test.YtcojnjhffmhbiaaDoorRobQ10
import Derived.Test.YtcojnjhffmhbiaaDoorRobQ11
import Derived.Test.YtcojnjhffmhbiaaDoorRoP
namespace Go.Proofs.YtcojnjhffmhbiaaDoor
open Go Go.RowKit Go.Maps Go.Shelf Go.Proofs

attribute [local go_sem] Oper.semAt_some

set_option maxRecDepth 100000 in
set_option maxHeartbeats 4000000 in
theorem on05_c (C A B : Option Addr) (c xs ys : List Int) (cc ca cb : Nat) (q : Int) (w : World) (hC : Cells w C (c.map (.int .u64))) (hA : Cells w A (xs.map (.int .u64))) (hB : Cells w B (ys.map (.int .u64)))
    (hlm : xs.length = ys.length) (hl : xs.length ≤ 1000) (hlc : c.length ≤ 1000) (hcu : U64s c) (hu : U64s xs) (hu' : U64s ys) (hq : U64 q) (hq0 : 0 < q) :
    Calls Tryd.prog 63 #[.slice C c.length cc, .slice A xs.length ca, .slice B ys.length cb, .int .u64 q] w fun e w' => ∃ v, e = .returned v ∧ Own w' w.heap.size 3 v (natv (onL xs ys c q)) ∧ Below w.heap.size w w' := by
  have HA := hid hA
  have HB := hid hB
  have HC := hid hC
  have HU := hid hu
  have HU' := hid hu'
  have HCU := hid hcu
  have HLM := hid hlm
  clear hA hB hC hu hu' hcu hlm
  have hq1 : (q == 0) = false := by simp; omega
  go_enter Tryd.func63, Tryd.ntmps63
  go_wp2
  go_loopw [9, 10] (fun x i wr => ∃ k : Nat, i = .int .i64 (k : Int) ∧ k ≤ xs.length ∧ Hid (Own wr w.heap.size 3 x (natv (onK xs ys c q k)) ∧ Below w.heap.size w wr)) (fun _ i _ => xs.length - (intOf i).toNat)
  case atStart => exact ⟨0, rfl, by omega, hid ⟨Own.nil _ _ _, Below.refl _ _⟩⟩
  case round =>
    obtain ⟨k, rfl, hk, HI⟩ := hrel
    by_cases hlt : k < xs.length
    · have hlt' : (k : Int) < (xs.length : Int) := by omega
      have hlty : (k : Int) < (ys.length : Int) := by have := HLM.out; omega
      obtain ⟨x, hx⟩ := get_of_lt hlt
      obtain ⟨y, hy⟩ := get_of_lt (l := ys) (k := k) (by have := HLM.out; omega)
      have hux := HU.out x (List.mem_of_getElem? hx)
      have huy := HU'.out y (List.mem_of_getElem? hy)
      have hX := HI.out.1
      have hbl := HI.out.2
      obtain ⟨bx, ox, rfl, cx0⟩ := HA.out.at_map hx
      obtain ⟨by_, oy, rfl, cy0⟩ := HB.out.at_map hy
      have cx := (hbl.cell (lt_of_cell cx0)).trans cx0
      have cy := (hbl.cell (lt_of_cell cy0)).trans cy0
      have hcs := HC.out.below hbl
      have t1 := Int.tmod_eq_emod_of_nonneg (b := q) huy.lo
      have hon : onB xs ys c q k = (mEval c x q == y % q) := by
        have e1 : ∀ b1 b2 : Bool, (b1 = true ↔ b2 = true) → b1 = b2 := by decide
        refine e1 _ _ ?_
        rw [onB_iff, List.getD_eq_getElem?_getD, List.getD_eq_getElem?_getD, hx, hy]
        simp
      have HS := hid (show natv (onK xs ys c q (k + 1)) = natv (onK xs ys c q k) ++ natv (if onB xs ys c q k = true then [k] else []) by
        rw [onK_succ, natv, List.map_append])
      have hlX : (natv (onK xs ys c q k)).length ≤ 1000 := by
        have := onK_len xs ys c q k
        rw [List.length_map]; omega
      have hm := mEval_u64 c x q
      rw [hon] at HS
      have HV := hid (show mEval c x q = mEval c x q from rfl)
      generalize hv : mEval c x q = v at *
      generalize hr : y % q = r at *
      have hev := fun w' (hd : Dr wr w') => eval_c C c cc x q w' (hcs.dr hd) (by omega) HCU.out hux hq
      rw [hv] at hev
      have HEV := hid hev
      clear hv hr hon hx hy cx0 cy0 HI hcs hev HV
      by_cases he : (v == r) = true
      · rw [he] at HS
        go_wp2
        go_quiet (first | (go_at_call 50; exact quiet_dr (HEV.out _ ⟨_, rfl⟩)))
        have hX2 := hX.dr (⟨nq, rfl⟩ : Dr wr (wr.drewN nq))
        have hbl2 := below_dr hbl (⟨nq, rfl⟩ : Dr wr (wr.drewN nq))
        generalize wr.drewN nq = w2 at *
        have hB := Bun.nil w2
        clear hX hbl cx cy
        go_wp2_with (first | (refine wpList_named hB rfl ?_; clear hB; intro wn gn hB hbn hg; (try rw [hg]); clear hg; replace hX2 := hX2.below hbn; clear hbn) | (at_builtin; refine wpList_push_at elt_int _ rfl _ _ rfl w.heap.size hX2 rfl (.int .i64 (k : Int)) _ rfl (hB.row (i := 0) rfl) rfl (by omega) (by omega) (Nat.le_trans hbl2.size hB.b.size) ?_; intro v8 w8 ho8 hg8 _))
        have HN := hid (show Own w8 w.heap.size 3 v8 (natv (onK xs ys c q (k + 1))) ∧ Below w.heap.size w w8 from
          ⟨by rw [HS.out]; exact ho8, (below_next hbl2 hbl2.size hB.b).grown hg8 (Nat.le_trans hbl2.size hB.b.size) fun g e => (hX2.block g e).1⟩)
        clear hX2 hbl2 hB ho8 hg8
        go_roundw
        case rel => exact ⟨k + 1, by go_num, by omega, HN⟩
        case measure => simp [intOf]; omega
      · have he : (v == r) = false := by simpa using he
        rw [he] at HS
        go_wp2
        go_quiet (first | (go_at_call 50; exact quiet_dr (HEV.out _ ⟨_, rfl⟩)))
        have HN := hid (show Own (wr.drewN nq) w.heap.size 3 u9 (natv (onK xs ys c q (k + 1))) ∧ Below w.heap.size w (wr.drewN nq) from
          ⟨by rw [HS.out]; simpa [natv] using hX.dr ⟨nq, rfl⟩, below_dr hbl ⟨nq, rfl⟩⟩)
        clear hX hbl cx cy
        go_wp2
        go_roundw
        case rel => exact ⟨k + 1, by go_num, by omega, HN⟩
        case measure => simp [intOf]; omega
    · obtain rfl : k = xs.length := by omega
      have hlt' : ¬ (xs.length : Int) < (xs.length : Int) := by omega
      go_wp2
      go_ret
      exact ⟨_, rfl, HI.out.1, HI.out.2⟩
end Go.Proofs.YtcojnjhffmhbiaaDoor
