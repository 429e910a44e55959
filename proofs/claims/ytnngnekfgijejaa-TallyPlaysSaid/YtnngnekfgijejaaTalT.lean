/-
  The examples of layer 15.
-/
import Derived.Test.YtnngnekfgijejaaTalR
import Derived.Test.YtnngnekfgijejaaTalJ
import Derived.Test.YtnngnekfgijejaaTalG
namespace Go.Proofs.Ytnngnekfgijejaa
open Go.RowKit Go.Maps Go.Shelf Go.Proofs

def ex1 : Vt := ⟨2, 0, 2, -1, ⟨#[120]⟩⟩
def ex2 : Vt := ⟨2, 0, 2, -1, ⟨#[121]⟩⟩
def ex3 : Vt := ⟨1, 0, 3, 0, ⟨#[120]⟩⟩
def ex4 : Vt := ⟨2, 0, 3, 0, ⟨#[120]⟩⟩
def ex5 : Vt := ⟨3, 0, 3, 0, ⟨#[]⟩⟩
def exL : List Vt := [ex3, ex1, ex4, ex5]
theorem okc (v : Vt) (h : decide ((-9223372036854775808 ≤ v.fr ∧ v.fr ≤ 9223372036854775807) ∧ (-9223372036854775808 ≤ v.rd ∧ v.rd ≤ 9223372036854775807) ∧ (0 ≤ v.kd ∧ v.kd < 256) ∧ (-9223372036854775808 ≤ v.va ∧ v.va ≤ 9223372036854775807) ∧ v.tx.size ≤ 9223372036854775807) = true) : v.Ok := by
  obtain ⟨h1, h2, h3, h4, h5⟩ := of_decide_eq_true h
  exact ⟨⟨by omega, by omega⟩, ⟨by omega, by omega⟩, h3, ⟨by omega, by omega⟩, h5⟩

set_option maxRecDepth 100000 in
set_option maxHeartbeats 2000000 in
theorem awake_c (w : World) [DecidableEq Lit] :
    Calls Try.prog 11 #[] w fun e w' => e = .returned (.bool true) ∧ Below w.heap.size w w' := by
  go_enter Try.func11, Try.ntmps11
  go_wp2_with (fail)
  refine (tnew_ok 4 w (by omega) (by omega)).mono ?_
  rintro e w1 ⟨g, gm, rfl, hT, hg, hgm, hb⟩
  have hz : ((0 : Int) != 0) = false := rfl
  go_wp2_with (fail)
  refine (tput_c g gm 4 [] ex1 w1 hT (okc ex1 rfl)).mono ?_
  rintro e w2 ⟨rfl, hT', hg'⟩
  replace hb := below_but hb hg' hgm hb.size
  rw [show putB 4 [] ex1 = true by decide +kernel]
  rw [show putL 4 [] ex1 = [ex1] by decide +kernel] at hT'
  clear hT hg'
  have hT := hT'
  clear hT'
  go_wp2_with (fail)
  refine (tput_c g gm 4 [ex1] ex2 w2 hT (okc ex2 rfl)).mono ?_
  rintro e w3 ⟨rfl, hT', hg'⟩
  replace hb := below_but hb hg' hgm hb.size
  rw [show putB 4 [ex1] ex2 = false by decide +kernel]
  rw [show putL 4 [ex1] ex2 = [ex1] by decide +kernel] at hT'
  clear hT hg'
  have hT := hT'
  clear hT'
  go_wp2_with (fail)
  refine (tput_c g gm 4 [ex1] ex3 w3 hT (okc ex3 rfl)).mono ?_
  rintro e w4 ⟨rfl, hT', hg'⟩
  replace hb := below_but hb hg' hgm hb.size
  rw [show putB 4 [ex1] ex3 = true by decide +kernel]
  rw [show putL 4 [ex1] ex3 = [ex3, ex1] by decide +kernel] at hT'
  clear hT hg'
  have hT := hT'
  clear hT'
  go_wp2_with (fail)
  refine (tput_c g gm 4 [ex3, ex1] ex4 w4 hT (okc ex4 rfl)).mono ?_
  rintro e w5 ⟨rfl, hT', hg'⟩
  replace hb := below_but hb hg' hgm hb.size
  rw [show putB 4 [ex3, ex1] ex4 = true by decide +kernel]
  rw [show putL 4 [ex3, ex1] ex4 = [ex3, ex1, ex4] by decide +kernel] at hT'
  clear hT hg'
  have hT := hT'
  clear hT'
  go_wp2_with (fail)
  refine (tput_c g gm 4 [ex3, ex1, ex4] ex5 w5 hT (okc ex5 rfl)).mono ?_
  rintro e w6 ⟨rfl, hT', hg'⟩
  replace hb := below_but hb hg' hgm hb.size
  rw [show putB 4 [ex3, ex1, ex4] ex5 = true by decide +kernel]
  rw [show putL 4 [ex3, ex1, ex4] ex5 = exL by decide +kernel] at hT'
  clear hT hg'
  have hT := hT'
  clear hT'
  go_wp2_with (fail)
  refine (tprop_c g gm 4 exL 0 2 w6 hT ⟨by omega, by omega⟩ ⟨by omega, by omega⟩).mono ?_
  rintro e w7 ⟨rfl, hb'⟩
  rw [show propV exL 0 2 = .tuple #[.agg #[.int .i64 2, .int .i64 0, .int .u8 2, .int .i64 (-1), .string ⟨#[120]⟩], .bool true] by unfold propV; rw [show propL exL 0 2 = some ex1 by decide +kernel]; rfl]
  replace hT := hT.below hb'
  replace hb := below_next hb hb.size hb'
  clear hb'
  replace hT := hT.below (below_alloc w7 (.cells #[.int .i64 2, .int .i64 0, .int .u8 2, .int .i64 (-1), .string ⟨#[120]⟩] 30))
  replace hb := hb.alloc hb.size (.cells #[.int .i64 2, .int .i64 0, .int .u8 2, .int .i64 (-1), .string ⟨#[120]⟩] 30)
  go_wp2_with (fail)
  refine (tcount_c g gm 4 exL 0 3 ⟨#[120]⟩ _ hT).mono ?_
  rintro e w8 ⟨rfl, hb'⟩
  rw [show cntN (pCnt 0 3 ⟨#[120]⟩) exL = 2 by decide +kernel]
  replace hT := hT.below hb'
  replace hb := below_next hb hb.size hb'
  clear hb'
  go_wp2_with (fail)
  refine (tcount_c g gm 4 exL 0 3 ⟨#[]⟩ _ hT).mono ?_
  rintro e w9 ⟨rfl, hb'⟩
  rw [show cntN (pCnt 0 3 ⟨#[]⟩) exL = 1 by decide +kernel]
  replace hT := hT.below hb'
  replace hb := below_next hb hb.size hb'
  clear hb'
  go_wp2_with (fail)
  refine (tall_c g gm 4 exL 0 3 _ hT).mono ?_
  rintro e w10 ⟨rfl, hb'⟩
  rw [show cntN (pAll 0 3) exL = 3 by decide +kernel]
  replace hT := hT.below hb'
  replace hb := below_next hb hb.size hb'
  clear hb'
  go_wp2_with (fail)
  refine (tsent_c g gm 4 exL 0 _ hT).mono ?_
  rintro e w11 ⟨rfl, hb'⟩
  rw [show sentT 0 exL exL.length = 3 by decide +kernel]
  replace hT := hT.below hb'
  replace hb := below_next hb hb.size hb'
  clear hb'
  go_wp2_with (fail)
  refine (rounds_c g gm 4 exL w11 hT).mono ?_
  rintro e w12 ⟨v, rfl, ho, hb'⟩
  rw [show rndL exL = [0] by decide +kernel] at ho
  replace hT := hT.below hb'
  replace hb := below_next hb hb.size hb'
  clear hb'
  obtain ⟨A, c, rfl, hc⟩ := ho.form
  have hc2 := hc.below (below_alloc w12 (.cells #[.int .i64 0] 3))
  have hr := row1_new w12 [.int .i64 0] 3
  replace hT := hT.below (below_alloc w12 (.cells #[.int .i64 0] 3))
  replace hb := hb.alloc hb.size (.cells #[.int .i64 0] 3)
  simp only [List.toArray] at hr
  go_wp2_with (fail)
  generalize w12.alloc (.cells #[.int .i64 0] 3) = w13 at *
  refine (ints_c A (some ⟨w12.heap.size, 0, none⟩) [0] [0] c 1 w13 hc2 hr.cells (by simp) (by simp)).mono ?_
  rintro e w14 ⟨rfl, hw⟩
  rw [decide_eq_true (rfl : ([0] : List Int) = [0])]
  replace hT := hT.dr hw
  replace hb := below_dr hb hw
  clear hw hc2 hr hc ho
  go_wp2_with (fail)
  refine (votes_c g gm 4 exL w14 hT).mono ?_
  rintro e w15 ⟨v, rfl, ho, hb'⟩
  obtain ⟨A5, c5, rfl, _⟩ := ho.form
  rw [show exL.length = 4 by rfl]
  replace hb := below_next hb hb.size hb'
  clear hb' ho hT
  go_wp2
  go_ret
  exact ⟨rfl, hb⟩
end Go.Proofs.Ytnngnekfgijejaa
