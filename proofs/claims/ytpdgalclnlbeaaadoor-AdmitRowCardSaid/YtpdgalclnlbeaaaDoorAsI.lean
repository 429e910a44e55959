/-
  AdmitRow: what the program does.
-/
import Derived.Test.YtpdgalclnlbeaaaDoorAdmQ1
import Derived.Test.YtpdgalclnlbeaaaDoorAdmQ2
import Derived.Test.YtpdgalclnlbeaaaDoorAdmQ3
import Derived.Test.YtpdgalclnlbeaaaDoorAdmQ4
import Derived.Test.YtpdgalclnlbeaaaDoorAdmQ5
import Derived.Test.YtpdgalclnlbeaaaDoorAdmQ6
import Derived.Test.YtpdgalclnlbeaaaDoorAdmQ7
import Derived.Test.YtpdgalclnlbeaaaDoorAdmQ8
import Derived.Test.YtpdgalclnlbeaaaDoorAsJ
import Derived.Test.YtpdgalclnlbeaaaDoorAsK
import Derived.Test.YtpdgalclnlbeaaaDoorAdY
import Derived.Deep.Cut
import Derived.Deep.DeepCutAuto
import Derived.BigQuiet
namespace Go.Proofs.YtpdgalclnlbeaaaDoor
open Go Go.RowKit Go.Maps Go.Shelf Go.Proofs

attribute [local go_sem] Oper.semAt_some

set_option maxRecDepth 100000 in
set_option maxHeartbeats 3200000 in
theorem admitRow_c (p : Par) (hp : p.ok) (A : Option Addr) (l : List Ask) (c : Nat) (n0 : Int) (w : World) (hA : Asks w A l) (hln : l.length ≤ 9223372036854775807) (hli : ∀ a ∈ l, I64 a.id) (hlx : ∀ a ∈ l, I64s a.x)
    (hn0 : I64 n0) (hTab : Tabs w) (hpr : ∀ q : Int, primeV q = true → Go.Psi.Pr q.toNat) [DecidableEq Lit] :
    Calls Tryd.prog 3 #[pval p, .slice A l.length c, .int .i64 n0] w fun e w' => e = .returned (.bool true) ∧ Below w.heap.size w w' := by
  have hb0 := below_alloc w (.cells (pcells p).toArray 24)
  have hP := row1_new w (pcells p) 24
  have HA := hid hA
  have HT := hid hTab
  have HLI := hid hli
  have HLX := hid hlx
  have HN0 := hid hn0
  clear hA hTab hli hlx hn0
  go_enter Tryd.func3, Tryd.ntmps3
  go_upto_region 1 with (fail)
  simp only [List.toArray] at hb0 hP
  generalize w.alloc (.cells #[.int .u64 p.P, .int .u64 p.Q, .int .u64 p.G, .int .u64 p.H, .int .i64 p.Nodes, .int .i64 p.N, .int .i64 p.T, .int .i64 p.K, .int .i64 p.D, .int .i64 p.R, .int .i64 p.M, .int .i64 p.X] 24) = w1 at *
  go_wp2_with (fail)
  refine (large21_c A l c w1 (HA.out.below hb0) hln).mono ?_
  rintro e w2 ⟨⟨bl, rfl, hfew⟩, hb⟩
  have hb2 := below_next hb0 hb0.size hb
  have hP2 := hP.below hb
  have HF := hid hfew
  clear hb hb0 hP hfew
  cases bl with
  | true =>
    go_wp2_with (fail)
    refine (awake21_c w2 (HT.out.below hb2)).mono ?_
    rintro e w9 ⟨rfl, hb9⟩
    have HE := hid (below_next hb2 (hb2).size hb9)
    clear hb9
    go_wp2
    go_ret
    exact ⟨rfl, HE.out⟩
  | false =>
  obtain ⟨hl10, hl40⟩ := HF.out rfl
  have HL := hid (⟨by omega, HLI.out, HLX.out, fun a ha => by have := hl40 a ha; omega⟩ : AskOk l)
  clear hl40 HF
  by_cases hl8 : (l.length : Int) > 8
  case pos =>
    go_wp2_with (fail)
    refine (awake21_c w2 (HT.out.below hb2)).mono ?_
    rintro e w9 ⟨rfl, hb9⟩
    have HE := hid (below_next hb2 (hb2).size hb9)
    clear hb9
    go_wp2
    go_ret
    exact ⟨rfl, HE.out⟩
  by_cases hl0 : (l.length : Int) = 0
  case pos =>
    have hl0' : ((l.length : Int) == 0) = true := by simpa using hl0
    rw [hl0] at hl8
    go_wp2_with (fail)
    refine (awake21_c w2 (HT.out.below hb2)).mono ?_
    rintro e w9 ⟨rfl, hb9⟩
    have HE := hid (below_next hb2 (hb2).size hb9)
    clear hb9
    go_wp2
    go_ret
    exact ⟨rfl, HE.out⟩
  have hl0' : ((l.length : Int) == 0) = false := by simpa using hl0
  obtain ⟨p0, p1, p2, p3, p4, p5, p6, p7, p8, p9, p10, p11⟩ := par_cells hP2
  by_cases hR0 : p.R < 0
  case pos =>
    go_wp2_with (fail)
    refine (awake21_c w2 (HT.out.below hb2)).mono ?_
    rintro e w9 ⟨rfl, hb9⟩
    have HE := hid (below_next hb2 (hb2).size hb9)
    clear hb9
    go_wp2
    go_ret
    exact ⟨rfl, HE.out⟩
  go_wp2_with (fail)
  clear p0 p1 p2 p3 p4 p5 p6 p7 p8 p9 p10 p11
  refine (awake21_c w2 (HT.out.below hb2)).mono ?_
  rintro e w3 ⟨rfl, hb⟩
  have hb3 := below_next hb2 hb2.size hb
  have hP3 := hP2.below hb
  clear hb hb2 hP2
  obtain ⟨p0, p1, p2, p3, p4, p5, p6, p7, p8, p9, p10, p11⟩ := par_cells hP3
  go_wp2_with (fail)
  clear p0 p1 p2 p3 p4 p5 p6 p7 p8 p9 p10 p11
  refine (prime21_c p hp w3 (HT.out.below hb3)).mono ?_
  rintro e w4 ⟨rfl, hb⟩
  have hb4 := below_next hb3 hb3.size hb
  have hP4 := hP3.below hb
  obtain ⟨hpo, hpv, hpR⟩ := prPar_ok hp
  have hpp := hpr _ hpv
  have HR := hid (show 0 ≤ (prPar p).R by rw [hpR]; omega)
  generalize prPar p = p' at *
  clear hb hb3 hP3 hpR hpr hR0
  have HPV := hid (⟨hpv, hpp⟩ : _ ∧ _)
  clear hpv hpp
  obtain ⟨z0, z1, z2, z3, z4, z5, z6, z7, z8, z9, z10, z11⟩ := par_cells hP4
  obtain ⟨f0, f1, f2, f3, f4, f5, f6, f7, f8, f9, f10, f11⟩ := par_frozen hP4
  have HQ := hid (⟨parLaid_row (p := p') hP4, parLaid_below (p := p') hb4 (Nat.le_refl _)⟩ : Row1 (parLaid w4 w.heap.size p') w.heap.size 24 (pcells p') ∧ Below w.heap.size w (parLaid w4 w.heap.size p'))
  clear hb4 hP4
  go_upto_region 4 with (fail)
  obtain ⟨w5, hw5⟩ : ∃ w5, parLaid w4 w.heap.size p' = w5 := ⟨_, rfl⟩
  rw [hw5] at HQ
  unfold parLaid at hw5
  rw [hw5]
  clear hw5 z0 z1 z2 z3 z4 z5 z6 z7 z8 z9 z10 z11 f0 f1 f2 f3 f4 f5 f6 f7 f8 f9 f10 f11
  go_wp2_with (fail)
  refine (rcopy21_c A l c w5 (HA.out.below HQ.out.2) HL.out).mono ?_
  rintro e w6 ⟨v6, rfl, ho6, hb6⟩
  obtain ⟨gq, cap, rfl, hcp, hcp2, hg5, hg6⟩ := ho6.form0 (by omega)
  have HI := hid (show NumI p' l w5 w6 gq cap 0 from ⟨l, IdK.start l, ho6, hb6, fun a h => (by cases h)⟩)
  clear ho6 hb6 hg6
  go_wp2_with (fail)
  go_loopw [7] (fun i wr => ∃ k : Nat, i = .int .i64 (k : Int) ∧ k ≤ l.length ∧ Hid (NumI p' l w5 wr gq cap k)) (fun i _ => l.length - (intOf i).toNat)
  case atStart => exact ⟨0, rfl, by omega, HI⟩
  case round =>
  obtain ⟨k, rfl, hk, HK⟩ := hrel
  rename_i wr
  clear HI
  by_cases hlt : k < l.length
  case pos =>
    have hlt' : (k : Int) < (l.length : Int) := by omega
    obtain ⟨a, ha⟩ := get_of_lt hlt
    obtain ⟨⟨u0, hu0⟩, hf0, hJ⟩ := HK.out.at_ hg5 ha
    have HJ := hid hJ
    have HAM := hid ha
    have hax := HL.out.x a (List.mem_of_getElem? ha)
    have hal := HL.out.len a (List.mem_of_getElem? ha)
    clear ha HK hJ
    go_upto_region 9 with (fail)
    generalize wr.setCell ⟨gq, k * 2, none⟩ (.int .i64 ((k : Int) + 1)) = wm at *
    clear hu0 hf0
    obtain ⟨Ax, cx, hc1, hcs⟩ := HJ.out.row HAM.out
    have hPm := HQ.out.1.below HJ.out.b
    obtain ⟨E, hE⟩ : ∃ E, queryE p' a.x = E := ⟨_, rfl⟩
    have HE := hid hE
    clear hE
    refine Rg.wp_region (l := [_, _, _, _, _, _, _]) (tail := [_]) (Rg.grows _ 8) [some 50, some 51, some 52, some 53, some 54, some 55, some 56, some 57] 128 (by kernel_rfl) (by kernel_rfl) (by kernel_rfl) rfl (Rg.grows_fair _ _) (Rg.keep_drew _) (trivial) ?_
    refine Rg.op_is (pval p') [] rfl rfl (by kernel_rfl) ?_ ?_
    · intro wx hb
      refine Rg.from_nil fun T hT => ?_
      obtain ⟨p0, p1, p2, p3, p4, p5, p6, p7, p8, p9, p10, p11⟩ := par_cells (hPm.below hb)
      go_wp2
      exact hT _ _ rfl (by first | exact Rg.Keep.refl _ | exact below_of_dr hw2 | exact hw2 | exact (Below.refl _ _).alloc (Nat.le_refl _) _) (by first | rfl | exact congrArg _ (by decide))
    refine' Rg.op_is _ [] rfl rfl (by kernel_rfl) ?_ ?_
    rotate_left
    · intro wx hb
      refine Rg.from_nil fun T hT => ?_
      go_wp2
      refine hT _ _ rfl (by first | exact Rg.Keep.refl _ | exact below_of_dr hw2 | exact hw2 | exact (Below.refl _ _).alloc (Nat.le_refl _) _) ?_
      simp only [Rg.last, List.getElem?_toArray, List.getElem?_cons_succ, List.getElem?_cons_zero, Option.getD_some]
      rfl
    refine' Rg.op_is _ [] rfl rfl (by kernel_rfl) ?_ ?_
    rotate_left
    · intro wx hb
      refine Rg.from_nil fun T hT => ?_
      go_wp2
      refine hT _ _ rfl (by first | exact Rg.Keep.refl _ | exact below_of_dr hw2 | exact hw2 | exact (Below.refl _ _).alloc (Nat.le_refl _) _) ?_
      simp only [Rg.last, List.getElem?_toArray, List.getElem?_cons_succ, List.getElem?_cons_zero, Option.getD_some]
      rfl
    refine' Rg.op_is _ [1, 2] rfl rfl (by kernel_rfl) ?_ ?_
    rotate_left
    · intro wx hb
      refine Rg.from_is (some 51) rfl rfl ?_
      refine Rg.from_is (some 52) rfl rfl ?_
      refine Rg.from_nil fun T hT => ?_
      go_wp2
      refine hT _ _ rfl (by first | exact Rg.Keep.refl _ | exact below_of_dr hw2 | exact hw2 | exact (Below.refl _ _).alloc (Nat.le_refl _) _) ?_
      simp only [Rg.last, List.getElem?_toArray, List.getElem?_cons_succ, List.getElem?_cons_zero, Option.getD_some]
      rfl
    refine' Rg.op_is _ [3] rfl rfl (by kernel_rfl) ?_ ?_
    rotate_left
    · intro wx hb
      refine Rg.from_is (some 53) rfl rfl ?_
      refine Rg.from_nil fun T hT => ?_
      go_wp2
      refine hT _ _ rfl (by first | exact Rg.Keep.refl _ | exact below_of_dr hw2 | exact hw2 | exact (Below.refl _ _).alloc (Nat.le_refl _) _) ?_
      simp only [Rg.last, List.getElem?_toArray, List.getElem?_cons_succ, List.getElem?_cons_zero, Option.getD_some]
      rfl
    refine Rg.op_is (.slice Ax a.x.length cx) [4] rfl rfl (by kernel_rfl) ?_ ?_
    · intro wx hb
      refine Rg.from_is (some 54) rfl rfl ?_
      refine Rg.from_nil fun T hT => ?_
      have g1 := (hb.cell (lt_of_cell hc1)).trans hc1
      go_wp2
      exact hT _ _ rfl (by first | exact Rg.Keep.refl _ | exact below_of_dr hw2 | exact hw2 | exact (Below.refl _ _).alloc (Nat.le_refl _) _) (by first | rfl | exact congrArg _ (by decide))
    refine Rg.op_is (.int .i64 E) [0, 5] rfl rfl (by kernel_rfl) ?_ ?_
    · intro wx hb
      refine Rg.from_is (some 50) rfl rfl ?_
      refine Rg.from_is (some 55) rfl rfl ?_
      refine Rg.from_nil fun T hT => ?_
      go_wp2_with (fail)
      refine (rquery_c p' Ax a.x cx _ (hcs.below hb) (by omega) hax).mono ?_
      rintro e w9 ⟨rfl, hw9⟩
      rw [HE.out]
      go_wp2
      exact hT _ _ rfl hw9 rfl
    refine Rg.walk_nil [0, 1, 2, 3, 4, 5, 6] (by kernel_rfl) ?_
    intro wx hb
    refine Rg.from_is (some 50) rfl rfl ?_
    refine Rg.from_is (some 51) rfl rfl ?_
    refine Rg.from_is (some 52) rfl rfl ?_
    refine Rg.from_is (some 53) rfl rfl ?_
    refine Rg.from_is (some 54) rfl rfl ?_
    refine Rg.from_is (some 55) rfl rfl ?_
    refine Rg.from_is (some 56) rfl rfl ?_
    refine Rg.from_nil ?_
    simp only [List.map, Act.put, List.setIfInBounds_toArray, List.set_cons_zero, List.set_cons_succ]
    have HJ' := hid (HJ.out.below hb)
    clear hPm hcs hb HJ hc1
    by_cases hE0 : E = 0
    case neg =>
      have hE1 : (E != 0) = true := by simpa using hE0
      have HE := hid (below_next HQ.out.2 HQ.out.2.size HJ'.out.b)
      go_wp2
      go_ret
      exact ⟨rfl, HE.out⟩
    subst hE0
    have HN := hid (HJ'.out.next HAM.out HE.out)
    clear HJ'
    go_wp2
    go_roundw
    case rel => exact ⟨k + 1, by go_num, by omega, HN⟩
    case measure => simp [intOf]; omega
  case neg =>
  obtain rfl : k = l.length := by omega
  have hlt' : ¬ (l.length : Int) < (l.length : Int) := by omega
  clear hk hlt
  obtain ⟨L, hL, hO, hbl, hq⟩ := HK.out
  rw [List.take_length] at hq
  have HG := hid (hL.good (p := p') rfl (by omega) HL.out hq)
  have HO := hid hO
  have HB := hid hbl
  clear hL hO hbl hq HK
  have hw0 : 0 ≤ IntKind.u64.wrap n0 := by simp [IntKind.wrap, IntKind.signed, IntKind.bits]; omega
  have hr1 := Int.emod_nonneg (IntKind.u64.wrap n0) (show (l.length : Int) ≠ 0 by omega)
  have hr2 := Int.emod_lt_of_pos (IntKind.u64.wrap n0) (show 0 < (l.length : Int) by omega)
  obtain ⟨K, hK⟩ : ∃ K : Nat, IntKind.u64.wrap n0 % (l.length : Int) = K := ⟨(IntKind.u64.wrap n0 % (l.length : Int)).toNat, by omega⟩
  have hKl : K < l.length := by omega
  go_upto_region 12 with (fail)
  obtain ⟨vs, hV⟩ := HO.out.lies
  have HV := hid hV
  have hLn : L.length = l.length := HG.out.len
  have hl8' : l.length ≤ 8 := by omega
  have HDL := hid (show (L.drop K).length = l.length - K by rw [List.length_drop, hLn])
  have HTL := hid (show (L.take K).length = K by rw [List.length_take, hLn]; omega)
  have HLN := hid (⟨hLn, hl8'⟩ : _ ∧ _)
  have hKi : (K : Int) ≤ (l.length : Int) := by omega
  have hKc : (K : Int) ≤ (cap : Int) := by omega
  clear hV hLn hr1 hr2 hw0 hK hl8'
  refine Rgi.wp_region (l := [_, _, _, _, _, _, _, _, _]) (tail := [_]) (⟨ErA wr (L.drop K) (L.take K), [0, 4, 8]⟩) [some 65, some 66, some 67, some 68, some 69, some 70, some 71, some 72, some 73, some 9] 128 rfl (by kernel_rfl) (by kernel_rfl) rfl (ErA.start _ _ _) ?_
  refine Rgi.op_sp [] rfl rfl (by kernel_rfl) ?_ ?_
  · intro g wx hb hg
    refine Rgi.from_nil fun T hT => ?_
    go_wp2
    exact hT _ _ rfl (ErA.new hb)
  refine Rgi.op_is (.slice (some ⟨gq, 0, none⟩) l.length cap) [] rfl rfl (by kernel_rfl) ?_ ?_
  · intro g wx hb
    refine Rgi.from_nil fun T hT => ?_
    go_wp2
    exact hT _ _ rfl hb (by first | rfl | exact congrArg _ (by decide))
  refine Rgi.op_is (.int .i64 (K : Int)) [] rfl rfl (by kernel_rfl) ?_ ?_
  · intro g wx hb
    refine Rgi.from_nil fun T hT => ?_
    go_wp2
    exact hT _ _ rfl hb (by first | rfl | exact congrArg _ (by decide))
  refine Rgi.op_is (.slice (some ⟨gq, K * 2, none⟩) (l.length - K) (cap - K)) [1, 2] rfl rfl (by kernel_rfl) ?_ ?_
  · intro g wx hb
    refine Rgi.from_is (some 66) rfl rfl ?_
    refine Rgi.from_is (some 67) rfl rfl ?_
    refine Rgi.from_nil fun T hT => ?_
    go_wp2
    exact hT _ _ rfl hb (by first | rfl | exact congrArg _ (by decide))
  refine Rgi.op_sp [0, 3] rfl rfl (by kernel_rfl) ?_ ?_
  · intro g wx hb hg
    refine Rgi.from_sp (some 65) rfl rfl rfl fun v65 h65 => ?_
    refine Rgi.from_is (some 68) rfl rfl ?_
    refine Rgi.from_nil fun T hT => ?_
    have ho := ErA.lit hb _ h65 hg
    have hd := HDL.out
    have hl8' := HLN.out.2
    at_builtin
    refine wpList_moreA _ rfl _ _ rfl wr.heap.size rfl ho (ad := ⟨gq, K * 2, none⟩) (c := cap - K) (vs2 := vs.drop K) (l2 := L.drop K) (by rw [hd]; rfl) ((HV.out.below (ErA.b hb)).drop_cell K) (HV.out.drop_len K) ((HV.out.below (ErA.b hb)).drop_row K) (by simp only [List.length_nil]; omega) (ErA.b hb).size ?_
    intro v' w' ho' hw'
    go_wp2
    exact hT _ _ rfl (ErA.put1 hb hg ho hw' ho')
  refine Rgi.op_is (.slice (some ⟨gq, 0, none⟩) l.length cap) [] rfl rfl (by kernel_rfl) ?_ ?_
  · intro g wx hb
    refine Rgi.from_nil fun T hT => ?_
    go_wp2
    exact hT _ _ rfl hb (by first | rfl | exact congrArg _ (by decide))
  refine Rgi.op_is (.int .i64 (K : Int)) [] rfl rfl (by kernel_rfl) ?_ ?_
  · intro g wx hb
    refine Rgi.from_nil fun T hT => ?_
    go_wp2
    exact hT _ _ rfl hb (by first | rfl | exact congrArg _ (by decide))
  refine Rgi.op_is (.slice (some ⟨gq, 0, none⟩) K cap) [5, 6] rfl rfl (by kernel_rfl) ?_ ?_
  · intro g wx hb
    refine Rgi.from_is (some 70) rfl rfl ?_
    refine Rgi.from_is (some 71) rfl rfl ?_
    refine Rgi.from_nil fun T hT => ?_
    go_wp2
    exact hT _ _ rfl hb (by first | rfl | exact congrArg _ (by decide))
  refine Rgi.op_sp [4, 7] rfl rfl (by kernel_rfl) ?_ ?_
  · intro g wx hb hg
    refine Rgi.from_sp (some 69) rfl rfl rfl fun v69 h69 => ?_
    refine Rgi.from_is (some 72) rfl rfl ?_
    refine Rgi.from_nil fun T hT => ?_
    have ho := ErA.one hb _ h69 hg
    have hd := HDL.out
    have ht := HTL.out
    have hl8' := HLN.out.2
    at_builtin
    refine wpList_moreA _ rfl _ _ rfl wr.heap.size rfl ho (ad := ⟨gq, 0, none⟩) (c := cap) (vs2 := vs.take K) (l2 := L.take K) (by rw [ht]; rfl) ((HV.out.below (ErA.b hb)).take_cell K) (HV.out.take_len K) ((HV.out.below (ErA.b hb)).take_row K) (by omega) (ErA.b hb).size ?_
    intro v' w' ho' hw'
    go_wp2
    exact hT _ _ rfl (ErA.put2 hb h69 ho hw' ho')
  refine Rgi.walk_nil [0, 1, 2, 3, 4, 5, 6, 7, 8] (by kernel_rfl) ?_
  intro g wx hb
  refine Rgi.from_sp (some 65) rfl rfl rfl fun v65 h65 => ?_
  refine Rgi.from_is (some 66) rfl rfl ?_
  refine Rgi.from_is (some 67) rfl rfl ?_
  refine Rgi.from_is (some 68) rfl rfl ?_
  refine Rgi.from_sp (some 69) rfl rfl rfl fun v69 h69 => ?_
  refine Rgi.from_is (some 70) rfl rfl ?_
  refine Rgi.from_is (some 71) rfl rfl ?_
  refine Rgi.from_is (some 72) rfl rfl ?_
  refine Rgi.from_sp (some 73) rfl rfl rfl fun v73 h73 => ?_
  refine Rgi.from_nil ?_
  simp only [List.map, Act.put, List.setIfInBounds_toArray, List.set_cons_zero, List.set_cons_succ]
  have ho7 := ErA.two hb _ h73
  have hb7 := ErA.b hb
  clear h65 h69 h73 hb
  have hln7 : (L.drop K ++ L.take K).length = l.length := by rw [List.length_append, HDL.out, HTL.out]; omega
  obtain ⟨g9, cap9, hv9, hq1, hg9⟩ : ∃ g9 cap9, v73 = .slice (some ⟨g9, 0, none⟩) l.length cap9 ∧ l.length ≤ cap9 ∧ wr.heap.size ≤ g9 := by
    obtain ⟨g9, cap9, e, h1, _, h3, _⟩ := ho7.form0 (by omega)
    rw [hln7] at e h1
    exact ⟨g9, cap9, e, h1, h3⟩
  subst hv9
  have HT7 := hid (show TurnI L wr wx g9 cap9 l.length from ⟨_, turn_perm L K, ho7, hb7⟩)
  obtain ⟨bm, hbm⟩ : ∃ bm, (n0.tmod 2 == 0) = bm := ⟨_, rfl⟩
  clear ho7 hb7 hln7 HDL HTL HV hKi hKc hKl
  generalize wx = w7 at *
  obtain ⟨wq, hwq⟩ : ∃ wq, wq = wr := ⟨_, rfl⟩
  subst hwq
  go_upto_if 76 with (fail)
  clear hbm
  go_cut [10] from 77 to 105 (fun _ wx => Hid (TurnI L wq wx g9 cap9 l.length))
  case first =>
    cases bm with
    | false =>
      go_wp2
      go_meet
      case rel => exact HT7
    | true =>
      obtain ⟨H, hH⟩ : ∃ H, l.length / 2 = H := ⟨_, rfl⟩
      have hdv : (l.length : Int).tdiv 2 = (H : Int) := by rw [← hH]; exact (Int.ofNat_tdiv l.length 2).symm
      have hH2 : 2 * H ≤ l.length := by omega
      clear hH
      go_wp2
      go_loopw [10] (fun x wr => ∃ j : Nat, x = .int .i64 (j : Int) ∧ j ≤ H ∧ Hid (TurnI L wq wr g9 cap9 l.length)) (fun x _ => H - (intOf x).toNat)
      case atStart => exact ⟨0, rfl, by omega, HT7⟩
      case round =>
      obtain ⟨j, rfl, hj, HJ⟩ := hrel
      by_cases hlt : j < H
      case neg =>
        obtain rfl : j = H := by omega
        have hlt' : ¬ (j : Int) < (j : Int) := by omega
        go_wp2
        go_meet
        case rel => exact HJ
      have hlt' : (j : Int) < (H : Int) := by omega
      obtain ⟨M, hM, hO, hbl⟩ := HJ.out
      have hMn : M.length = l.length := hM.length_eq.trans HG.out.len
      obtain ⟨i2, hi2⟩ : ∃ i2 : Nat, (l.length : Int) - 1 - (j : Int) = (i2 : Int) := ⟨l.length - 1 - j, by omega⟩
      obtain ⟨a, ha⟩ := get_of_lt (l := M) (k := j) (by omega)
      obtain ⟨b, hb2⟩ := get_of_lt (l := M) (k := i2) (by omega)
      obtain ⟨Aa, ca, ca0, ca1, ra, fa0, fa1⟩ := hO.at_ ha
      obtain ⟨Ab, cb, cb0, cb1, rb, _, _⟩ := hO.at_ hb2
      obtain ⟨hO1, hk1⟩ := hO.first hMn j (a := b) rb
      have HP := hid ((swap_perm ha hb2).trans hM)
      have HM := hid (⟨hMn, hO, hO1, hk1 _ _ ra⟩ : _ ∧ _ ∧ _ ∧ _)
      have HBL := hid hbl
      have hi2l : (i2 : Int) < (l.length : Int) := by omega
      have hjl : (j : Int) < (l.length : Int) := by omega
      clear ha hb2 ra rb hM hO hO1 hk1 hbl hMn fa0 fa1
      go_upto_region 17 with (fail)
      obtain ⟨w1, hw1⟩ : ∃ w1, (wr.setCell ⟨g9, j * 2, none⟩ (.int .i64 b.id)).setCell ⟨g9, j * 2 + 1, none⟩ (.slice Ab b.x.length cb) = w1 := ⟨_, rfl⟩
      rw [hw1] at HM
      have HW1 := hid hw1
      clear hw1
      refine Rgi.wp_region (l := [_, _, _, _, _, _, _, _, _, _, _, _, _, _, _, _, _, _, _, _, _, _]) (tail := [_, _]) (⟨SwA wr w1 (.agg #[.int .i64 a.id, .slice Aa a.x.length ca]) (.agg #[.int .i64 b.id, .slice Ab b.x.length cb]), [15, 19, 21]⟩) [some 84, some 85, some 86, some 87, some 88, some 89, some 90, some 91, some 92, some 93, some 94, some 95, some 96, some 97, some 98, some 99, some 100, some 101, some 102, some 103, some 104, none, some 105, none] 128 rfl (by kernel_rfl) (by kernel_rfl) rfl (SwA.start _ _ _ _) ?_
      refine Rgi.op_is (.slice (some ⟨g9, 0, none⟩) l.length cap9) [] rfl rfl (by kernel_rfl) ?_ ?_
      · intro g wx hb
        refine Rgi.from_nil fun T hT => ?_
        go_wp2
        exact hT _ _ rfl hb (by first | rfl | exact congrArg _ (by decide))
      refine Rgi.op_is (.int .i64 (j : Int)) [] rfl rfl (by kernel_rfl) ?_ ?_
      · intro g wx hb
        refine Rgi.from_nil fun T hT => ?_
        go_wp2
        exact hT _ _ rfl hb (by first | rfl | exact congrArg _ (by decide))
      refine Rgi.op_is (.slice (some ⟨g9, 0, none⟩) l.length cap9) [] rfl rfl (by kernel_rfl) ?_ ?_
      · intro g wx hb
        refine Rgi.from_nil fun T hT => ?_
        go_wp2
        exact hT _ _ rfl hb (by first | rfl | exact congrArg _ (by decide))
      refine Rgi.op_is (.slice (some ⟨g9, 0, none⟩) l.length cap9) [] rfl rfl (by kernel_rfl) ?_ ?_
      · intro g wx hb
        refine Rgi.from_nil fun T hT => ?_
        go_wp2
        exact hT _ _ rfl hb (by first | rfl | exact congrArg _ (by decide))
      refine Rgi.op_is (.int .i64 (l.length : Int)) [3] rfl rfl (by kernel_rfl) ?_ ?_
      · intro g wx hb
        refine Rgi.from_is (some 87) rfl rfl ?_
        refine Rgi.from_nil fun T hT => ?_
        go_wp2
        exact hT _ _ rfl hb (by first | rfl | exact congrArg _ (by decide))
      refine Rgi.op_is (.int .i64 ((l.length : Int) - 1)) [4] rfl rfl (by kernel_rfl) ?_ ?_
      · intro g wx hb
        refine Rgi.from_is (some 88) rfl rfl ?_
        refine Rgi.from_nil fun T hT => ?_
        go_wp2
        exact hT _ _ rfl hb (by first | rfl | exact congrArg _ (by decide))
      refine Rgi.op_is (.int .i64 (j : Int)) [] rfl rfl (by kernel_rfl) ?_ ?_
      · intro g wx hb
        refine Rgi.from_nil fun T hT => ?_
        go_wp2
        exact hT _ _ rfl hb (by first | rfl | exact congrArg _ (by decide))
      refine Rgi.op_is (.int .i64 (i2 : Int)) [5, 6] rfl rfl (by kernel_rfl) ?_ ?_
      · intro g wx hb
        refine Rgi.from_is (some 89) rfl rfl ?_
        refine Rgi.from_is (some 90) rfl rfl ?_
        refine Rgi.from_nil fun T hT => ?_
        go_wp2
        exact hT _ _ rfl hb (by first | rfl | exact congrArg _ (by decide))
      refine Rgi.op_is (.slice (some ⟨g9, 0, none⟩) l.length cap9) [] rfl rfl (by kernel_rfl) ?_ ?_
      · intro g wx hb
        refine Rgi.from_nil fun T hT => ?_
        go_wp2
        exact hT _ _ rfl hb (by first | rfl | exact congrArg _ (by decide))
      refine Rgi.op_is (.slice (some ⟨g9, 0, none⟩) l.length cap9) [] rfl rfl (by kernel_rfl) ?_ ?_
      · intro g wx hb
        refine Rgi.from_nil fun T hT => ?_
        go_wp2
        exact hT _ _ rfl hb (by first | rfl | exact congrArg _ (by decide))
      refine Rgi.op_is (.int .i64 (l.length : Int)) [9] rfl rfl (by kernel_rfl) ?_ ?_
      · intro g wx hb
        refine Rgi.from_is (some 93) rfl rfl ?_
        refine Rgi.from_nil fun T hT => ?_
        go_wp2
        exact hT _ _ rfl hb (by first | rfl | exact congrArg _ (by decide))
      refine Rgi.op_is (.int .i64 ((l.length : Int) - 1)) [10] rfl rfl (by kernel_rfl) ?_ ?_
      · intro g wx hb
        refine Rgi.from_is (some 94) rfl rfl ?_
        refine Rgi.from_nil fun T hT => ?_
        go_wp2
        exact hT _ _ rfl hb (by first | rfl | exact congrArg _ (by decide))
      refine Rgi.op_is (.int .i64 (j : Int)) [] rfl rfl (by kernel_rfl) ?_ ?_
      · intro g wx hb
        refine Rgi.from_nil fun T hT => ?_
        go_wp2
        exact hT _ _ rfl hb (by first | rfl | exact congrArg _ (by decide))
      refine Rgi.op_is (.int .i64 (i2 : Int)) [11, 12] rfl rfl (by kernel_rfl) ?_ ?_
      · intro g wx hb
        refine Rgi.from_is (some 95) rfl rfl ?_
        refine Rgi.from_is (some 96) rfl rfl ?_
        refine Rgi.from_nil fun T hT => ?_
        go_wp2
        exact hT _ _ rfl hb (by first | rfl | exact congrArg _ (by decide))
      refine Rgi.op_is (.pointer (some ⟨g9, i2 * 2, none⟩)) [8, 13] rfl rfl (by kernel_rfl) ?_ ?_
      · intro g wx hb
        refine Rgi.from_is (some 92) rfl rfl ?_
        refine Rgi.from_is (some 97) rfl rfl ?_
        refine Rgi.from_nil fun T hT => ?_
        go_wp2
        exact hT _ _ rfl hb (by first | rfl | exact congrArg _ (by decide))
      refine Rgi.op_sp [14] rfl rfl (by kernel_rfl) ?_ ?_
      · intro g wx hb hg
        refine Rgi.from_is (some 98) rfl rfl ?_
        refine Rgi.from_nil fun T hT => ?_
        have hd := SwA.old hb (SwA.ob hb hg)
        have c0 := (hd.cell _).trans cb0
        have c1 := (hd.cell _).trans cb1
        clear cb0 cb1 ca0 ca1
        go_wp2
        exact hT _ _ rfl (SwA.at15 hb)
      refine Rgi.op_is (.slice (some ⟨g9, 0, none⟩) l.length cap9) [] rfl rfl (by kernel_rfl) ?_ ?_
      · intro g wx hb
        refine Rgi.from_nil fun T hT => ?_
        go_wp2
        exact hT _ _ rfl hb (by first | rfl | exact congrArg _ (by decide))
      refine Rgi.op_is (.int .i64 (j : Int)) [] rfl rfl (by kernel_rfl) ?_ ?_
      · intro g wx hb
        refine Rgi.from_nil fun T hT => ?_
        go_wp2
        exact hT _ _ rfl hb (by first | rfl | exact congrArg _ (by decide))
      refine Rgi.op_is (.pointer (some ⟨g9, j * 2, none⟩)) [16, 17] rfl rfl (by kernel_rfl) ?_ ?_
      · intro g wx hb
        refine Rgi.from_is (some 100) rfl rfl ?_
        refine Rgi.from_is (some 101) rfl rfl ?_
        refine Rgi.from_nil fun T hT => ?_
        go_wp2
        exact hT _ _ rfl hb (by first | rfl | exact congrArg _ (by decide))
      refine Rgi.op_sp [18] rfl rfl (by kernel_rfl) ?_ ?_
      · intro g wx hb hg
        refine Rgi.from_is (some 102) rfl rfl ?_
        refine Rgi.from_nil fun T hT => ?_
        have hd := SwA.old hb (SwA.oa hb hg)
        have c0 := (hd.cell _).trans ca0
        have c1 := (hd.cell _).trans ca1
        clear cb0 cb1 ca0 ca1
        go_wp2
        exact hT _ _ rfl (SwA.at19 hb)
      refine Rgi.op_is (.pointer (some ⟨g9, j * 2, none⟩)) [0, 1] rfl rfl (by kernel_rfl) ?_ ?_
      · intro g wx hb
        refine Rgi.from_is (some 84) rfl rfl ?_
        refine Rgi.from_is (some 85) rfl rfl ?_
        refine Rgi.from_nil fun T hT => ?_
        go_wp2
        exact hT _ _ rfl hb (by first | rfl | exact congrArg _ (by decide))
      refine Rgi.op_sp [15, 19, 20] rfl rfl (by kernel_rfl) ?_ ?_
      · intro g wx hb hg
        refine Rgi.from_sp (some 99) rfl rfl rfl fun v99 h99 => ?_
        refine Rgi.from_sp (some 103) rfl rfl rfl fun v103 h103 => ?_
        refine Rgi.from_is (some 104) rfl rfl ?_
        refine Rgi.from_nil fun T hT => ?_
        have hd := SwA.old hb hg
        obtain ⟨ax, hax⟩ := get_of_lt (l := M) (k := j) (by rw [HM.out.1]; omega)
        obtain ⟨_, _, c0, c1, _, f0, f1⟩ := (HM.out.2.1.below (below_of_dr hd)).at_ hax
        have hd1 : Dr w1 ((wx.setCell ⟨g9, j * 2, none⟩ (.int .i64 b.id)).setCell ⟨g9, j * 2 + 1, none⟩ (.slice Ab b.x.length cb)) := by
          rw [← HW1.out]
          exact (hd.set_ _ _).set_ _ _
        have hb' := SwA.at21 hb h103 h99 hd1
        obtain rfl := SwA.b hb _ h99
        clear cb0 cb1 ca0 ca1 hax hd hd1
        go_wp2
        exact hT _ _ rfl hb'
      refine Rgi.walk_nil [0, 1, 2, 3, 4, 5, 6, 7, 8, 9, 10, 11, 12, 13, 14, 15, 16, 17, 18, 19, 20, 21] (by kernel_rfl) ?_
      intro g wx hb
      refine Rgi.from_is (some 84) rfl rfl ?_
      refine Rgi.from_is (some 85) rfl rfl ?_
      refine Rgi.from_is (some 86) rfl rfl ?_
      refine Rgi.from_is (some 87) rfl rfl ?_
      refine Rgi.from_is (some 88) rfl rfl ?_
      refine Rgi.from_is (some 89) rfl rfl ?_
      refine Rgi.from_is (some 90) rfl rfl ?_
      refine Rgi.from_is (some 91) rfl rfl ?_
      refine Rgi.from_is (some 92) rfl rfl ?_
      refine Rgi.from_is (some 93) rfl rfl ?_
      refine Rgi.from_is (some 94) rfl rfl ?_
      refine Rgi.from_is (some 95) rfl rfl ?_
      refine Rgi.from_is (some 96) rfl rfl ?_
      refine Rgi.from_is (some 97) rfl rfl ?_
      refine Rgi.from_is (some 98) rfl rfl ?_
      refine Rgi.from_sp (some 99) rfl rfl rfl fun v99 h99 => ?_
      refine Rgi.from_is (some 100) rfl rfl ?_
      refine Rgi.from_is (some 101) rfl rfl ?_
      refine Rgi.from_is (some 102) rfl rfl ?_
      refine Rgi.from_sp (some 103) rfl rfl rfl fun v103 h103 => ?_
      refine Rgi.from_is (some 104) rfl rfl ?_
      refine Rgi.from_sp (none) rfl rfl rfl fun vx21 hx21 => ?_
      refine Rgi.from_nil ?_
      simp only [List.map, Act.put, List.setIfInBounds_toArray, List.set_cons_zero, List.set_cons_succ]
      obtain rfl := SwA.a hb _ h103
      have hd := SwA.new hb _ hx21
      clear cb0 cb1 ca0 ca1 h99 h103 hx21 hb HJ
      have hOx := HM.out.2.2.1.below (below_of_dr hd)
      have hax := HM.out.2.2.2.below (below_of_dr hd)
      obtain ⟨hO2, _⟩ := hOx.first (by rw [List.length_set]; exact HM.out.1) i2 hax
      obtain ⟨by_, hby⟩ := get_of_lt (l := M.set j b) (k := i2) (by rw [List.length_set, HM.out.1]; omega)
      obtain ⟨_, _, c0, c1, _, f0, f1⟩ := hOx.at_ hby
      have hb1 : Below wq.heap.size wq w1 := by
        rw [← HW1.out]
        exact Below.set2 HBL.out hg9
      have HN := hid (show TurnI L wq ((wx.setCell ⟨g9, i2 * 2, none⟩ (.int .i64 a.id)).setCell ⟨g9, i2 * 2 + 1, none⟩ (.slice Aa a.x.length ca)) g9 cap9 l.length from ⟨_, HP.out, hO2, Below.set2 (below_dr hb1 hd) hg9⟩)
      clear hOx hax hO2 hby hd hb1 HM HBL HP HW1
      go_wp2
      go_roundw
      case rel => exact ⟨j + 1, by go_num, by omega, HN⟩
      case measure => simp [intOf]; omega
  case rest =>
  obtain ⟨M, hM, hO9, hb9⟩ := hcut.out
  generalize wc = w8 at *
  have hMn : M.length = l.length := hM.length_eq.trans HG.out.len
  have hLn : L.length = l.length := HG.out.len
  obtain ⟨A9, c9, e9, hA9⟩ := hO9.asks
  obtain ⟨AL, cL, eL, hAL⟩ := (HO.out.below hb9).asks
  injection e9 with e91 e92 e93
  injection eL with eL1 eL2 eL3
  subst e91 e93 eL1 eL3
  have hB8 := below_next HB.out HB.out.size hb9
  have HP8 := hid (HQ.out.1.below hB8)
  have HBW := hid (below_next HQ.out.2 HQ.out.2.size hB8)
  have HT8 := hid (HT.out.below HBW.out)
  obtain ⟨mm, hmm⟩ : ∃ mm : Int, min p'.R ((rankP p' L : Nat) : Int) = mm := ⟨_, rfl⟩
  have hl8' : l.length ≤ 8 := by omega
  have HL1 := hid (show ((rankP p' (playL p' L) : Nat) : Int) = mm from (row_law HPV.out.1 HPV.out.2 HR.out HG.out hl8' (List.Perm.refl L)).trans hmm)
  have HL2 := hid (show ((rankP p' (playL p' M) : Nat) : Int) = mm from (row_law HPV.out.1 HPV.out.2 HR.out HG.out hl8' hM).trans hmm)
  have HMM := hid hmm
  have HMG := hid (HG.out.perm hM)
  have HAL := hid (⟨hAL, hLn⟩ : _ ∧ _)
  have HA9 := hid (⟨hA9, hMn⟩ : _ ∧ _)
  clear hM hO9 hb9 hMn hLn hA9 hAL e92 eL2 hB8 hmm hl8' hcut HT7
  go_upto_region 18 with (fail)
  refine Rg.wp_region (l := [_, _, _, _, _, _]) (tail := [_]) (Rg.grows _ 7) [some 106, some 107, some 108, some 109, some 110, some 111, some 11] 128 (by kernel_rfl) (by kernel_rfl) (by kernel_rfl) rfl (Rg.grows_fair _ _) (Rg.keep_drew _) (trivial) ?_
  refine Rg.op_is (.pointer (some ⟨w.heap.size, 9, none⟩)) [] rfl rfl (by kernel_rfl) ?_ ?_
  · intro wx hb
    refine Rg.from_nil fun T hT => ?_
    go_wp2
    exact hT _ _ rfl (by first | exact Rg.Keep.refl _ | exact below_of_dr hw2 | exact hw2 | exact (Below.refl _ _).alloc (Nat.le_refl _) _) (by first | rfl | exact congrArg _ (by decide))
  refine Rg.op_is (.int .i64 p'.R) [0] rfl rfl (by kernel_rfl) ?_ ?_
  · intro wx hb
    refine Rg.from_is (some 106) rfl rfl ?_
    refine Rg.from_nil fun T hT => ?_
    have cR := (HP8.out.below hb).cell (k := 9) (u := .int .i64 p'.R) rfl
    go_wp2
    exact hT _ _ rfl (by first | exact Rg.Keep.refl _ | exact below_of_dr hw2 | exact hw2 | exact (Below.refl _ _).alloc (Nat.le_refl _) _) (by first | rfl | exact congrArg _ (by decide))
  refine Rg.op_is (pval p') [] rfl rfl (by kernel_rfl) ?_ ?_
  · intro wx hb
    refine Rg.from_nil fun T hT => ?_
    obtain ⟨p0, p1, p2, p3, p4, p5, p6, p7, p8, p9, p10, p11⟩ := par_cells (HP8.out.below hb)
    go_wp2
    exact hT _ _ rfl (by first | exact Rg.Keep.refl _ | exact below_of_dr hw2 | exact hw2 | exact (Below.refl _ _).alloc (Nat.le_refl _) _) (by first | rfl | exact congrArg _ (by decide))
  refine Rg.op_is (.slice (some ⟨gq, 0, none⟩) l.length cap) [] rfl rfl (by kernel_rfl) ?_ ?_
  · intro wx hb
    refine Rg.from_nil fun T hT => ?_
    go_wp2
    exact hT _ _ rfl (by first | exact Rg.Keep.refl _ | exact below_of_dr hw2 | exact hw2 | exact (Below.refl _ _).alloc (Nat.le_refl _) _) (by first | rfl | exact congrArg _ (by decide))
  refine Rg.op_is (.int .i64 ((rankP p' L : Nat) : Int)) [2, 3] rfl rfl (by kernel_rfl) ?_ ?_
  · intro wx hb
    refine Rg.from_is (some 108) rfl rfl ?_
    refine Rg.from_is (some 109) rfl rfl ?_
    refine Rg.from_nil fun T hT => ?_
    have hr := arank_c p' hpo (some ⟨gq, 0, none⟩) L cap wx (HAL.out.1.below hb) HG.out.ok (HT8.out.below hb)
    rw [HAL.out.2] at hr
    go_wp2_with (fail)
    refine hr.mono ?_
    rintro e w9 ⟨rfl, hw2⟩
    go_wp2
    exact hT _ _ rfl hw2 rfl
  refine Rg.op_is (.int .i64 mm) [1, 4] rfl rfl (by kernel_rfl) ?_ ?_
  · intro wx hb
    refine Rg.from_is (some 107) rfl rfl ?_
    refine Rg.from_is (some 110) rfl rfl ?_
    refine Rg.from_nil fun T hT => ?_
    have h := HMM.out
    go_wp2
    exact hT _ _ rfl (Rg.Keep.refl _) (by first | rfl | (rw [← h]; rfl))
  refine Rg.walk_nil [0, 1, 2, 3, 4, 5] (by kernel_rfl) ?_
  intro wx hb
  refine Rg.from_is (some 106) rfl rfl ?_
  refine Rg.from_is (some 107) rfl rfl ?_
  refine Rg.from_is (some 108) rfl rfl ?_
  refine Rg.from_is (some 109) rfl rfl ?_
  refine Rg.from_is (some 110) rfl rfl ?_
  refine Rg.from_is (some 111) rfl rfl ?_
  refine Rg.from_nil ?_
  simp only [List.map, Act.put, List.setIfInBounds_toArray, List.set_cons_zero, List.set_cons_succ]
  have HB9 := hid (below_next HBW.out HBW.out.size hb)
  have HP9 := hid (HP8.out.below hb)
  have HAL9 := hid (HAL.out.1.below hb)
  have HA99 := hid (HA9.out.1.below hb)
  have HT9 := hid (HT8.out.below hb)
  have hLn := HAL.out.2
  have hMn := HA9.out.2
  have HLN2 := hid (⟨hLn, hMn⟩ : _ ∧ _)
  have HK1 := hid (show AskOk (playL p' L) by
    have h := GoodQ.play p' L L.length (Nat.le_refl _)
    rw [List.take_length] at h
    exact h.ok HG.out.ok)
  have HK2 := hid (show AskOk (playL p' M) by
    have h := GoodQ.play p' M M.length (Nat.le_refl _)
    rw [List.take_length] at h
    exact h.ok HMG.out.ok)
  clear hb HBW HP8 HAL HA9 HT8 hLn hMn
  generalize wx = w9 at *
  go_upto_region 19 with (fail)
  refine Rg.wp_region (l := [_, _, _, _, _, _, _, _, _, _, _, _, _, _, _, _]) (tail := [_]) (Rg.grows _ 17) [some 112, some 113, some 114, some 115, some 116, some 117, some 118, some 119, some 120, some 121, some 122, some 123, some 124, some 125, some 126, some 127, some 6] 128 (by kernel_rfl) (by kernel_rfl) (by kernel_rfl) rfl (Rg.grows_fair _ _) (Rg.keep_drew _) (trivial) ?_
  refine Rg.op_is (pval p') [] rfl rfl (by kernel_rfl) ?_ ?_
  · intro wx hb
    refine Rg.from_nil fun T hT => ?_
    obtain ⟨p0, p1, p2, p3, p4, p5, p6, p7, p8, p9, p10, p11⟩ := par_cells (HP9.out.below hb)
    go_wp2
    exact hT _ _ rfl (by first | exact Rg.Keep.refl _ | exact below_of_dr hw2 | exact hw2 | exact (Below.refl _ _).alloc (Nat.le_refl _) _) (by first | rfl | exact congrArg _ (by decide))
  refine Rg.op_is (pval p') [] rfl rfl (by kernel_rfl) ?_ ?_
  · intro wx hb
    refine Rg.from_nil fun T hT => ?_
    obtain ⟨p0, p1, p2, p3, p4, p5, p6, p7, p8, p9, p10, p11⟩ := par_cells (HP9.out.below hb)
    go_wp2
    exact hT _ _ rfl (by first | exact Rg.Keep.refl _ | exact below_of_dr hw2 | exact hw2 | exact (Below.refl _ _).alloc (Nat.le_refl _) _) (by first | rfl | exact congrArg _ (by decide))
  refine Rg.op_is (.slice (some ⟨gq, 0, none⟩) l.length cap) [] rfl rfl (by kernel_rfl) ?_ ?_
  · intro wx hb
    refine Rg.from_nil fun T hT => ?_
    go_wp2
    exact hT _ _ rfl (by first | exact Rg.Keep.refl _ | exact below_of_dr hw2 | exact hw2 | exact (Below.refl _ _).alloc (Nat.le_refl _) _) (by first | rfl | exact congrArg _ (by decide))
  refine Rg.op_of (fun w' v => ∃ bs, OwnA w' bs v (playL p' L)) [1, 2] rfl ?_ ?_ rfl (by kernel_rfl) ?_ ?_
  · exact fun w1 w2 v hk ⟨bs, h⟩ => ⟨bs, h.below hk⟩
  · exact fun w1 w2 v hk ⟨bs, h⟩ => ⟨bs, h.below hk⟩
  · intro wx hb
    refine Rg.from_is (some 113) rfl rfl ?_
    refine Rg.from_is (some 114) rfl rfl ?_
    refine Rg.from_nil fun T hT => ?_
    have hr := play_c p' hpo (some ⟨gq, 0, none⟩) L cap wx (HAL9.out.below hb) HG.out.ok (HT9.out.below hb)
    rw [HLN2.out.1] at hr
    go_wp2_with (fail)
    refine hr.mono ?_
    rintro e w10 ⟨v, rfl, ho, hw2⟩
    go_wp2
    exact hT _ _ rfl hw2 ⟨_, ho⟩
  refine Rg.op_is (.int .i64 mm) [0, 3] rfl rfl (by kernel_rfl) ?_ ?_
  · intro wx hb
    refine Rg.from_is (some 112) rfl rfl ?_
    refine Rg.from_of (some 115) rfl rfl fun v115 h115 => ?_
    refine Rg.from_nil fun T hT => ?_
    obtain ⟨bs, ho⟩ := h115
    obtain ⟨Ax, cx, rfl, hax⟩ := ho.asks
    have hr := arank_c p' hpo Ax (playL p' L) cx wx hax HK1.out (HT9.out.below hb)
    rw [HL1.out] at hr
    clear ho hax
    go_wp2_with (fail)
    refine hr.mono ?_
    rintro e w10 ⟨rfl, hw2⟩
    go_wp2
    exact hT _ _ rfl hw2 rfl
  refine Rg.op_is (.int .i64 mm) [] rfl rfl (by kernel_rfl) ?_ ?_
  · intro wx hb
    refine Rg.from_nil fun T hT => ?_
    go_wp2
    exact hT _ _ rfl (by first | exact Rg.Keep.refl _ | exact below_of_dr hw2 | exact hw2 | exact (Below.refl _ _).alloc (Nat.le_refl _) _) (by first | rfl | exact congrArg _ (by decide))
  refine Rg.op_is (.bool true) [4, 5] rfl rfl (by kernel_rfl) ?_ ?_
  · intro wx hb
    refine Rg.from_is (some 116) rfl rfl ?_
    refine Rg.from_is (some 117) rfl rfl ?_
    refine Rg.from_nil fun T hT => ?_
    go_wp2
    exact hT _ _ rfl (by first | exact Rg.Keep.refl _ | exact below_of_dr hw2 | exact hw2 | exact (Below.refl _ _).alloc (Nat.le_refl _) _) (by first | rfl | exact congrArg _ (by decide))
  refine Rg.op_is (.bool true) [6] rfl rfl (by kernel_rfl) ?_ ?_
  · intro wx hb
    refine Rg.from_is (some 118) rfl rfl ?_
    refine Rg.from_nil fun T hT => ?_
    go_wp2
    exact hT _ _ rfl (by first | exact Rg.Keep.refl _ | exact below_of_dr hw2 | exact hw2 | exact (Below.refl _ _).alloc (Nat.le_refl _) _) (by first | rfl | exact congrArg _ (by decide))
  refine Rg.op_is (pval p') [] rfl rfl (by kernel_rfl) ?_ ?_
  · intro wx hb
    refine Rg.from_nil fun T hT => ?_
    obtain ⟨p0, p1, p2, p3, p4, p5, p6, p7, p8, p9, p10, p11⟩ := par_cells (HP9.out.below hb)
    go_wp2
    exact hT _ _ rfl (by first | exact Rg.Keep.refl _ | exact below_of_dr hw2 | exact hw2 | exact (Below.refl _ _).alloc (Nat.le_refl _) _) (by first | rfl | exact congrArg _ (by decide))
  refine Rg.op_is (pval p') [] rfl rfl (by kernel_rfl) ?_ ?_
  · intro wx hb
    refine Rg.from_nil fun T hT => ?_
    obtain ⟨p0, p1, p2, p3, p4, p5, p6, p7, p8, p9, p10, p11⟩ := par_cells (HP9.out.below hb)
    go_wp2
    exact hT _ _ rfl (by first | exact Rg.Keep.refl _ | exact below_of_dr hw2 | exact hw2 | exact (Below.refl _ _).alloc (Nat.le_refl _) _) (by first | rfl | exact congrArg _ (by decide))
  refine Rg.op_is (.slice (some ⟨g9, 0, none⟩) l.length cap9) [] rfl rfl (by kernel_rfl) ?_ ?_
  · intro wx hb
    refine Rg.from_nil fun T hT => ?_
    go_wp2
    exact hT _ _ rfl (by first | exact Rg.Keep.refl _ | exact below_of_dr hw2 | exact hw2 | exact (Below.refl _ _).alloc (Nat.le_refl _) _) (by first | rfl | exact congrArg _ (by decide))
  refine Rg.op_of (fun w' v => ∃ bs, OwnA w' bs v (playL p' M)) [9, 10] rfl ?_ ?_ rfl (by kernel_rfl) ?_ ?_
  · exact fun w1 w2 v hk ⟨bs, h⟩ => ⟨bs, h.below hk⟩
  · exact fun w1 w2 v hk ⟨bs, h⟩ => ⟨bs, h.below hk⟩
  · intro wx hb
    refine Rg.from_is (some 121) rfl rfl ?_
    refine Rg.from_is (some 122) rfl rfl ?_
    refine Rg.from_nil fun T hT => ?_
    have hr := play_c p' hpo (some ⟨g9, 0, none⟩) M cap9 wx (HA99.out.below hb) HMG.out.ok (HT9.out.below hb)
    rw [HLN2.out.2] at hr
    go_wp2_with (fail)
    refine hr.mono ?_
    rintro e w10 ⟨v, rfl, ho, hw2⟩
    go_wp2
    exact hT _ _ rfl hw2 ⟨_, ho⟩
  refine Rg.op_is (.int .i64 mm) [8, 11] rfl rfl (by kernel_rfl) ?_ ?_
  · intro wx hb
    refine Rg.from_is (some 120) rfl rfl ?_
    refine Rg.from_of (some 123) rfl rfl fun v123 h123 => ?_
    refine Rg.from_nil fun T hT => ?_
    obtain ⟨bs, ho⟩ := h123
    obtain ⟨Ax, cx, rfl, hax⟩ := ho.asks
    have hr := arank_c p' hpo Ax (playL p' M) cx wx hax HK2.out (HT9.out.below hb)
    rw [HL2.out] at hr
    clear ho hax
    go_wp2_with (fail)
    refine hr.mono ?_
    rintro e w10 ⟨rfl, hw2⟩
    go_wp2
    exact hT _ _ rfl hw2 rfl
  refine Rg.op_is (.int .i64 mm) [] rfl rfl (by kernel_rfl) ?_ ?_
  · intro wx hb
    refine Rg.from_nil fun T hT => ?_
    go_wp2
    exact hT _ _ rfl (by first | exact Rg.Keep.refl _ | exact below_of_dr hw2 | exact hw2 | exact (Below.refl _ _).alloc (Nat.le_refl _) _) (by first | rfl | exact congrArg _ (by decide))
  refine Rg.op_is (.bool true) [12, 13] rfl rfl (by kernel_rfl) ?_ ?_
  · intro wx hb
    refine Rg.from_is (some 124) rfl rfl ?_
    refine Rg.from_is (some 125) rfl rfl ?_
    refine Rg.from_nil fun T hT => ?_
    go_wp2
    exact hT _ _ rfl (by first | exact Rg.Keep.refl _ | exact below_of_dr hw2 | exact hw2 | exact (Below.refl _ _).alloc (Nat.le_refl _) _) (by first | rfl | exact congrArg _ (by decide))
  refine Rg.op_is (.bool true) [7, 14] rfl rfl (by kernel_rfl) ?_ ?_
  · intro wx hb
    refine Rg.from_is (some 119) rfl rfl ?_
    refine Rg.from_is (some 126) rfl rfl ?_
    refine Rg.from_nil fun T hT => ?_
    go_wp2
    exact hT _ _ rfl (by first | exact Rg.Keep.refl _ | exact below_of_dr hw2 | exact hw2 | exact (Below.refl _ _).alloc (Nat.le_refl _) _) (by first | rfl | exact congrArg _ (by decide))
  refine Rg.walk_nil [0, 1, 2, 3, 4, 5, 6, 7, 8, 9, 10, 11, 12, 13, 14, 15] (by kernel_rfl) ?_
  intro wx hb
  refine Rg.from_is (some 112) rfl rfl ?_
  refine Rg.from_is (some 113) rfl rfl ?_
  refine Rg.from_is (some 114) rfl rfl ?_
  refine Rg.from_of (some 115) rfl rfl fun v115 h115 => ?_
  refine Rg.from_is (some 116) rfl rfl ?_
  refine Rg.from_is (some 117) rfl rfl ?_
  refine Rg.from_is (some 118) rfl rfl ?_
  refine Rg.from_is (some 119) rfl rfl ?_
  refine Rg.from_is (some 120) rfl rfl ?_
  refine Rg.from_is (some 121) rfl rfl ?_
  refine Rg.from_is (some 122) rfl rfl ?_
  refine Rg.from_of (some 123) rfl rfl fun v123 h123 => ?_
  refine Rg.from_is (some 124) rfl rfl ?_
  refine Rg.from_is (some 125) rfl rfl ?_
  refine Rg.from_is (some 126) rfl rfl ?_
  refine Rg.from_is (some 127) rfl rfl ?_
  refine Rg.from_nil ?_
  simp only [List.map, Act.put, List.setIfInBounds_toArray, List.set_cons_zero, List.set_cons_succ]
  have HE := hid (below_next HB9.out HB9.out.size hb)
  clear hb
  go_wp2
  go_ret
  exact ⟨rfl, HE.out⟩
end Go.Proofs.YtpdgalclnlbeaaaDoor
