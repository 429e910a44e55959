/-
  AdmitBlind: what the program does.
-/
import Derived.Test.YtcojnjhffmhbiaaDoorAdmQ1
import Derived.Test.YtcojnjhffmhbiaaDoorAdmQ2
import Derived.Test.YtcojnjhffmhbiaaDoorAdmQ3
import Derived.Test.YtcojnjhffmhbiaaDoorAdmQ4
import Derived.Test.YtcojnjhffmhbiaaDoorAdmQ5
import Derived.Test.YtcojnjhffmhbiaaDoorAdmQ6
import Derived.Test.YtcojnjhffmhbiaaDoorAdmQ7
import Derived.Test.YtcojnjhffmhbiaaDoorAdmQ8
import Derived.Test.YtcojnjhffmhbiaaDoorAdmQ9
import Derived.Test.YtcojnjhffmhbiaaDoorAdQ
import Derived.Test.YtcojnjhffmhbiaaDoorAdX
import Derived.Test.YtcojnjhffmhbiaaDoorRegionB
import Derived.Test.YtcojnjhffmhbiaaDoorGrow
import Derived.BigQuiet
namespace Go.Proofs.YtcojnjhffmhbiaaDoor
open Go Go.RowKit Go.Maps Go.Shelf Go.Proofs

attribute [local go_sem] Oper.semAt_some

/-- a product with a query is one with its row. -/
theorem dsum_tf {N : Nat} [NeZero N] (hq : okm (N : Int) = true) (l row : List Int) : ∀ k, tf N (dsum l row N 0 k) = fsum N k fun j => vec N row j * vec N l j
  | 0 => tf_zero
  | k + 1 => by
    have ih := dsum_tf hq l row k
    unfold dsum
    rw [Nat.zero_add]
    show _ = fsum N k (fun j => vec N row j * vec N l j) + vec N row k * vec N l k
    have hv : ∀ (m : List Int), vec N m k = tf N ((m[k]?).getD 0) := fun m => by unfold vec nth; rw [List.getD_eq_getElem?_getD]
    rw [hv row, hv l, ← ih]
    cases h1 : l[k]? with
    | none => simp only [Option.getD_none, tf_zero]; grind
    | some a =>
      cases h2 : row[k]? with
      | none => simp only [Option.getD_none, tf_zero]; grind
      | some b =>
        simp only [Option.getD_some]
        rw [mAdd_ok hq, mMul_ok hq, tf_mod, tf_add, tf_mod, tf_mul]
        grind
theorem dsum_red {l row : List Int} {q : Int} (hq : okm q = true) : ∀ k, dsum l row q 0 k % q = dsum l row q 0 k
  | 0 => by unfold dsum; simp
  | k + 1 => by
    unfold dsum
    split
    · rw [mAdd_ok hq, Int.emod_emod_of_dvd _ (Int.dvd_refl q)]
    · exact dsum_red hq k
theorem dsum_dot {q : Int} (hq : okm q = true) (l row : List Int) {k : Nat} (h : row.length ≤ k) : dsum l row q 0 k = dotL row l q := by
  have h0 := okm_pos hq
  obtain ⟨N, rfl⟩ := Int.eq_ofNat_of_zero_le (show 0 ≤ q by omega)
  have hN : NeZero N := ⟨by omega⟩
  have h1 : tf N (dsum l row N 0 k) = tf N (dotL row l N) := by rw [dsum_tf hq, dotL_tf hq h]; rfl
  have h2 := tf_eq.1 h1
  rw [dsum_red hq] at h2
  rw [h2]
  unfold dotL
  exact dotK_red hq _
theorem rowS_fits {p : Par} (h : fits p = true) (x : List Int) : (rowS p x).length = p.D.toNat + 1 := by
  unfold rowS
  rw [if_pos h, List.length_append, padded_len]; rfl
theorem dotS_one {p : Par} (h : fits p = true) (hK : p.K = 1) (hq : okm p.Q = true) (l x : List Int) : dotS p l x = [dotL (rowS p x) l p.Q] := by
  unfold dotS
  rw [if_pos h, hK]
  show [dsum l (rowS p x) p.Q (0 * (p.D.toNat + 1)) (p.D.toNat + 1)] = _
  rw [Nat.zero_mul, dsum_dot hq _ _ (by rw [rowS_fits h]; exact Nat.le_refl _)]
def RowsRel (p : Par) (l : List Ask) (w0 wr : World) (v : Value) (n : Nat) : Prop := OwnRows wr w0.heap.size 23 24 v (((l.take n).map fun a => rowS p a.x).map u64v) ∧ Below w0.heap.size w0 wr
def RowTT (w : World) (v : Value) (r : List Int) : Prop := RowT w 24 v (u64v r)
theorem RowTT.below {w w' : World} {v : Value} {r : List Int} (h : RowTT w v r) (hb : Below w.heap.size w w') : RowTT w' v r := RowT.below h hb
/-- a row of blocks from N on. -/
def OwnN (N : Nat) (w : World) (v : Value) (r : List Int) : Prop := ∃ A c, v = .slice A r.length c ∧ Own w N 24 v (u64v r)
theorem OwnN.below {N : Nat} {w w' : World} {v : Value} {r : List Int} (h : OwnN N w v r) (hb : Below w.heap.size w w') : OwnN N w' v r := by
  obtain ⟨A, c, e, h⟩ := h; exact ⟨A, c, e, h.below hb⟩
theorem OwnN.grown {N : Nat} {w w' : World} {v : Value} {r : List Int} {B : Option Nat} (h : OwnN N w v r) (hk : w.grownBy w' B) (hB : ∀ g, some g = B → g < N) : OwnN N w' v r := by
  obtain ⟨A, c, e, h⟩ := h
  exact ⟨A, c, e, h.keep fun g hg => hk.block g (h.block g hg).2 fun e9 => by have := (h.block g hg).1; have := hB g e9; omega⟩
theorem OwnN.of_ {N : Nat} {w : World} {v : Value} {r : List Int} {M : Nat} (h : Own w M 24 v (u64v r)) (hM : N ≤ M) : OwnN N w v r := by
  obtain ⟨A, c, e, _⟩ := h.form
  rw [List.length_map] at e
  exact ⟨A, c, e, h.from_ hM⟩
def SolT (N : Nat) (w : World) (v : Value) (out : List Int) (E : Int) : Prop := ∃ v1, v = .tuple #[v1, .int .i64 E] ∧ OwnN N w v1 out
theorem SolT.below {N : Nat} {w w' : World} {v : Value} {r : List Int} {E : Int} (h : SolT N w v r E) (hb : Below w.heap.size w w') : SolT N w' v r E := by
  obtain ⟨v1, e, h⟩ := h; exact ⟨v1, e, h.below hb⟩
theorem SolT.grown {N : Nat} {w w' : World} {v : Value} {r : List Int} {E : Int} {B : Option Nat} (h : SolT N w v r E) (hk : w.grownBy w' B) (hB : ∀ g, some g = B → g < N) : SolT N w' v r E := by
  obtain ⟨v1, e, h⟩ := h; exact ⟨v1, e, h.grown hk hB⟩
set_option maxRecDepth 100000 in
set_option maxHeartbeats 1600000 in
theorem admitBlind_c (p : Par) (hp : p.ok) (A : Option Addr) (l : List Ask) (c : Nat) (A2 : Option Addr) (x : List Int) (c2 : Nat) (w : World) (hA : Asks w A l) (hln : l.length ≤ 9223372036854775807) (hli : ∀ a ∈ l, I64 a.id) (hlx : ∀ a ∈ l, I64s a.x)
    (hA2 : Cells w A2 (x.map (.int .i64))) (_hxl : x.length ≤ 9223372036854775807) (hxu : I64s x) (hTab : Tabs w) (hpr : ∀ q : Int, primeV q = true → Go.Psi.Pr q.toNat) [DecidableEq Lit] :
    Calls Tryd.prog 16 #[pval p, .slice A l.length c, .slice A2 x.length c2] w fun e w' => e = .returned (.bool true) ∧ Below w.heap.size w w' := by
  have hb0 := below_alloc w (.cells (pcells p).toArray 43)
  have hP := row1_new w (pcells p) 43
  have HA := hid hA
  have HA2 := hid hA2
  have HT := hid hTab
  have HLI := hid hli
  have HLX := hid hlx
  have HXU := hid hxu
  clear hA hTab hli hlx hA2 hxu
  go_enter Tryd.func16, Tryd.ntmps16
  go_upto_region 1 with (fail)
  simp only [List.toArray] at hb0 hP
  generalize w.alloc (.cells #[.int .u64 p.P, .int .u64 p.Q, .int .u64 p.G, .int .u64 p.H, .int .i64 p.Nodes, .int .i64 p.N, .int .i64 p.T, .int .i64 p.K, .int .i64 p.D, .int .i64 p.R, .int .i64 p.M, .int .i64 p.X] 43) = w1 at *
  go_wp2_with (fail)
  refine (large21_c A l c w1 (HA.out.below hb0) hln).mono ?_
  rintro e w2 ⟨⟨bl, rfl, hfew⟩, hb⟩
  have hb2 := below_next hb0 hb0.size hb
  have hP2 := hP.below hb
  have HF := hid hfew
  clear hb hb0 hP hfew
  cases bl with
  | true =>
    go_wp2_with (fail)
    refine (awake21_c w2 (HT.out.below hb2)).mono ?_
    rintro e w9 ⟨rfl, hb9⟩
    have HE := hid (below_next hb2 (hb2).size hb9)
    clear hb9
    go_wp2
    go_ret
    exact ⟨rfl, HE.out⟩
  | false =>
  obtain ⟨hl10, hl40⟩ := HF.out rfl
  have HL := hid (⟨by omega, HLI.out, HLX.out, fun a ha => by have := hl40 a ha; omega⟩ : AskOk l)
  have HL4 := hid hl40
  clear hl40 HF
  by_cases hx40 : (x.length : Int) > 40
  case pos =>
    go_wp2_with (fail)
    refine (awake21_c w2 (HT.out.below hb2)).mono ?_
    rintro e w9 ⟨rfl, hb9⟩
    have HE := hid (below_next hb2 (hb2).size hb9)
    clear hb9
    go_wp2
    go_ret
    exact ⟨rfl, HE.out⟩
  go_wp2_with (fail)
  refine (awake21_c w2 (HT.out.below hb2)).mono ?_
  rintro e w3 ⟨rfl, hb⟩
  have hb3 := below_next hb2 hb2.size hb
  have hP3 := hP2.below hb
  clear hb hb2 hP2
  obtain ⟨p0, p1, p2, p3, p4, p5, p6, p7, p8, p9, p10, p11⟩ := par_cells hP3
  go_wp2_with (fail)
  clear p0 p1 p2 p3 p4 p5 p6 p7 p8 p9 p10 p11
  refine (prime21_c p hp w3 (HT.out.below hb3)).mono ?_
  rintro e w4 ⟨rfl, hb⟩
  have hb4 := below_next hb3 hb3.size hb
  have hP4 := hP3.below hb
  obtain ⟨hpo, hpv, hpR⟩ := prPar_ok hp
  have hpp := hpr _ hpv
  generalize prPar p = p' at *
  clear hb hb3 hP3 hpR hpr
  have HPV := hid (⟨hpv, hpp⟩ : _ ∧ _)
  clear hpv hpp
  obtain ⟨z0, z1, z2, z3, z4, z5, z6, z7, z8, z9, z10, z11⟩ := par_cells hP4
  obtain ⟨f0, f1, f2, f3, f4, f5, f6, f7, f8, f9, f10, f11⟩ := par_frozen hP4
  have HQ := hid (⟨parLaid_row (p := p') hP4, parLaid_below (p := p') hb4 (Nat.le_refl _)⟩ : Row1 (parLaid w4 w.heap.size p') w.heap.size 43 (pcells p') ∧ Below w.heap.size w (parLaid w4 w.heap.size p'))
  clear hb4 hP4
  go_upto_region 4 with (fail)
  obtain ⟨w5, hw5⟩ : ∃ w5, parLaid w4 w.heap.size p' = w5 := ⟨_, rfl⟩
  rw [hw5] at HQ
  unfold parLaid at hw5
  rw [hw5]
  clear hw5 z0 z1 z2 z3 z4 z5 z6 z7 z8 z9 z10 z11 f0 f1 f2 f3 f4 f5 f6 f7 f8 f9 f10 f11
  obtain ⟨hQ1, hQ2⟩ := HQ.out
  have hz7 := (par_cells hQ1).2.2.2.2.2.2.2.1
  have hf7 := (par_frozen hQ1).2.2.2.2.2.2.2.1
  go_upto_region 5 with (fail)
  have HP6 := hid (⟨hQ1.set 7 (.int .i64 1), hQ2.setCell (p := ⟨w.heap.size, 7, none⟩) (Nat.le_refl _) (.int .i64 1)⟩ : Row1 (w5.setCell ⟨w.heap.size, 7, none⟩ (.int .i64 1)) w.heap.size 43 (pcells { p' with K := 1 }) ∧ Below w.heap.size w (w5.setCell ⟨w.heap.size, 7, none⟩ (.int .i64 1)))
  have HOK := hid (show ({ p' with K := 1 } : Par).ok ∧ ({ p' with K := 1 } : Par).K = 1 ∧ primeV ({ p' with K := 1 } : Par).Q = true ∧ Go.Psi.Pr ({ p' with K := 1 } : Par).Q.toNat from ⟨⟨hpo.P, hpo.Q, hpo.G, hpo.H, hpo.Nodes, hpo.N, hpo.T, ⟨by show (-9223372036854775808 : Int) ≤ 1; decide, by show (1 : Int) < 9223372036854775808; decide⟩, hpo.D, hpo.R, hpo.M, hpo.X⟩, rfl, HPV.out.1, HPV.out.2⟩)
  clear hQ1 hQ2 hz7 hf7 HQ HPV
  generalize ({ p' with K := 1 } : Par) = P at *
  generalize w5.setCell ⟨w.heap.size, 7, none⟩ (.int .i64 1) = w6 at *
  clear hpo
  obtain ⟨hPo, hPK, hPv, hPp⟩ := HOK.out
  have hrowx := hid (fun wr (hb : Below w6.heap.size w6 wr) => frow_c P hPo A2 x c2 wr ((HA2.out.below HP6.out.2).below hb) (by omega) HXU.out)
  have HOKM := hid ((okm_prime hPv).1)
  have hPQ := hPo.Q
  have hP6 := HP6.out.1
  have HPo := hid hPo
  clear hPo hPK hPv hPp
  obtain ⟨p0, p1, p2, p3, p4, p5, p6, p7, p8, p9, p10, p11⟩ := par_cells hP6
  go_wp2_with (fail)
  clear p0 p1 p2 p3 p4 p5 p6 p7 p8 p9 p10 p11 hP6
  refine (hrowx.out w6 (Below.refl _ _)).mono ?_
  rintro e w7 ⟨v7, rfl, o7, hb7⟩
  obtain ⟨A7, c7, e7, h7c⟩ := o7.form
  clear h7c
  rw [List.length_map] at e7
  subst e7
  have HB7 := hid hb7
  clear hb7 o7
  by_cases hf : fits P = true
  case neg =>
    have h0 : (rowS P x).length = 0 := by unfold rowS; rw [if_neg hf]; rfl
    rw [h0]
    have HE := hid (below_next HP6.out.2 HP6.out.2.size HB7.out)
    go_wp2
    go_ret
    exact ⟨rfl, HE.out⟩
  have HFT := hid hf
  have hrl := rowS_fits hf x
  have hrl0 : ((rowS P x).length : Int) ≠ 0 := by omega
  have hrl1 : (((rowS P x).length : Int) == 0) = false := by rw [beq_eq_false_iff_ne]; exact hrl0
  clear hf hrl hrl0
  generalize hgl : (rowS P x).length = rl at *
  clear hgl
  go_wp2
  go_loopw [7, 8] (fun v i wr => ∃ n : Nat, i = .int .i64 (n : Int) ∧ n ≤ l.length ∧ Hid (RowsRel P l w7 wr v n)) (fun _ i _ => l.length - (intOf i).toNat)
  case atStart => exact ⟨0, rfl, by omega, hid ⟨OwnRows.nil _ _ _ _, Below.refl _ _⟩⟩
  case round =>
    obtain ⟨n, rfl, hn, HI⟩ := hrel
    by_cases hlt : n < l.length
    · have hlt' : (n : Int) < (l.length : Int) := by omega
      obtain ⟨a, ha⟩ := get_of_lt hlt
      obtain ⟨hO, hbl⟩ := HI.out
      have hb7r := below_next HB7.out HB7.out.size hbl
      have hbw := below_next HP6.out.2 HP6.out.2.size hb7r
      obtain ⟨bk, off, Aa, ca, rfl, _, cxa, csa, _⟩ := (HA.out.below hbw).at_ ha
      have hP := HP6.out.1.below hb7r
      have ham := List.mem_of_getElem? ha
      have hal := HL4.out a ham
      have hua := HL.out.x a ham
      have HRW := hid (fun wr' (hb : Below wr.heap.size wr wr') => frow_c P HPo.out Aa a.x ca wr' (csa.below hb) (by omega) hua)
      have HS := hid (show ((l.take (n + 1)).map fun a => rowS P a.x).map u64v = ((l.take n).map fun a => rowS P a.x).map u64v ++ [u64v (rowS P a.x)] by rw [take_snocR ha]; simp)
      have hlo : (((l.take n).map fun a => rowS P a.x).map u64v).length = n := by simp; omega
      have HO := hid (⟨hO, hbl, hlo⟩ : _ ∧ _ ∧ _)
      have HPP := hid hP
      clear ha csa ham hO hlo HI hP
      generalize rowS P a.x = r at *
      go_wp2
      refine Rg.wp_region (l := [_, _, _, _, _, _, _, _, _]) (tail := [_, _]) (Rg.grows _ 11) [some 41, some 42, some 43, some 44, some 45, some 46, some 47, some 48, some 49, some 50, some 7] 116 (by kernel_rfl) (by kernel_rfl) (by kernel_rfl) rfl (Rg.grows_fair _ _) (Rg.keep_drew _) (trivial) ?_
      refine' Rg.op_is _ [] rfl rfl (by kernel_rfl) ?_ ?_
      rotate_left
      · intro wx hb
        refine Rg.from_nil fun T hT => ?_
        go_wp2
        refine hT _ _ rfl (by first | exact Rg.Keep.refl _ | exact below_of_dr hw2 | exact hw2 | exact (Below.refl _ _).alloc (Nat.le_refl _) _) ?_
        simp only [Rg.last, List.getElem?_toArray, List.getElem?_cons_succ, List.getElem?_cons_zero, Option.getD_some]
        rfl
      refine Rg.op_is ((pval P)) [] rfl rfl (by kernel_rfl) ?_ ?_
      · intro wx hb
        refine Rg.from_nil fun T hT => ?_
        obtain ⟨p0, p1, p2, p3, p4, p5, p6, p7, p8, p9, p10, p11⟩ := par_cells (HPP.out.below hb)
        go_wp2
        exact hT _ _ rfl (by first | exact Rg.Keep.refl _ | exact below_of_dr hw2 | exact hw2 | exact (Below.refl _ _).alloc (Nat.le_refl _) _) (by first | rfl | exact congrArg _ (by decide))
      refine' Rg.op_is _ [] rfl rfl (by kernel_rfl) ?_ ?_
      rotate_left
      · intro wx hb
        refine Rg.from_nil fun T hT => ?_
        go_wp2
        refine hT _ _ rfl (by first | exact Rg.Keep.refl _ | exact below_of_dr hw2 | exact hw2 | exact (Below.refl _ _).alloc (Nat.le_refl _) _) ?_
        simp only [Rg.last, List.getElem?_toArray, List.getElem?_cons_succ, List.getElem?_cons_zero, Option.getD_some]
        rfl
      refine' Rg.op_is _ [] rfl rfl (by kernel_rfl) ?_ ?_
      rotate_left
      · intro wx hb
        refine Rg.from_nil fun T hT => ?_
        go_wp2
        refine hT _ _ rfl (by first | exact Rg.Keep.refl _ | exact below_of_dr hw2 | exact hw2 | exact (Below.refl _ _).alloc (Nat.le_refl _) _) ?_
        simp only [Rg.last, List.getElem?_toArray, List.getElem?_cons_succ, List.getElem?_cons_zero, Option.getD_some]
        rfl
      refine Rg.op_is (.pointer (some ⟨bk, off + n * 2, none⟩)) [2, 3] rfl rfl (by kernel_rfl) ?_ ?_
      · intro wx hb
        refine Rg.from_is (some 43) rfl rfl ?_
        refine Rg.from_is (some 44) rfl rfl ?_
        refine Rg.from_nil fun T hT => ?_
        go_wp2
        exact hT _ _ rfl (by first | exact Rg.Keep.refl _ | exact below_of_dr hw2 | exact hw2 | exact (Below.refl _ _).alloc (Nat.le_refl _) _) (by first | rfl | exact congrArg _ (by decide))
      refine Rg.op_is (.pointer (some ⟨bk, off + n * 2 + 1, none⟩)) [4] rfl rfl (by kernel_rfl) ?_ ?_
      · intro wx hb
        refine Rg.from_is (some 45) rfl rfl ?_
        refine Rg.from_nil fun T hT => ?_
        go_wp2
        exact hT _ _ rfl (by first | exact Rg.Keep.refl _ | exact below_of_dr hw2 | exact hw2 | exact (Below.refl _ _).alloc (Nat.le_refl _) _) (by first | rfl | exact congrArg _ (by decide))
      refine Rg.op_is (.slice Aa a.x.length ca) [5] rfl rfl (by kernel_rfl) ?_ ?_
      · intro wx hb
        refine Rg.from_is (some 46) rfl rfl ?_
        refine Rg.from_nil fun T hT => ?_
        have g1 := (hb.cell (lt_of_cell cxa)).trans cxa
        go_wp2
        exact hT _ _ rfl (by first | exact Rg.Keep.refl _ | exact below_of_dr hw2 | exact hw2 | exact (Below.refl _ _).alloc (Nat.le_refl _) _) (by first | rfl | exact congrArg _ (by decide))
      refine Rg.op_of (fun w' v => ∃ Ar cr, v = Value.slice Ar r.length cr ∧ RowTT w' v r) [1, 6] rfl ?_ ?_ rfl (by kernel_rfl) ?_ ?_
      · exact fun w1 w2 v hk ⟨A9, c9, e, h⟩ => ⟨A9, c9, e, h.below hk⟩
      · exact fun w1 w2 v hk ⟨A9, c9, e, h⟩ => ⟨A9, c9, e, h.below hk⟩
      · intro wx hb
        refine Rg.from_is (some 42) rfl rfl ?_
        refine Rg.from_is (some 47) rfl rfl ?_
        refine Rg.from_nil fun T hT => ?_
        go_wp2_with (go_at_call 68; refine (HRW.out _ hb).mono ?_; rintro e w9 ⟨v9, rfl, o9, hb9⟩)
        exact hT _ _ rfl hb9 (by obtain ⟨Ar, cr, er, _⟩ := o9.form; rw [List.length_map] at er; exact ⟨Ar, cr, er, o9.rowT⟩)
      refine Rg.op_of (fun w' u => ∃ g Ar cr, u = Value.slice (some ⟨g, 0, none⟩) 1 1 ∧ Row1 w' g 23 [.slice Ar r.length cr] ∧ RowTT w' (.slice Ar r.length cr) r) [7] rfl ?_ ?_ rfl (by kernel_rfl) ?_ ?_
      · exact fun w1 w2 v hk ⟨g, A9, c9, e, h, h5⟩ => ⟨g, A9, c9, e, h.below hk, h5.below hk⟩
      · exact fun w1 w2 v hk ⟨g, A9, c9, e, h, h5⟩ => ⟨g, A9, c9, e, h.below hk, h5.below hk⟩
      · intro wx hb
        refine Rg.from_of (some 48) rfl rfl fun v48 h48 => ?_
        refine Rg.from_nil fun T hT => ?_
        obtain ⟨A48, c48, rfl, h48⟩ := h48
        go_wp2
        exact hT _ _ rfl (below_alloc _ _) ⟨_, _, _, rfl, row1_new wx [_] 23, h48.below (below_alloc _ _)⟩
      refine Rg.walk_nil [0, 1, 2, 3, 4, 5, 6, 7, 8] (by kernel_rfl) ?_
      intro wx hb
      refine Rg.from_is (some 41) rfl rfl ?_
      refine Rg.from_is (some 42) rfl rfl ?_
      refine Rg.from_is (some 43) rfl rfl ?_
      refine Rg.from_is (some 44) rfl rfl ?_
      refine Rg.from_is (some 45) rfl rfl ?_
      refine Rg.from_is (some 46) rfl rfl ?_
      refine Rg.from_is (some 47) rfl rfl ?_
      refine Rg.from_of (some 48) rfl rfl fun v48 h48 => ?_
      refine Rg.from_of (some 49) rfl rfl fun v49 h49 => ?_
      refine Rg.from_nil ?_
      simp only [List.map, Act.put, List.setIfInBounds_toArray, List.set_cons_zero, List.set_cons_succ]
      obtain ⟨g30, A30, c30, rfl, hg30, ht30⟩ := h49
      obtain ⟨hO, hbl, hlo⟩ := HO.out
      obtain ⟨vs, ho, hvl, hvr⟩ := hO.below hb
      have hvs : vs.length = n := by rw [hvl, hlo]
      have HVS := hid (⟨hvs, hvl, hvr⟩ : _ ∧ _ ∧ _)
      have hsz := Nat.le_trans hbl.size hb.size
      have hbr := below_next hbl hbl.size hb
      clear hvs hvl hvr hlo hbl
      refine wpList_push_at elt_rowsA _ rfl _ _ rfl w7.heap.size ho rfl (.slice A30 r.length c30) g30 rfl hg30 rfl (by rw [HVS.out.1]; omega) (by rw [HVS.out.1]; omega) hsz ?_
      intro v' w' hown' hgr _
      have HN := hid (show RowsRel P l w7 w' v' (n + 1) from ⟨by rw [HS.out]; exact OwnRows.push (by decide) HVS.out.2.1 HVS.out.2.2 ho ht30 hown' fun k h1 h2 => hgr.block k h1 h2, hbr.grown hgr hsz fun g e => (ho.block g e).1⟩)
      clear hown' hgr hb hg30 ht30 ho hbr hO cxa
      go_wp2
      go_roundw
      case rel => exact ⟨n + 1, by go_num, by omega, HN⟩
      case measure => simp [intOf]; omega
    · obtain rfl : n = l.length := by omega
      have hlt' : ¬ ((l.length : Int) < (l.length : Int)) := by omega
      obtain ⟨hO, hbl⟩ := HI.out
      rw [List.take_length] at hO
      have hrlen : (l.map fun a => rowS P a.x).length = l.length := List.length_map ..
      have hrows : rowsP P l [] = l.map fun a => rowS P a.x := by unfold rowsP; simp
      have hb7r := below_next HB7.out HB7.out.size hbl
      obtain ⟨vs, ho, hvl, hvr⟩ := hO
      have hO := True.intro
      have hvs : vs.length = l.length := by rw [hvl, List.length_map, hrlen]
      obtain ⟨A8, c8, e8, h8c⟩ := ho.form
      clear h8c
      rw [hvs] at e8
      subst e8
      have HVS := hid (⟨hvs, hvl, hvr⟩ : _ ∧ _ ∧ _)
      have HOR := hid (⟨ho, hbl, hb7r⟩ : _ ∧ _ ∧ _)
      have hP8 := HP6.out.1.below hb7r
      have HPP := hid hP8
      clear hvs hvl hvr ho hbl hb7r HI hlt hP8
      generalize wr = w8 at *
      go_upto_region 13 with (at_make; refine wpList_make_row elt_u64 _ rfl _ _ rfl .i64 .i64 ((l.length : Int) + 1) ((l.length : Int) + 1) (l.length + 1) rfl rfl (by omega) (by omega) (by omega) (by omega) ?_; intro w9 hr9 hs9 hb9)
      have hc9 := hr9.cell (k := l.length) (u := .int .u64 0) (by rw [List.getElem?_replicate, if_pos (by omega)])
      have hf9 := hr9.frozen l.length
      have hset := hr9.set l.length (.int .u64 1)
      have hright : (List.replicate (l.length + 1) (Value.int .u64 0)).set l.length (.int .u64 1) = u64v (List.replicate l.length 0 ++ [1]) := by
        rw [List.replicate_succ', List.set_append_right _ _ (by rw [List.length_replicate]; exact Nat.le_refl _), List.length_replicate, Nat.sub_self]
        simp [u64v]
      rw [hright] at hset
      have hb10 := hb9.setCell (p := ⟨w8.heap.size, l.length, none⟩) (Nat.le_refl _) (.int .u64 1)
      have hll1 : (l.length : Int) < ((l.length + 1 : Nat) : Int) := by omega
      clear hr9 hs9 hb9 hright
      go_upto_region 14 with (fail)
      clear hc9 hf9
      generalize w9.setCell ⟨w8.heap.size, l.length, none⟩ (.int .u64 1) = w10 at *
      have hP10 := HPP.out.below hb10
      have hs10 := hb10.size
      have hO10 := HOR.out.1.below hb10
      have hbx : w.heap.size < w7.heap.size := Nat.lt_of_lt_of_le HP6.out.1.lt (by have := HB7.out.size; omega)
      have HOB := hid (show (∀ g, some g = (Value.slice A8 l.length c8).ownBlock → g < w10.heap.size) ∧ (∀ g, some g = (Value.slice A8 l.length c8).ownBlock → w7.heap.size ≤ g ∧ g < w8.heap.size) from ⟨fun g e => (hO10.block g e.symm).2, fun g e => HOR.out.1.block g e.symm⟩)
      have hvr10 : ∀ (j : Nat) u xs, vs[j]? = some u → ((l.map fun a => rowS P a.x).map u64v)[j]? = some xs → RowT w10 24 u xs := fun j u xs h1 h2 => (HVS.out.2.2 j u xs h1 h2).below hb10
      have hb610 := below_next HOR.out.2.2 HOR.out.2.2.size hb10
      have hbw10 := below_next HP6.out.2 HP6.out.2.size hb610
      have HNE := hid (show some w.heap.size ≠ (Value.slice A8 l.length c8).ownBlock from fun e => by have := (HOB.out.2 _ e).1; omega)
      have HNR := hid (show some w8.heap.size ≠ (Value.slice A8 l.length c8).ownBlock from fun e => by have := (HOB.out.2 _ e).2; omega)
      have HBX := hid (fun wx (hb : w10.grownBy wx (Value.slice A8 l.length c8).ownBlock) => (hbw10.grown hb hbw10.size fun g e => by have := (HOB.out.2 g e.symm).1; omega : Below w.heap.size w wx))
      have HROW := hid (fun wx (hb : Below w.heap.size w wx) => frow_c P HPo.out A2 x c2 wx (HA2.out.below hb) (by omega) HXU.out)
      have HSET := hid hset
      have HV := hid (⟨hvr10, hO10, hs10, Nat.le_trans HOR.out.2.1.size hs10⟩ : _ ∧ _ ∧ _ ∧ w7.heap.size ≤ w10.heap.size)
      have HP10 := hid hP10
      have hru : U64s (List.replicate l.length (0 : Int) ++ [1]) := fun z hz => by
        rcases List.mem_append.1 hz with h | h
        · obtain ⟨_, rfl⟩ := List.mem_replicate.1 h; exact ⟨by decide, by decide⟩
        · rw [List.mem_singleton.1 h]; exact ⟨by decide, by decide⟩
      have hfl : ((l.map fun a => rowS P a.x) ++ [rowS P x]).length = l.length + 1 := by simp
      have hrok : RowsOk ((l.map fun a => rowS P a.x) ++ [rowS P x]) := by
        have := rowsP_ok P l [x] (by omega) (by simp)
        unfold rowsP at this
        exact this
      have hwid : wideL ((l.map fun a => rowS P a.x) ++ [rowS P x]) ≤ 100000 := wideL_most fun r hr => by
        rcases List.mem_append.1 hr with h | h
        · obtain ⟨a, _, rfl⟩ := List.mem_map.1 h; have := rowS_len P a.x; omega
        · rw [List.mem_singleton.1 h]; have := rowS_len P x; omega
      have hrr : (List.replicate l.length (0 : Int) ++ [1]).length = l.length + 1 := by simp
      have HSOL := hid (fun AR cR wx (hb : Below w.heap.size w wx) (hg : Grid wx AR ((l.map fun a => rowS P a.x) ++ [rowS P x])) (hr : Cells wx (some ⟨w8.heap.size, 0, none⟩) (u64v (List.replicate l.length 0 ++ [1]))) => by
        have := solve_c AR ((l.map fun a => rowS P a.x) ++ [rowS P x]) cR (some ⟨w8.heap.size, 0, none⟩) (List.replicate l.length 0 ++ [1]) (l.length + 1) P.Q wx hg hrok hr (by omega) hru hPQ (HT.out.below hb) (by omega) hwid
        rw [hfl, hrr] at this
        exact this)
      have HLAW := hid (blind_law HOK.out.2.2.1 HOK.out.2.2.2 (l.map fun a => rowS P a.x) (rowS P x))
      have HFL := hid (⟨hfl, hrows, hwid⟩ : _ ∧ _ ∧ _)
      rw [hrlen] at HLAW
      clear hset hvr10 hb610 hb10 hP10 hs10 hO10 hbx hll1 hrlen hrows hO hn hlt' hrl1 hru hfl hrok hwid hrr hbw10 HLI HLX hrowx
      generalize hsv : solveV ((l.map fun a => rowS P a.x) ++ [rowS P x]) (List.replicate l.length 0 ++ [1]) P.Q = sv at *
      clear hsv
      obtain ⟨out, E⟩ := sv
      refine Rgb.wp_region (l := [_, _, _, _, _, _, _, _, _, _, _, _, _, _]) (tail := [_]) (Rgb.growWay w10 (Value.slice A8 l.length c8).ownBlock 5) [some 60, some 61, some 62, some 63, some 64, some 65, some 66, some 67, some 68, some 69, some 59, some 70, some 71, some 10, some 11] 116 (by kernel_rfl) (by kernel_rfl) (by kernel_rfl) rfl (Rgb.growWay_fair _ _ _) (Rgb.grow_drew _ _) (Rgb.keep_drew _) ?_
      refine' Rgb.op_is _ [] rfl rfl (by kernel_rfl) ?_ ?_
      rotate_left
      · intro wx hb
        refine Rgb.from_nil fun T hT => ?_
        go_wp2
        refine hT _ _ rfl (by first | exact Rgb.Keep.refl _ | exact below_of_dr hw2 | exact hw2 | exact (Below.refl _ _).alloc (Nat.le_refl _) _) ?_
        simp only [Rgb.last, List.getElem?_toArray, List.getElem?_cons_succ, List.getElem?_cons_zero, Option.getD_some]
        rfl
      refine Rgb.op_is ((pval P)) [] rfl rfl (by kernel_rfl) ?_ ?_
      · intro wx hb
        refine Rgb.from_nil fun T hT => ?_
        obtain ⟨p0, p1, p2, p3, p4, p5, p6, p7, p8, p9, p10, p11⟩ := par_cells (HP10.out.keep (hb.block _ HP10.out.lt HNE.out))
        go_wp2
        exact hT _ _ rfl (by first | exact Rgb.Keep.refl _ | exact below_of_dr hw2 | exact hw2 | exact (Below.refl _ _).alloc (Nat.le_refl _) _) (by first | rfl | exact congrArg _ (by decide))
      refine' Rgb.op_is _ [] rfl rfl (by kernel_rfl) ?_ ?_
      rotate_left
      · intro wx hb
        refine Rgb.from_nil fun T hT => ?_
        go_wp2
        refine hT _ _ rfl (by first | exact Rgb.Keep.refl _ | exact below_of_dr hw2 | exact hw2 | exact (Below.refl _ _).alloc (Nat.le_refl _) _) ?_
        simp only [Rgb.last, List.getElem?_toArray, List.getElem?_cons_succ, List.getElem?_cons_zero, Option.getD_some]
        rfl
      refine Rgb.op_of (fun w' v => OwnN w10.heap.size w' v (rowS P x)) [1, 2] rfl ?_ ?_ rfl (by kernel_rfl) ?_ ?_
      · exact fun w1 w2 v hk h => h.below hk
      · exact fun w1 w2 v hk h => h.grown hk HOB.out.1
      · intro wx hb
        refine Rgb.from_is (some 61) rfl rfl ?_
        refine Rgb.from_is (some 62) rfl rfl ?_
        refine Rgb.from_nil fun T hT => ?_
        go_wp2_with (go_at_call 68; refine (HROW.out _ (HBX.out _ hb)).mono ?_; rintro e w9 ⟨v9, rfl, o9, hb9⟩)
        exact hT _ _ rfl hb9 (OwnN.of_ o9 hb.size)
      refine Rgb.op_of (fun w' u => ∃ g Ar cr, u = Value.slice (some ⟨g, 0, none⟩) 1 1 ∧ Row1 w' g 23 [.slice Ar (rowS P x).length cr] ∧ w10.heap.size ≤ g ∧ OwnN w10.heap.size w' (.slice Ar (rowS P x).length cr) (rowS P x)) [3] rfl ?_ ?_ rfl (by kernel_rfl) ?_ ?_
      · exact fun w1 w2 v hk ⟨g, A9, c9, e, h, h4, h5⟩ => ⟨g, A9, c9, e, h.below hk, h4, h5.below hk⟩
      · exact fun w1 w2 v hk ⟨g, A9, c9, e, h, h4, h5⟩ => ⟨g, A9, c9, e, h.keep (hk.block g h.lt fun e9 => by have := HOB.out.1 g e9; omega), h4, h5.grown hk HOB.out.1⟩
      · intro wx hb
        refine Rgb.from_of (some 63) rfl rfl fun v63 h63 => ?_
        refine Rgb.from_nil fun T hT => ?_
        obtain ⟨A48, c48, rfl, h48⟩ := h63
        have h49 : OwnN w10.heap.size wx (.slice A48 (rowS P x).length c48) (rowS P x) := ⟨_, _, rfl, h48⟩
        have hsz9 := hb.size
        go_wp2
        exact hT _ _ rfl (below_alloc _ _) ⟨_, _, _, rfl, row1_new wx [_] 23, hsz9, h49.below (below_alloc _ _)⟩
      refine Rgb.op_turn (fun w' u => OwnRows w' w7.heap.size 23 24 u (((l.map fun a => rowS P a.x) ++ [rowS P x]).map u64v)) [0, 4] rfl ?_ rfl (by kernel_rfl) ?_ ?_
      · exact fun w1 w2 v hk h => h.below hk
      · intro wx hb hb1
        refine Rgb.from_is (some 60) rfl rfl ?_
        refine Rgb.from_of (some 64) rfl rfl fun v64 h64 => ?_
        refine Rgb.from_nil fun T hT => ?_
        obtain ⟨g, Ar, cr, rfl, hg, _, ⟨_, _, _, ht⟩⟩ := h64
        refine wpList_push_at elt_rowsA _ rfl _ _ rfl w7.heap.size (HV.out.2.1.below hb1) rfl (.slice Ar (rowS P x).length cr) g rfl hg rfl (by rw [HVS.out.1]; omega) (by rw [HVS.out.1]; omega) (Nat.le_trans HV.out.2.2.2 hb1.size) ?_
        intro v' w' hown' hgr _
        go_wp2
        exact hT _ _ rfl hgr (by rw [List.map_append]; exact OwnRows.push (by decide) HVS.out.2.1 (fun j u xs h1 h2 => (HV.out.1 j u xs h1 h2).below hb1) (HV.out.2.1.below hb1) ht.rowT hown' fun k h1 h2 => hgr.block k h1 h2)
      refine' Rgb.op_is _ [] rfl rfl (by kernel_rfl) ?_ ?_
      rotate_left
      · intro wx hb
        refine Rgb.from_nil fun T hT => ?_
        go_wp2
        refine hT _ _ rfl (by first | exact Rgb.Keep.refl _ | exact below_of_dr hw2 | exact hw2 | exact (Below.refl _ _).alloc (Nat.le_refl _) _) ?_
        simp only [Rgb.last, List.getElem?_toArray, List.getElem?_cons_succ, List.getElem?_cons_zero, Option.getD_some]
        rfl
      refine' Rgb.op_is _ [] rfl rfl (by kernel_rfl) ?_ ?_
      rotate_left
      · intro wx hb
        refine Rgb.from_nil fun T hT => ?_
        go_wp2
        refine hT _ _ rfl (by first | exact Rgb.Keep.refl _ | exact below_of_dr hw2 | exact hw2 | exact (Below.refl _ _).alloc (Nat.le_refl _) _) ?_
        simp only [Rgb.last, List.getElem?_toArray, List.getElem?_cons_succ, List.getElem?_cons_zero, Option.getD_some]
        rfl
      refine Rgb.op_is (.int .u64 P.Q) [7] rfl rfl (by kernel_rfl) ?_ ?_
      · intro wx hb
        refine Rgb.from_is (some 67) rfl rfl ?_
        refine Rgb.from_nil fun T hT => ?_
        obtain ⟨p0, p1, p2, p3, p4, p5, p6, p7, p8, p9, p10, p11⟩ := par_cells (HP10.out.keep (hb.block _ HP10.out.lt HNE.out))
        go_wp2
        exact hT _ _ rfl (by first | exact Rgb.Keep.refl _ | exact below_of_dr hw2 | exact hw2 | exact (Below.refl _ _).alloc (Nat.le_refl _) _) (by first | rfl | exact congrArg _ (by decide))
      refine Rgb.op_of (fun w' v => SolT w10.heap.size w' v out E) [5, 6, 8] rfl ?_ ?_ rfl (by kernel_rfl) ?_ ?_
      · exact fun w1 w2 v hk h => h.below hk
      · exact fun w1 w2 v hk h => h.grown hk HOB.out.1
      · intro wx hb
        refine Rgb.from_of (some 65) rfl rfl fun v65 h65 => ?_
        refine Rgb.from_is (some 66) rfl rfl ?_
        refine Rgb.from_is (some 68) rfl rfl ?_
        refine Rgb.from_nil fun T hT => ?_
        obtain ⟨AR, cR, rfl, hgR⟩ := OwnRows.grid h65
        rw [HFL.out.1]
        go_wp2_with (go_at_call 25; refine (HSOL.out AR cR _ (HBX.out _ hb) hgR (HSET.out.keep (hb.block _ HSET.out.lt HNR.out)).cells).mono ?_; rintro e w9 ⟨v9, rfl, o9, hb9⟩)
        exact hT _ _ rfl hb9 ⟨_, rfl, OwnN.of_ o9 hb.size⟩
      refine Rgb.op_of (fun w' v => SolT w10.heap.size w' v out E) [9] rfl ?_ ?_ rfl (by kernel_rfl) ?_ ?_
      · exact fun w1 w2 v hk h => h.below hk
      · exact fun w1 w2 v hk h => h.grown hk HOB.out.1
      · intro wx hb
        refine Rgb.from_of (some 69) rfl rfl fun v69 h69 => ?_
        refine Rgb.from_nil fun T hT => ?_
        obtain ⟨v69, rfl, k69⟩ := h69
        go_wp2
        exact hT _ _ rfl (Rgb.Keep.refl _) ⟨_, rfl, k69⟩
      refine Rgb.op_of (fun w' v => OwnN w10.heap.size w' v out) [10] rfl ?_ ?_ rfl (by kernel_rfl) ?_ ?_
      · exact fun w1 w2 v hk h => h.below hk
      · exact fun w1 w2 v hk h => h.grown hk HOB.out.1
      · intro wx hb
        refine Rgb.from_of (some 59) rfl rfl fun v59 h59 => ?_
        refine Rgb.from_nil fun T hT => ?_
        obtain ⟨v59, rfl, k59⟩ := h59
        go_wp2
        exact hT _ _ rfl (Rgb.Keep.refl _) k59
      refine Rgb.op_of (fun w' v => v = .int .i64 E) [10] rfl ?_ ?_ rfl (by kernel_rfl) ?_ ?_
      · exact fun w1 w2 v hk h => h
      · exact fun w1 w2 v hk h => h
      · intro wx hb
        refine Rgb.from_of (some 59) rfl rfl fun v59 h59 => ?_
        refine Rgb.from_nil fun T hT => ?_
        obtain ⟨v59, rfl, k59⟩ := h59
        go_wp2
        exact hT _ _ rfl (Rgb.Keep.refl _) rfl
      refine Rgb.op_of (fun w' v => OwnN w10.heap.size w' v out) [11] rfl ?_ ?_ rfl (by kernel_rfl) ?_ ?_
      · exact fun w1 w2 v hk h => h.below hk
      · exact fun w1 w2 v hk h => h.grown hk HOB.out.1
      · intro wx hb
        refine Rgb.from_of (some 70) rfl rfl fun v70 h70 => ?_
        refine Rgb.from_nil fun T hT => ?_
        go_wp2
        exact hT _ _ rfl (Rgb.Keep.refl _) h70
      refine Rgb.walk_nil [0, 1, 2, 3, 4, 5, 6, 7, 8, 9, 10, 11, 12, 13] (by kernel_rfl) ?_
      intro wx hb
      refine Rgb.from_is (some 60) rfl rfl ?_
      refine Rgb.from_is (some 61) rfl rfl ?_
      refine Rgb.from_is (some 62) rfl rfl ?_
      refine Rgb.from_of (some 63) rfl rfl fun v63 h63 => ?_
      refine Rgb.from_of (some 64) rfl rfl fun v64 h64 => ?_
      refine Rgb.from_of (some 65) rfl rfl fun v65 h65 => ?_
      refine Rgb.from_is (some 66) rfl rfl ?_
      refine Rgb.from_is (some 67) rfl rfl ?_
      refine Rgb.from_is (some 68) rfl rfl ?_
      refine Rgb.from_of (some 69) rfl rfl fun v69 h69 => ?_
      refine Rgb.from_of (some 59) rfl rfl fun v59 h59 => ?_
      refine Rgb.from_of (some 70) rfl rfl fun v70 h70 => ?_
      refine Rgb.from_of (some 71) rfl rfl fun v71 h71 => ?_
      refine Rgb.from_of (some 10) rfl rfl fun v10 h10 => ?_
      refine Rgb.from_nil ?_
      simp only [List.map, Act.put, List.setIfInBounds_toArray, List.set_cons_zero, List.set_cons_succ]
      obtain rfl := h71
      obtain ⟨A10, c10, rfl, hO12⟩ := h10
      have hbx := HBX.out wx hb
      have hPx := HP10.out.keep (hb.block _ HP10.out.lt HNE.out)
      obtain ⟨A11, c11, e11, hC12⟩ := hO12.form
      rw [List.length_map] at e11
      simp only [Value.slice.injEq, true_and] at e11
      obtain ⟨rfl, rfl⟩ := e11
      have HX := hid (⟨hbx, hPx, hC12⟩ : _ ∧ _ ∧ _)
      clear hb hbx hPx hO12 hC12 h59 h69 h63 h64 h70 h65 HSOL HROW HSET HV HBX HOB HNE HNR HP10
      generalize wx = w11 at *
      go_upto_region 15 with (fail)
      obtain ⟨p0, p1, p2, p3, p4, p5, p6, p7, p8, p9, p10, p11⟩ := par_cells HX.out.2.1
      go_wp2_with (fail)
      clear p0 p1 p2 p3 p4 p5 p6 p7 p8 p9 p10 p11
      refine (afollows_c P HPo.out A l c A2 x c2 w11 (HA.out.below HX.out.1) HL.out (HA2.out.below HX.out.1) (by omega) HXU.out (HT.out.below HX.out.1)).mono ?_
      rintro e w12 ⟨rfl, hb12⟩
      have HX2 := hid (⟨below_next HX.out.1 HX.out.1.size hb12, HX.out.2.1.below hb12, HX.out.2.2.below hb12⟩ : _ ∧ _ ∧ _)
      have hfo : followsP P l x = hangsV (l.map fun a => rowS P a.x) (rowS P x) P.Q := by unfold followsP; rw [HFL.out.2.1]
      clear hb12 HX
      cases hh : followsP P l x with
      | true =>
        have h5 := HLAW.out.1 (by rw [← hfo]; exact hh)
        simp only [Prod.mk.injEq] at h5
        obtain ⟨_, rfl⟩ := h5
        clear hh hfo
        go_wp2
        go_ret
        exact ⟨rfl, HX2.out.1⟩
      | false =>
        obtain ⟨out', he, hol, hou, hr0, hx1⟩ := HLAW.out.2 (by rw [← hfo]; exact hh)
        simp only [Prod.mk.injEq] at he
        obtain ⟨rfl, rfl⟩ := he
        have hol2 : out.length ≤ 100000 := by rw [hol]; exact HFL.out.2.2
        have HD := hid (⟨hou, hr0, hx1⟩ : _ ∧ _ ∧ _)
        clear hh hfo hol hou hr0 hx1 HLAW HFL
        go_wp2
        go_loopw [12] (fun i wr => ∃ n : Nat, i = .int .i64 (n : Int) ∧ n ≤ l.length ∧ Hid (Below w12.heap.size w12 wr)) (fun i _ => l.length - (intOf i).toNat)
        case atStart => exact ⟨0, rfl, by omega, hid (Below.refl _ _)⟩
        case round =>
          obtain ⟨n, rfl, hn, HI⟩ := hrel
          have HPR := hid (HX2.out.2.1.below HI.out)
          have HCR := hid (HX2.out.2.2.below HI.out)
          have HBR := hid (below_next HX2.out.1 HX2.out.1.size HI.out)
          by_cases hlt : n < l.length
          · have hlt' : (n : Int) < (l.length : Int) := by omega
            obtain ⟨a, ha⟩ := get_of_lt hlt
            obtain ⟨bk, off, Aa, ca, rfl, _, cxa, csa, _⟩ := (HA.out.below HBR.out).at_ ha
            have ham := List.mem_of_getElem? ha
            have hal := HL4.out a ham
            have hua := HL.out.x a ham
            have HCA := hid csa
            have hz := HD.out.2.1 (rowS P a.x) (List.mem_map_of_mem ham)
            have HDOT := hid (fun wx (hb : Below wr.heap.size wr wx) => by
              have := fdot_c P HPo.out A10 Aa out a.x c10 ca wx (HCR.out.below hb) (HCA.out.below hb) (by omega) (by omega) HD.out.1 hua
              rw [dotS_one HFT.out HOK.out.2.1 HOKM.out, hz] at this
              exact this)
            clear ha csa ham hz
            go_wp2
            refine Rg.wp_region (l := [_, _, _, _, _, _, _]) (tail := [_, _]) (Rg.grows _ 9) [some 86, some 87, some 88, some 89, some 90, some 91, some 92, some 93, some 13] 116 (by kernel_rfl) (by kernel_rfl) (by kernel_rfl) rfl (Rg.grows_fair _ _) (Rg.keep_drew _) (trivial) ?_
            refine Rg.op_is ((pval P)) [] rfl rfl (by kernel_rfl) ?_ ?_
            · intro wx hb
              refine Rg.from_nil fun T hT => ?_
              obtain ⟨p0, p1, p2, p3, p4, p5, p6, p7, p8, p9, p10, p11⟩ := par_cells (HPR.out.below hb)
              go_wp2
              exact hT _ _ rfl (by first | exact Rg.Keep.refl _ | exact below_of_dr hw2 | exact hw2 | exact (Below.refl _ _).alloc (Nat.le_refl _) _) (by first | rfl | exact congrArg _ (by decide))
            refine' Rg.op_is _ [] rfl rfl (by kernel_rfl) ?_ ?_
            rotate_left
            · intro wx hb
              refine Rg.from_nil fun T hT => ?_
              go_wp2
              refine hT _ _ rfl (by first | exact Rg.Keep.refl _ | exact below_of_dr hw2 | exact hw2 | exact (Below.refl _ _).alloc (Nat.le_refl _) _) ?_
              simp only [Rg.last, List.getElem?_toArray, List.getElem?_cons_succ, List.getElem?_cons_zero, Option.getD_some]
              rfl
            refine' Rg.op_is _ [] rfl rfl (by kernel_rfl) ?_ ?_
            rotate_left
            · intro wx hb
              refine Rg.from_nil fun T hT => ?_
              go_wp2
              refine hT _ _ rfl (by first | exact Rg.Keep.refl _ | exact below_of_dr hw2 | exact hw2 | exact (Below.refl _ _).alloc (Nat.le_refl _) _) ?_
              simp only [Rg.last, List.getElem?_toArray, List.getElem?_cons_succ, List.getElem?_cons_zero, Option.getD_some]
              rfl
            refine' Rg.op_is _ [] rfl rfl (by kernel_rfl) ?_ ?_
            rotate_left
            · intro wx hb
              refine Rg.from_nil fun T hT => ?_
              go_wp2
              refine hT _ _ rfl (by first | exact Rg.Keep.refl _ | exact below_of_dr hw2 | exact hw2 | exact (Below.refl _ _).alloc (Nat.le_refl _) _) ?_
              simp only [Rg.last, List.getElem?_toArray, List.getElem?_cons_succ, List.getElem?_cons_zero, Option.getD_some]
              rfl
            refine Rg.op_is (.pointer (some ⟨bk, off + n * 2, none⟩)) [2, 3] rfl rfl (by kernel_rfl) ?_ ?_
            · intro wx hb
              refine Rg.from_is (some 88) rfl rfl ?_
              refine Rg.from_is (some 89) rfl rfl ?_
              refine Rg.from_nil fun T hT => ?_
              go_wp2
              exact hT _ _ rfl (by first | exact Rg.Keep.refl _ | exact below_of_dr hw2 | exact hw2 | exact (Below.refl _ _).alloc (Nat.le_refl _) _) (by first | rfl | exact congrArg _ (by decide))
            refine Rg.op_is (.pointer (some ⟨bk, off + n * 2 + 1, none⟩)) [4] rfl rfl (by kernel_rfl) ?_ ?_
            · intro wx hb
              refine Rg.from_is (some 90) rfl rfl ?_
              refine Rg.from_nil fun T hT => ?_
              go_wp2
              exact hT _ _ rfl (by first | exact Rg.Keep.refl _ | exact below_of_dr hw2 | exact hw2 | exact (Below.refl _ _).alloc (Nat.le_refl _) _) (by first | rfl | exact congrArg _ (by decide))
            refine Rg.op_is (.slice Aa a.x.length ca) [5] rfl rfl (by kernel_rfl) ?_ ?_
            · intro wx hb
              refine Rg.from_is (some 91) rfl rfl ?_
              refine Rg.from_nil fun T hT => ?_
              have g1 := (hb.cell (lt_of_cell cxa)).trans cxa
              go_wp2
              exact hT _ _ rfl (by first | exact Rg.Keep.refl _ | exact below_of_dr hw2 | exact hw2 | exact (Below.refl _ _).alloc (Nat.le_refl _) _) (by first | rfl | exact congrArg _ (by decide))
            refine Rg.walk_nil [0, 1, 2, 3, 4, 5, 6] (by kernel_rfl) ?_
            intro wx hb
            refine Rg.from_is (some 86) rfl rfl ?_
            refine Rg.from_is (some 87) rfl rfl ?_
            refine Rg.from_is (some 88) rfl rfl ?_
            refine Rg.from_is (some 89) rfl rfl ?_
            refine Rg.from_is (some 90) rfl rfl ?_
            refine Rg.from_is (some 91) rfl rfl ?_
            refine Rg.from_is (some 92) rfl rfl ?_
            refine Rg.from_nil ?_
            simp only [List.map, Act.put, List.setIfInBounds_toArray, List.set_cons_zero, List.set_cons_succ]
            have HB9 := hid hb
            clear hb cxa
            go_wp2_with (go_at_call 69; refine (HDOT.out wx HB9.out).mono ?_; rintro e w13 ⟨v13, rfl, o13, hb13⟩; obtain ⟨g13, cp13, e13, _, _, hc13, _⟩ := o13.row (by simp); simp only [List.map_cons, List.map_nil, List.length_cons, List.length_nil, Nat.zero_add] at e13; subst e13; have hc0 := hc13 0 _ rfl; have HN := hid (below_next (below_next HI.out HI.out.size HB9.out) (Nat.le_trans HI.out.size HB9.out.size) hb13); clear o13 hb13 hc13)
            go_roundw
            case rel => exact ⟨n + 1, by go_num, by omega, HN⟩
            case measure => simp [intOf]; omega
          · obtain rfl : n = l.length := by omega
            have hlt' : ¬ ((l.length : Int) < (l.length : Int)) := by omega
            have HDOT := hid (by
              have := fdot_c P HPo.out A10 A2 out x c10 c2 wr HCR.out (HA2.out.below HBR.out) (by omega) (by omega) HD.out.1 HXU.out
              rw [dotS_one HFT.out HOK.out.2.1 HOKM.out, HD.out.2.2] at this
              exact this)
            obtain ⟨p0, p1, p2, p3, p4, p5, p6, p7, p8, p9, p10, p11⟩ := par_cells HPR.out
            go_wp2_with (fail)
            clear p0 p1 p2 p3 p4 p5 p6 p7 p8 p9 p10 p11
            refine HDOT.out.mono ?_
            rintro e w13 ⟨v13, rfl, o13, hb13⟩
            obtain ⟨g13, cp13, e13, _, _, hc13, _⟩ := o13.row (by simp)
            simp only [List.map_cons, List.map_nil, List.length_cons, List.length_nil, Nat.zero_add] at e13
            subst e13
            have hc0 := hc13 0 _ rfl
            have HE := hid (below_next HBR.out HBR.out.size hb13)
            clear o13 hb13 hc13
            go_wp2
            go_ret
            exact ⟨rfl, HE.out⟩
end Go.Proofs.YtcojnjhffmhbiaaDoor
