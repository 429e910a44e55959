/-
  AdmitFollows: what the program does.
-/
import Derived.Test.YtcojnjhffmhbiaaDoorAdmQ1
import Derived.Test.YtcojnjhffmhbiaaDoorAdmQ2
import Derived.Test.YtcojnjhffmhbiaaDoorAdmQ3
import Derived.Test.YtcojnjhffmhbiaaDoorAdmQ4
import Derived.Test.YtcojnjhffmhbiaaDoorAdmQ5
import Derived.Test.YtcojnjhffmhbiaaDoorAdmQ6
import Derived.Test.YtcojnjhffmhbiaaDoorAdmQ7
import Derived.Test.YtcojnjhffmhbiaaDoorAdmQ8
import Derived.Test.YtcojnjhffmhbiaaDoorAdmQ9
import Derived.Test.YtcojnjhffmhbiaaDoorAdQ
import Derived.Test.YtcojnjhffmhbiaaDoorGroA
import Derived.Deep.Cut
import Derived.Deep.DeepCutAuto
import Derived.BigQuiet
namespace Go.Proofs.YtcojnjhffmhbiaaDoor
open Go Go.RowKit Go.Maps Go.Shelf Go.Proofs

attribute [local go_sem] Oper.semAt_some

def IntV (v : Value) : Prop := ∃ n : Int, v = .int .i64 n ∧ I64 n
theorem i64_wrap (m : Int) : I64 (wrap64 m) := by constructor <;> (unfold wrap64; omega)
theorem i64_tmod {z : Int} (_h : I64 z) (m : Nat) (hm : 0 < m) (hm2 : m ≤ 1000) : I64 (z.tmod (m : Int)) := by
  have h1 := Int.tmod_lt_of_pos z (show (0 : Int) < m by omega)
  have h2 : -(m : Int) < z.tmod m := by
    rcases Int.le_total 0 z with h | h
    · have := Int.tmod_nonneg (m : Int) h; omega
    · have := Int.tmod_lt_of_pos (-z) (show (0 : Int) < m by omega)
      rw [Int.neg_tmod] at this; omega
  exact ⟨by omega, by omega⟩
/-- a row that is made. -/
def MixRel (w0 wr : World) (v : Value) (n : Nat) : Prop := ∃ xs : List Int, Own wr w0.heap.size 2 v (xs.map (.int .i64)) ∧ xs.length = n ∧ I64s xs ∧ Below w0.heap.size w0 wr
def AskRel (w0 wx : World) (A : Option Addr) (x : List Int) : Prop := x.length ≤ 40 ∧ I64s x ∧ Cells wx A (x.map (.int .i64)) ∧ Below w0.heap.size w0 wx
set_option maxRecDepth 100000 in
set_option maxHeartbeats 1600000 in
theorem admitFollows_c (p : Par) (hp : p.ok) (A : Option Addr) (l : List Ask) (c : Nat) (id : Int) (A2 : Option Addr) (x : List Int) (c2 : Nat) (a0 : Int) (mix : Bool) (w : World) (hA : Asks w A l) (hln : l.length ≤ 9223372036854775807) (hli : ∀ a ∈ l, I64 a.id) (hlx : ∀ a ∈ l, I64s a.x)
    (hA2 : Cells w A2 (x.map (.int .i64))) (_hxl : x.length ≤ 9223372036854775807) (hxu : I64s x) (ha0 : I64 a0) (hTab : Tabs w) (hpr : ∀ q : Int, primeV q = true → Go.Psi.Pr q.toNat) [DecidableEq Lit] :
    Calls Tryd.prog 7 #[pval p, .slice A l.length c, .int .i64 id, .slice A2 x.length c2, .int .i64 a0, .bool mix] w fun e w' => e = .returned (.bool true) ∧ Below w.heap.size w w' := by
  have hb0 := below_alloc w (.cells (pcells p).toArray 43)
  have hP := row1_new w (pcells p) 43
  have HA := hid hA
  have HA2 := hid hA2
  have HT := hid hTab
  have HLI := hid hli
  have HLX := hid hlx
  have HXU := hid hxu
  clear hA hTab hli hlx hA2 hxu
  go_enter Tryd.func7, Tryd.ntmps7
  go_upto_region 1 with (fail)
  simp only [List.toArray] at hb0 hP
  generalize w.alloc (.cells #[.int .u64 p.P, .int .u64 p.Q, .int .u64 p.G, .int .u64 p.H, .int .i64 p.Nodes, .int .i64 p.N, .int .i64 p.T, .int .i64 p.K, .int .i64 p.D, .int .i64 p.R, .int .i64 p.M, .int .i64 p.X] 43) = w1 at *
  go_wp2_with (fail)
  refine (large21_c A l c w1 (HA.out.below hb0) hln).mono ?_
  rintro e w2 ⟨⟨bl, rfl, hfew⟩, hb⟩
  have hb2 := below_next hb0 hb0.size hb
  have hP2 := hP.below hb
  have HF := hid hfew
  clear hb hb0 hP hfew
  cases bl with
  | true =>
    go_wp2_with (fail)
    refine (awake21_c w2 (HT.out.below hb2)).mono ?_
    rintro e w9 ⟨rfl, hb9⟩
    have HE := hid (below_next hb2 (hb2).size hb9)
    clear hb9
    go_wp2
    go_ret
    exact ⟨rfl, HE.out⟩
  | false =>
  obtain ⟨hl10, hl40⟩ := HF.out rfl
  have HL := hid (⟨by omega, HLI.out, HLX.out, fun a ha => by have := hl40 a ha; omega⟩ : AskOk l)
  have HL4 := hid hl40
  clear hl40 HF
  by_cases hx40 : (x.length : Int) > 40
  case pos =>
    go_wp2_with (fail)
    refine (awake21_c w2 (HT.out.below hb2)).mono ?_
    rintro e w9 ⟨rfl, hb9⟩
    have HE := hid (below_next hb2 (hb2).size hb9)
    clear hb9
    go_wp2
    go_ret
    exact ⟨rfl, HE.out⟩
  go_wp2_with (fail)
  refine (awake21_c w2 (HT.out.below hb2)).mono ?_
  rintro e w3 ⟨rfl, hb⟩
  have hb3 := below_next hb2 hb2.size hb
  have hP3 := hP2.below hb
  clear hb hb2 hP2
  obtain ⟨p0, p1, p2, p3, p4, p5, p6, p7, p8, p9, p10, p11⟩ := par_cells hP3
  go_wp2_with (fail)
  clear p0 p1 p2 p3 p4 p5 p6 p7 p8 p9 p10 p11
  refine (prime21_c p hp w3 (HT.out.below hb3)).mono ?_
  rintro e w4 ⟨rfl, hb⟩
  have hb4 := below_next hb3 hb3.size hb
  have hP4 := hP3.below hb
  obtain ⟨hpo, hpv, hpR⟩ := prPar_ok hp
  have hpp := hpr _ hpv
  generalize prPar p = p' at *
  clear hb hb3 hP3 hpR hpr
  have HPV := hid (⟨hpv, hpp⟩ : _ ∧ _)
  clear hpv hpp
  obtain ⟨z0, z1, z2, z3, z4, z5, z6, z7, z8, z9, z10, z11⟩ := par_cells hP4
  obtain ⟨f0, f1, f2, f3, f4, f5, f6, f7, f8, f9, f10, f11⟩ := par_frozen hP4
  have HQ := hid (⟨parLaid_row (p := p') hP4, parLaid_below (p := p') hb4 (Nat.le_refl _)⟩ : Row1 (parLaid w4 w.heap.size p') w.heap.size 43 (pcells p') ∧ Below w.heap.size w (parLaid w4 w.heap.size p'))
  clear hb4 hP4
  go_upto_region 4 with (fail)
  obtain ⟨w5, hw5⟩ : ∃ w5, parLaid w4 w.heap.size p' = w5 := ⟨_, rfl⟩
  rw [hw5] at HQ
  unfold parLaid at hw5
  rw [hw5]
  clear hw5 z0 z1 z2 z3 z4 z5 z6 z7 z8 z9 z10 z11 f0 f1 f2 f3 f4 f5 f6 f7 f8 f9 f10 f11
  go_cut [48] from 30 to 48 (fun s wx => ∃ bc : Bool, s = .bool bc ∧ Hid (bc = true → ∃ a b : Ask, l[0]? = some a ∧ l[1]? = some b ∧ a.x.length = b.x.length) ∧ Hid (Dr w5 wx))
  case first =>
    cases mix with
    | false =>
      go_quiet (fail)
      have HD := hid (⟨nq, rfl⟩ : Dr w5 (w5.drewN nq))
      go_wp2
      go_meet
      case rel => exact ⟨false, rfl, hid fun h => (by cases h), HD⟩
    | true =>
      by_cases h2 : 1 < l.length
      · have h2' : (l.length : Int) > 1 := by omega
        have h2'' : (0 : Int) < (l.length : Int) := by omega
        obtain ⟨a, ha⟩ := get_of_lt (l := l) (k := 0) (by omega)
        obtain ⟨b, hb⟩ := get_of_lt h2
        obtain ⟨bk, off, Aa, ca, rfl, _, cxa, _, _⟩ := (HA.out.below HQ.out.2).at_ ha
        obtain ⟨bk2, off2, Ab, cb, e2, _, cxb, _, _⟩ := (HA.out.below HQ.out.2).at_ hb
        simp only [Option.some.injEq, Addr.mk.injEq, and_true] at e2
        obtain ⟨rfl, rfl⟩ := e2
        simp only [Nat.zero_mul, Nat.add_zero, Nat.one_mul] at cxa cxb
        have HH := hid (⟨ha, hb⟩ : _ ∧ _)
        clear ha hb
        obtain ⟨bq, hbq⟩ : ∃ bq, ((a.x.length : Int) == (b.x.length : Int)) = bq := ⟨_, rfl⟩
        have HBE := hid (show bq = true → ∃ a b : Ask, l[0]? = some a ∧ l[1]? = some b ∧ a.x.length = b.x.length from fun h => by
          rw [h] at hbq
          have h9 : (a.x.length : Int) = (b.x.length : Int) := by simpa using hbq
          exact ⟨a, b, HH.out.1, HH.out.2, by omega⟩)
        go_quiet (fail)
        have HD := hid (⟨nq, rfl⟩ : Dr w5 (w5.drewN nq))
        clear cxa cxb hbq
        go_wp2
        go_meet
        case rel => exact ⟨bq, rfl, HBE, HD⟩
      · have h2' : ¬ (l.length : Int) > 1 := by omega
        go_quiet (fail)
        have HD := hid (⟨nq, rfl⟩ : Dr w5 (w5.drewN nq))
        go_wp2
        go_meet
        case rel => exact ⟨false, rfl, hid fun h => (by cases h), HD⟩
  case rest =>
  obtain ⟨bc, rfl, HC, HD⟩ := hcut
  have HQ6 := hid (⟨HQ.out.1.below (below_of_dr HD.out), below_dr HQ.out.2 HD.out⟩ : Row1 wc w.heap.size 43 (pcells p') ∧ Below w.heap.size w wc)
  generalize wc = w6 at *
  clear HQ HD
  go_upto_if 48 with (fail)
  go_cut [3, 4, 13] from 49 to 84 (fun s3 _ _ wx => ∃ (A3 : Option Addr) (c3 : Nat) (x' : List Int), s3 = .slice A3 x'.length c3 ∧ Hid (AskRel w6 wx A3 x'))
  case first =>
    cases bc with
    | false =>
      have HN := hid (show AskRel w6 w6 A2 x from ⟨by omega, HXU.out, HA2.out.below HQ6.out.2, Below.refl _ _⟩)
      go_wp2
      go_meet
      case rel => exact ⟨A2, c2, x, rfl, HN⟩
    | true =>
      obtain ⟨a, b, ha, hb, hab⟩ := HC.out rfl
      obtain ⟨bk, off, Aa, ca, rfl, _, cxa, csa, _⟩ := (HA.out.below HQ6.out.2).at_ ha
      obtain ⟨bk2, off2, Ab, cb, e2, _, cxb, csb, _⟩ := (HA.out.below HQ6.out.2).at_ hb
      simp only [Option.some.injEq, Addr.mk.injEq, and_true] at e2
      obtain ⟨rfl, rfl⟩ := e2
      have cxa2 : w6.cell? ⟨bk, off + 1, none⟩ = some (.slice Aa a.x.length ca) := cxa
      have cxb2 : w6.cell? ⟨bk, off + 3, none⟩ = some (.slice Ab b.x.length cb) := cxb
      have hal := HL4.out a (List.mem_of_getElem? ha)
      have hua := HL.out.x a (List.mem_of_getElem? ha)
      have hub := HL.out.x b (List.mem_of_getElem? hb)
      have hl1 : (0 : Int) < (l.length : Int) := by have := (List.getElem?_eq_some_iff.1 hb).1; omega
      have hl2 : (1 : Int) < (l.length : Int) := by have := (List.getElem?_eq_some_iff.1 hb).1; omega
      have HH := hid (⟨hab, hua, hub⟩ : _ ∧ _ ∧ _)
      have HCS := hid (⟨cxa2, cxb2, csa, csb⟩ : _ ∧ _ ∧ _ ∧ _)
      have hia : I64 (a0.tmod 100) := i64_tmod ha0 100 (by omega) (by omega)
      clear ha hb cxa cxb csa csb hab hua hub
      obtain ⟨a1, ha1⟩ : ∃ a1, a0.tmod 100 = a1 := ⟨_, rfl⟩
      rw [ha1] at hia
      go_wp2
      clear ha1 cxa2 cxb2
      go_loopw [3, 13] (fun v i wr => ∃ n : Nat, i = .int .i64 (n : Int) ∧ n ≤ a.x.length ∧ Hid (MixRel w6 wr v n)) (fun _ i _ => a.x.length - (intOf i).toNat)
      case atStart => exact ⟨0, rfl, by omega, hid ⟨[], Own.nil _ _ _, rfl, fun z h => (by cases h), Below.refl _ _⟩⟩
      case round =>
        obtain ⟨n, rfl, hn, HI⟩ := hrel
        obtain ⟨ys, hO, hyl, hyu, hbl⟩ := HI.out
        obtain ⟨A7, c7, e7, h7⟩ := hO.form
        rw [List.length_map, hyl] at e7
        subst e7
        have ca1 := (hbl.cell (lt_of_cell HCS.out.1)).trans HCS.out.1
        have cb1 := (hbl.cell (lt_of_cell HCS.out.2.1)).trans HCS.out.2.1
        by_cases hlt : n < a.x.length
        · have hlt' : (n : Int) < (a.x.length : Int) := by omega
          have hltb : (n : Int) < (b.x.length : Int) := by have := HH.out.1; omega
          obtain ⟨za, hza⟩ := get_of_lt hlt
          obtain ⟨zb, hzb⟩ := get_of_lt (l := b.x) (k := n) (by omega)
          obtain ⟨ba, oa, rfl, da0⟩ := HCS.out.2.2.1.at_map hza
          obtain ⟨bb, ob, rfl, db0⟩ := HCS.out.2.2.2.at_map hzb
          have da := (hbl.cell (lt_of_cell da0)).trans da0
          have db := (hbl.cell (lt_of_cell db0)).trans db0
          have hua := HH.out.2.1 za (List.mem_of_getElem? hza)
          have hub := HH.out.2.2 zb (List.mem_of_getElem? hzb)
          have HO := hid (⟨hO, hyl, hyu, hbl⟩ : _ ∧ _ ∧ _ ∧ _)
          clear hza hzb da0 db0 hO hyl hyu h7 HI hbl
          go_wp2
          refine Rg.wp_region (l := [_, _, _, _, _, _, _, _, _, _, _, _, _, _, _, _, _, _, _, _, _, _, _, _]) (tail := [_, _]) (Rg.grows _ 26) [some 60, some 61, some 62, some 63, some 64, some 65, some 66, some 67, some 68, some 69, some 70, some 71, some 72, some 73, some 74, some 75, some 76, some 77, some 78, some 79, some 80, some 81, some 82, some 83, some 84, some 3] 118 (by kernel_rfl) (by kernel_rfl) (by kernel_rfl) rfl (Rg.grows_fair _ _) (Rg.keep_drew _) (trivial) ?_
          refine' Rg.op_is _ [] rfl rfl (by kernel_rfl) ?_ ?_
          rotate_left
          · intro wx hb
            refine Rg.from_nil fun T hT => ?_
            go_wp2
            refine hT _ _ rfl (by first | exact Rg.Keep.refl _ | exact below_of_dr hw2 | exact hw2 | exact (Below.refl _ _).alloc (Nat.le_refl _) _) ?_
            simp only [Rg.last, List.getElem?_toArray, List.getElem?_cons_succ, List.getElem?_cons_zero, Option.getD_some]
            rfl
          refine' Rg.op_is _ [] rfl rfl (by kernel_rfl) ?_ ?_
          rotate_left
          · intro wx hb
            refine Rg.from_nil fun T hT => ?_
            go_wp2
            refine hT _ _ rfl (by first | exact Rg.Keep.refl _ | exact below_of_dr hw2 | exact hw2 | exact (Below.refl _ _).alloc (Nat.le_refl _) _) ?_
            simp only [Rg.last, List.getElem?_toArray, List.getElem?_cons_succ, List.getElem?_cons_zero, Option.getD_some]
            rfl
          refine' Rg.op_is _ [] rfl rfl (by kernel_rfl) ?_ ?_
          rotate_left
          · intro wx hb
            refine Rg.from_nil fun T hT => ?_
            go_wp2
            refine hT _ _ rfl (by first | exact Rg.Keep.refl _ | exact below_of_dr hw2 | exact hw2 | exact (Below.refl _ _).alloc (Nat.le_refl _) _) ?_
            simp only [Rg.last, List.getElem?_toArray, List.getElem?_cons_succ, List.getElem?_cons_zero, Option.getD_some]
            rfl
          refine Rg.op_is (.pointer (some ⟨bk, off, none⟩)) [2] rfl rfl (by kernel_rfl) ?_ ?_
          · intro wx hb
            refine Rg.from_is (some 62) rfl rfl ?_
            refine Rg.from_nil fun T hT => ?_
            go_wp2
            exact hT _ _ rfl (by first | exact Rg.Keep.refl _ | exact below_of_dr hw2 | exact hw2 | exact (Below.refl _ _).alloc (Nat.le_refl _) _) (by first | rfl | exact congrArg _ (by decide))
          refine Rg.op_is (.pointer (some ⟨bk, off + 1, none⟩)) [3] rfl rfl (by kernel_rfl) ?_ ?_
          · intro wx hb
            refine Rg.from_is (some 63) rfl rfl ?_
            refine Rg.from_nil fun T hT => ?_
            go_wp2
            exact hT _ _ rfl (by first | exact Rg.Keep.refl _ | exact below_of_dr hw2 | exact hw2 | exact (Below.refl _ _).alloc (Nat.le_refl _) _) (by first | rfl | exact congrArg _ (by decide))
          refine Rg.op_is (.slice (some ⟨ba, oa, none⟩) a.x.length ca) [4] rfl rfl (by kernel_rfl) ?_ ?_
          · intro wx hb
            refine Rg.from_is (some 64) rfl rfl ?_
            refine Rg.from_nil fun T hT => ?_
            have g1 := (hb.cell (lt_of_cell ca1)).trans ca1
            go_wp2
            exact hT _ _ rfl (by first | exact Rg.Keep.refl _ | exact below_of_dr hw2 | exact hw2 | exact (Below.refl _ _).alloc (Nat.le_refl _) _) (by first | rfl | exact congrArg _ (by decide))
          refine' Rg.op_is _ [] rfl rfl (by kernel_rfl) ?_ ?_
          rotate_left
          · intro wx hb
            refine Rg.from_nil fun T hT => ?_
            go_wp2
            refine hT _ _ rfl (by first | exact Rg.Keep.refl _ | exact below_of_dr hw2 | exact hw2 | exact (Below.refl _ _).alloc (Nat.le_refl _) _) ?_
            simp only [Rg.last, List.getElem?_toArray, List.getElem?_cons_succ, List.getElem?_cons_zero, Option.getD_some]
            rfl
          refine Rg.op_is (.pointer (some ⟨ba, oa + n, none⟩)) [5, 6] rfl rfl (by kernel_rfl) ?_ ?_
          · intro wx hb
            refine Rg.from_is (some 65) rfl rfl ?_
            refine Rg.from_is (some 66) rfl rfl ?_
            refine Rg.from_nil fun T hT => ?_
            go_wp2
            exact hT _ _ rfl (by first | exact Rg.Keep.refl _ | exact below_of_dr hw2 | exact hw2 | exact (Below.refl _ _).alloc (Nat.le_refl _) _) (by first | rfl | exact congrArg _ (by decide))
          refine Rg.op_is (.int .i64 za) [7] rfl rfl (by kernel_rfl) ?_ ?_
          · intro wx hb
            refine Rg.from_is (some 67) rfl rfl ?_
            refine Rg.from_nil fun T hT => ?_
            have g1 := (hb.cell (lt_of_cell da)).trans da
            go_wp2
            exact hT _ _ rfl (by first | exact Rg.Keep.refl _ | exact below_of_dr hw2 | exact hw2 | exact (Below.refl _ _).alloc (Nat.le_refl _) _) (by first | rfl | exact congrArg _ (by decide))
          refine Rg.op_of (fun _ v => IntV v) [8] rfl ?_ ?_ rfl (by kernel_rfl) ?_ ?_
          · exact fun w1 w2 v hk h => h
          · exact fun w1 w2 v hk h => h
          · intro wx hb
            refine Rg.from_is (some 68) rfl rfl ?_
            refine Rg.from_nil fun T hT => ?_
            go_wp2
            exact hT _ _ rfl (Rg.Keep.refl _) ⟨_, rfl, by first | exact i64_wrap _ | exact i64_tmod hua 1000 (by omega) (by omega)⟩
          refine Rg.op_of (fun _ v => IntV v) [1, 9] rfl ?_ ?_ rfl (by kernel_rfl) ?_ ?_
          · exact fun w1 w2 v hk h => h
          · exact fun w1 w2 v hk h => h
          · intro wx hb
            refine Rg.from_is (some 61) rfl rfl ?_
            refine Rg.from_of (some 69) rfl rfl fun v69 h69 => ?_
            refine Rg.from_nil fun T hT => ?_
            obtain ⟨n69, rfl, _⟩ := h69
            go_wp2
            exact hT _ _ rfl (Rg.Keep.refl _) ⟨_, rfl, i64_wrap _⟩
          refine' Rg.op_is _ [] rfl rfl (by kernel_rfl) ?_ ?_
          rotate_left
          · intro wx hb
            refine Rg.from_nil fun T hT => ?_
            go_wp2
            refine hT _ _ rfl (by first | exact Rg.Keep.refl _ | exact below_of_dr hw2 | exact hw2 | exact (Below.refl _ _).alloc (Nat.le_refl _) _) ?_
            simp only [Rg.last, List.getElem?_toArray, List.getElem?_cons_succ, List.getElem?_cons_zero, Option.getD_some]
            rfl
          refine Rg.op_of (fun _ v => IntV v) [11] rfl ?_ ?_ rfl (by kernel_rfl) ?_ ?_
          · exact fun w1 w2 v hk h => h
          · exact fun w1 w2 v hk h => h
          · intro wx hb
            refine Rg.from_is (some 71) rfl rfl ?_
            refine Rg.from_nil fun T hT => ?_
            go_wp2
            exact hT _ _ rfl (Rg.Keep.refl _) ⟨_, rfl, by first | exact i64_wrap _ | exact ⟨by omega, by omega⟩⟩
          refine' Rg.op_is _ [] rfl rfl (by kernel_rfl) ?_ ?_
          rotate_left
          · intro wx hb
            refine Rg.from_nil fun T hT => ?_
            go_wp2
            refine hT _ _ rfl (by first | exact Rg.Keep.refl _ | exact below_of_dr hw2 | exact hw2 | exact (Below.refl _ _).alloc (Nat.le_refl _) _) ?_
            simp only [Rg.last, List.getElem?_toArray, List.getElem?_cons_succ, List.getElem?_cons_zero, Option.getD_some]
            rfl
          refine Rg.op_is (.pointer (some ⟨bk, off + 2, none⟩)) [13] rfl rfl (by kernel_rfl) ?_ ?_
          · intro wx hb
            refine Rg.from_is (some 73) rfl rfl ?_
            refine Rg.from_nil fun T hT => ?_
            go_wp2
            exact hT _ _ rfl (by first | exact Rg.Keep.refl _ | exact below_of_dr hw2 | exact hw2 | exact (Below.refl _ _).alloc (Nat.le_refl _) _) (by first | rfl | exact congrArg _ (by decide))
          refine Rg.op_is (.pointer (some ⟨bk, off + 3, none⟩)) [14] rfl rfl (by kernel_rfl) ?_ ?_
          · intro wx hb
            refine Rg.from_is (some 74) rfl rfl ?_
            refine Rg.from_nil fun T hT => ?_
            go_wp2
            exact hT _ _ rfl (by first | exact Rg.Keep.refl _ | exact below_of_dr hw2 | exact hw2 | exact (Below.refl _ _).alloc (Nat.le_refl _) _) (by first | rfl | exact congrArg _ (by decide))
          refine Rg.op_is (.slice (some ⟨bb, ob, none⟩) b.x.length cb) [15] rfl rfl (by kernel_rfl) ?_ ?_
          · intro wx hb
            refine Rg.from_is (some 75) rfl rfl ?_
            refine Rg.from_nil fun T hT => ?_
            have g1 := (hb.cell (lt_of_cell cb1)).trans cb1
            go_wp2
            exact hT _ _ rfl (by first | exact Rg.Keep.refl _ | exact below_of_dr hw2 | exact hw2 | exact (Below.refl _ _).alloc (Nat.le_refl _) _) (by first | rfl | exact congrArg _ (by decide))
          refine' Rg.op_is _ [] rfl rfl (by kernel_rfl) ?_ ?_
          rotate_left
          · intro wx hb
            refine Rg.from_nil fun T hT => ?_
            go_wp2
            refine hT _ _ rfl (by first | exact Rg.Keep.refl _ | exact below_of_dr hw2 | exact hw2 | exact (Below.refl _ _).alloc (Nat.le_refl _) _) ?_
            simp only [Rg.last, List.getElem?_toArray, List.getElem?_cons_succ, List.getElem?_cons_zero, Option.getD_some]
            rfl
          refine Rg.op_is (.pointer (some ⟨bb, ob + n, none⟩)) [16, 17] rfl rfl (by kernel_rfl) ?_ ?_
          · intro wx hb
            refine Rg.from_is (some 76) rfl rfl ?_
            refine Rg.from_is (some 77) rfl rfl ?_
            refine Rg.from_nil fun T hT => ?_
            go_wp2
            exact hT _ _ rfl (by first | exact Rg.Keep.refl _ | exact below_of_dr hw2 | exact hw2 | exact (Below.refl _ _).alloc (Nat.le_refl _) _) (by first | rfl | exact congrArg _ (by decide))
          refine Rg.op_is (.int .i64 zb) [18] rfl rfl (by kernel_rfl) ?_ ?_
          · intro wx hb
            refine Rg.from_is (some 78) rfl rfl ?_
            refine Rg.from_nil fun T hT => ?_
            have g1 := (hb.cell (lt_of_cell db)).trans db
            go_wp2
            exact hT _ _ rfl (by first | exact Rg.Keep.refl _ | exact below_of_dr hw2 | exact hw2 | exact (Below.refl _ _).alloc (Nat.le_refl _) _) (by first | rfl | exact congrArg _ (by decide))
          refine Rg.op_of (fun _ v => IntV v) [19] rfl ?_ ?_ rfl (by kernel_rfl) ?_ ?_
          · exact fun w1 w2 v hk h => h
          · exact fun w1 w2 v hk h => h
          · intro wx hb
            refine Rg.from_is (some 79) rfl rfl ?_
            refine Rg.from_nil fun T hT => ?_
            go_wp2
            exact hT _ _ rfl (Rg.Keep.refl _) ⟨_, rfl, by first | exact i64_wrap _ | exact i64_tmod hub 1000 (by omega) (by omega)⟩
          refine Rg.op_of (fun _ v => IntV v) [12, 20] rfl ?_ ?_ rfl (by kernel_rfl) ?_ ?_
          · exact fun w1 w2 v hk h => h
          · exact fun w1 w2 v hk h => h
          · intro wx hb
            refine Rg.from_of (some 72) rfl rfl fun v72 h72 => ?_
            refine Rg.from_of (some 80) rfl rfl fun v80 h80 => ?_
            refine Rg.from_nil fun T hT => ?_
            obtain ⟨n72, rfl, _⟩ := h72
            obtain ⟨n80, rfl, _⟩ := h80
            go_wp2
            exact hT _ _ rfl (Rg.Keep.refl _) ⟨_, rfl, i64_wrap _⟩
          refine Rg.op_of (fun _ v => IntV v) [10, 21] rfl ?_ ?_ rfl (by kernel_rfl) ?_ ?_
          · exact fun w1 w2 v hk h => h
          · exact fun w1 w2 v hk h => h
          · intro wx hb
            refine Rg.from_of (some 70) rfl rfl fun v70 h70 => ?_
            refine Rg.from_of (some 81) rfl rfl fun v81 h81 => ?_
            refine Rg.from_nil fun T hT => ?_
            obtain ⟨n70, rfl, _⟩ := h70
            obtain ⟨n81, rfl, _⟩ := h81
            go_wp2
            exact hT _ _ rfl (Rg.Keep.refl _) ⟨_, rfl, i64_wrap _⟩
          refine Rg.op_of (fun w' u => ∃ (g : Nat) (z : Int), u = Value.slice (some ⟨g, 0, none⟩) 1 1 ∧ Row1 w' g 2 [.int .i64 z] ∧ I64 z) [22] rfl ?_ ?_ rfl (by kernel_rfl) ?_ ?_
          · exact fun w1 w2 v hk ⟨g, z, e, h, h5⟩ => ⟨g, z, e, h.below hk, h5⟩
          · exact fun w1 w2 v hk ⟨g, z, e, h, h5⟩ => ⟨g, z, e, h.below hk, h5⟩
          · intro wx hb
            refine Rg.from_of (some 82) rfl rfl fun v82 h82 => ?_
            refine Rg.from_nil fun T hT => ?_
            obtain ⟨n82, rfl, h82⟩ := h82
            go_wp2
            exact hT _ _ rfl (below_alloc _ _) ⟨_, _, rfl, row1_new wx [_] 2, h82⟩
          refine Rg.walk_nil [0, 1, 2, 3, 4, 5, 6, 7, 8, 9, 10, 11, 12, 13, 14, 15, 16, 17, 18, 19, 20, 21, 22, 23] (by kernel_rfl) ?_
          intro wx hb
          refine Rg.from_is (some 60) rfl rfl ?_
          refine Rg.from_is (some 61) rfl rfl ?_
          refine Rg.from_is (some 62) rfl rfl ?_
          refine Rg.from_is (some 63) rfl rfl ?_
          refine Rg.from_is (some 64) rfl rfl ?_
          refine Rg.from_is (some 65) rfl rfl ?_
          refine Rg.from_is (some 66) rfl rfl ?_
          refine Rg.from_is (some 67) rfl rfl ?_
          refine Rg.from_is (some 68) rfl rfl ?_
          refine Rg.from_of (some 69) rfl rfl fun v69 h69 => ?_
          refine Rg.from_of (some 70) rfl rfl fun v70 h70 => ?_
          refine Rg.from_is (some 71) rfl rfl ?_
          refine Rg.from_of (some 72) rfl rfl fun v72 h72 => ?_
          refine Rg.from_is (some 73) rfl rfl ?_
          refine Rg.from_is (some 74) rfl rfl ?_
          refine Rg.from_is (some 75) rfl rfl ?_
          refine Rg.from_is (some 76) rfl rfl ?_
          refine Rg.from_is (some 77) rfl rfl ?_
          refine Rg.from_is (some 78) rfl rfl ?_
          refine Rg.from_is (some 79) rfl rfl ?_
          refine Rg.from_of (some 80) rfl rfl fun v80 h80 => ?_
          refine Rg.from_of (some 81) rfl rfl fun v81 h81 => ?_
          refine Rg.from_of (some 82) rfl rfl fun v82 h82 => ?_
          refine Rg.from_of (some 83) rfl rfl fun v83 h83 => ?_
          refine Rg.from_nil ?_
          simp only [List.map, Act.put, List.setIfInBounds_toArray, List.set_cons_zero, List.set_cons_succ]
          obtain ⟨g30, z30, rfl, hg30, hz30⟩ := h83
          obtain ⟨hO, hyl, hyu, hbl⟩ := HO.out
          have hbw := hbl.size
          have hln9 : (ys.map (Value.int .i64)).length = n := by rw [List.length_map, hyl]
          have HLN := hid hln9
          clear hln9 hyl
          refine wpList_push_at elt_i64 _ rfl _ _ rfl w6.heap.size (hO.below hb) rfl (.int .i64 z30) g30 rfl hg30 rfl (by rw [HLN.out]; omega) (by rw [HLN.out]; omega) (Nat.le_trans hbw hb.size) ?_
          intro v' w' hown' hgr _
          have HN := hid (show MixRel w6 w' v' (n + 1) from ⟨ys ++ [z30], by rw [List.map_append]; exact hown', by rw [List.length_append, HO.out.2.1]; rfl, fun z hz => by
            rcases List.mem_append.1 hz with h | h
            · exact hyu z h
            · rw [List.mem_singleton.1 h]; exact hz30, (below_next hbl hbw hb).grown hgr (Nat.le_trans hbw hb.size) fun g e => (hO.block g e).1⟩)
          clear hown' hgr hb hg30 hz30 hyu hO hbl ca1 cb1 da db
          go_wp2
          go_roundw
          case rel => exact ⟨n + 1, by go_num, by omega, HN⟩
          case measure => simp [intOf]; omega
        · obtain rfl : n = a.x.length := by omega
          have hlt' : ¬ ((a.x.length : Int) < (a.x.length : Int)) := by omega
          have HN := hid (show AskRel w6 wr A7 ys from ⟨by omega, hyu, h7, hbl⟩)
          have HYL := hid hyl
          clear hO hyl hyu h7 hbl HI
          go_wp2
          go_meet
          case rel => exact ⟨A7, c7, ys, by rw [HYL.out], HN⟩
  case rest =>
  obtain ⟨A3, c3, x', rfl, HR⟩ := hcut
  obtain ⟨hx4, hx5, hx6, hx7⟩ := HR.out
  generalize wc = w7 at *
  have hb7 := below_next HQ6.out.2 HQ6.out.2.size hx7
  have hP7 := HQ6.out.1.below hx7
  have hA7 := HA.out.below hb7
  have hQY := hid (fun w8 (hb : Below w7.heap.size w7 w8) => aquery_c p' hpo A l c id A3 x' c3 w8 (hA7.below hb) HL.out (hx6.below hb) (by omega) hx5 (HT.out.below (below_next hb7 hb7.size hb)))
  have hRK := hid (fun w8 (hb : Below w7.heap.size w7 w8) => arank_c p' hpo A l c w8 (hA7.below hb) HL.out (HT.out.below (below_next hb7 hb7.size hb)))
  have hFO := hid (fun w8 (hb : Below w7.heap.size w7 w8) => afollows_c p' hpo A l c A3 x' c3 w8 (hA7.below hb) HL.out (hx6.below hb) (by omega) hx5 (HT.out.below (below_next hb7 hb7.size hb)))
  have HLAW := hid (fun h => follows_law (p := p') (l := l) (id := id) (x := x') HPV.out.1 HPV.out.2 h)
  have HP7 := hid (⟨hP7, hb7⟩ : _ ∧ _)
  clear hx4 hx5 hx6 hx7 HR hA7 HQ6 HC hb7
  obtain ⟨p0, p1, p2, p3, p4, p5, p6, p7, p8, p9, p10, p11⟩ := par_cells hP7
  go_wp2_with (fail)
  clear p0 p1 p2 p3 p4 p5 p6 p7 p8 p9 p10 p11 hP7
  refine (hQY.out w7 (Below.refl _ _)).mono ?_
  rintro e w8 ⟨rfl, hb8⟩
  generalize queryP p' l id x' = E at *
  have HB8 := hid hb8
  have hP8 := HP7.out.1.below hb8
  clear hb8 hQY
  by_cases hE : E = 0 ∨ E = 22
  case neg =>
    have hE1 : (E != 0) = true := by simp; omega
    have hE2 : (E != 22) = true := by simp; omega
    have HE := hid (below_next HP7.out.2 HP7.out.2.size HB8.out)
    clear hP8
    go_wp2
    go_ret
    exact ⟨rfl, HE.out⟩
  have hlaw := HLAW.out hE
  obtain ⟨p0, p1, p2, p3, p4, p5, p6, p7, p8, p9, p10, p11⟩ := par_cells hP8
  clear HLAW
  rcases hE with rfl | rfl
  · have HL9 := hid hlaw
    clear hlaw
    go_wp2_with (fail)
    clear p0 p1 p2 p3 p4 p5 p6 p7 p8 p9 p10 p11 hP8
    refine (hRK.out w8 HB8.out).mono ?_
    rintro e w9 ⟨rfl, hb9⟩
    have HB9 := hid (below_next HB8.out HB8.out.size hb9)
    have hP9 := HP7.out.1.below HB9.out
    clear hb9 HB8 hRK
    obtain ⟨p0, p1, p2, p3, p4, p5, p6, p7, p8, p9, p10, p11⟩ := par_cells hP9
    go_wp2_with (fail)
    clear p0 p1 p2 p3 p4 p5 p6 p7 p8 p9 p10 p11 hP9
    refine (hFO.out w9 HB9.out).mono ?_
    rintro e w10 ⟨rfl, hb10⟩
    have HB10 := hid (below_next HB9.out HB9.out.size hb10)
    have HE := hid (below_next HP7.out.2 HP7.out.2.size HB10.out)
    have hP10 := HP7.out.1.below HB10.out
    clear hb10 HB9 hFO
    obtain ⟨p0, p1, p2, p3, p4, p5, p6, p7, p8, p9, p10, p11⟩ := par_cells hP10
    generalize rankP p' l = r at *
    generalize followsP p' l x' = b at *
    cases b with
    | true =>
      clear HL9
      go_wp2
      go_ret
      exact ⟨rfl, HE.out⟩
    | false =>
      have hge : ¬ (r : Int) ≥ p'.R := fun h => absurd ((HL9.out.2 rfl).2 h) (by decide)
      clear HL9
      have HGE := hid hge
      go_wp2
      go_ret
      exact ⟨by first | rfl | exact ret_bool (by simpa using HGE.out), HE.out⟩
  · have HL9 := hid hlaw
    clear hlaw
    go_wp2_with (fail)
    clear p0 p1 p2 p3 p4 p5 p6 p7 p8 p9 p10 p11 hP8
    refine (hRK.out w8 HB8.out).mono ?_
    rintro e w9 ⟨rfl, hb9⟩
    have HB9 := hid (below_next HB8.out HB8.out.size hb9)
    have hP9 := HP7.out.1.below HB9.out
    clear hb9 HB8 hRK
    obtain ⟨p0, p1, p2, p3, p4, p5, p6, p7, p8, p9, p10, p11⟩ := par_cells hP9
    go_wp2_with (fail)
    clear p0 p1 p2 p3 p4 p5 p6 p7 p8 p9 p10 p11 hP9
    refine (hFO.out w9 HB9.out).mono ?_
    rintro e w10 ⟨rfl, hb10⟩
    have HB10 := hid (below_next HB9.out HB9.out.size hb10)
    have HE := hid (below_next HP7.out.2 HP7.out.2.size HB10.out)
    have hP10 := HP7.out.1.below HB10.out
    clear hb10 HB9 hFO
    obtain ⟨p0, p1, p2, p3, p4, p5, p6, p7, p8, p9, p10, p11⟩ := par_cells hP10
    generalize rankP p' l = r at *
    generalize followsP p' l x' = b at *
    cases b with
    | true =>
      have hgt : (r : Int) > p'.R := by rcases HL9.out.1 rfl with h | h
                                        · exact absurd h (by decide)
                                        · exact h
      clear HL9
      go_wp2
      go_ret
      exact ⟨rfl, HE.out⟩
    | false =>
      have hge : (r : Int) ≥ p'.R := by first | exact (HL9.out.2 rfl).1 rfl | exact (HL9.out.2 rfl).1 trivial
      clear HL9
      have HGE := hid hge
      go_wp2
      go_ret
      exact ⟨by first | rfl | exact ret_bool (by simpa using HGE.out), HE.out⟩
end Go.Proofs.YtcojnjhffmhbiaaDoor
