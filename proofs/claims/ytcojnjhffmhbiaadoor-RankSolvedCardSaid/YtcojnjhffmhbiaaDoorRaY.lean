/-
  RankSolved: what the program does.
-/
import Derived.Test.YtcojnjhffmhbiaaDoorRnkQ1
import Derived.Test.YtcojnjhffmhbiaaDoorRnkQ2
import Derived.Test.YtcojnjhffmhbiaaDoorRnkQ3
import Derived.Test.YtcojnjhffmhbiaaDoorRnkQ4
import Derived.Test.YtcojnjhffmhbiaaDoorRnkQ5
import Derived.Test.YtcojnjhffmhbiaaDoorRnkQ6
import Derived.Test.YtcojnjhffmhbiaaDoorRnkQ7
import Derived.Test.YtcojnjhffmhbiaaDoorRaX
import Derived.BigQuiet
import Derived.Deep.Cut
import Derived.Deep.DeepCutAuto
namespace Go.Proofs.YtcojnjhffmhbiaaDoor
open Go Go.RowKit Go.Maps Go.Shelf Go.Proofs

attribute [local go_sem] Oper.semAt_some

theorem quiet_drR {P : Program} {f : FuncId} {args : Array Value} {w : World} {n : Nat} {v : Value}
    (h : Calls P f args (w.drewN n) fun e w' => e = .returned v ∧ Dr (w.drewN n) w') : Calls P f args (w.drewN n) fun e w'' => e = .returned v ∧ ∃ m, w'' = w.drewN m :=
  h.mono fun _ _ ⟨he, m, hm⟩ => ⟨he, n + m, by rw [hm, World.drewN_drewN]⟩
set_option maxRecDepth 100000 in
set_option maxHeartbeats 1000000 in
theorem dot04_c (A B : Option Addr) (a b : List Int) (ca cb : Nat) (q : Int) (w : World) (hA : Cells w A (u64v a)) (hB : Cells w B (u64v b)) (hl : a.length ≤ 9223372036854775807) (hl' : b.length ≤ 9223372036854775807) (hu : U64s a) (hu' : U64s b) (hq : U64 q) :
    Calls Tryd.prog 33 #[.slice A a.length ca, .slice B b.length cb, .int .u64 q] w fun e w' => e = .returned (.int .u64 (dotL a b q)) ∧ Dr w w' := by
  have HA := hid hA
  have HB := hid hB
  have HU := hid hu
  have HU' := hid hu'
  clear hA hB hu hu'
  go_enter Tryd.func33, Tryd.ntmps33
  go_wp2
  go_loopw [7, 8] (fun s i wr => ∃ k : Nat, i = .int .i64 (k : Int) ∧ s = .int .u64 (dotK a b q k) ∧ k ≤ a.length ∧ k ≤ b.length ∧ Hid (Dr w wr)) (fun _ i _ => a.length - (intOf i).toNat)
  case atStart => exact ⟨0, rfl, rfl, by omega, by omega, hid (Dr.refl _)⟩
  case round =>
    obtain ⟨k, rfl, rfl, hk, hk', HI⟩ := hrel
    by_cases h1 : k < a.length
    · have h1' : (k : Int) < (a.length : Int) := by omega
      by_cases h2 : k < b.length
      · have h2' : (k : Int) < (b.length : Int) := by omega
        obtain ⟨x, hx⟩ := get_of_lt h1
        obtain ⟨y, hy⟩ := get_of_lt h2
        have hux := HU.out x (List.mem_of_getElem? hx)
        have huy := HU'.out y (List.mem_of_getElem? hy)
        obtain ⟨bx, ox, rfl, cx0⟩ := HA.out.at_map hx
        obtain ⟨by_, oy, rfl, cy0⟩ := HB.out.at_map hy
        have cx := (HI.out.cell ⟨bx, ox + k, none⟩).trans cx0
        have cy := (HI.out.cell ⟨by_, oy + k, none⟩).trans cy0
        have hn1 : nth a k = x := by unfold nth; rw [List.getD_eq_getElem?_getD, hx]; rfl
        have hn2 : nth b k = y := by unfold nth; rw [List.getD_eq_getElem?_getD, hy]; rfl
        have HS := hid (show dotK a b q (k + 1) = mAdd (dotK a b q k) (mMul x y q) q by
          show mAdd _ (mMul (nth a k) (nth b k) q) q = _
          rw [hn1, hn2])
        have hsu := dotK_u64 a b q k
        generalize dotK a b q k = sm at *
        clear hx hy cx0 cy0 hn1 hn2
        go_wp2
        go_quiet (first | (go_at_call 29; exact quiet_drR (mul_c _ _ _ hux huy hq _)) | (go_at_call 30; exact quiet_drR (add_c _ _ _ hsu (mMul_u64 _ _ _) hq _)))
        have HN := hid (HI.out.more nq)
        go_wp2
        go_roundw
        case rel => exact ⟨k + 1, by go_num, by rw [HS.out], by omega, by omega, HN⟩
        case measure => simp [intOf]; omega
      · have h2' : ¬ (k : Int) < (b.length : Int) := by omega
        have HE := hid (show dotK a b q k = dotL a b q by unfold dotL; rw [show min a.length b.length = k by omega])
        go_wp2
        go_ret
        exact ⟨by rw [HE.out]; rfl, HI.out⟩
    · have h1' : ¬ (k : Int) < (a.length : Int) := by omega
      have HE := hid (show dotK a b q k = dotL a b q by unfold dotL; rw [show min a.length b.length = k by omega])
      go_wp2
      go_ret
      exact ⟨by rw [HE.out]; rfl, HI.out⟩
def lenOfV : Value → Nat
  | .slice _ n _ => n
  | _ => 0
def ColRel (right : List Int) (w0 wr : World) (v : Value) (k : Nat) : Prop := Own wr w0.heap.size 24 v (u64v (right ++ List.replicate k 0)) ∧ Below w0.heap.size w0 wr
def ComeRel (f : List (List Int)) (x : List Int) (q : Int) (w0 wr : World) (v : Value) (k : Nat) : Prop := Own wr w0.heap.size 24 v (u64v ((f.take k).map fun r => dotL r x q)) ∧ Below w0.heap.size w0 wr
set_option maxRecDepth 100000 in
set_option maxHeartbeats 1600000 in
theorem rankSolved_c (A : Option Addr) (a : List (List Int)) (ca : Nat) (B : Option Addr) (rt : List Int) (cb : Nat) (D : Option Addr) (x : List Int) (cd : Nat) (q : Int) (w : World)
    (hA : Grid w A a) (la : a.length ≤ 9223372036854775807) (ua : ∀ l ∈ a, U64s l) (hB : Cells w B (u64v rt)) (lb : rt.length ≤ 9223372036854775807) (ub : U64s rt) (hD : Cells w D (u64v x)) (ld : x.length ≤ 9223372036854775807) (ud : U64s x)
    (hq : U64 q) (hT : Tabs w) (hp : primeV q = true → Go.Psi.Pr q.toNat) [DecidableEq Lit] :
    Calls Tryd.prog 6 #[.slice A a.length ca, .slice B rt.length cb, .slice D x.length cd, .int .u64 q] w fun e w' => e = .returned (.bool true) ∧ Below w.heap.size w w' := by
  go_enter Tryd.func6, Tryd.ntmps6
  go_wp2_with (fail)
  refine (works_c w hT).mono ?_
  rintro e w1 ⟨rfl, hb1⟩
  go_wp2_with (fail)
  have hr0 := row1_new w1 [.slice A a.length ca] 22
  simp only [List.toArray] at hr0
  have hb0 := below_next hb1 hb1.size (below_alloc w1 (.cells #[.slice A a.length ca] 22))
  have hG : Grids (w1.alloc (.cells #[.slice A a.length ca] 22)) (some ⟨w1.heap.size, 0, none⟩) [a] := by
    refine ⟨_, hr0.cells, rfl, fun i f hf => ?_⟩
    match i, hf with
    | 0, hf => obtain rfl := Option.some.inj hf; exact ⟨_, _, rfl, hA.below hb0, la⟩
    | i + 1, hf => simp at hf
  refine (large04_c _ [a] 1 _ hG (by simp)).mono ?_
  rintro e w2 ⟨⟨bl, rfl, hfew⟩, hd⟩
  have hb2 := below_dr hb0 hd
  clear hr0 hb0 hd hb1 hG
  cases bl with
  | true =>
    clear hfew
    go_wp2_with (fail)
    refine (works_c w2 (hT.below hb2)).mono ?_
    rintro e wz ⟨rfl, hbz⟩
    go_wp2
    go_ret
    exact ⟨rfl, below_next hb2 hb2.size hbz⟩
  | false =>
    have fa := hfew rfl a (by simp)
    have oa := fa.ok ua
    have la' := fa.1
    have la2 : ∀ l ∈ a, l.length ≤ 20 := fa.2
    clear hfew
    by_cases hlr : (rt.length : Int) > (a.length : Int)
    case pos =>
      go_wp2_with (fail)
      refine (works_c w2 (hT.below hb2)).mono ?_
      rintro e wz ⟨rfl, hbz⟩
      go_wp2
      go_ret
      exact ⟨rfl, below_next hb2 hb2.size hbz⟩
    have hrl : rt.length ≤ a.length := by omega
    go_wp2_with (fail)
    refine (prime04_c q hq (fun h => rank_prime h (hp h)) w2 (hT.below hb2)).mono ?_
    rintro e w3 ⟨rfl, hb⟩
    replace hb2 := below_next hb2 hb2.size hb
    clear hb
    cases hv : primeV q with
    | false =>
      go_wp2_with (fail)
      refine (works_c w3 (hT.below hb2)).mono ?_
      rintro e wz ⟨rfl, hbz⟩
      go_wp2
      go_ret
      exact ⟨rfl, below_next hb2 hb2.size hbz⟩
    | true =>
      have hpr := hp hv
      have HLAW := hid (solved_law hv hpr a rt hrl)
      have HCOM := hid (come_law hv hpr a x)
      obtain ⟨hok, hq2⟩ := okm_prime hv
      have hwl : wideL a ≤ 20 := wideL_most la2
      have HPV := hid (⟨hv, hpr⟩ : _ ∧ _)
      clear hv hpr hp
      have HGA := hid (⟨hA.below hb2, hD.below hb2, hT.below hb2⟩ : Grid w3 A a ∧ Cells w3 D (u64v x) ∧ Tabs w3)
      have HB2 := hid hb2
      have hB3 := hB.below hb2
      have HBC := hid hB3
      have hlt9 : rt.length ≤ 20 := by omega
      have HRT := hid (⟨(show (u64v rt).length = rt.length by simp [u64v]), fun u (hu : u ∈ u64v rt) => (show u.oneCell' = true by obtain ⟨y, _, rfl⟩ := List.mem_map.1 hu; rfl)⟩ : _ ∧ _)
      have HU := hid (⟨ua, ub, ud, oa, la2⟩ : _ ∧ _ ∧ _ ∧ _ ∧ _)
      clear hA hB hD hT hb2 hB3 ua ub ud oa la2
      have ho0 := (row1_new w3 [] 24).own (Nat.le_refl _) (by decide)
      have hb1 := below_alloc w3 (.cells [].toArray 24)
      simp only [List.toArray, List.length_nil] at ho0 hb1
      go_wp2_with (at_builtin; refine wpList_more elt_u64 (w3.alloc (.cells #[] 24)) (by rfl) _ _ rfl w3.heap.size ho0 rfl (HBC.out.below hb1) (by rw [HRT.out.1]; rfl) HRT.out.2 (by rw [HRT.out.1]; simp; omega) (by rw [HRT.out.1]; simp; omega) hb1.size ?_; intro v1 w4 ho1 hb5; replace hb5 := hb1.trans hb5; clear hb1 ho0)
      have HC4 := hid (show ColRel rt w3 w4 v1 0 from ⟨by simpa using ho1, hb5⟩)
      obtain ⟨A4, c4, e4, _⟩ := ho1.form
      rw [List.nil_append, HRT.out.1] at e4
      subst e4
      clear ho1 hb5
      go_loopw [9] (fun v wr => ∃ (k : Nat) (A9 : Option Addr) (c9 : Nat), v = .slice A9 (rt.length + k) c9 ∧ rt.length + k ≤ a.length ∧ Hid (ColRel rt w3 wr v k)) (fun v _ => a.length - lenOfV v)
      case atStart => exact ⟨0, A4, c4, rfl, by omega, HC4⟩
      case round =>
        obtain ⟨k, A9, c9, rfl, hk, HI⟩ := hrel
        clear HC4
        by_cases hlt : rt.length + k < a.length
        · have hlt' : ((rt.length + k : Nat) : Int) < (a.length : Int) := by omega
          obtain ⟨hO, hbl⟩ := HI.out
          have hr0 := row1_new wr [.int .u64 0] 24
          have hb0 := below_alloc wr (.cells [.int .u64 0].toArray 24)
          simp only [List.toArray] at hr0 hb0
          have hO0 := hO.below hb0
          have hlo : (u64v (rt ++ List.replicate k 0)).length = rt.length + k := by simp [u64v]
          have HLO := hid hlo
          have hbs := Nat.le_trans hbl.size hb0.size
          have hbr := below_next hbl hbl.size hb0
          clear hO hlo HI hbl hb0
          go_wp2_with (at_builtin; refine wpList_push_own elt_u64 (wr.alloc (.cells #[.int .u64 0] 24)) rfl _ _ rfl w3.heap.size hO0 rfl (.int .u64 0) wr.heap.size rfl hr0 rfl (by rw [HLO.out]; omega) (by rw [HLO.out]; omega) hbs ?_; intro v7 w7 ho7 hg7 _; obtain ⟨A7, c7, e7, _⟩ := ho7.form; rw [List.length_append, HLO.out, List.length_singleton] at e7; subst e7)
          have HN := hid (show ColRel rt w3 w7 (.slice A7 (rt.length + k + 1) c7) (k + 1) from ⟨by
            have e : u64v (rt ++ List.replicate (k + 1) 0) = u64v (rt ++ List.replicate k 0) ++ [.int .u64 0] := by simp [u64v, List.replicate_succ']
            rw [e]; exact ho7, hbr.grown hg7 hbs fun g e => (hO0.block g e).1⟩)
          clear hO0 hbr ho7 hg7 hr0 hbs
          go_roundw
          case rel => exact ⟨k + 1, A7, c7, rfl, by omega, HN⟩
          case measure => simp [lenOfV]; omega
        · have hke : rt.length + k = a.length := by omega
          have hlt' : ¬ (((rt.length + k : Nat) : Int) < (a.length : Int)) := by omega
          obtain ⟨hO, hbl⟩ := HI.out
          have hcol : rt ++ List.replicate k 0 = rtCol rt a.length := by unfold rtCol; rw [show k = a.length - rt.length by omega]
          rw [hcol] at hO
          have hcl : (rtCol rt a.length).length = a.length := by unfold rtCol; rw [List.length_append, List.length_replicate]; omega
          have hcu : U64s (rtCol rt a.length) := fun z hz => by
            unfold rtCol at hz
            rcases List.mem_append.1 hz with h | h
            · exact HU.out.2.1 z h
            · obtain ⟨_, rfl⟩ := List.mem_replicate.1 h; exact ⟨by decide, by decide⟩
          have hcn : ∀ i, nth (rtCol rt a.length) i = nth rt i := rtCol_nth rt a.length
          rw [hke]
          obtain ⟨A10, c10, e10, hC5⟩ := hO.form
          rw [show (u64v (rtCol rt a.length)).length = a.length by rw [List.length_map, hcl]] at e10
          simp only [Value.slice.injEq] at e10
          rw [hke] at e10
          obtain ⟨rfl, _, rfl⟩ := e10
          generalize wr = w5 at *
          have HCL := hid (⟨hcl, hcu, hcn⟩ : _ ∧ _ ∧ _)
          have hG5 := HGA.out.1.below hbl
          have HW5 := hid (⟨hC5, hG5, HGA.out.2.1.below hbl, HGA.out.2.2.below hbl, hbl⟩ : _ ∧ _ ∧ _ ∧ _ ∧ _)
          have hsv := solve_c A a ca B rt cb q w5 hG5 HU.out.2.2.2.1 (HBC.out.below hbl) (by omega) HU.out.2.1 hq (HGA.out.2.2.below hbl) (by omega) (by omega)
          have HSV := hid hsv
          clear hcol hcl hcu hcn hO hbl hC5 hG5 hsv hlt hlt' hke HI
          go_wp2_with (fail)
          refine HSV.out.mono ?_
          rcases HLAW.out with ⟨hs, hh⟩ | ⟨y, hs, hh, hyl, hyu, hyd⟩
          · rw [hs]
            rintro e w6 ⟨v6, rfl, oY, hb6⟩
            dsimp only at oY ⊢
            obtain ⟨A6, c6, e6, hY6⟩ := oY.form
            rw [List.length_map] at e6
            subst e6
            have hb56 := below_next HW5.out.2.2.2.2 HW5.out.2.2.2.2.size hb6
            go_wp2_with (fail)
            refine (turned04_c A a ca w6 (HW5.out.2.1.below hb6) (by omega) (by omega)).mono ?_
            rintro e w7 ⟨vT, rfl, oT, hb7⟩
            obtain ⟨AT, cT, rfl, hgT⟩ := ownRows_grid oT
            have ot : RowsOk (turnL a) := ⟨by rw [turnL_len]; omega, fun l hl => by obtain ⟨j, _, rfl⟩ := List.mem_map.1 hl; simp; omega, turnL_u HU.out.1⟩
            have hC7 := (HW5.out.1.below hb6).below hb7
            have hb67 := below_next hb56 hb56.size hb7
            have hhg := hangs_c AT (turnL a) cT A9 (rtCol rt a.length) c9 q w7 hgT ot hC7 (by rw [HCL.out.1]; omega) HCL.out.2.1 hq (HGA.out.2.2.below hb67)
            rw [HCL.out.1, hh] at hhg
            have HH := hid hhg
            have HW7 := hid (⟨hY6.below hb7, hC7, hb67⟩ : _ ∧ _ ∧ _)
            clear oT hhg hC7 hb67 hb56 hY6 hb6 hb7 oY ot hgT hh
            generalize turnL a = TF at *
            go_wp2_with (fail)
            refine HH.out.mono ?_
            rintro e w8 ⟨rfl, hb8⟩
            have hb38 := below_next HW7.out.2.2 HW7.out.2.2.size hb8
            have HW8 := hid (⟨HW7.out.1.below hb8, HW7.out.2.1.below hb8, HGA.out.1.below hb38, HGA.out.2.1.below hb38, HGA.out.2.2.below hb38, hb38⟩ : _ ∧ _ ∧ _ ∧ _ ∧ _ ∧ _)
            clear hb8 hb38 HW7 HH
            go_wp2
            go_loopw [12, 13] (fun v i wr => ∃ n : Nat, i = .int .i64 (n : Int) ∧ n ≤ a.length ∧ Hid (ComeRel a x q w8 wr v n)) (fun _ i _ => a.length - (intOf i).toNat)
            case atStart => exact ⟨0, rfl, by omega, hid ⟨by simpa [u64v] using Own.nil w8 w8.heap.size 24, Below.refl _ _⟩⟩
            case round =>
              obtain ⟨n, rfl, hn, HI⟩ := hrel
              by_cases hlt : n < a.length
              · have hlt' : (n : Int) < (a.length : Int) := by omega
                obtain ⟨r, hr⟩ := get_of_lt hlt
                obtain ⟨hO, hbl⟩ := HI.out
                obtain ⟨b1, o1, A8, c8, e2, hcl, hcs, _⟩ := (HW8.out.2.2.1.below hbl).at_ hr
                subst e2
                have hrm := List.mem_of_getElem? hr
                have hrl20 := HU.out.2.2.2.2 r hrm
                have hru := HU.out.1 r hrm
                have HS := hid (show u64v ((a.take (n + 1)).map fun r => dotL r x q) = u64v ((a.take n).map fun r => dotL r x q) ++ [.int .u64 (dotL r x q)] by rw [take_snocR hr]; simp [u64v])
                have hlo : (u64v ((a.take n).map fun r => dotL r x q)).length = n := by simp [u64v]; omega
                have HLO := hid hlo
                have HO := hid (⟨hO, hbl⟩ : _ ∧ _)
                have HCS := hid hcs
                clear hlo HI hO
                go_wp2
                go_quiet (fail)
                have hDr : Dr wr (wr.drewN nq) := ⟨nq, rfl⟩
                have hb9 := below_dr HO.out.2 hDr
                have hcl9 : (wr.drewN nq).cell? ⟨b1, o1 + n, none⟩ = some (.slice A8 r.length c8) := hcl
                have hO9 := HO.out.1.dr hDr
                have hdx := dot04_c A8 D r x c8 cd q (wr.drewN nq) (HCS.out.dr hDr) ((HW8.out.2.2.2.1.below HO.out.2).dr hDr) (by omega) ld hru HU.out.2.2.1 hq
                have HDX := hid hdx
                clear hdx hr hcl hbl hcs hrm
                generalize wr.drewN nq = w10 at *
                clear hDr
                go_wp2_with (fail)
                refine HDX.out.mono ?_
                rintro e w11 ⟨rfl, hd⟩
                generalize dotL r x q = dx at *
                have hb10 := below_dr hb9 hd
                have hr0 := row1_new w11 [.int .u64 dx] 24
                have hb0 := below_alloc w11 (.cells [.int .u64 dx].toArray 24)
                simp only [List.toArray] at hr0 hb0
                have hO0 := (hO9.dr hd).below hb0
                have hbs := Nat.le_trans hb10.size hb0.size
                have hbr := below_next hb10 hb10.size hb0
                clear hO9 hb9 hb10 hb0 hd HDX HO hcl9
                go_wp2_with (at_builtin; refine wpList_push_own elt_u64 (w11.alloc (.cells #[.int .u64 dx] 24)) rfl _ _ rfl w8.heap.size hO0 rfl (.int .u64 dx) w11.heap.size rfl hr0 rfl (by rw [HLO.out]; omega) (by rw [HLO.out]; omega) hbs ?_; intro v7 w12 ho7 hg7 _)
                have HN := hid (show ComeRel a x q w8 w12 v7 (n + 1) from ⟨by rw [HS.out]; exact ho7, hbr.grown hg7 hbs fun g e => (hO0.block g e).1⟩)
                clear hO0 hbr ho7 hg7 hr0 hbs
                go_roundw
                case rel => exact ⟨n + 1, by go_num, by omega, HN⟩
                case measure => simp [intOf]; omega
              · obtain rfl : n = a.length := by omega
                have hlt' : ¬ ((a.length : Int) < (a.length : Int)) := by omega
                obtain ⟨hO, hbl⟩ := HI.out
                rw [List.take_length] at hO
                obtain ⟨z, hs2, hzl, hzu, hzd⟩ := HCOM.out
                have hcmu : U64s (a.map fun r => dotL r x q) := fun v hv => by
                  obtain ⟨r, _, rfl⟩ := List.mem_map.1 hv; exact dotK_u64 _ _ _ _
                have hca : ∀ (n : Nat) (r : List Int), a[n]? = some r → (a.map fun r => dotL r x q)[n]? = some (dotL r x q) := fun n r h => by rw [List.getElem?_map, h]; rfl
                have hcml : (a.map fun r => dotL r x q).length = a.length := List.length_map ..
                generalize (a.map fun r => dotL r x q) = cm at *
                obtain ⟨A11, c11, e11, hM⟩ := hO.form
                rw [List.length_map, hcml] at e11
                subst e11
                have hb9 := below_next HW8.out.2.2.2.2.2 HW8.out.2.2.2.2.2.size hbl
                have hsv2 := solve_c A a ca A11 cm c11 q wr (HW8.out.2.2.1.below hbl) HU.out.2.2.2.1 hM (by omega) hcmu hq (HGA.out.2.2.below hb9) (by omega) (by omega)
                rw [hs2, hcml] at hsv2
                have HSV2 := hid hsv2
                have HZ := hid (⟨hzl, hzu, hzd, hca⟩ : _ ∧ _ ∧ _ ∧ _)
                have HM := hid (⟨hM, HW8.out.2.2.1.below hbl, hb9⟩ : _ ∧ _ ∧ _)
                have hz20 : z.length ≤ 20 := by omega
                clear hzl hzu hzd hca hcmu hcml hsv2 hM hO hb9 hbl HI hs2
                generalize wr = w9 at *
                go_wp2_with (fail)
                refine HSV2.out.mono ?_
                rintro e w10 ⟨v10, rfl, oZ, hb10⟩
                dsimp only at oZ ⊢
                obtain ⟨A12, c12, e12, hZ10⟩ := oZ.form
                rw [List.length_map] at e12
                subst e12
                have hb310 := below_next HM.out.2.2 HM.out.2.2.size hb10
                have HF := hid (⟨hZ10, HM.out.1.below hb10, HM.out.2.1.below hb10, hb310⟩ : _ ∧ _ ∧ _ ∧ _)
                clear hZ10 hb10 hb310 oZ HSV2 HM
                go_wp2
                go_loopw [16] (fun i wr => ∃ n : Nat, i = .int .i64 (n : Int) ∧ n ≤ a.length ∧ Hid (Dr w10 wr)) (fun i _ => a.length - (intOf i).toNat)
                case atStart => exact ⟨0, rfl, by omega, hid (Dr.refl _)⟩
                case round =>
                  obtain ⟨n, rfl, hn, HI⟩ := hrel
                  by_cases hlt : n < a.length
                  · have hlt' : (n : Int) < (a.length : Int) := by omega
                    obtain ⟨r, hr⟩ := get_of_lt hlt
                    obtain ⟨b1, o1, A8, c8, e2, hcl0, hcs0, _⟩ := HF.out.2.2.1.at_ hr
                    subst e2
                    have hrm := List.mem_of_getElem? hr
                    have hrl20 := HU.out.2.2.2.2 r hrm
                    have hru := HU.out.1 r hrm
                    have hcl := (HI.out.cell ⟨b1, o1 + n, none⟩).trans hcl0
                    obtain ⟨bm, om, rfl, cm0⟩ := HF.out.2.1.at_map (HZ.out.2.2.2 n r hr)
                    have cm1 := (HI.out.cell ⟨bm, om + n, none⟩).trans cm0
                    have hdz := HZ.out.2.2.1 n r hr
                    have hne : (dotL r z q != dotL r x q) = false := by rw [hdz]; simp
                    have HDOT := hid (fun m => dot04_c A8 A12 r z c8 c12 q (wr.drewN m) ((hcs0.dr HI.out).dr ⟨m, rfl⟩) ((HF.out.1.dr HI.out).dr ⟨m, rfl⟩) (by omega) (by omega) hru HZ.out.2.1 hq)
                    clear hdz hr hcl0 cm0 hcs0 hrm
                    generalize dotL r z q = dz at *
                    generalize dotL r x q = dx at *
                    go_wp2
                    go_quiet (first | (go_at_call 33; exact quiet_drR (HDOT.out _)))
                    have HN := hid (HI.out.more nq)
                    go_wp2
                    go_roundw
                    case rel => exact ⟨n + 1, by go_num, by omega, HN⟩
                    case measure => simp [intOf]; omega
                  · obtain rfl : n = a.length := by omega
                    have hlt' : ¬ ((a.length : Int) < (a.length : Int)) := by omega
                    have HE := hid (below_next HB2.out HB2.out.size (below_dr HF.out.2.2.2 HI.out))
                    go_wp2
                    go_ret
                    exact ⟨rfl, HE.out⟩
          · rw [hs]
            have HYNE := hid (show ((y.length : Int) != (wideL a : Int)) = false by rw [hyl]; simp)
            have hy20 : y.length ≤ 20 := by omega
            have HYL := hid hyl
            have HYD := hid hyd
            have HYU := hid hyu
            clear hyl hyd hyu
            rintro e w6 ⟨v6, rfl, oY, hb6⟩
            dsimp only at oY ⊢
            obtain ⟨A6, c6, e6, hY6⟩ := oY.form
            rw [List.length_map] at e6
            subst e6
            have hb56 := below_next HW5.out.2.2.2.2 HW5.out.2.2.2.2.size hb6
            go_wp2_with (fail)
            refine (turned04_c A a ca w6 (HW5.out.2.1.below hb6) (by omega) (by omega)).mono ?_
            rintro e w7 ⟨vT, rfl, oT, hb7⟩
            obtain ⟨AT, cT, rfl, hgT⟩ := ownRows_grid oT
            have ot : RowsOk (turnL a) := ⟨by rw [turnL_len]; omega, fun l hl => by obtain ⟨j, _, rfl⟩ := List.mem_map.1 hl; simp; omega, turnL_u HU.out.1⟩
            have hC7 := (HW5.out.1.below hb6).below hb7
            have hb67 := below_next hb56 hb56.size hb7
            have hhg := hangs_c AT (turnL a) cT A9 (rtCol rt a.length) c9 q w7 hgT ot hC7 (by rw [HCL.out.1]; omega) HCL.out.2.1 hq (HGA.out.2.2.below hb67)
            rw [HCL.out.1, hh] at hhg
            have HH := hid hhg
            have HW7 := hid (⟨hY6.below hb7, hC7, hb67⟩ : _ ∧ _ ∧ _)
            clear oT hhg hC7 hb67 hb56 hY6 hb6 hb7 oY ot hgT hh
            generalize turnL a = TF at *
            go_wp2_with (fail)
            refine HH.out.mono ?_
            rintro e w8 ⟨rfl, hb8⟩
            have hb38 := below_next HW7.out.2.2 HW7.out.2.2.size hb8
            have HW8 := hid (⟨HW7.out.1.below hb8, HW7.out.2.1.below hb8, HGA.out.1.below hb38, HGA.out.2.1.below hb38, HGA.out.2.2.below hb38, hb38⟩ : _ ∧ _ ∧ _ ∧ _ ∧ _ ∧ _)
            clear hb8 hb38 HW7 HH
            have hyne := HYNE.out
            go_wp2_with (fail)
            refine (wide04_c A a ca w8 HW8.out.2.2.1 (by omega)).mono ?_
            rintro e w9 ⟨rfl, rfl⟩
            go_wp2
            go_loopw [12, 13] (fun v i wr => ∃ n : Nat, i = .int .i64 (n : Int) ∧ n ≤ a.length ∧ Hid (ComeRel a x q w8 wr v n)) (fun _ i _ => a.length - (intOf i).toNat)
            case atStart => exact ⟨0, rfl, by omega, hid ⟨by simpa [u64v] using Own.nil w8 w8.heap.size 24, Below.refl _ _⟩⟩
            case round =>
              obtain ⟨n, rfl, hn, HI⟩ := hrel
              by_cases hlt : n < a.length
              · have hlt' : (n : Int) < (a.length : Int) := by omega
                obtain ⟨r, hr⟩ := get_of_lt hlt
                obtain ⟨hO, hbl⟩ := HI.out
                obtain ⟨b1, o1, A8, c8, e2, hcl, hcs, _⟩ := (HW8.out.2.2.1.below hbl).at_ hr
                subst e2
                have hrm := List.mem_of_getElem? hr
                have hrl20 := HU.out.2.2.2.2 r hrm
                have hru := HU.out.1 r hrm
                have HS := hid (show u64v ((a.take (n + 1)).map fun r => dotL r x q) = u64v ((a.take n).map fun r => dotL r x q) ++ [.int .u64 (dotL r x q)] by rw [take_snocR hr]; simp [u64v])
                have hlo : (u64v ((a.take n).map fun r => dotL r x q)).length = n := by simp [u64v]; omega
                have HLO := hid hlo
                have HO := hid (⟨hO, hbl⟩ : _ ∧ _)
                have HCS := hid hcs
                clear hlo HI hO
                have hdq := HYD.out n r hr
                obtain ⟨z, hz⟩ := get_of_lt (l := rtCol rt a.length) (k := n) (by rw [HCL.out.1]; exact hlt)
                have hz1 : nth rt n = z := by rw [← HCL.out.2.2 n]; unfold nth; rw [List.getD_eq_getElem?_getD, hz]; rfl
                have huz := HCL.out.2.1 z (List.mem_of_getElem? hz)
                have hzt : z.tmod q = z % q := Int.tmod_eq_emod_of_nonneg huz.1
                obtain ⟨bc, oc, rfl, cz0⟩ := (HW8.out.2.1.below hbl).at_map hz
                rw [hz1] at hdq
                have hne : (dotL r y q != z % q) = false := by rw [hdq]; simp
                have HDOT := hid (fun m => dot04_c A8 A6 r y c8 c6 q (wr.drewN m) (hcs.dr ⟨m, rfl⟩) ((HW8.out.1.below hbl).dr ⟨m, rfl⟩) (by omega) (by omega) hru HYU.out hq)
                have hql : (n : Int) < ((a.length : Nat) : Int) := by omega
                have hq1 : (q == 0) = false := by rw [beq_eq_false_iff_ne]; omega
                clear hdq hz hz1
                generalize dotL r y q = dv at *
                generalize z % q = zv at *
                go_wp2
                go_quiet (first | (go_at_call 33; exact quiet_drR (HDOT.out _)))
                clear cz0
                have hDr : Dr wr (wr.drewN nq) := ⟨nq, rfl⟩
                have hb9 := below_dr HO.out.2 hDr
                have hcl9 : (wr.drewN nq).cell? ⟨b1, o1 + n, none⟩ = some (.slice A8 r.length c8) := hcl
                have hO9 := HO.out.1.dr hDr
                have hdx := dot04_c A8 D r x c8 cd q (wr.drewN nq) (HCS.out.dr hDr) ((HW8.out.2.2.2.1.below HO.out.2).dr hDr) (by omega) ld hru HU.out.2.2.1 hq
                have HDX := hid hdx
                clear hdx hr hcl hbl hcs hrm
                generalize wr.drewN nq = w10 at *
                clear hDr
                go_wp2_with (fail)
                refine HDX.out.mono ?_
                rintro e w11 ⟨rfl, hd⟩
                generalize dotL r x q = dx at *
                have hb10 := below_dr hb9 hd
                have hr0 := row1_new w11 [.int .u64 dx] 24
                have hb0 := below_alloc w11 (.cells [.int .u64 dx].toArray 24)
                simp only [List.toArray] at hr0 hb0
                have hO0 := (hO9.dr hd).below hb0
                have hbs := Nat.le_trans hb10.size hb0.size
                have hbr := below_next hb10 hb10.size hb0
                clear hO9 hb9 hb10 hb0 hd HDX HO hcl9
                go_wp2_with (at_builtin; refine wpList_push_own elt_u64 (w11.alloc (.cells #[.int .u64 dx] 24)) rfl _ _ rfl w8.heap.size hO0 rfl (.int .u64 dx) w11.heap.size rfl hr0 rfl (by rw [HLO.out]; omega) (by rw [HLO.out]; omega) hbs ?_; intro v7 w12 ho7 hg7 _)
                have HN := hid (show ComeRel a x q w8 w12 v7 (n + 1) from ⟨by rw [HS.out]; exact ho7, hbr.grown hg7 hbs fun g e => (hO0.block g e).1⟩)
                clear hO0 hbr ho7 hg7 hr0 hbs
                go_roundw
                case rel => exact ⟨n + 1, by go_num, by omega, HN⟩
                case measure => simp [intOf]; omega
              · obtain rfl : n = a.length := by omega
                have hlt' : ¬ ((a.length : Int) < (a.length : Int)) := by omega
                obtain ⟨hO, hbl⟩ := HI.out
                rw [List.take_length] at hO
                obtain ⟨z, hs2, hzl, hzu, hzd⟩ := HCOM.out
                have hcmu : U64s (a.map fun r => dotL r x q) := fun v hv => by
                  obtain ⟨r, _, rfl⟩ := List.mem_map.1 hv; exact dotK_u64 _ _ _ _
                have hca : ∀ (n : Nat) (r : List Int), a[n]? = some r → (a.map fun r => dotL r x q)[n]? = some (dotL r x q) := fun n r h => by rw [List.getElem?_map, h]; rfl
                have hcml : (a.map fun r => dotL r x q).length = a.length := List.length_map ..
                generalize (a.map fun r => dotL r x q) = cm at *
                obtain ⟨A11, c11, e11, hM⟩ := hO.form
                rw [List.length_map, hcml] at e11
                subst e11
                have hb9 := below_next HW8.out.2.2.2.2.2 HW8.out.2.2.2.2.2.size hbl
                have hsv2 := solve_c A a ca A11 cm c11 q wr (HW8.out.2.2.1.below hbl) HU.out.2.2.2.1 hM (by omega) hcmu hq (HGA.out.2.2.below hb9) (by omega) (by omega)
                rw [hs2, hcml] at hsv2
                have HSV2 := hid hsv2
                have HZ := hid (⟨hzl, hzu, hzd, hca⟩ : _ ∧ _ ∧ _ ∧ _)
                have HM := hid (⟨hM, HW8.out.2.2.1.below hbl, hb9⟩ : _ ∧ _ ∧ _)
                have hz20 : z.length ≤ 20 := by omega
                clear hzl hzu hzd hca hcmu hcml hsv2 hM hO hb9 hbl HI hs2
                generalize wr = w9 at *
                go_wp2_with (fail)
                refine HSV2.out.mono ?_
                rintro e w10 ⟨v10, rfl, oZ, hb10⟩
                dsimp only at oZ ⊢
                obtain ⟨A12, c12, e12, hZ10⟩ := oZ.form
                rw [List.length_map] at e12
                subst e12
                have hb310 := below_next HM.out.2.2 HM.out.2.2.size hb10
                have HF := hid (⟨hZ10, HM.out.1.below hb10, HM.out.2.1.below hb10, hb310⟩ : _ ∧ _ ∧ _ ∧ _)
                clear hZ10 hb10 hb310 oZ HSV2 HM
                go_wp2
                go_loopw [16] (fun i wr => ∃ n : Nat, i = .int .i64 (n : Int) ∧ n ≤ a.length ∧ Hid (Dr w10 wr)) (fun i _ => a.length - (intOf i).toNat)
                case atStart => exact ⟨0, rfl, by omega, hid (Dr.refl _)⟩
                case round =>
                  obtain ⟨n, rfl, hn, HI⟩ := hrel
                  by_cases hlt : n < a.length
                  · have hlt' : (n : Int) < (a.length : Int) := by omega
                    obtain ⟨r, hr⟩ := get_of_lt hlt
                    obtain ⟨b1, o1, A8, c8, e2, hcl0, hcs0, _⟩ := HF.out.2.2.1.at_ hr
                    subst e2
                    have hrm := List.mem_of_getElem? hr
                    have hrl20 := HU.out.2.2.2.2 r hrm
                    have hru := HU.out.1 r hrm
                    have hcl := (HI.out.cell ⟨b1, o1 + n, none⟩).trans hcl0
                    obtain ⟨bm, om, rfl, cm0⟩ := HF.out.2.1.at_map (HZ.out.2.2.2 n r hr)
                    have cm1 := (HI.out.cell ⟨bm, om + n, none⟩).trans cm0
                    have hdz := HZ.out.2.2.1 n r hr
                    have hne : (dotL r z q != dotL r x q) = false := by rw [hdz]; simp
                    have HDOT := hid (fun m => dot04_c A8 A12 r z c8 c12 q (wr.drewN m) ((hcs0.dr HI.out).dr ⟨m, rfl⟩) ((HF.out.1.dr HI.out).dr ⟨m, rfl⟩) (by omega) (by omega) hru HZ.out.2.1 hq)
                    clear hdz hr hcl0 cm0 hcs0 hrm
                    generalize dotL r z q = dz at *
                    generalize dotL r x q = dx at *
                    go_wp2
                    go_quiet (first | (go_at_call 33; exact quiet_drR (HDOT.out _)))
                    have HN := hid (HI.out.more nq)
                    go_wp2
                    go_roundw
                    case rel => exact ⟨n + 1, by go_num, by omega, HN⟩
                    case measure => simp [intOf]; omega
                  · obtain rfl : n = a.length := by omega
                    have hlt' : ¬ ((a.length : Int) < (a.length : Int)) := by omega
                    have HE := hid (below_next HB2.out HB2.out.size (below_dr HF.out.2.2.2 HI.out))
                    go_wp2
                    go_ret
                    exact ⟨rfl, HE.out⟩
end Go.Proofs.YtcojnjhffmhbiaaDoor
