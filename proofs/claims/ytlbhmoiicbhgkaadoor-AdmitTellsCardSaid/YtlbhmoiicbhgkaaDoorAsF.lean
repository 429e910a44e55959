/-
  AdmitTells: what the program does.
-/
import Derived.Test.YtlbhmoiicbhgkaaDoorAdmQ1
import Derived.Test.YtlbhmoiicbhgkaaDoorAdmQ2
import Derived.Test.YtlbhmoiicbhgkaaDoorAdmQ3
import Derived.Test.YtlbhmoiicbhgkaaDoorAdmQ4
import Derived.Test.YtlbhmoiicbhgkaaDoorAdmQ5
import Derived.Test.YtlbhmoiicbhgkaaDoorAdmQ6
import Derived.Test.YtlbhmoiicbhgkaaDoorAdmQ7
import Derived.Test.YtlbhmoiicbhgkaaDoorAdmQ8
import Derived.Test.YtlbhmoiicbhgkaaDoorAdS
import Derived.Test.YtlbhmoiicbhgkaaDoorAdO
import Derived.Test.YtlbhmoiicbhgkaaDoorAsC
import Derived.Test.YtlbhmoiicbhgkaaDoorAsD
import Derived.Test.YtlbhmoiicbhgkaaDoorAsE
namespace Go.Proofs.YtlbhmoiicbhgkaaDoor
open Go Go.RowKit Go.Maps Go.Shelf Go.Proofs

attribute [local go_sem] Oper.semAt_some

theorem OwnS.keep {w w' : World} {base : Nat} {v : Value} {l : List Ask} (h : OwnS w base v l) (hk : ∀ k, base ≤ k → k < w.heap.size → w'.heap[k]? = w.heap[k]?) : OwnS w' base v l := by
  obtain ⟨vs, h1, h2, h3⟩ := h
  refine ⟨vs, ⟨h1.1, ?_⟩, h2, fun i u a a1 a2 => ⟨(h3 i u a a1 a2).1, (h3 i u a a1 a2).2.keep fun g hg => hk g ((h3 i u a a1 a2).2.block g hg).1 ((h3 i u a a1 a2).2.block g hg).2⟩⟩
  rcases h1.2 with hn | ⟨g, cap, cur, rfl, hg, hh, rest⟩
  · exact .inl hn
  · exact .inr ⟨g, cap, cur, rfl, hg, (hk g hg (Array.getElem?_eq_some_iff.1 hh).1).trans hh, rest⟩
/-- what lies in memory while the statement goes on. -/
structure Bx (p : Par) (A : Option Addr) (l : List Ask) (O : Option Addr) (m : List Ask) (X : Option Addr) (x : List Int) (K Y : Option Addr) (g : Nat) (w0 wr : World) : Prop where
  P : Row1 wr g 33 (pcells p)
  A : Asks wr A l
  O : Asks wr O m
  X : Cells wr X (x.map (.int .i64))
  K : Asks wr K l
  Y : Cells wr Y (x.map (.int .i64))
  T : Tabs wr
  b : Below w0.heap.size w0 wr
theorem Bx.below {p : Par} {A : Option Addr} {l : List Ask} {O : Option Addr} {m : List Ask} {X : Option Addr} {x : List Int} {K Y : Option Addr} {g : Nat} {w0 wr w' : World} (h : Bx p A l O m X x K Y g w0 wr) (hb : Below wr.heap.size wr w') : Bx p A l O m X x K Y g w0 w' :=
  ⟨h.P.below hb, h.A.below hb, h.O.below hb, h.X.below hb, h.K.below hb, h.Y.below hb, h.T.below hb, below_next h.b h.b.size hb⟩
set_option maxRecDepth 100000 in
set_option maxHeartbeats 3200000 in
theorem admitTells_c (p : Par) (hp : p.ok) (A : Option Addr) (l : List Ask) (c : Nat) (AO : Option Addr) (m : List Ask) (cO : Nat) (id : Int) (A2 : Option Addr) (x : List Int) (c2 : Nat) (w : World) (hA : Asks w A l) (hln : l.length ≤ 9223372036854775807) (hli : ∀ a ∈ l, I64 a.id) (hlx : ∀ a ∈ l, I64s a.x)
    (hO : Asks w AO m) (hmn : m.length ≤ 9223372036854775807) (_hmi : ∀ a ∈ m, I64 a.id) (_hmx : ∀ a ∈ m, I64s a.x) (hid1 : I64 id)
    (hA2 : Cells w A2 (x.map (.int .i64))) (_hxl : x.length ≤ 9223372036854775807) (hxu : I64s x) (hTab : Tabs w) [DecidableEq Lit] :
    Calls Tryd.prog 7 #[pval p, .slice A l.length c, .slice AO m.length cO, .int .i64 id, .slice A2 x.length c2] w fun e w' => e = .returned (.bool true) ∧ Below w.heap.size w w' := by
  have hb0 := below_alloc w (.cells (pcells p).toArray 33)
  have hP := row1_new w (pcells p) 33
  have HA := hid hA
  have HA2 := hid hA2
  have HO := hid hO
  have HT := hid hTab
  have HLI := hid hli
  have HLX := hid hlx
  have HXU := hid hxu
  have HPO := hid hp
  clear hA hTab hli hlx hA2 hxu hO _hmi _hmx hp
  go_enter Tryd.func7, Tryd.ntmps7
  go_upto_region 1 with (fail)
  simp only [List.toArray] at hb0 hP
  generalize w.alloc (.cells #[.int .u64 p.P, .int .u64 p.Q, .int .u64 p.G, .int .u64 p.H, .int .i64 p.Nodes, .int .i64 p.N, .int .i64 p.T, .int .i64 p.K, .int .i64 p.D, .int .i64 p.R, .int .i64 p.M, .int .i64 p.X] 33) = w1 at *
  go_wp2_with (fail)
  refine (large21_c A l c w1 (HA.out.below hb0) hln).mono ?_
  rintro e w2 ⟨⟨bl, rfl, hfew⟩, hb⟩
  have hb2 := below_next hb0 hb0.size hb
  have hP2 := hP.below hb
  have HF := hid hfew
  clear hb hb0 hP hfew
  cases bl with
  | true =>
    go_wp2_with (fail)
    refine (awake21_c w2 (HT.out.below hb2)).mono ?_
    rintro e w9 ⟨rfl, hb9⟩
    have HE := hid (below_next hb2 (hb2).size hb9)
    clear hb9
    go_wp2
    go_ret
    exact ⟨rfl, HE.out⟩
  | false =>
  obtain ⟨hl10, hl40⟩ := HF.out rfl
  have HL := hid (⟨by omega, HLI.out, HLX.out, fun a ha => by have := hl40 a ha; omega⟩ : AskOk l)
  clear hl40 HF
  go_wp2_with (fail)
  refine (large21_c AO m cO w2 (HO.out.below hb2) hmn).mono ?_
  rintro e w3 ⟨⟨bm, rfl, -⟩, hb⟩
  have hb3 := below_next hb2 hb2.size hb
  have hP3 := hP2.below hb
  clear hb hb2 hP2
  cases bm with
  | true =>
    go_wp2_with (fail)
    refine (awake21_c w3 (HT.out.below hb3)).mono ?_
    rintro e w9 ⟨rfl, hb9⟩
    have HE := hid (below_next hb3 (hb3).size hb9)
    clear hb9
    go_wp2
    go_ret
    exact ⟨rfl, HE.out⟩
  | false =>
  by_cases hx40 : (x.length : Int) > 40
  case pos =>
    go_wp2_with (fail)
    refine (awake21_c w3 (HT.out.below hb3)).mono ?_
    rintro e w9 ⟨rfl, hb9⟩
    have HE := hid (below_next hb3 (hb3).size hb9)
    clear hb9
    go_wp2
    go_ret
    exact ⟨rfl, HE.out⟩
  go_wp2_with (fail)
  refine (rcopy21_c A l c w3 (HA.out.below hb3) HL.out).mono ?_
  rintro e w4 ⟨v4, rfl, ho4, hb4⟩
  obtain ⟨AK, cK, rfl, hK⟩ := ho4.asks
  have hb5 := below_alloc w4 (.cells #[] 2)
  have ho5 := own_zero (row1_new w4 [] 2) (Nat.le_refl _)
  simp only [List.toArray] at ho5
  clear ho4
  go_wp2_with (first
    | (at_builtin; refine wpList_more elt_i64 (w4.alloc (.cells #[] 2)) (by rfl) _ _ rfl w4.heap.size ho5 rfl ((HA2.out.below (below_next hb3 hb3.size hb4)).below hb5) (by rw [List.length_map]; rfl) (i64_ones _) (by simp; omega) (by simp; omega) hb5.size ?_; intro v6 w6 ho6 hb6; replace hb6 := hb5.trans hb6; clear hb5 ho5; rw [List.nil_append] at ho6; obtain ⟨AY, cY, e6, hY⟩ := ho6.form; rw [List.length_map] at e6; subst e6)
    | fail)
  have hb46 := below_next hb4 hb4.size hb6
  have HB := hid (⟨hP3.below hb46, HA.out.below (below_next hb3 hb3.size hb46), HO.out.below (below_next hb3 hb3.size hb46), HA2.out.below (below_next hb3 hb3.size hb46), hK.below hb6, hY, HT.out.below (below_next hb3 hb3.size hb46), below_next hb3 hb3.size hb46⟩ : Bx p A l AO m A2 x AK AY w.heap.size w w6)
  clear hb46 hb6 hb4 hb3 hP3 hK hY ho6 HA HO HA2 HT
  go_loopw [13] (fun n wr => ∃ k : Nat, n = .int .i64 (k : Int) ∧ k ≤ 2 ∧ Hid (Bx p A l AO m A2 x AK AY w.heap.size w wr)) (fun n _ => 2 - (intOf n).toNat)
  case atStart => exact ⟨0, rfl, by omega, HB⟩
  case round =>
  obtain ⟨k, rfl, hk, HR⟩ := hrel
  rename_i wr
  clear HB
  have hx6 : x.length ≤ 1000000 := by omega
  by_cases hk2 : k < 2
  case pos =>
    have hk2' : (k : Int) < 2 := by omega
    obtain ⟨p0, p1, p2, p3, p4, p5, p6, p7, p8, p9, p10, p11⟩ := par_cells HR.out.P
    go_wp2_with (fail)
    refine (aputS_c p HPO.out A l c id AY x cY wr HR.out.A HL.out HR.out.Y hx6 HXU.out HR.out.T).mono ?_
    rintro e w7 ⟨va, rfl, pa1, pa2, hb7⟩
    have HR7 := hid (HR.out.below hb7)
    clear p0 p1 p2 p3 p4 p5 p6 p7 p8 p9 p10 p11
    obtain ⟨p0, p1, p2, p3, p4, p5, p6, p7, p8, p9, p10, p11⟩ := par_cells HR7.out.P
    have HPA := hid (⟨pa1, pa2⟩ : _ ∧ _)
    clear pa1 pa2
    go_wp2_with (fail)
    refine (rput21_c p HPO.out A l c id A2 x c2 w7 HR7.out.A HL.out hid1 HR7.out.X hx6 HXU.out).mono ?_
    rintro e w8 ⟨vb, rfl, pb1, pb2, hb8⟩
    clear p0 p1 p2 p3 p4 p5 p6 p7 p8 p9 p10 p11
    have hab : ∃ la, AskOk la ∧ OwnS w7 wr.heap.size va la ∧ OwnA w8 w7.heap.size vb la := by
      by_cases h0 : queryP p l id x = 0
      · refine ⟨_, ⟨?_, ?_, ?_, ?_⟩, HPA.out.1 h0, pb1 h0⟩
        · simp; omega
        · intro a ha
          rcases List.mem_append.1 ha with h | h
          · exact HLI.out a h
          · rw [List.mem_singleton.1 h]; exact hid1
        · intro a ha
          rcases List.mem_append.1 ha with h | h
          · exact HLX.out a h
          · rw [List.mem_singleton.1 h]; exact HXU.out
        · intro a ha
          rcases List.mem_append.1 ha with h | h
          · exact HL.out.len a h
          · rw [List.mem_singleton.1 h]; exact hx6
      · rw [HPA.out.2 h0, pb2 h0]
        exact ⟨[], ⟨by simp, fun a h => (by cases h), fun a h => (by cases h), fun a h => (by cases h)⟩, OwnS.nil _ _, OwnA.nil _ _⟩
    obtain ⟨la, hla, hoa, hob⟩ := hab
    obtain ⟨Aa, ca, rfl, hAa⟩ := hoa.toA.asks
    obtain ⟨Ab, cb, rfl, hAb⟩ := hob.asks
    have hlaf := hla.few
    have HLA := hid hla
    have HOA := hid hoa
    have HAA := hid (⟨hAa.below hb8, hAb⟩ : _ ∧ _)
    have HB7 := hid hb7
    have HB8 := hid hb8
    generalize queryP p l id x = R at *
    clear pb1 pb2 HPA hla hoa hob hAa hAb hb7
    go_wp2_with (fail)
    refine (acopyS_c A l c w8 (HR7.out.A.below hb8) HL.out).mono ?_
    rintro e w9 ⟨vc, rfl, ho9, hb9⟩
    obtain ⟨Ac, cc, rfl, hAc⟩ := ho9.toA.asks
    have HO9 := hid ho9
    have HB9 := hid hb9
    have HAC := hid (⟨HAA.out.1.below hb9, HAA.out.2.below hb9, hAc, (HR7.out.A.below hb8).below hb9⟩ : _ ∧ _ ∧ _ ∧ _)
    clear ho9 hAc hb8 hb9
    have hRR : (R != R) = false := by simp
    go_wp2_with (fail)
    refine (rsame21_c Aa Ab la la ca cb w9 HAC.out.1 HAC.out.2.1 (by omega) (by omega)).mono ?_
    rintro e w10 ⟨rfl, hd10⟩
    rw [sameA_yes (rfl : la = la)]
    go_wp2_with (fail)
    refine (rsame21_c Ac A l l cc c w10 (HAC.out.2.2.1.dr hd10) (HAC.out.2.2.2.dr hd10) (by omega) (by omega)).mono ?_
    rintro e w11 ⟨rfl, hd11⟩
    rw [sameA_yes (rfl : l = l)]
    have HD := hid (⟨hd10, hd11⟩ : _ ∧ _)
    clear hd10 hd11
    have h911 := hid (below_dr (below_dr (Below.refl w9.heap.size w9) HD.out.1) HD.out.2)
    have h811 := hid (below_next HB9.out HB9.out.size h911.out)
    have h711 := hid (below_next HB8.out HB8.out.size h811.out)
    have hR11 := hid (below_next HB7.out HB7.out.size h711.out)
    go_wp2_with (fail)
    refine (spoil_c wr.heap.size Aa la ca w7 w11 HOA.out h711.out HLA.out).mono ?_
    rintro e w12 ⟨rfl, hb12, hup12, hs12⟩
    have ho12 : OwnS w12 w8.heap.size (.slice Ac l.length cc) l := (HO9.out.below h911.out).keep fun k h1 _ => hup12 k (Nat.le_trans HB8.out.size h1)
    have HB12 := hid hb12
    clear hb12 hup12
    go_wp2_with (fail)
    refine (spoil_c w8.heap.size Ac l cc w12 w12 ho12 (Below.refl _ _) HL.out).mono ?_
    rintro e w13 ⟨rfl, hb13, -, hs13⟩
    have HN := hid (HR.out.below ((hR11.out.trans HB12.out).trans (hb13.mono (Nat.le_trans HB7.out.size HB8.out.size))))
    clear hb13 hs13 hs12 ho12 HB12 hR11 h711 h811 h911 HD HAC HB9 HO9 HB8 HB7 HAA HOA HLA HR7 hRR hlaf
    go_wp2
    go_roundw
    case rel => exact ⟨k + 1, by go_num, by omega, HN⟩
    case measure => simp [intOf]; omega
  obtain rfl : k = 2 := by omega
  clear hk hk2
  have hmf := HPO
  go_upto_region 14 with (fail)
  refine Rg.wp_region (l := [_, _, _, _, _, _, _, _, _, _, _, _, _, _, _, _, _, _, _, _, _, _, _, _, _, _, _, _, _, _, _, _, _, _, _, _, _, _, _, _, _, _, _, _, _, _, _, _, _, _, _, _, _]) (tail := [_]) (Rg.grows _ 54) [some 77, some 78, some 79, some 80, some 81, some 82, some 83, some 84, some 85, some 86, some 87, some 88, some 89, some 90, some 91, some 92, some 93, some 94, some 95, some 96, some 97, some 98, some 99, some 100, some 101, some 102, some 103, some 104, some 105, some 106, some 107, some 108, some 109, some 110, some 111, some 112, some 113, some 114, some 115, some 116, some 117, some 118, some 119, some 120, some 121, some 122, some 123, some 124, some 125, some 126, some 127, some 128, some 129, some 10] 130 (by kernel_rfl) (by kernel_rfl) (by kernel_rfl) rfl (Rg.grows_fair _ _) (Rg.keep_drew _) (trivial) ?_
  refine Rg.op_is (pval p) [] rfl rfl (by kernel_rfl) ?_ ?_
  · intro wx hb
    refine Rg.from_nil fun T hT => ?_
    obtain ⟨p0, p1, p2, p3, p4, p5, p6, p7, p8, p9, p10, p11⟩ := par_cells (HR.out.P.below hb)
    go_wp2
    exact hT _ _ rfl (by first | exact Rg.Keep.refl _ | exact below_of_dr hw2 | exact hw2 | exact (Below.refl _ _).alloc (Nat.le_refl _) _) (by first | rfl | exact congrArg _ (by decide))
  refine' Rg.op_is _ [] rfl rfl (by kernel_rfl) ?_ ?_
  rotate_left
  · intro wx hb
    refine Rg.from_nil fun T hT => ?_
    go_wp2
    refine hT _ _ rfl (by first | exact Rg.Keep.refl _ | exact below_of_dr hw2 | exact hw2 | exact (Below.refl _ _).alloc (Nat.le_refl _) _) ?_
    simp only [Rg.last, List.getElem?_toArray, List.getElem?_cons_succ, List.getElem?_cons_zero, Option.getD_some]
    rfl
  refine' Rg.op_is _ [] rfl rfl (by kernel_rfl) ?_ ?_
  rotate_left
  · intro wx hb
    refine Rg.from_nil fun T hT => ?_
    go_wp2
    refine hT _ _ rfl (by first | exact Rg.Keep.refl _ | exact below_of_dr hw2 | exact hw2 | exact (Below.refl _ _).alloc (Nat.le_refl _) _) ?_
    simp only [Rg.last, List.getElem?_toArray, List.getElem?_cons_succ, List.getElem?_cons_zero, Option.getD_some]
    rfl
  refine' Rg.op_is _ [] rfl rfl (by kernel_rfl) ?_ ?_
  rotate_left
  · intro wx hb
    refine Rg.from_nil fun T hT => ?_
    go_wp2
    refine hT _ _ rfl (by first | exact Rg.Keep.refl _ | exact below_of_dr hw2 | exact hw2 | exact (Below.refl _ _).alloc (Nat.le_refl _) _) ?_
    simp only [Rg.last, List.getElem?_toArray, List.getElem?_cons_succ, List.getElem?_cons_zero, Option.getD_some]
    rfl
  refine Rg.op_is (.int .i64 (queryP p l id x)) [0, 1, 2, 3] rfl rfl (by kernel_rfl) ?_ ?_
  · intro wx hb
    refine Rg.from_is (some 77) rfl rfl ?_
    refine Rg.from_is (some 78) rfl rfl ?_
    refine Rg.from_is (some 79) rfl rfl ?_
    refine Rg.from_is (some 80) rfl rfl ?_
    refine Rg.from_nil fun T hT => ?_
    go_wp2_with (go_at_call 33; refine (aquery_c p HPO.out A l c id AY x cY _ (HR.out.below hb).A HL.out (HR.out.below hb).Y hx6 HXU.out (HR.out.below hb).T).mono ?_; rintro e w8 ⟨rfl, hw8⟩)
    exact hT _ _ rfl hw8 rfl
  refine Rg.op_is (pval p) [] rfl rfl (by kernel_rfl) ?_ ?_
  · intro wx hb
    refine Rg.from_nil fun T hT => ?_
    obtain ⟨p0, p1, p2, p3, p4, p5, p6, p7, p8, p9, p10, p11⟩ := par_cells (HR.out.P.below hb)
    go_wp2
    exact hT _ _ rfl (by first | exact Rg.Keep.refl _ | exact below_of_dr hw2 | exact hw2 | exact (Below.refl _ _).alloc (Nat.le_refl _) _) (by first | rfl | exact congrArg _ (by decide))
  refine' Rg.op_is _ [] rfl rfl (by kernel_rfl) ?_ ?_
  rotate_left
  · intro wx hb
    refine Rg.from_nil fun T hT => ?_
    go_wp2
    refine hT _ _ rfl (by first | exact Rg.Keep.refl _ | exact below_of_dr hw2 | exact hw2 | exact (Below.refl _ _).alloc (Nat.le_refl _) _) ?_
    simp only [Rg.last, List.getElem?_toArray, List.getElem?_cons_succ, List.getElem?_cons_zero, Option.getD_some]
    rfl
  refine' Rg.op_is _ [] rfl rfl (by kernel_rfl) ?_ ?_
  rotate_left
  · intro wx hb
    refine Rg.from_nil fun T hT => ?_
    go_wp2
    refine hT _ _ rfl (by first | exact Rg.Keep.refl _ | exact below_of_dr hw2 | exact hw2 | exact (Below.refl _ _).alloc (Nat.le_refl _) _) ?_
    simp only [Rg.last, List.getElem?_toArray, List.getElem?_cons_succ, List.getElem?_cons_zero, Option.getD_some]
    rfl
  refine' Rg.op_is _ [] rfl rfl (by kernel_rfl) ?_ ?_
  rotate_left
  · intro wx hb
    refine Rg.from_nil fun T hT => ?_
    go_wp2
    refine hT _ _ rfl (by first | exact Rg.Keep.refl _ | exact below_of_dr hw2 | exact hw2 | exact (Below.refl _ _).alloc (Nat.le_refl _) _) ?_
    simp only [Rg.last, List.getElem?_toArray, List.getElem?_cons_succ, List.getElem?_cons_zero, Option.getD_some]
    rfl
  refine Rg.op_is (.int .i64 (queryP p l id x)) [5, 6, 7, 8] rfl rfl (by kernel_rfl) ?_ ?_
  · intro wx hb
    refine Rg.from_is (some 82) rfl rfl ?_
    refine Rg.from_is (some 83) rfl rfl ?_
    refine Rg.from_is (some 84) rfl rfl ?_
    refine Rg.from_is (some 85) rfl rfl ?_
    refine Rg.from_nil fun T hT => ?_
    go_wp2_with (go_at_call 34; refine (rquery21_c p HPO.out A l c id A2 x c2 _ (HR.out.below hb).A HL.out hid1 (HR.out.below hb).X hx6 HXU.out).mono ?_; rintro e w8 ⟨rfl, hw8⟩)
    exact hT _ _ rfl hw8 rfl
  refine Rg.op_is (.bool true) [4, 9] rfl rfl (by kernel_rfl) ?_ ?_
  · intro wx hb
    refine Rg.from_is (some 81) rfl rfl ?_
    refine Rg.from_is (some 86) rfl rfl ?_
    refine Rg.from_nil fun T hT => ?_
    go_wp2
    exact hT _ _ rfl (by first | exact Rg.Keep.refl _ | exact below_of_dr hw2 | exact hw2 | exact (Below.refl _ _).alloc (Nat.le_refl _) _) (by first | rfl | exact congrArg _ (by decide))
  refine Rg.op_is (.bool true) [10] rfl rfl (by kernel_rfl) ?_ ?_
  · intro wx hb
    refine Rg.from_is (some 87) rfl rfl ?_
    refine Rg.from_nil fun T hT => ?_
    go_wp2
    exact hT _ _ rfl (by first | exact Rg.Keep.refl _ | exact below_of_dr hw2 | exact hw2 | exact (Below.refl _ _).alloc (Nat.le_refl _) _) (by first | rfl | exact congrArg _ (by decide))
  refine Rg.op_is (pval p) [] rfl rfl (by kernel_rfl) ?_ ?_
  · intro wx hb
    refine Rg.from_nil fun T hT => ?_
    obtain ⟨p0, p1, p2, p3, p4, p5, p6, p7, p8, p9, p10, p11⟩ := par_cells (HR.out.P.below hb)
    go_wp2
    exact hT _ _ rfl (by first | exact Rg.Keep.refl _ | exact below_of_dr hw2 | exact hw2 | exact (Below.refl _ _).alloc (Nat.le_refl _) _) (by first | rfl | exact congrArg _ (by decide))
  refine' Rg.op_is _ [] rfl rfl (by kernel_rfl) ?_ ?_
  rotate_left
  · intro wx hb
    refine Rg.from_nil fun T hT => ?_
    go_wp2
    refine hT _ _ rfl (by first | exact Rg.Keep.refl _ | exact below_of_dr hw2 | exact hw2 | exact (Below.refl _ _).alloc (Nat.le_refl _) _) ?_
    simp only [Rg.last, List.getElem?_toArray, List.getElem?_cons_succ, List.getElem?_cons_zero, Option.getD_some]
    rfl
  refine Rg.op_is (.int .i64 (rankP p l)) [12, 13] rfl rfl (by kernel_rfl) ?_ ?_
  · intro wx hb
    refine Rg.from_is (some 89) rfl rfl ?_
    refine Rg.from_is (some 90) rfl rfl ?_
    refine Rg.from_nil fun T hT => ?_
    go_wp2_with (go_at_call 21; refine (arank_c p HPO.out A l c _ (HR.out.below hb).A HL.out (HR.out.below hb).T).mono ?_; rintro e w8 ⟨rfl, hw8⟩)
    exact hT _ _ rfl hw8 rfl
  refine Rg.op_is (pval p) [] rfl rfl (by kernel_rfl) ?_ ?_
  · intro wx hb
    refine Rg.from_nil fun T hT => ?_
    obtain ⟨p0, p1, p2, p3, p4, p5, p6, p7, p8, p9, p10, p11⟩ := par_cells (HR.out.P.below hb)
    go_wp2
    exact hT _ _ rfl (by first | exact Rg.Keep.refl _ | exact below_of_dr hw2 | exact hw2 | exact (Below.refl _ _).alloc (Nat.le_refl _) _) (by first | rfl | exact congrArg _ (by decide))
  refine' Rg.op_is _ [] rfl rfl (by kernel_rfl) ?_ ?_
  rotate_left
  · intro wx hb
    refine Rg.from_nil fun T hT => ?_
    go_wp2
    refine hT _ _ rfl (by first | exact Rg.Keep.refl _ | exact below_of_dr hw2 | exact hw2 | exact (Below.refl _ _).alloc (Nat.le_refl _) _) ?_
    simp only [Rg.last, List.getElem?_toArray, List.getElem?_cons_succ, List.getElem?_cons_zero, Option.getD_some]
    rfl
  refine Rg.op_is (.int .i64 (rankP p l)) [15, 16] rfl rfl (by kernel_rfl) ?_ ?_
  · intro wx hb
    refine Rg.from_is (some 92) rfl rfl ?_
    refine Rg.from_is (some 93) rfl rfl ?_
    refine Rg.from_nil fun T hT => ?_
    go_wp2_with (go_at_call 35; refine (rrank21_c p HPO.out A l c _ (HR.out.below hb).A HL.out (by omega)).mono ?_; rintro e w8 ⟨rfl, hw8⟩)
    exact hT _ _ rfl hw8 rfl
  refine Rg.op_is (.bool true) [14, 17] rfl rfl (by kernel_rfl) ?_ ?_
  · intro wx hb
    refine Rg.from_is (some 91) rfl rfl ?_
    refine Rg.from_is (some 94) rfl rfl ?_
    refine Rg.from_nil fun T hT => ?_
    go_wp2
    exact hT _ _ rfl (by first | exact Rg.Keep.refl _ | exact below_of_dr hw2 | exact hw2 | exact (Below.refl _ _).alloc (Nat.le_refl _) _) (by first | rfl | exact congrArg _ (by decide))
  refine Rg.op_is (.bool true) [11, 18] rfl rfl (by kernel_rfl) ?_ ?_
  · intro wx hb
    refine Rg.from_is (some 88) rfl rfl ?_
    refine Rg.from_is (some 95) rfl rfl ?_
    refine Rg.from_nil fun T hT => ?_
    go_wp2
    exact hT _ _ rfl (by first | exact Rg.Keep.refl _ | exact below_of_dr hw2 | exact hw2 | exact (Below.refl _ _).alloc (Nat.le_refl _) _) (by first | rfl | exact congrArg _ (by decide))
  refine Rg.op_is (.bool true) [19] rfl rfl (by kernel_rfl) ?_ ?_
  · intro wx hb
    refine Rg.from_is (some 96) rfl rfl ?_
    refine Rg.from_nil fun T hT => ?_
    go_wp2
    exact hT _ _ rfl (by first | exact Rg.Keep.refl _ | exact below_of_dr hw2 | exact hw2 | exact (Below.refl _ _).alloc (Nat.le_refl _) _) (by first | rfl | exact congrArg _ (by decide))
  refine Rg.op_is (pval p) [] rfl rfl (by kernel_rfl) ?_ ?_
  · intro wx hb
    refine Rg.from_nil fun T hT => ?_
    obtain ⟨p0, p1, p2, p3, p4, p5, p6, p7, p8, p9, p10, p11⟩ := par_cells (HR.out.P.below hb)
    go_wp2
    exact hT _ _ rfl (by first | exact Rg.Keep.refl _ | exact below_of_dr hw2 | exact hw2 | exact (Below.refl _ _).alloc (Nat.le_refl _) _) (by first | rfl | exact congrArg _ (by decide))
  refine' Rg.op_is _ [] rfl rfl (by kernel_rfl) ?_ ?_
  rotate_left
  · intro wx hb
    refine Rg.from_nil fun T hT => ?_
    go_wp2
    refine hT _ _ rfl (by first | exact Rg.Keep.refl _ | exact below_of_dr hw2 | exact hw2 | exact (Below.refl _ _).alloc (Nat.le_refl _) _) ?_
    simp only [Rg.last, List.getElem?_toArray, List.getElem?_cons_succ, List.getElem?_cons_zero, Option.getD_some]
    rfl
  refine' Rg.op_is _ [] rfl rfl (by kernel_rfl) ?_ ?_
  rotate_left
  · intro wx hb
    refine Rg.from_nil fun T hT => ?_
    go_wp2
    refine hT _ _ rfl (by first | exact Rg.Keep.refl _ | exact below_of_dr hw2 | exact hw2 | exact (Below.refl _ _).alloc (Nat.le_refl _) _) ?_
    simp only [Rg.last, List.getElem?_toArray, List.getElem?_cons_succ, List.getElem?_cons_zero, Option.getD_some]
    rfl
  refine Rg.op_is (.bool (followsP p l x)) [21, 22, 23] rfl rfl (by kernel_rfl) ?_ ?_
  · intro wx hb
    refine Rg.from_is (some 98) rfl rfl ?_
    refine Rg.from_is (some 99) rfl rfl ?_
    refine Rg.from_is (some 100) rfl rfl ?_
    refine Rg.from_nil fun T hT => ?_
    go_wp2_with (go_at_call 36; refine (afollows_c p HPO.out A l c AY x cY _ (HR.out.below hb).A HL.out (HR.out.below hb).Y hx6 HXU.out (HR.out.below hb).T).mono ?_; rintro e w8 ⟨rfl, hw8⟩)
    exact hT _ _ rfl hw8 rfl
  refine Rg.op_is (pval p) [] rfl rfl (by kernel_rfl) ?_ ?_
  · intro wx hb
    refine Rg.from_nil fun T hT => ?_
    obtain ⟨p0, p1, p2, p3, p4, p5, p6, p7, p8, p9, p10, p11⟩ := par_cells (HR.out.P.below hb)
    go_wp2
    exact hT _ _ rfl (by first | exact Rg.Keep.refl _ | exact below_of_dr hw2 | exact hw2 | exact (Below.refl _ _).alloc (Nat.le_refl _) _) (by first | rfl | exact congrArg _ (by decide))
  refine' Rg.op_is _ [] rfl rfl (by kernel_rfl) ?_ ?_
  rotate_left
  · intro wx hb
    refine Rg.from_nil fun T hT => ?_
    go_wp2
    refine hT _ _ rfl (by first | exact Rg.Keep.refl _ | exact below_of_dr hw2 | exact hw2 | exact (Below.refl _ _).alloc (Nat.le_refl _) _) ?_
    simp only [Rg.last, List.getElem?_toArray, List.getElem?_cons_succ, List.getElem?_cons_zero, Option.getD_some]
    rfl
  refine' Rg.op_is _ [] rfl rfl (by kernel_rfl) ?_ ?_
  rotate_left
  · intro wx hb
    refine Rg.from_nil fun T hT => ?_
    go_wp2
    refine hT _ _ rfl (by first | exact Rg.Keep.refl _ | exact below_of_dr hw2 | exact hw2 | exact (Below.refl _ _).alloc (Nat.le_refl _) _) ?_
    simp only [Rg.last, List.getElem?_toArray, List.getElem?_cons_succ, List.getElem?_cons_zero, Option.getD_some]
    rfl
  refine Rg.op_is (.bool (followsP p l x)) [25, 26, 27] rfl rfl (by kernel_rfl) ?_ ?_
  · intro wx hb
    refine Rg.from_is (some 102) rfl rfl ?_
    refine Rg.from_is (some 103) rfl rfl ?_
    refine Rg.from_is (some 104) rfl rfl ?_
    refine Rg.from_nil fun T hT => ?_
    go_wp2_with (go_at_call 37; refine (rfollows21_c p HPO.out A l c A2 x c2 _ (HR.out.below hb).A HL.out (by omega) (HR.out.below hb).X hx6 HXU.out).mono ?_; rintro e w8 ⟨rfl, hw8⟩)
    exact hT _ _ rfl hw8 rfl
  refine Rg.op_is (.bool true) [24, 28] rfl rfl (by kernel_rfl) ?_ ?_
  · intro wx hb
    refine Rg.from_is (some 101) rfl rfl ?_
    refine Rg.from_is (some 105) rfl rfl ?_
    refine Rg.from_nil fun T hT => ?_
    go_wp2
    exact hT _ _ rfl (by first | exact Rg.Keep.refl _ | exact below_of_dr hw2 | exact hw2 | exact (Below.refl _ _).alloc (Nat.le_refl _) _) (by first | rfl | exact congrArg _ (by decide))
  refine Rg.op_is (.bool true) [20, 29] rfl rfl (by kernel_rfl) ?_ ?_
  · intro wx hb
    refine Rg.from_is (some 97) rfl rfl ?_
    refine Rg.from_is (some 106) rfl rfl ?_
    refine Rg.from_nil fun T hT => ?_
    go_wp2
    exact hT _ _ rfl (by first | exact Rg.Keep.refl _ | exact below_of_dr hw2 | exact hw2 | exact (Below.refl _ _).alloc (Nat.le_refl _) _) (by first | rfl | exact congrArg _ (by decide))
  refine Rg.op_is (.bool true) [30] rfl rfl (by kernel_rfl) ?_ ?_
  · intro wx hb
    refine Rg.from_is (some 107) rfl rfl ?_
    refine Rg.from_nil fun T hT => ?_
    go_wp2
    exact hT _ _ rfl (by first | exact Rg.Keep.refl _ | exact below_of_dr hw2 | exact hw2 | exact (Below.refl _ _).alloc (Nat.le_refl _) _) (by first | rfl | exact congrArg _ (by decide))
  refine' Rg.op_is _ [] rfl rfl (by kernel_rfl) ?_ ?_
  rotate_left
  · intro wx hb
    refine Rg.from_nil fun T hT => ?_
    go_wp2
    refine hT _ _ rfl (by first | exact Rg.Keep.refl _ | exact below_of_dr hw2 | exact hw2 | exact (Below.refl _ _).alloc (Nat.le_refl _) _) ?_
    simp only [Rg.last, List.getElem?_toArray, List.getElem?_cons_succ, List.getElem?_cons_zero, Option.getD_some]
    rfl
  refine' Rg.op_is _ [] rfl rfl (by kernel_rfl) ?_ ?_
  rotate_left
  · intro wx hb
    refine Rg.from_nil fun T hT => ?_
    go_wp2
    refine hT _ _ rfl (by first | exact Rg.Keep.refl _ | exact below_of_dr hw2 | exact hw2 | exact (Below.refl _ _).alloc (Nat.le_refl _) _) ?_
    simp only [Rg.last, List.getElem?_toArray, List.getElem?_cons_succ, List.getElem?_cons_zero, Option.getD_some]
    rfl
  refine Rg.op_is (.bool (sameA l m)) [32, 33] rfl rfl (by kernel_rfl) ?_ ?_
  · intro wx hb
    refine Rg.from_is (some 109) rfl rfl ?_
    refine Rg.from_is (some 110) rfl rfl ?_
    refine Rg.from_nil fun T hT => ?_
    go_wp2_with (go_at_call 38; refine (asame_c A AO l m c cO _ (HR.out.below hb).A (HR.out.below hb).O hln hmn).mono ?_; rintro e w8 ⟨rfl, hw8⟩)
    exact hT _ _ rfl hw8 rfl
  refine' Rg.op_is _ [] rfl rfl (by kernel_rfl) ?_ ?_
  rotate_left
  · intro wx hb
    refine Rg.from_nil fun T hT => ?_
    go_wp2
    refine hT _ _ rfl (by first | exact Rg.Keep.refl _ | exact below_of_dr hw2 | exact hw2 | exact (Below.refl _ _).alloc (Nat.le_refl _) _) ?_
    simp only [Rg.last, List.getElem?_toArray, List.getElem?_cons_succ, List.getElem?_cons_zero, Option.getD_some]
    rfl
  refine' Rg.op_is _ [] rfl rfl (by kernel_rfl) ?_ ?_
  rotate_left
  · intro wx hb
    refine Rg.from_nil fun T hT => ?_
    go_wp2
    refine hT _ _ rfl (by first | exact Rg.Keep.refl _ | exact below_of_dr hw2 | exact hw2 | exact (Below.refl _ _).alloc (Nat.le_refl _) _) ?_
    simp only [Rg.last, List.getElem?_toArray, List.getElem?_cons_succ, List.getElem?_cons_zero, Option.getD_some]
    rfl
  refine Rg.op_is (.bool (sameA l m)) [35, 36] rfl rfl (by kernel_rfl) ?_ ?_
  · intro wx hb
    refine Rg.from_is (some 112) rfl rfl ?_
    refine Rg.from_is (some 113) rfl rfl ?_
    refine Rg.from_nil fun T hT => ?_
    go_wp2_with (go_at_call 31; refine (rsame21_c A AO l m c cO _ (HR.out.below hb).A (HR.out.below hb).O hln hmn).mono ?_; rintro e w8 ⟨rfl, hw8⟩)
    exact hT _ _ rfl (below_of_dr hw8) rfl
  refine Rg.op_is (.bool true) [34, 37] rfl rfl (by kernel_rfl) ?_ ?_
  · intro wx hb
    refine Rg.from_is (some 111) rfl rfl ?_
    refine Rg.from_is (some 114) rfl rfl ?_
    refine Rg.from_nil fun T hT => ?_
    go_wp2
    exact hT _ _ rfl (by first | exact Rg.Keep.refl _ | exact below_of_dr hw2 | exact hw2 | exact (Below.refl _ _).alloc (Nat.le_refl _) _) (by first | rfl | exact congrArg _ (by decide))
  refine Rg.op_is (.bool true) [31, 38] rfl rfl (by kernel_rfl) ?_ ?_
  · intro wx hb
    refine Rg.from_is (some 108) rfl rfl ?_
    refine Rg.from_is (some 115) rfl rfl ?_
    refine Rg.from_nil fun T hT => ?_
    go_wp2
    exact hT _ _ rfl (by first | exact Rg.Keep.refl _ | exact below_of_dr hw2 | exact hw2 | exact (Below.refl _ _).alloc (Nat.le_refl _) _) (by first | rfl | exact congrArg _ (by decide))
  refine Rg.op_is (.bool true) [39] rfl rfl (by kernel_rfl) ?_ ?_
  · intro wx hb
    refine Rg.from_is (some 116) rfl rfl ?_
    refine Rg.from_nil fun T hT => ?_
    go_wp2
    exact hT _ _ rfl (by first | exact Rg.Keep.refl _ | exact below_of_dr hw2 | exact hw2 | exact (Below.refl _ _).alloc (Nat.le_refl _) _) (by first | rfl | exact congrArg _ (by decide))
  refine' Rg.op_is _ [] rfl rfl (by kernel_rfl) ?_ ?_
  rotate_left
  · intro wx hb
    refine Rg.from_nil fun T hT => ?_
    go_wp2
    refine hT _ _ rfl (by first | exact Rg.Keep.refl _ | exact below_of_dr hw2 | exact hw2 | exact (Below.refl _ _).alloc (Nat.le_refl _) _) ?_
    simp only [Rg.last, List.getElem?_toArray, List.getElem?_cons_succ, List.getElem?_cons_zero, Option.getD_some]
    rfl
  refine' Rg.op_is _ [] rfl rfl (by kernel_rfl) ?_ ?_
  rotate_left
  · intro wx hb
    refine Rg.from_nil fun T hT => ?_
    go_wp2
    refine hT _ _ rfl (by first | exact Rg.Keep.refl _ | exact below_of_dr hw2 | exact hw2 | exact (Below.refl _ _).alloc (Nat.le_refl _) _) ?_
    simp only [Rg.last, List.getElem?_toArray, List.getElem?_cons_succ, List.getElem?_cons_zero, Option.getD_some]
    rfl
  refine Rg.op_is (.bool true) [41, 42] rfl rfl (by kernel_rfl) ?_ ?_
  · intro wx hb
    refine Rg.from_is (some 118) rfl rfl ?_
    refine Rg.from_is (some 119) rfl rfl ?_
    refine Rg.from_nil fun T hT => ?_
    go_wp2_with (go_at_call 31; refine (rsame21_c A AK l l c cK _ (HR.out.below hb).A (HR.out.below hb).K hln hln).mono ?_; rintro e w8 ⟨rfl, hw8⟩; rw [sameA_yes (rfl : l = l)])
    exact hT _ _ rfl (below_of_dr hw8) rfl
  refine Rg.op_is (.bool true) [40, 43] rfl rfl (by kernel_rfl) ?_ ?_
  · intro wx hb
    refine Rg.from_is (some 117) rfl rfl ?_
    refine Rg.from_is (some 120) rfl rfl ?_
    refine Rg.from_nil fun T hT => ?_
    go_wp2
    exact hT _ _ rfl (by first | exact Rg.Keep.refl _ | exact below_of_dr hw2 | exact hw2 | exact (Below.refl _ _).alloc (Nat.le_refl _) _) (by first | rfl | exact congrArg _ (by decide))
  refine Rg.op_is (.bool true) [44] rfl rfl (by kernel_rfl) ?_ ?_
  · intro wx hb
    refine Rg.from_is (some 121) rfl rfl ?_
    refine Rg.from_nil fun T hT => ?_
    go_wp2
    exact hT _ _ rfl (by first | exact Rg.Keep.refl _ | exact below_of_dr hw2 | exact hw2 | exact (Below.refl _ _).alloc (Nat.le_refl _) _) (by first | rfl | exact congrArg _ (by decide))
  refine' Rg.op_is _ [] rfl rfl (by kernel_rfl) ?_ ?_
  rotate_left
  · intro wx hb
    refine Rg.from_nil fun T hT => ?_
    go_wp2
    refine hT _ _ rfl (by first | exact Rg.Keep.refl _ | exact below_of_dr hw2 | exact hw2 | exact (Below.refl _ _).alloc (Nat.le_refl _) _) ?_
    simp only [Rg.last, List.getElem?_toArray, List.getElem?_cons_succ, List.getElem?_cons_zero, Option.getD_some]
    rfl
  refine' Rg.op_is _ [] rfl rfl (by kernel_rfl) ?_ ?_
  rotate_left
  · intro wx hb
    refine Rg.from_nil fun T hT => ?_
    go_wp2
    refine hT _ _ rfl (by first | exact Rg.Keep.refl _ | exact below_of_dr hw2 | exact hw2 | exact (Below.refl _ _).alloc (Nat.le_refl _) _) ?_
    simp only [Rg.last, List.getElem?_toArray, List.getElem?_cons_succ, List.getElem?_cons_zero, Option.getD_some]
    rfl
  refine Rg.op_is (.bool true) [46, 47] rfl rfl (by kernel_rfl) ?_ ?_
  · intro wx hb
    refine Rg.from_is (some 123) rfl rfl ?_
    refine Rg.from_is (some 124) rfl rfl ?_
    refine Rg.from_nil fun T hT => ?_
    go_wp2_with (go_at_call 39; refine (ints_c A2 AY x x c2 cY _ (HR.out.below hb).X (HR.out.below hb).Y _hxl _hxl).mono ?_; rintro e w8 ⟨rfl, hw8⟩; rw [decide_eq_true (rfl : x = x)])
    exact hT _ _ rfl (below_of_dr hw8) rfl
  refine Rg.op_is (.bool true) [45, 48] rfl rfl (by kernel_rfl) ?_ ?_
  · intro wx hb
    refine Rg.from_is (some 122) rfl rfl ?_
    refine Rg.from_is (some 125) rfl rfl ?_
    refine Rg.from_nil fun T hT => ?_
    go_wp2
    exact hT _ _ rfl (by first | exact Rg.Keep.refl _ | exact below_of_dr hw2 | exact hw2 | exact (Below.refl _ _).alloc (Nat.le_refl _) _) (by first | rfl | exact congrArg _ (by decide))
  refine Rg.op_is (.bool true) [49] rfl rfl (by kernel_rfl) ?_ ?_
  · intro wx hb
    refine Rg.from_is (some 126) rfl rfl ?_
    refine Rg.from_nil fun T hT => ?_
    go_wp2
    exact hT _ _ rfl (by first | exact Rg.Keep.refl _ | exact below_of_dr hw2 | exact hw2 | exact (Below.refl _ _).alloc (Nat.le_refl _) _) (by first | rfl | exact congrArg _ (by decide))
  refine Rg.op_is (.bool true) [] rfl rfl (by kernel_rfl) ?_ ?_
  · intro wx hb
    refine Rg.from_nil fun T hT => ?_
    go_wp2_with (go_at_call 17; refine (awake21_c _ (HR.out.below hb).T).mono ?_; rintro e w8 ⟨rfl, hw8⟩)
    exact hT _ _ rfl hw8 rfl
  refine Rg.op_is (.bool true) [50, 51] rfl rfl (by kernel_rfl) ?_ ?_
  · intro wx hb
    refine Rg.from_is (some 127) rfl rfl ?_
    refine Rg.from_is (some 128) rfl rfl ?_
    refine Rg.from_nil fun T hT => ?_
    go_wp2
    exact hT _ _ rfl (by first | exact Rg.Keep.refl _ | exact below_of_dr hw2 | exact hw2 | exact (Below.refl _ _).alloc (Nat.le_refl _) _) (by first | rfl | exact congrArg _ (by decide))
  refine Rg.walk_nil [0, 1, 2, 3, 4, 5, 6, 7, 8, 9, 10, 11, 12, 13, 14, 15, 16, 17, 18, 19, 20, 21, 22, 23, 24, 25, 26, 27, 28, 29, 30, 31, 32, 33, 34, 35, 36, 37, 38, 39, 40, 41, 42, 43, 44, 45, 46, 47, 48, 49, 50, 51, 52] (by kernel_rfl) ?_
  intro wx hb
  refine Rg.from_is (some 77) rfl rfl ?_
  refine Rg.from_is (some 78) rfl rfl ?_
  refine Rg.from_is (some 79) rfl rfl ?_
  refine Rg.from_is (some 80) rfl rfl ?_
  refine Rg.from_is (some 81) rfl rfl ?_
  refine Rg.from_is (some 82) rfl rfl ?_
  refine Rg.from_is (some 83) rfl rfl ?_
  refine Rg.from_is (some 84) rfl rfl ?_
  refine Rg.from_is (some 85) rfl rfl ?_
  refine Rg.from_is (some 86) rfl rfl ?_
  refine Rg.from_is (some 87) rfl rfl ?_
  refine Rg.from_is (some 88) rfl rfl ?_
  refine Rg.from_is (some 89) rfl rfl ?_
  refine Rg.from_is (some 90) rfl rfl ?_
  refine Rg.from_is (some 91) rfl rfl ?_
  refine Rg.from_is (some 92) rfl rfl ?_
  refine Rg.from_is (some 93) rfl rfl ?_
  refine Rg.from_is (some 94) rfl rfl ?_
  refine Rg.from_is (some 95) rfl rfl ?_
  refine Rg.from_is (some 96) rfl rfl ?_
  refine Rg.from_is (some 97) rfl rfl ?_
  refine Rg.from_is (some 98) rfl rfl ?_
  refine Rg.from_is (some 99) rfl rfl ?_
  refine Rg.from_is (some 100) rfl rfl ?_
  refine Rg.from_is (some 101) rfl rfl ?_
  refine Rg.from_is (some 102) rfl rfl ?_
  refine Rg.from_is (some 103) rfl rfl ?_
  refine Rg.from_is (some 104) rfl rfl ?_
  refine Rg.from_is (some 105) rfl rfl ?_
  refine Rg.from_is (some 106) rfl rfl ?_
  refine Rg.from_is (some 107) rfl rfl ?_
  refine Rg.from_is (some 108) rfl rfl ?_
  refine Rg.from_is (some 109) rfl rfl ?_
  refine Rg.from_is (some 110) rfl rfl ?_
  refine Rg.from_is (some 111) rfl rfl ?_
  refine Rg.from_is (some 112) rfl rfl ?_
  refine Rg.from_is (some 113) rfl rfl ?_
  refine Rg.from_is (some 114) rfl rfl ?_
  refine Rg.from_is (some 115) rfl rfl ?_
  refine Rg.from_is (some 116) rfl rfl ?_
  refine Rg.from_is (some 117) rfl rfl ?_
  refine Rg.from_is (some 118) rfl rfl ?_
  refine Rg.from_is (some 119) rfl rfl ?_
  refine Rg.from_is (some 120) rfl rfl ?_
  refine Rg.from_is (some 121) rfl rfl ?_
  refine Rg.from_is (some 122) rfl rfl ?_
  refine Rg.from_is (some 123) rfl rfl ?_
  refine Rg.from_is (some 124) rfl rfl ?_
  refine Rg.from_is (some 125) rfl rfl ?_
  refine Rg.from_is (some 126) rfl rfl ?_
  refine Rg.from_is (some 127) rfl rfl ?_
  refine Rg.from_is (some 128) rfl rfl ?_
  refine Rg.from_is (some 129) rfl rfl ?_
  refine Rg.from_nil ?_
  simp only [List.map, Act.put, List.setIfInBounds_toArray, List.set_cons_zero, List.set_cons_succ]
  have HE := hid (HR.out.below hb).b
  go_wp2
  go_ret
  exact ⟨rfl, HE.out⟩
end Go.Proofs.YtlbhmoiicbhgkaaDoor
