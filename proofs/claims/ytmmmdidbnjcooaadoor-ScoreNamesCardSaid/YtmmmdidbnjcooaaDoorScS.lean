/-
  Layer 22: the members whose share is wrong: the walk (begun).
  Layer 22: what the examples' shares tell (closed values).
  Rows that lie in blocks of their own, no two in one. (No program in sight but for the types.)
  Layer 22: the examples are as they are told.
  Facts that stay while memory is only made. (No program in sight but for the types.)
  ScoreNames: the walk.
-/
import Derived.Test.YtmmmdidbnjcooaaDoorScR
import Derived.LoopIn

section
namespace Go.Proofs.YtmmmdidbnjcooaaDoor
open Go Go.RowKit Go.Maps Go.Shelf Go.Proofs

attribute [local go_sem] Oper.semAt_some

def LiarsR (r : List Int × Int) (w : World) (x : Ending) (w' : World) : Prop := ∃ v, x = .returned (.tuple #[v, .int .i64 r.2]) ∧ Own w' w.heap.size 3 v (r.1.map (.int .i64)) ∧ Below w.heap.size w w'
/-- what lies in memory while rows are told. -/
structure LS (p : Par) (A : Option Addr) (ats : List Int) (c g3 g4 g6 g7 g8 gm : Nat) (bxs : List (Nat × TypeId × List Value)) (N M : Nat) (w0 : World) (xs : List (Int × List Nat × Int)) (w : World) : Prop where
  R3 : Row1 w g3 34 (pcells p)
  R4 : Row1 w g4 46 [.slice A ats.length c]
  R6 : Row1 w g6 46 [.slice none 0 0]
  R7 : Row1 w g7 27 [.int .i64 0]
  R8 : Row1 w g8 118 [.map (some gm)]
  mp : MapAt nM w gm (xs.foldl (fun L x => putsN ats L x.2.1) [])
  bx : ∀ x ∈ bxs, Row1 w x.1 x.2.1 x.2.2
  no : ∀ x ∈ xs, x.2.2 = 0
  b : Below N w0 w
  lt : M ≤ w.heap.size
theorem LS.below {p : Par} {A : Option Addr} {ats : List Int} {c g3 g4 g6 g7 g8 gm : Nat} {bxs : List (Nat × TypeId × List Value)} {N M : Nat} {w0 : World} {xs : List (Int × List Nat × Int)} {w w' : World} (h : LS p A ats c g3 g4 g6 g7 g8 gm bxs N M w0 xs w) (hNM : N ≤ M) (hb : Below w.heap.size w w') : LS p A ats c g3 g4 g6 g7 g8 gm bxs N M w0 xs w' :=
  ⟨h.R3.below hb, h.R4.below hb, h.R6.below hb, h.R7.below hb, h.R8.below hb, h.mp.below hb, fun x hx => (h.bx x hx).below hb, h.no, h.b.trans (hb.mono (Nat.le_trans hNM h.lt)), Nat.le_trans h.lt hb.size⟩
/-- what is told where a row is refused. -/
structure LX (g6 g7 : Nat) (e : Int) (N : Nat) (w0 w : World) : Prop where
  R6 : Row1 w g6 46 [.slice none 0 0]
  R7 : Row1 w g7 27 [.int .i64 e]
  b : Below N w0 w
set_option maxRecDepth 100000 in
set_option maxHeartbeats 8000000 in
theorem liars_c (p : Par) (hp : p.ok) (A B : Option Addr) (ats : List Int) (sh : List (List Int)) (c d : Nat) (w : World) (hA : Cells w A (ats.map (.int .i64))) (hB : Grid w B sh) (hl : ats.length ≤ 1000) (hl' : sh.length ≤ 1000) (hu : ∀ s ∈ sh, U64s s) (hTab : Tabs w) :
    Calls Tryd.prog 42 #[pval p, .slice A ats.length c, .slice B sh.length d] w (LiarsR (liarsP p ats sh) w) := by
  have HA := hid hA
  have HB := hid hB
  have HT := hid hTab
  clear hA hB hTab
  refine (callsIn_wide (n := 10)).1 ?_
  refine callsIn_of_wp_marks Tryd.func42 rfl trivial ?_ rfl
  refine (wpIn_wide (n := 10)).2 ?_
  simp only [Tryd.ntmps42, List.size_toArray, List.length_cons, List.length_nil, Nat.reduceAdd, Nat.reduceSub, Array.replicate_succ, Array.replicate_zero, List.push_toArray, List.append_toArray, List.nil_append, List.cons_append]
  go_upto_region 1 with (fail)
  have k1 := row1_new w (pcells p) 34
  have k2 := row1_in (w.alloc (.cells (pcells p).toArray 34)) [.slice A ats.length c] 46 (w.heap.size + 1) (by simp)
  have k3 := row1_in ((w.alloc (.cells (pcells p).toArray 34)).alloc (.cells #[.slice A ats.length c] 46)) [.slice none 0 0] 46 (w.heap.size + 1 + 1) (by simp)
  have k4 := row1_in (((w.alloc (.cells (pcells p).toArray 34)).alloc (.cells #[.slice A ats.length c] 46)).alloc (.cells #[.slice none 0 0] 46)) [.int .i64 0] 27 (w.heap.size + 1 + 1 + 1) (by simp)
  have K3 := ((k1.alloc (.cells #[.slice A ats.length c] 46)).alloc (.cells #[.slice none 0 0] 46)).alloc (.cells #[.int .i64 0] 27)
  have K4 := (k2.alloc (.cells #[.slice none 0 0] 46)).alloc (.cells #[.int .i64 0] 27)
  have K6 := k3.alloc (.cells #[.int .i64 0] 27)
  have K7 := k4
  have KB := (((below_alloc w (.cells (pcells p).toArray 34)).alloc (by simp) (.cells #[.slice A ats.length c] 46)).alloc (by simp; omega) (.cells #[.slice none 0 0] 46)).alloc (by simp; omega) (.cells #[.int .i64 0] 27)
  clear k1 k2 k3 k4
  simp only [List.toArray] at K3 K4 K6 K7 KB
  generalize (((w.alloc (.cells _ 34)).alloc (.cells #[.slice A ats.length c] 46)).alloc (.cells #[.slice none 0 0] 46)).alloc (.cells #[.int .i64 0] 27) = w1 at *
  obtain ⟨g7, e7⟩ : ∃ g, w.heap.size + 1 + 1 + 1 = g := ⟨_, rfl⟩
  obtain ⟨g6, e6⟩ : ∃ g, w.heap.size + 1 + 1 = g := ⟨_, rfl⟩
  obtain ⟨g4, e4⟩ : ∃ g, w.heap.size + 1 = g := ⟨_, rfl⟩
  obtain ⟨g3, e3⟩ : ∃ g, w.heap.size = g := ⟨_, rfl⟩
  rw [e7] at K7 ⊢
  rw [e6] at K6 ⊢
  rw [e4] at K4 ⊢
  rw [e3]
  have K3' : Row1 w1 g3 34 (pcells p) := by rw [← e3]; exact K3
  clear K3
  have d46 : g4 < g6 := by omega
  have n6 : w.heap.size ≤ g6 := by omega
  have n7 : w.heap.size ≤ g7 := by omega
  have d67 : g6 < g7 := by omega
  have d34 : g3 < g4 := by omega
  have E3 := hid e3
  clear e7 e6 e4 e3
  have c4 := K4.cell (k := 0) rfl
  obtain ⟨p0, p1, p2, p3, p4, p5, p6, p7, p8, p9, p10, p11⟩ := par_cells K3'
  go_wp2_with (fail)
  refine (args_c p A B ats sh c d w1 (HA.out.below KB) (HB.out.below KB) hl hl').mono ?_
  rintro e w2 ⟨rfl, hb2⟩
  replace K3' := K3'.below hb2
  replace K4 := K4.below hb2
  replace K6 := K6.below hb2
  replace K7 := K7.below hb2
  replace KB := below_next KB KB.size hb2
  clear hb2 c4 p0 p1 p2 p3 p4 p5 p6 p7 p8 p9 p10 p11
  have c6 := K6.cell (k := 0) rfl
  have c7 := K7.cell (k := 0) rfl
  have f6 := K6.frozen 0
  have f7 := K7.frozen 0
  cases hab : argsB p.K ats sh with
  | false =>
    have HF := hid (show liarsP p ats sh = ([], 1) by unfold liarsP; rw [hab]; rfl)
    clear hab
    go_wp2
    refine ⟨.tuple #[.slice none 0 0, .int .i64 1], ?_, ?_⟩
    · have q6 := ((K6.set 0 (.slice none 0 0)).far (p := ⟨g7, 0, none⟩) (by simp; omega) (.int .i64 1)).cell (k := 0) rfl
      have q7 := ((K7.far (p := ⟨g6, 0, none⟩) (by simp; omega) (.slice none 0 0)).set 0 (.int .i64 1)).cell (k := 0) rfl
      simp [results, Tryd.f42, go_sem, q6, q7]
    · rw [HF.out]
      exact ⟨_, rfl, Own.nil _ _ _, (KB.setCell (p := ⟨g6, 0, none⟩) n6 _).setCell (p := ⟨g7, 0, none⟩) n7 _⟩
  | true =>
    have HF := hid (show liarsP p ats sh = liarsL ats (told22 p.T p.Q ats sh p.K.toNat 0) by unfold liarsP; rw [hab]; rfl)
    have HOK := hid (argsB_ok hab hl hu)
    clear hab
    have c4' := K4.cell (k := 0) rfl
    have hm8 := (mapAt_made (M := nM) w2).alloc (.cells #[.map (some w2.heap.size)] 118)
    have k8 := row1_in (w2.alloc (.map #[] 0)) [.map (some w2.heap.size)] 118 (w2.heap.size + 1) (by simp)
    have hb8 := (below_alloc w2 (.map #[] 0)).alloc (by simp) (.cells #[.map (some w2.heap.size)] 118)
    replace K3' := K3'.below hb8
    replace K4 := K4.below hb8
    replace K6 := K6.below hb8
    replace K7 := K7.below hb8
    have h7l : g7 < w2.heap.size := lt_of_cell c7
    replace KB := below_next KB KB.size hb8
    clear hb8 c6 c7 f6 f7 c4'
    have hmm := @run_makeMap Tryd.prog
    go_upto_region 4 with (fail)
    clear hmm
    simp only [List.toArray] at K3' K4 K6 K7 KB k8 hm8
    generalize (w2.alloc (.map #[] 0)).alloc (.cells #[.map (some w2.heap.size)] 118) = w3 at *
    obtain ⟨g8, e8⟩ : ∃ g, w2.heap.size + 1 = g := ⟨_, rfl⟩
    obtain ⟨gm, em⟩ : ∃ g, w2.heap.size = g := ⟨_, rfl⟩
    rw [e8] at k8 ⊢
    rw [em] at hm8 k8 h7l
    have h8m : gm < g8 := by omega
    clear e8 em
    obtain ⟨p0, p1, p2, p3, p4, p5, p6, p7, p8, p9, p10, p11⟩ := par_cells K3'
    have c4 := K4.cell (k := 0) rfl
    have h8l : g8 < w3.heap.size := k8.lt
    go_wp2_with (fail)
    refine (rows_c p A B ats.length sh.length c d w3).mono ?_
    rintro e w5 ⟨ga, gp, gs, rfl, ra, rp, rs, l1, l2, l3, hb5⟩
    have h35 := hb5.size
    have S5 : LS p A ats c g3 g4 g6 g7 g8 gm [(ga, 46, [.slice A ats.length c]), (gp, 34, pcells p), (gs, 26, [.slice B sh.length d])] w.heap.size w5.heap.size w [] w5 :=
      ⟨K3'.below hb5, K4.below hb5, K6.below hb5, K7.below hb5, k8.below hb5, hm8.below hb5, fun x hx => by
        simp only [List.mem_cons, List.not_mem_nil, or_false] at hx
        rcases hx with rfl | rfl | rfl
        · exact ra
        · exact rp
        · exact rs, (fun x hx => by cases hx), below_next KB KB.size hb5, Nat.le_refl _⟩
    have hN5 := S5.b.size
    clear p0 p1 p2 p3 p4 p5 p6 p7 p8 p9 p10 p11 K3' K4 K6 K7 KB k8 hm8 hb5 c4
    go_wp2
    refine (wpIn_wide (n := 10)).1 ?_
    refine wpIn_rangeStopK (n := 10) rfl (by decide) (gf := 96) (lb := #[.pointer (some ⟨ga, 0, none⟩), .pointer (some ⟨gp, 0, none⟩), .pointer (some ⟨gs, 0, none⟩)]) rfl trivial (enters_of Tryd.func96 (by kernel_rfl) rfl) (encs := encR) (fun _ => rfl)
      (fun xs W => LS p A ats c g3 g4 g6 g7 g8 gm [(ga, 46, [.slice A ats.length c]), (gp, 34, pcells p), (gs, 26, [.slice B sh.length d])] w.heap.size w5.heap.size w (xs.map (·.2)) W)
      (fun cc xs W => cc = .ret ∧ ∃ pre it, xs.map (·.2) = pre ++ [it] ∧ (∀ y ∈ pre, y.2.2 = 0) ∧ it.2.2 ≠ 0 ∧ LX g6 g7 it.2.2 w.heap.size w W)
      OkR _ _ _ (Mine := fun _ _ => False) ?ib (fun _ _ _ _ _ _ h => h) ?ip ?ixb ?op S5 mnOk_none (Kp := fun b => b = ga ∨ b = gp ∨ b = gs) ?kp (N1 := w.heap.size) hN5 (rows1_ok p hp A B ats sh c d 9 ga gp gs w.heap.size (fun _ _ => False) (fun b => b = ga ∨ b = gp ∨ b = gs) w5 HOK.out mnOk_none ?st hN5) (fun b x a' A => ∃ gr : Nat, a' = (b.put (some 9) (.pointer (some ⟨gr, 0, none⟩))).put (some 10) (.int .i64 x.2.2.2) ∧ Row1 A gr 116 [.int .u64 x.2.1, x.1]) ?ap ?ob ?assign ?body ?done ?stop
    case ap =>
      rintro b x a' A l o o' ⟨gr, h1, h2⟩ _ h3 h4
      exact ⟨gr, h1, h2.put o' h3 h4⟩
    case ob => exact fun x W1 W2 h hb => ⟨h.1.below hb, h.2⟩
    case assign =>
      intro l pre x W K hI hOk hK
      obtain ⟨v, z, wr, ee⟩ := x
      have hOk' : RowT W 3 v (natv wr) := hOk.1
      obtain ⟨A5, c5, hv5, _, _⟩ := hOk'.form
      rw [List.length_map] at hv5
      subst hv5
      have hb9 := below_alloc W (.cells #[.int .u64 z, .slice A5 wr.length c5] 116)
      have hr9 := row1_new W [.int .u64 z, .slice A5 wr.length c5] 116
      have HKK := hid (hK _ _ ⟨W.heap.size, rfl, hr9⟩ hb9)
      clear hb9 hr9 hK
      gi_wp2
      simpa [encR, Act.put] using HKK.out
    case ib => exact fun xs W1 W2 h hb => h.below hN5 hb
    case ip =>
      intro xs W1 l o o' h hl h1 h2
      exact ⟨h.R3.put o' h1 h2, h.R4.put o' h1 h2, h.R6.put o' h1 h2, h.R7.put o' h1 h2, h.R8.put o' h1 h2, h.mp.keep (World.putObj_heap_other (by omega)), fun x hx => (h.bx x hx).put o' h1 h2, h.no, h.b.trans (below_putR _ (Nat.le_trans hN5 h.lt) (by omega)), by simpa using h.lt⟩
    case ixb => exact fun cc xs W1 W2 h hb hcu => ⟨h.1, by obtain ⟨pre, it, h1, h2, h3, h4⟩ := h.2; exact ⟨pre, it, h1, h2, h3, h4.R6.up hcu (Nat.zero_le _), h4.R7.up hcu (Nat.zero_le _), h4.b.trans (hb.mono hN5)⟩⟩
    case op => exact fun x W1 l o o' h _ h1 h2 => ⟨h.1.put o' h1 h2, h.2⟩
    case kp =>
      rintro b (rfl | rfl | rfl)
      · exact ra.lt
      · exact rp.lt
      · exact rs.lt
    case st =>
      intro W hW
      have hbw := S5.b.trans hW.2
      exact ⟨ra.keep (hW.1 _ (.inl rfl) ra.lt), rp.keep (hW.1 _ (.inr (.inl rfl)) rp.lt), rs.keep (hW.1 _ (.inr (.inr rfl)) rs.lt), HA.out.below hbw, HB.out.below hbw, HT.out.below hbw⟩
    case body =>
      intro lp pre x a' W hszW hI hOk hAs hPp
      obtain ⟨v, z, wl, ee⟩ := x
      have hOk' : RowT W 3 v (natv wl) := hOk.1
      obtain ⟨A5, c5, hv5, _, _⟩ := hOk'.form
      rw [List.length_map] at hv5
      subst hv5
      obtain ⟨gr, rfl, hrr⟩ := hAs
      have SW := hI
      clear hI hOk
      dsimp only at hrr ⊢
      have hW5 := SW.lt
      by_cases he : ee = 0
      · subst he
        obtain ⟨rest, hrest⟩ := hPp
        have hmem : ∀ x ∈ (pre ++ [((.slice A5 wl.length c5, z, wl, 0) : ItemR)]).map (·.2), x ∈ told22 p.T p.Q ats sh p.K.toNat 0 := fun x hx => by rw [← hrest]; exact List.mem_append_left _ hx
        obtain ⟨hwl, hwn⟩ := told22_wr _ _ _ _ _ _ _ (hmem (z, wl, 0) (by simp))
        have hpl : pre.length ≤ 1 := by
          have h1 := congrArg List.length hrest
          have h2 := told22_len p.T p.Q ats sh p.K.toNat 0
          have h3 := HOK.out.K2
          simp only [List.length_append, List.length_map, List.length_cons, List.length_nil] at h1
          omega
        have hfl := fold_len ats ats.length (pre.map (·.2)) [] fun x hx => (told22_wr _ _ _ _ _ _ _ (hmem x (by rw [List.map_append]; exact List.mem_append_left _ hx))).2
        have hl0 : ((pre.map (·.2)).foldl (fun L x => putsN ats L x.2.1) []).length ≤ 1000 := by
          rw [List.length_map, List.length_nil] at hfl
          have := Nat.mul_le_mul_right ats.length hpl
          omega
        have mp0 := SW.mp
        obtain ⟨L0, hL0⟩ : ∃ L, (pre.map (·.2)).foldl (fun L x => putsN ats L x.2.1) [] = L := ⟨_, rfl⟩
        rw [hL0] at mp0 hl0
        have HL0 := hid hL0
        have HSW := hid SW
        have HRR := hid hrr
        have HRO := hid hOk'
        have hcA := HA.out.below SW.b
        have HCA := hid hcA
        have hat := HOK.out.at_
        have HAT := hid hat
        have HWL := hid hwl
        have HRE := hid hrest
        have HMP := hid mp0
        have hgm : w.heap.size ≤ gm := by omega
        have e1 := hrr.cell (k := 1) rfl
        have hbW := SW.b
        have HBW := hid hbW
        have HMM := hid hmem
        clear hfl hmem hL0 SW hrr hOk' hcA hat hwl hrest mp0 hbW
        gi_upto_region 10 with (fail)
        gi_loopw [12, 31] (fun _ i wr => ∃ j : Nat, i = .int .i64 (j : Int) ∧ j ≤ wl.length ∧ Hid (MapAt nM wr gm (putsN ats L0 (wl.take j)) ∧ W.grownBy wr (some gm))) (fun _ i _ => wl.length - (intOf i).toNat)
        case atStart => exact ⟨0, rfl, by omega, hid ⟨HMP.out, but_below (Below.refl _ _) _⟩⟩
        case round =>
          obtain ⟨j, rfl, hj, HI⟩ := hrel
          by_cases hlt : j < wl.length
          · have hlt1 : (j : Int) < (wl.length : Int) := by omega
            have hgb := HI.out.2
            have hgW := HMP.out.lt
            obtain ⟨es0, ck0, hes0⟩ := HMP.out.isMap
            have hro : RowT wr 3 (.slice A5 wl.length c5) (natv wl) := HRO.out.block fun b arr fz hb => hgb.block b (Array.getElem?_eq_some_iff.1 hb).1 fun e => by
              obtain rfl := Option.some.inj e
              rw [hes0] at hb
              cases hb
            obtain ⟨A6, c6', hv6, hc6, _⟩ := hro.form
            rw [List.length_map] at hv6
            injection hv6 with hv1 hv2 hv3
            subst hv1
            clear hv2 hv3
            obtain ⟨i, hi⟩ := get_of_lt hlt
            obtain ⟨b1, o1, rfl, q1⟩ := hc6.at_map hi
            have hia := HWL.out i (List.mem_of_getElem? hi)
            obtain ⟨x, hx⟩ := get_of_lt hia
            obtain ⟨hx0, hx1⟩ := HAT.out x (List.mem_of_getElem? hx)
            have hbr := below_but HBW.out hgb hgm HBW.out.size
            obtain ⟨b2, o2, rfl, q2⟩ := (HA.out.below hbr).at_map hx
            have hia1 : (i : Int) < (ats.length : Int) := by omega
            have q3 := (HSW.out.R8.but hgb (by omega)).cell (k := 0) rfl
            have q4 := (HSW.out.R4.but hgb (by omega)).cell (k := 0) rfl
            have hnx : ats.getD i 0 = x := by rw [List.getD_eq_getElem?_getD, hx]; rfl
            have HNX := hid (show putsN ats L0 (wl.take (j + 1)) = putN (putsN ats L0 (wl.take j)) x by rw [putsN_succ _ _ _ hi, hnx])
            have hmw := HI.out.1
            have hlen := putsN_len ats (wl.take j) L0
            rw [List.length_take] at hlen
            have HMW := hid hmw
            have HGB := hid hgb
            have hl9 : (putsN ats L0 (wl.take j)).length ≤ 3000 := by omega
            have hwr := hgb.size
            clear HI hro hc6 hi hx hnx hmw hgb hbr hes0 hlen
            gi_wp2_with (fail)
            rename_i K9 hK9
            refine Rgb.round_region (by rintro ⟨a, w, h⟩; exact h) (L := [_, _, _, _, _, _]) (tail := [_]) (Rgb.grows _ 7) [some 35, some 36, some 37, some 38, some 39, some 40, none] 45 (by kernel_rfl) (by kernel_rfl) (by kernel_rfl) (by kernel_rfl) rfl (Rgb.grows_fair _ _) (Rgb.keep_drew _) (trivial) ?_
            refine Rgb.op_is (.map (some gm)) [] rfl rfl (by kernel_rfl) ?_ ?_
            · intro wx hb
              refine Rgb.from_nil fun T hT => ?_
              have g1 := (hb.cell (lt_of_cell q3)).trans q3
              go_wp2
              exact hT _ _ rfl (by first | exact Rgb.Keep.refl _ | exact below_of_dr hw2 | exact hw2 | exact (Below.refl _ _).alloc (Nat.le_refl _) _) (by first | rfl | exact congrArg _ (by decide))
            refine' Rgb.op_is _ [] rfl rfl (by kernel_rfl) ?_ ?_
            rotate_left
            · intro wx hb
              refine Rgb.from_nil fun T hT => ?_
              have g1 := (hb.cell (lt_of_cell q4)).trans q4
              go_wp2
              refine hT _ _ rfl (by first | exact Rgb.Keep.refl _ | exact below_of_dr hw2 | exact hw2 | exact (Below.refl _ _).alloc (Nat.le_refl _) _) ?_
              simp only [Rgb.last, List.getElem?_toArray, List.getElem?_cons_succ, List.getElem?_cons_zero, Option.getD_some]
              rfl
            refine' Rgb.op_is _ [] rfl rfl (by kernel_rfl) ?_ ?_
            rotate_left
            · intro wx hb
              refine Rgb.from_nil fun T hT => ?_
              go_wp2
              refine hT _ _ rfl (by first | exact Rgb.Keep.refl _ | exact below_of_dr hw2 | exact hw2 | exact (Below.refl _ _).alloc (Nat.le_refl _) _) ?_
              simp only [Rgb.last, List.getElem?_toArray, List.getElem?_cons_succ, List.getElem?_cons_zero, Option.getD_some]
              rfl
            refine' Rgb.op_is _ [1, 2] rfl rfl (by kernel_rfl) ?_ ?_
            rotate_left
            · intro wx hb
              refine Rgb.from_is (some 36) rfl rfl ?_
              refine Rgb.from_is (some 37) rfl rfl ?_
              refine Rgb.from_nil fun T hT => ?_
              go_wp2
              refine hT _ _ rfl (by first | exact Rgb.Keep.refl _ | exact below_of_dr hw2 | exact hw2 | exact (Below.refl _ _).alloc (Nat.le_refl _) _) ?_
              simp only [Rgb.last, List.getElem?_toArray, List.getElem?_cons_succ, List.getElem?_cons_zero, Option.getD_some]
              rfl
            refine Rgb.op_is (.int .i64 x) [3] rfl rfl (by kernel_rfl) ?_ ?_
            · intro wx hb
              refine Rgb.from_is (some 38) rfl rfl ?_
              refine Rgb.from_nil fun T hT => ?_
              have g1 := (hb.cell (lt_of_cell q2)).trans q2
              go_wp2
              exact hT _ _ rfl (by first | exact Rgb.Keep.refl _ | exact below_of_dr hw2 | exact hw2 | exact (Below.refl _ _).alloc (Nat.le_refl _) _) (by first | rfl | exact congrArg _ (by decide))
            refine' Rgb.op_is _ [] rfl rfl (by kernel_rfl) ?_ ?_
            rotate_left
            · intro wx hb
              refine Rgb.from_nil fun T hT => ?_
              go_wp2
              refine hT _ _ rfl (by first | exact Rgb.Keep.refl _ | exact below_of_dr hw2 | exact hw2 | exact (Below.refl _ _).alloc (Nat.le_refl _) _) ?_
              simp only [Rgb.last, List.getElem?_toArray, List.getElem?_cons_succ, List.getElem?_cons_zero, Option.getD_some]
              rfl
            refine Rgb.walk_nil [0, 1, 2, 3, 4, 5] (by kernel_rfl) ?_
            intro wx hb
            refine Rgb.from_is (some 35) rfl rfl ?_
            refine Rgb.from_is (some 36) rfl rfl ?_
            refine Rgb.from_is (some 37) rfl rfl ?_
            refine Rgb.from_is (some 38) rfl rfl ?_
            refine Rgb.from_is (some 39) rfl rfl ?_
            refine Rgb.from_is (some 40) rfl rfl ?_
            refine Rgb.from_nil ?_
            simp only [List.map, Act.put, List.setIfInBounds_toArray, List.set_cons_zero, List.set_cons_succ]
            have hmx := HMW.out.below hb
            classical
            refine wpList_store_tab (M := nM) _ rfl _ _ _ 118 rfl 119 Tryd.underlying118 rfl hmx (by unfold maxLen; omega) (u := x) (show I64 x from ⟨by omega, by omega⟩) rfl rfl ?_
            intro w9 hm9 hg9
            rw [putN_eq, ← HNX.out] at hm9
            have HN := hid (And.intro hm9 (but_then (but_then HGB.out (but_below hb _)) hg9))
            clear hm9 hg9 hmx hb q1 q2 q3 q4
            refine hK9 _ _ ?_
            gi_wp2
            go_roundw
            case rel => exact ⟨j + 1, by go_num, by omega, HN⟩
            case measure => simp [intOf]; omega
          · obtain rfl : j = wl.length := by omega
            have hgb := HI.out.2
            have hmw := HI.out.1
            rw [List.take_length] at hmw
            have hsz := hgb.size
            have hgw : gm < w5.heap.size := by omega
            have hup : UpM (fun _ _ => False) w5.heap.size W wr := ⟨hsz, fun b h1 h2 _ => hgb.block b h2 fun e => by have := Option.some.inj e; omega, fun _ h _ => h⟩
            have hrl : RelU (fun b => b = ga ∨ b = gp ∨ b = gs) w.heap.size W wr := ⟨fun b hb h2 => hgb.block b h2 fun e => by have := Option.some.inj e; rcases hb with rfl | rfl | rfl <;> omega, below_but (Below.refl _ W) hgb hgm HBW.out.size⟩
            have hfold : ((pre ++ [((.slice A5 wl.length c5, z, wl, 0) : ItemR)]).map (·.2)).foldl (fun L x => putsN ats L x.2.1) [] = putsN ats L0 wl := by
              rw [List.map_append, List.foldl_append, HL0.out]; rfl
            have HLS := hid (LS.mk (p := p) (A := A) (ats := ats) (c := c) (xs := (pre ++ [((.slice A5 wl.length c5, z, wl, 0) : ItemR)]).map (·.2)) (bxs := [(ga, 46, [.slice A ats.length c]), (gp, 34, pcells p), (gs, 26, [.slice B sh.length d])]) (M := w5.heap.size) (HSW.out.R3.but hgb (by omega)) (HSW.out.R4.but hgb (by omega)) (HSW.out.R6.but hgb (by omega)) (HSW.out.R7.but hgb (by omega)) (HSW.out.R8.but hgb (by omega)) (by rw [hfold]; exact hmw)
              (fun x hx => (HSW.out.bx x hx).but hgb (by
                simp only [List.mem_cons, List.not_mem_nil, or_false] at hx
                rcases hx with rfl | rfl | rfl
                · show ga ≠ gm; omega
                · show gp ≠ gm; omega
                · show gs ≠ gm; omega))
              (fun x hx => by
                rw [List.map_append] at hx
                rcases List.mem_append.1 hx with h | h
                · exact HSW.out.no x h
                · obtain rfl := List.mem_singleton.1 h; rfl) (HBW.out.trans hrl.2) (Nat.le_trans hW5 hsz))
            have HFIN := hid (And.intro hup hrl)
            clear HI hgb hmw hup hrl hfold
            gi_wp2
            exact ⟨HFIN.out, HLS.out⟩
      · have hbe : (ee != 0) = true := by simpa using he
        have f6 := SW.R6.frozen 0
        have f7 := SW.R7.frozen 0
        have c6 := SW.R6.cell (k := 0) rfl
        have c7 := SW.R7.cell (k := 0) rfl
        have r6 := (SW.R6.set 0 (.slice none 0 0)).far (p := ⟨g7, 0, none⟩) (by simp; omega) (.int .i64 ee)
        have r7 := (SW.R7.far (p := ⟨g6, 0, none⟩) (by simp; omega) (.slice none 0 0)).set 0 (.int .i64 ee)
        have rb := (SW.b.setCell (p := ⟨g6, 0, none⟩) n6 (.slice none 0 0)).setCell (p := ⟨g7, 0, none⟩) n7 (.int .i64 ee)
        have hup : UpM (fun _ _ => False) w5.heap.size W ((W.setCell ⟨g6, 0, none⟩ (.slice none 0 0)).setCell ⟨g7, 0, none⟩ (.int .i64 ee)) :=
          ⟨by simp, fun b h1 _ _ => (Below.heap_setCell _ _ _ b (by simp; omega)).trans (Below.heap_setCell _ _ _ b (by simp; omega)), fun _ h _ => h⟩
        have hrl : RelU (fun b => b = ga ∨ b = gp ∨ b = gs) w.heap.size W ((W.setCell ⟨g6, 0, none⟩ (.slice none 0 0)).setCell ⟨g7, 0, none⟩ (.int .i64 ee)) :=
          ⟨fun b hb _ => (Below.heap_setCell _ _ _ b (by rcases hb with rfl | rfl | rfl <;> simp <;> omega)).trans (Below.heap_setCell _ _ _ b (by rcases hb with rfl | rfl | rfl <;> simp <;> omega)), ((Below.refl _ _).setCell (p := ⟨g6, 0, none⟩) n6 _).setCell (p := ⟨g7, 0, none⟩) n7 _⟩
        have HFIN := hid (And.intro hup (And.intro hrl (LX.mk r6 r7 rb)))
        have hno := SW.no
        clear r6 r7 rb hup hrl
        gi_wp2
        exact ⟨⟨HFIN.out.1, HFIN.out.2.1⟩, rfl, pre.map (·.2), (z, wl, ee), by first | rfl | simp, hno, he, HFIN.out.2.2⟩
    case done =>
      intro D xs W hD hWz hS hI hK
      obtain ⟨L, hL⟩ : ∃ L, (xs.map (·.2)).foldl (fun L x => putsN ats L x.2.1) [] = L := ⟨_, rfl⟩
      have hr : liarsP p ats sh = (L.mergeSort fun x y => decide (x ≤ y), 0) := by
        rw [HF.out, ← hS]
        unfold liarsL
        have hnone : (xs.map (·.2)).find? (fun x => decide (x.2.2 ≠ 0)) = none := by
          rw [List.find?_eq_none]
          intro y hy
          have := hI.no y hy
          simp [this]
        rw [hnone]
        simp only
        rw [hL]
      have hxl : xs.length ≤ 2 := by
        have h1 := congrArg List.length hS
        have h2 := told22_len p.T p.Q ats sh p.K.toNat 0
        have h3 := HOK.out.K2
        rw [List.length_map] at h1
        omega
      have hfl := fold_len ats ats.length (xs.map (·.2)) [] fun x hx => (told22_wr _ _ _ _ _ _ _ (by rw [← hS]; exact hx)).2
      rw [List.length_map, List.length_nil, hL] at hfl
      have hl9 : L.length ≤ 2000 := by
        have := Nat.mul_le_mul_right ats.length hxl
        omega
      have hmp := hI.mp
      rw [hL] at hmp
      have HMP := hid hmp
      have HRR := hid hr
      have HSS := hid hI
      have c8 := hI.R8.cell (k := 0) rfl
      have HK := hid hK
      clear hr hfl hL hmp hS hI hxl hK
      have hDl := (Array.getElem?_eq_some_iff.1 HK.out).1
      have hmb := below_alloc W (.cells #[.map (some gm)] 118)
      have hmc := (row1_new W [.map (some gm)] 118).cell (k := 0) rfl
      simp only [List.toArray] at hmc
      obtain ⟨D0, hD1, hD2, hD3⟩ := set_keys (HMP.out.alloc (.cells #[.map (some gm)] 118))
      have hso := sorted22_c W.heap.size gm L.length D0 rR (W.alloc (.cells #[.map (some gm)] 118)) hmc hD1 (by rw [hD3]; unfold maxLen; omega) (by rw [hD3]; omega)
      have HSO := hid hso
      have HD2 := hid hD2
      clear hso hD1 hD2 hD3 hmc
      have HMB := hid hmb
      clear hmb
      go_wp2_with (go_at_call 79; refine (keys22_c _ _).mono ?_; rintro e w6 ⟨rfl, rfl⟩)
      refine HSO.out.mono ?_
      rintro e w7 ⟨v, ss, rfl, hp7, ho7, -, hb7⟩
      have hz : (ss.mergeSort fun x y => decide (x ≤ y)) = L.mergeSort fun x y => decide (x ≤ y) := mergeSort_of_perm_i (hp7.trans HD2.out)
      have ho : Own w7 (W.heap.size + 1) 3 v ((L.mergeSort fun x y => decide (x ≤ y)).map (.int .i64)) := by
        have h9 : Own w7 (W.alloc (.cells #[.map (some gm)] 118)).heap.size 3 v ((ss.mergeSort fun x y => decide (x ≤ y)).map (.int .i64)) := by
          unfold Own
          rw [List.length_map, List.length_mergeSort]
          exact ho7
        rw [hz] at h9
        exact h9.from_ (by rw [World.size_alloc]; exact Nat.le_refl _)
      obtain ⟨Z, hZ⟩ : ∃ Z, (L.mergeSort fun x y => decide (x ≤ y)).map (Value.int .i64) = Z := ⟨_, rfl⟩
      have HZ := hid hZ
      rw [hZ] at ho
      obtain ⟨A8, k8, e8, _⟩ := ho.form
      subst e8
      have hbw := below_next HMB.out HMB.out.size hb7
      have S7 := HSS.out.below hN5 hbw
      have hD7 := (hbw.block D hDl).trans HK.out
      have f6 := S7.R6.frozen 0
      have f7 := S7.R7.frozen 0
      have c6 := S7.R6.cell (k := 0) rfl
      have c7 := S7.R7.cell (k := 0) rfl
      have r6 := (S7.R6.set 0 (.slice A8 Z.length k8)).far (p := ⟨g7, 0, none⟩) (by simp; omega) (.int .i64 0)
      have r7 := (S7.R7.far (p := ⟨g6, 0, none⟩) (by simp; omega) (.slice A8 Z.length k8)).set 0 (.int .i64 0)
      have rb := (S7.b.setCell (p := ⟨g6, 0, none⟩) n6 (.slice A8 Z.length k8)).setCell (p := ⟨g7, 0, none⟩) n7 (.int .i64 0)
      have ro := (ho.setCell (p := ⟨g6, 0, none⟩) (by simp; omega) (.slice A8 Z.length k8)).setCell (p := ⟨g7, 0, none⟩) (by simp; omega) (.int .i64 0)
      have hK2 : ((w7.setCell ⟨g6, 0, none⟩ (.slice A8 Z.length k8)).setCell ⟨g7, 0, none⟩ (.int .i64 0)).heap[D]? = some (.deferred (some [])) := (Below.heap_setCell _ _ _ D (by simp; omega)).trans ((Below.heap_setCell _ _ _ D (by simp; omega)).trans hD7)
      have HRO := hid ro
      clear ho ro hz hZ hp7 ho7
      go_wp2
      refine ⟨by simp, .inl ⟨_, _, rfl, run_takeDeferred hK2, ?_⟩⟩
      have q6 := (r6.put (.deferred none) hK2 rfl).cell (k := 0) rfl
      have q7 := (r7.put (.deferred none) hK2 rfl).cell (k := 0) rfl
      refine ⟨.tuple #[.slice A8 Z.length k8, .int .i64 0], by simp [results, Tryd.f42, go_sem, q6, q7], ?_⟩
      rw [HRR.out]
      refine ⟨_, rfl, ?_, below_put _ rb (by omega)⟩
      have h9 := (HRO.out.cu (CellsUp.put (o' := .deferred none) hK2 rfl)).from_ (show w.heap.size ≤ W.heap.size + 1 by omega)
      show Own _ _ _ _ ((L.mergeSort fun x y => decide (x ≤ y)).map (Value.int .i64))
      rw [HZ.out]
      exact h9
    case stop =>
      intro D cc xs W hD hWz hSp hI hK
      obtain ⟨rfl, pre, it, h1, h2, h3, hX⟩ := hI
      obtain ⟨_, rest, hrest⟩ := hSp
      have hr : liarsP p ats sh = ([], it.2.2) := by
        rw [HF.out, ← hrest, h1]
        unfold liarsL
        have hsome : (pre ++ [it] ++ rest).find? (fun x => decide (x.2.2 ≠ 0)) = some it := by
          rw [List.append_assoc, List.find?_append, List.find?_eq_none.2 (fun y hy => by have := h2 y hy; simp [this])]
          simp [h3]
        rw [hsome]
      gi_wp2
      refine ⟨by simp, .inl ⟨_, _, rfl, run_takeDeferred hK, ?_⟩⟩
      have q6 := (hX.R6.put (.deferred none) hK rfl).cell (k := 0) rfl
      have q7 := (hX.R7.put (.deferred none) hK rfl).cell (k := 0) rfl
      refine ⟨.tuple #[.slice none 0 0, .int .i64 it.2.2], by simp [results, Tryd.f42, go_sem, q6, q7], ?_⟩
      rw [hr]
      exact ⟨_, rfl, Own.nil _ _ _, below_put _ hX.b (by omega)⟩
end Go.Proofs.YtmmmdidbnjcooaaDoor
end

section
namespace Go.Proofs.YtmmmdidbnjcooaaDoor
open Go Go.RowKit Go.Maps Go.Shelf Go.Proofs

/-- told22, for the kernel to reckon. -/
def told22V (T Q : Int) (ats : List Int) (sh : List (List Int)) : Nat → Nat → List (Int × List Nat × Int)
  | 0, _ => []
  | d + 1, k => if (decV ats (colL sh k) T Q).2.2 = 0 then ((decV ats (colL sh k) T Q).1.getD 0 0, (decV ats (colL sh k) T Q).2.1, 0) :: told22V T Q ats sh d (k + 1) else [(0, [], (decV ats (colL sh k) T Q).2.2)]
theorem told22_V (T Q : Int) (ats : List Int) (sh : List (List Int)) : ∀ d k, told22 T Q ats sh d k = told22V T Q ats sh d k
  | 0, _ => rfl
  | d + 1, k => by rw [told22, told22V, told22_V T Q ats sh d (k + 1), decR_V]
noncomputable def tellV (p : Par) (ats : List Int) (sh : List (List Int)) : List Int × Int := if argsB p.K ats sh = true then tellL (told22V p.T p.Q ats sh p.K.toNat 0) p.Q else ([], 1)
theorem tellP_V (p : Par) (ats : List Int) (sh : List (List Int)) : tellP p ats sh = tellV p ats sh := by
  unfold tellP tellV
  rw [told22_V]
/-- Liars, not yet sorted. -/
def liarsV (p : Par) (ats : List Int) (sh : List (List Int)) : List Int × Int :=
  if argsB p.K ats sh = true then
    match (told22V p.T p.Q ats sh p.K.toNat 0).find? (fun x => decide (x.2.2 ≠ 0)) with
    | some x => ([], x.2.2)
    | none => ((told22V p.T p.Q ats sh p.K.toNat 0).foldl (fun L x => putsN ats L x.2.1) [], 0)
  else ([], 1)
theorem liarsP_V {p : Par} {ats : List Int} {sh : List (List Int)} {L S : List Int} {e : Int} (h : liarsV p ats sh = (L, e)) (hp : L.Perm S) (hs : S.Pairwise fun x y => x ≤ y) : liarsP p ats sh = (S, e) := by
  unfold liarsV at h
  unfold liarsP
  split at h
  · rename_i ha
    rw [if_pos ha]
    unfold liarsL
    rw [told22_V]
    split at h
    · rename_i x hx
      rw [hx]
      injection h with h1 h2
      subst h1 h2
      rw [hp.nil_eq]
    · rename_i hx
      rw [hx]
      injection h with h1 h2
      have hm : S.mergeSort (fun x y => decide (x ≤ y)) = S := List.mergeSort_of_pairwise (hs.imp fun {_ _} h => by simpa using h)
      simp only
      rw [h1, h2, mergeSort_of_perm_i hp, hm]
  · rename_i ha
    rw [if_neg ha]
    injection h with h1 h2
    subst h1
    rw [hp.nil_eq, h2]
abbrev w0L : List (List Int) := [[8], [13], [18], [0]]
abbrev w1L : List (List Int) := [[8], [9], [18], [0]]
theorem tw_1 : tellP pS [1, 2, 3, 4] w0L = ([3], 0) := by rw [tellP_V]; decide +kernel
theorem tw_2 : tellP pS [1, 2, 3, 4] w1L = ([3], 0) := by rw [tellP_V]; decide +kernel
theorem lw_3 : liarsP pS [1, 2, 3, 4] w1L = ([2], 0) := liarsP_V (L := [2]) (by decide +kernel) (.refl _) (by simp)
theorem tw_4 : tellP pS [1, 2] [[8], [9]] = ([], 5) := by rw [tellP_V]; decide +kernel
theorem tw_5 : tellP pS [1, 1, 2] [[8], [9], [18]] = ([], 6) := by rw [tellP_V]; decide +kernel
abbrev pTwo : Par := ⟨47, 23, 4, 9, 4, 4, 1, 2, 1, 1, 2, 2⟩
abbrev pNone : Par := ⟨47, 23, 4, 9, 4, 4, 1, 0, 1, 1, 2, 2⟩
abbrev pOdd : Par := ⟨47, 22, 4, 9, 4, 4, 1, 1, 1, 1, 2, 2⟩
abbrev s0L : List (List Int) := [[0], [18], [9], [8]]
abbrev s1L : List (List Int) := [[0], [18], [9], [9]]
abbrev mL : List (List Int) := [[9, 5], [13, 5], [18, 5], [0, 6]]
abbrev hL : List (List Int) := [[8, 5], [13, 5], [18, 6], [0, 6]]
theorem ts_1 : tellP pS [4, 3, 2, 1] s0L = ([3], 0) := by rw [tellP_V]; decide +kernel
theorem ls_2 : liarsP pS [4, 3, 2, 1] s0L = ([2], 0) := liarsP_V (L := [2]) (by decide +kernel) (.refl _) (by simp)
theorem ls_3 : liarsP pS [4, 3, 2, 1] s1L = ([], 5) := liarsP_V (L := []) (by decide +kernel) (.refl _) (by simp)
theorem ts_4 : tellP pTwo [1, 2, 3, 4] hL = ([], 5) := by rw [tellP_V]; decide +kernel
theorem ls_5 : liarsP pTwo [1, 2, 3, 4] mL = ([1, 4], 0) := liarsP_V (L := [4, 1]) (by decide +kernel) (List.Perm.swap _ _ _) (by simp)
theorem ts_6 : tellP pTwo [1, 2, 3, 4] mL = ([3, 5], 0) := by rw [tellP_V]; decide +kernel
theorem ts_7 : tellP pS [1, 2, 3] s0L = ([], 1) := by rw [tellP_V]; decide +kernel
theorem ts_8 : tellP pS [1, 2, 3, 8] s0L = ([], 1) := by rw [tellP_V]; decide +kernel
theorem ts_9 : tellP pS [0, 2, 3, 1] s0L = ([], 1) := by rw [tellP_V]; decide +kernel
theorem ts_10 : tellP pTwo [1, 2, 3, 4] s0L = ([], 1) := by rw [tellP_V]; decide +kernel
theorem ts_11 : tellP pNone [] [] = ([], 1) := by rw [tellP_V]; decide +kernel
theorem ls_12 : liarsP pOdd [1, 2, 3, 4] s0L = ([], 1) := liarsP_V (L := []) (by decide +kernel) (.refl _) (by simp)
theorem ts_13 : tellP pS [] [] = ([], 5) := by rw [tellP_V]; decide +kernel
theorem pTwo_ok : pTwo.ok := by constructor <;> exact ⟨by decide, by decide⟩
theorem pNone_ok : pNone.ok := by constructor <;> exact ⟨by decide, by decide⟩
theorem pOdd_ok : pOdd.ok := by constructor <;> exact ⟨by decide, by decide⟩
/-- a share of the examples. -/
def shX (k : Nat) : List (Int × Int) := [(2 + ((k : Int) + 1), 7), (22 + 3 * ((k : Int) + 1), 5)]
theorem dots_1 : ∀ k, k < 4 → dotS pS ((shX k).map (·.1)) [2] = w0L.getD k [] := by decide +kernel
end Go.Proofs.YtmmmdidbnjcooaaDoor
end

section
namespace Go.Proofs.YtmmmdidbnjcooaaDoor
open Go Go.RowKit Go.Maps Go.Shelf Go.Proofs

theorem own_ne_own {w : World} {base base' : Nat} {e e' : TypeId} {v v' : Value} {xs xs' : List Value} (h : Own w base e v xs) (k : Own w base' e' v' xs') (hne : e ≠ e') : ∀ g, v.ownBlock = some g → v'.ownBlock ≠ some g := by
  intro g hg hg'
  rcases h.2 with ⟨rfl, _⟩ | ⟨g1, cap, cur, rfl, _, h1, _⟩
  · cases hg
  rcases k.2 with ⟨rfl, _⟩ | ⟨g2, cap2, cur2, rfl, _, h2, _⟩
  · cases hg'
  simp only [Value.ownBlock, Option.some.injEq] at hg hg'
  subst hg
  subst hg'
  rw [h1] at h2
  simp only [Option.some.injEq, Obj.cells.injEq] at h2
  exact hne h2.2.1
structure SepR (w : World) (base : Nat) (o : Value) (vs : List Value) (f : List (List Int)) : Prop where
  out : Own w base 25 o vs
  len : vs.length = f.length
  row : ∀ (j : Nat) u xs, vs[j]? = some u → f[j]? = some xs → Own w base 24 u (u64v xs)
  ne : ∀ (i j : Nat) u v, i ≠ j → vs[i]? = some u → vs[j]? = some v → ∀ g, u.ownBlock = some g → v.ownBlock ≠ some g
theorem SepR.nil (w : World) (base : Nat) : SepR w base (.slice none 0 0) [] [] := ⟨Own.nil _ _ _, rfl, (fun j u xs h _ => by simp at h), (fun i j u v _ h _ => by simp at h)⟩
theorem SepR.below {w w' : World} {base : Nat} {o : Value} {vs : List Value} {f : List (List Int)} (h : SepR w base o vs f) (hb : Below w.heap.size w w') : SepR w' base o vs f :=
  ⟨h.out.below hb, h.len, fun j u xs h1 h2 => (h.row j u xs h1 h2).below hb, h.ne⟩
theorem SepR.push {w w' : World} {base b3 : Nat} {o o' u : Value} {vs : List Value} {f : List (List Int)} {xs : List Int} (h : SepR w base o vs f) (hu : Own w b3 24 u (u64v xs)) (hb3 : base ≤ b3) (hold : ∀ (j : Nat) v, vs[j]? = some v → ∀ g, v.ownBlock = some g → g < b3)
    (hnew : Own w' base 25 o' (vs ++ [u])) (hk : ∀ k, k < w.heap.size → some k ≠ o.ownBlock → w'.heap[k]? = w.heap[k]?) : SepR w' base o' (vs ++ [u]) (f ++ [xs]) := by
  have keep : ∀ {b : Nat} {v : Value} {ys : List Value}, Own w b 24 v ys → Own w' b 24 v ys := fun {b v ys} hv => hv.keep fun g hg => hk g (hv.block g hg).2 fun e => own_ne_own hv h.out (by decide) g hg e.symm
  refine ⟨hnew, by simp [h.len], fun j v ys h1 h2 => ?_, fun i j v v' hij h1 h2 g hg hg' => ?_⟩
  · rcases Nat.lt_or_ge j vs.length with hj | hj
    · rw [List.getElem?_append_left hj] at h1
      rw [List.getElem?_append_left (by have := h.len; omega)] at h2
      exact keep (h.row j v ys h1 h2)
    · rw [List.getElem?_append_right hj] at h1
      rw [List.getElem?_append_right (by have := h.len; omega), ← h.len] at h2
      cases hj' : j - vs.length with
      | zero =>
        rw [hj'] at h1 h2
        obtain rfl := Option.some.inj h1
        obtain rfl := Option.some.inj h2
        exact (keep hu).from_ hb3
      | succ n => rw [hj'] at h1; simp at h1
  · have last : ∀ {k : Nat} {x : Value}, (vs ++ [u])[k]? = some x → vs[k]? = some x ∨ (k = vs.length ∧ x = u) := fun {k x} hx => by
      rcases Nat.lt_or_ge k vs.length with hj | hj
      · rw [List.getElem?_append_left hj] at hx; exact .inl hx
      · rw [List.getElem?_append_right hj] at hx
        cases hj' : k - vs.length with
        | zero =>
          rw [hj'] at hx
          exact .inr ⟨by omega, (Option.some.inj hx).symm⟩
        | succ n => rw [hj'] at hx; simp at hx
    rcases last h1 with k1 | ⟨e1, q1⟩
    · rcases last h2 with k2 | ⟨e2, q2⟩
      · exact h.ne i j v v' hij k1 k2 g hg hg'
      · have := hold i v k1 g hg
        have := (hu.block g (by rw [← q2]; exact hg')).1
        omega
    · rcases last h2 with k2 | ⟨e2, q2⟩
      · have := hold j v' k2 g hg'
        have := (hu.block g (by rw [← q1]; exact hg)).1
        omega
      · omega
theorem SepR.lt {w : World} {base : Nat} {o : Value} {vs : List Value} {f : List (List Int)} (h : SepR w base o vs f) : ∀ (j : Nat) v, vs[j]? = some v → ∀ g, v.ownBlock = some g → g < w.heap.size := fun j v hj g hg => by
  obtain ⟨xs, hx⟩ := get_of_lt (l := f) (k := j) (by rw [← h.len]; exact (List.getElem?_eq_some_iff.1 hj).1)
  exact ((h.row j v xs hj hx).block g hg).2
theorem SepR.rows {w : World} {base : Nat} {o : Value} {vs : List Value} {f : List (List Int)} (h : SepR w base o vs f) : OwnRows w base 25 24 o (f.map u64v) :=
  ⟨vs, h.out, by rw [h.len, List.length_map], fun j u xs h1 h2 => by
    rw [List.getElem?_map] at h2
    obtain ⟨ys, hy, rfl⟩ := Option.map_eq_some_iff.1 h2
    exact (h.row j u ys h1 hy).rowT⟩
theorem SepR.set {w : World} {base : Nat} {o : Value} {vs : List Value} {f : List (List Int)} (h : SepR w base o vs f) {j : Nat} {xs : List Int} (hj : f[j]? = some xs) (hpos : 0 < xs.length) :
    ∃ g cap, vs[j]? = some (.slice (some ⟨g, 0, none⟩) xs.length cap) ∧ base ≤ g ∧ (∀ k x, xs[k]? = some x → w.cell? ⟨g, k, none⟩ = some (.int .u64 x)) ∧ (∀ k, w.frozen? ⟨g, k, none⟩ = false) ∧
      ∀ k x, k < xs.length → SepR (w.setCell ⟨g, k, none⟩ (.int .u64 x)) base o vs (f.set j (xs.set k x)) := by
  obtain ⟨u, hu⟩ := get_of_lt (l := vs) (k := j) (by rw [h.len]; exact (List.getElem?_eq_some_iff.1 hj).1)
  have ho := h.row j u xs hu hj
  obtain ⟨g, cap, hf, hb, hlt, hc, hfr, hset⟩ := ho.row (by rw [u64v, List.length_map]; exact hpos)
  rw [u64v, List.length_map] at hf hset
  have hug : u.ownBlock = some g := by rw [hf]; rfl
  refine ⟨g, cap, by rw [hu, hf], hb, fun k x hk => hc k _ (by rw [u64v, List.getElem?_map, hk]; rfl), hfr, fun k x hk => ⟨?_, by rw [h.len, List.length_set], fun i v ys h1 h2 => ?_, h.ne⟩⟩
  · exact h.out.keep fun g' hg' => Below.heap_setCell w _ _ g' fun e => own_ne_own ho h.out (by decide) g hug (by rw [hg', e])
  · by_cases e : j = i
    · subst e
      rw [hu] at h1
      obtain rfl := Option.some.inj h1
      rw [List.getElem?_set_self (List.getElem?_eq_some_iff.1 hj).1] at h2
      obtain rfl := Option.some.inj h2
      have := hset w rfl k (.int .u64 x) hk
      rw [u64v, List.map_set]
      exact this
    · rw [List.getElem?_set_ne e] at h2
      exact (h.row i v ys h1 h2).keep fun g' hg' => Below.heap_setCell w _ _ g' fun e' => h.ne j i u v e hu h1 g hug (by rw [hg', e'])
theorem cells_take22 {w : World} {A : Option Addr} {xs : List Value} (h : Cells w A xs) (k : Nat) : Cells w A (xs.take k) := by
  rcases h with rfl | ⟨b, off, rfl, h⟩
  · exact .inl (by simp)
  · refine .inr ⟨b, off, rfl, fun i u hu => h i u ?_⟩
    rw [List.getElem?_take] at hu
    split at hu
    · exact hu
    · cases hu
theorem Grid.take {w : World} {A : Option Addr} {f : List (List Int)} (h : Grid w A f) (k : Nat) : Grid w A (f.take k) := by
  obtain ⟨vs, h1, h2, h3⟩ := h
  refine ⟨vs.take k, cells_take22 h1 k, by rw [List.length_take, List.length_take, h2], fun i l hi => ?_⟩
  rw [List.getElem?_take] at hi
  split at hi
  · rename_i hik
    obtain ⟨v, hv, h4⟩ := h3 i l hi
    exact ⟨v, by rw [List.getElem?_take, if_pos hik]; exact hv, h4⟩
  · cases hi
theorem i64s_22 {l : List Int} (h : (l.all fun n => decide (-9223372036854775808 ≤ n) && decide (n < 9223372036854775808)) = true) : I64s l := by
  intro z hz
  have := List.all_eq_true.1 h z hz
  simp only [Bool.and_eq_true, decide_eq_true_eq] at this
  exact ⟨this.1, by omega⟩
theorem u64s_22 {l : List Int} (h : (l.all fun n => decide (0 ≤ n) && decide (n < 18446744073709551616)) = true) : U64s l := by
  intro z hz
  have := List.all_eq_true.1 h z hz
  simp only [Bool.and_eq_true, decide_eq_true_eq] at this
  exact ⟨this.1, this.2⟩
theorem rows_22 {f : List (List Int)} (h : (f.all fun l => l.all fun n => decide (0 ≤ n) && decide (n < 18446744073709551616)) = true) : ∀ s ∈ f, U64s s := fun s hs => u64s_22 (List.all_eq_true.1 h s hs)
theorem own_cap {w : World} {base : Nat} {e : TypeId} {A : Option Addr} {n c : Nat} {xs : List Value} (h : Own w base e (.slice A n c) xs) : xs.length ≤ c := by
  rcases h.2 with ⟨h0, h1⟩ | ⟨g, cap, cur, h1, hb, hg, hn, hm, hs, ht⟩
  · omega
  · injection h1 with _ _ h3
    omega
def w0x (k : Nat) : Int := [8, 13, 18, 0].getD k 0
theorem w0L_at : ∀ k, k < 4 → w0L[k]? = some [w0x k] ∧ dotS pS ((shX k).map (·.1)) [2] = [w0x k] ∧ U64 (w0x k) := by
  intro k hk
  refine ⟨?_, ?_, ?_⟩
  · match k, hk with
    | 0, _ => rfl
    | 1, _ => rfl
    | 2, _ => rfl
    | 3, _ => rfl
  · rw [dots_1 k hk]
    match k, hk with
    | 0, _ => rfl
    | 1, _ => rfl
    | 2, _ => rfl
    | 3, _ => rfl
  · match k, hk with
    | 0, _ => exact ⟨by decide, by decide⟩
    | 1, _ => exact ⟨by decide, by decide⟩
    | 2, _ => exact ⟨by decide, by decide⟩
    | 3, _ => exact ⟨by decide, by decide⟩
theorem shX_u64 {k : Nat} (hk : k < 4) : U64s ((shX k).map (·.1)) := by
  intro z hz
  simp only [shX, List.map_cons, List.map_nil, List.mem_cons, List.not_mem_nil, or_false] at hz
  rcases hz with rfl | rfl <;> exact ⟨by omega, by omega⟩
end Go.Proofs.YtmmmdidbnjcooaaDoor
end

section
namespace Go.Proofs.YtmmmdidbnjcooaaDoor
open Go Go.RowKit Go.Maps Go.Shelf Go.Proofs

attribute [local go_sem] Oper.semAt_some

set_option maxRecDepth 100000 in
set_option maxHeartbeats 8000000 in
theorem works22_c (w : World) (hTab : Tabs w) :
    Calls Tryd.prog 40 #[] w fun e w' => e = .returned (.bool true) ∧ Below w.heap.size w w' := by
  have HT := hid hTab
  clear hTab
  go_enter Tryd.func40, Tryd.ntmps40
  go_upto_region 4 with (go_at_call 39; refine (small22_c _).mono ?_; rintro e w1 ⟨rfl, hb1⟩)
  have hb9 := below_alloc w1 (.cells (pcells pS).toArray 34)
  have hr9 := row1_new w1 (pcells pS) 34
  have hB1 := below_next hb1 hb1.size hb9
  simp only [List.toArray] at hr9 hB1
  generalize w1.alloc (.cells _ 34) = w2 at *
  obtain ⟨g1, hg1⟩ : ∃ n, w1.heap.size = n := ⟨_, rfl⟩
  have hn1 : w.heap.size ≤ g1 := by have := hb1.size; omega
  rw [hg1] at hr9 ⊢
  clear hb9 hg1 hb1
  have HST := hid (show ∃ vs, SepR w2 w.heap.size (.slice none 0 0) vs (w0L.take 0) ∧ Row1 w2 g1 34 (pcells pS) ∧ Below w.heap.size w w2 from ⟨[], SepR.nil _ _, hr9, hB1⟩)
  clear hr9 hB1
  go_loopw [2, 3] (fun o i wr => ∃ k : Nat, i = .int .u64 ((k : Int) + 1) ∧ k ≤ 4 ∧ Hid (∃ vs, SepR wr w.heap.size o vs (w0L.take k) ∧ Row1 wr g1 34 (pcells pS) ∧ Below w.heap.size w wr)) (fun _ i _ => 5 - (intOf i).toNat)
  case atStart => exact ⟨0, rfl, by omega, HST⟩
  case round =>
    obtain ⟨k, rfl, hk, HI⟩ := hrel
    rename_i o wr
    obtain ⟨vs, hsep, hP, hbw⟩ := HI.out
    by_cases hlt : k < 4
    · obtain ⟨p0, p1, p2, p3, p4, p5, p6, p7, p8, p9, p10, p11⟩ := par_cells hP
      obtain ⟨hwk, hdt, hxu⟩ := w0L_at k hlt
      have HDT := hid hdt
      have HWK := hid hwk
      have HSU := hid (shX_u64 hlt)
      have HSP := hid hsep
      have hB := Bun.nil wr
      have hvl := hsep.len
      have hvk : vs.length = k := by rw [hvl, List.length_take]; have : w0L.length = 4 := rfl; omega
      have hlt1 : ((k : Int) + 1 ≤ 4) := by omega
      obtain ⟨x, hx⟩ : ∃ x, w0x k = x := ⟨_, rfl⟩
      rw [hx] at HDT HWK hxu
      clear hwk hdt hsep hvl hx
      go_wp2_with (first | (refine wpList_named hB rfl ?_; clear hB; intro wn gn hB hbn hg; (try rw [hg]); clear hg hbn) | fail)
      refine (scoreOf_c pS pS_ok (some ⟨_, 0, none⟩) (some ⟨_, 0, none⟩) (shX k) [2] 2 1 _ (hB.row (i := 1) rfl).cells (hB.row (i := 0) rfl).cells (show (2 : Nat) ≤ 1000 by omega) (by decide) HSU.out (i64s_22 (by decide))).mono ?_
      rintro e w3 ⟨v3, rfl, ho3, hb3⟩
      rw [HDT.out] at ho3
      have hB3 := below_next hB.b hB.b.size hb3
      have hS3 := HSP.out.below hB3
      have hP3 := hP.below hB3
      have hsz3 : w.heap.size ≤ w3.heap.size := by have h1 := hbw.size; have h2 := hB3.size; omega
      have hbs : wr.heap.size ≤ wn.heap.size := hB.b.size
      have hwr := hbw.size
      have HSZ := hid (And.intro hbs hwr)
      obtain ⟨A9, c9, rfl, _⟩ := ho3.form
      have HO3 := hid ho3
      have HS3 := hid hS3
      have ho := hS3.out
      clear ho3 hS3 hB hbs hwr
      go_wp2_with (at_builtin; refine wpList_push elt_rowsA w3 rfl _ _ rfl w.heap.size ho rfl _ rfl rfl (by rw [hvk]; omega) (by rw [hvk]; omega) hsz3 ?_; intro v' w5 ho5 hk5 hb5)
      have HN := hid (show ∃ vs, SepR w5 w.heap.size v' vs (w0L.take (k + 1)) ∧ Row1 w5 g1 34 (pcells pS) ∧ Below w.heap.size w w5 from by
        refine ⟨vs ++ [.slice A9 [x].length c9], ?_, hP3.keep (hk5 _ hP3.lt (own_ne_row ho hP3 (by decide))), (below_next hbw hbw.size hB3).trans hb5⟩
        rw [List.take_add_one, HWK.out]
        refine HS3.out.push HO3.out (by have := HSZ.out; omega) (fun j v hv g hg => ?_) ho5 hk5
        have := HSP.out.lt j v hv g hg
        have := HSZ.out.1
        omega)
      clear ho5 hk5 hb5 HO3 HS3 ho hP3 hB3 HI HSP hP hbw
      go_roundw
      case rel => exact ⟨k + 1, by go_num, by omega, HN⟩
      case measure => simp [intOf]; omega
    · have hk4 : k = 4 := by omega
      rw [show (k : Int) = 4 by omega]
      have hsep4 : SepR wr w.heap.size u2 vs w0L := by rw [hk4] at hsep; exact hsep
      obtain ⟨A, c, eA, hG⟩ := hsep4.rows.grid
      subst eA
      have HSEP := hid hsep4
      have HG := hid hG
      have HP := hid hP
      have HBW := hid hbw
      clear HI hsep hsep4 hG hP hbw hk4 hk hlt HST
      clear k
      generalize wr = wo at *
      go_upto_region 8 with (fail)
      go_loopw [4] (fun i wr => ∃ j : Nat, i = .int .i64 (j : Int) ∧ j ≤ 4 ∧ Hid (Below wo.heap.size wo wr)) (fun i _ => 4 - (intOf i).toNat)
      case atStart => exact ⟨0, rfl, by omega, hid (Below.refl _ _)⟩
      case round =>
        obtain ⟨j, rfl, hj, HI⟩ := hrel
        by_cases hlt : j < 4
        · have hlt1 : (j : Int) < 4 := by omega
          obtain ⟨hwk, -, hxu⟩ := w0L_at j hlt
          obtain ⟨x, hx⟩ : ∃ x, w0x j = x := ⟨_, rfl⟩
          have hxl : ([.int .u64 8, .int .u64 13, .int .u64 18, .int .u64 0] : List Value)[j]? = some (.int .u64 x) := by
            rw [← hx]
            match j, hlt with
            | 0, _ => rfl
            | 1, _ => rfl
            | 2, _ => rfl
            | 3, _ => rfl
          rw [hx] at hwk hxu
          have HXL := hid hxl
          obtain ⟨b1, o1, A1, c1, rfl, q1, q2, q3⟩ := (HG.out.below HI.out).at_ hwk
          have HQ2 := hid q2
          clear hwk hx hxl q2
          go_wp2_with (fail)
          refine Rgb.wp_region (l := [_, _, _, _, _, _, _, _, _, _]) (tail := [_]) (Rgb.grows _ 11) [some 39, some 40, some 41, some 42, some 43, some 44, some 45, some 46, some 47, some 48, some 49] 125 (by kernel_rfl) (by kernel_rfl) (by kernel_rfl) rfl (Rgb.grows_fair _ _) (Rgb.keep_drew _) (trivial) ?_
          refine' Rgb.op_is _ [] rfl rfl (by kernel_rfl) ?_ ?_
          rotate_left
          · intro wx hb
            refine Rgb.from_nil fun T hT => ?_
            go_wp2
            refine hT _ _ rfl (by first | exact Rgb.Keep.refl _ | exact below_of_dr hw2 | exact hw2 | exact (Below.refl _ _).alloc (Nat.le_refl _) _) ?_
            simp only [Rgb.last, List.getElem?_toArray, List.getElem?_cons_succ, List.getElem?_cons_zero, Option.getD_some]
            rfl
          refine' Rgb.op_is _ [] rfl rfl (by kernel_rfl) ?_ ?_
          rotate_left
          · intro wx hb
            refine Rgb.from_nil fun T hT => ?_
            go_wp2
            refine hT _ _ rfl (by first | exact Rgb.Keep.refl _ | exact below_of_dr hw2 | exact hw2 | exact (Below.refl _ _).alloc (Nat.le_refl _) _) ?_
            simp only [Rgb.last, List.getElem?_toArray, List.getElem?_cons_succ, List.getElem?_cons_zero, Option.getD_some]
            rfl
          refine' Rgb.op_is _ [0, 1] rfl rfl (by kernel_rfl) ?_ ?_
          rotate_left
          · intro wx hb
            refine Rgb.from_is (some 39) rfl rfl ?_
            refine Rgb.from_is (some 40) rfl rfl ?_
            refine Rgb.from_nil fun T hT => ?_
            go_wp2
            refine hT _ _ rfl (by first | exact Rgb.Keep.refl _ | exact below_of_dr hw2 | exact hw2 | exact (Below.refl _ _).alloc (Nat.le_refl _) _) ?_
            simp only [Rgb.last, List.getElem?_toArray, List.getElem?_cons_succ, List.getElem?_cons_zero, Option.getD_some]
            rfl
          refine Rgb.op_is (.slice A1 1 c1) [2] rfl rfl (by kernel_rfl) ?_ ?_
          · intro wx hb
            refine Rgb.from_is (some 41) rfl rfl ?_
            refine Rgb.from_nil fun T hT => ?_
            have g1 := (hb.cell (lt_of_cell q1)).trans q1
            go_wp2
            exact hT _ _ rfl (by first | exact Rgb.Keep.refl _ | exact below_of_dr hw2 | exact hw2 | exact (Below.refl _ _).alloc (Nat.le_refl _) _) (by first | rfl | exact congrArg _ (by decide))
          refine Rgb.op_of (fun w' u => ∃ g, u = Value.slice (some ⟨g, 0, none⟩) 4 4 ∧ Row1 w' g 24 [.int .u64 8, .int .u64 13, .int .u64 18, .int .u64 0]) [] rfl ?_ ?_ rfl (by kernel_rfl) ?_ ?_
          · exact fun w1 w2 v hk ⟨g, e, h⟩ => ⟨g, e, h.below hk⟩
          · exact fun w1 w2 v hk ⟨g, e, h⟩ => ⟨g, e, h.below hk⟩
          · intro wx hb
            refine Rgb.from_nil fun T hT => ?_
            go_wp2
            exact hT _ _ rfl (below_alloc _ _) ⟨_, rfl, row1_new wx [_, _, _, _] 24⟩
          refine' Rgb.op_is _ [] rfl rfl (by kernel_rfl) ?_ ?_
          rotate_left
          · intro wx hb
            refine Rgb.from_nil fun T hT => ?_
            go_wp2
            refine hT _ _ rfl (by first | exact Rgb.Keep.refl _ | exact below_of_dr hw2 | exact hw2 | exact (Below.refl _ _).alloc (Nat.le_refl _) _) ?_
            simp only [Rgb.last, List.getElem?_toArray, List.getElem?_cons_succ, List.getElem?_cons_zero, Option.getD_some]
            rfl
          refine Rgb.op_of (fun w' u => ∃ g, u = Value.pointer (some ⟨g, j, none⟩) ∧ Row1 w' g 24 [.int .u64 8, .int .u64 13, .int .u64 18, .int .u64 0]) [4, 5] rfl ?_ ?_ rfl (by kernel_rfl) ?_ ?_
          · exact fun w1 w2 v hk ⟨g, e, h⟩ => ⟨g, e, h.below hk⟩
          · exact fun w1 w2 v hk ⟨g, e, h⟩ => ⟨g, e, h.below hk⟩
          · intro wx hb
            refine Rgb.from_of (some 43) rfl rfl fun v43 h43 => ?_
            refine Rgb.from_is (some 44) rfl rfl ?_
            refine Rgb.from_nil fun T hT => ?_
            obtain ⟨g43, rfl, hg43⟩ := h43
            go_wp2
            exact hT _ _ rfl (Below.refl _ _) ⟨_, rfl, hg43⟩
          refine Rgb.op_is (.int .u64 x) [6] rfl rfl (by kernel_rfl) ?_ ?_
          · intro wx hb
            refine Rgb.from_of (some 45) rfl rfl fun v45 h45 => ?_
            refine Rgb.from_nil fun T hT => ?_
            obtain ⟨g45, rfl, hg45⟩ := h45
            have g1 := hg45.cell HXL.out
            clear hg45
            go_wp2
            exact hT _ _ rfl (by first | exact Below.refl _ _ | exact Rgb.Keep.refl _) rfl
          refine Rgb.op_of (fun w' u => ∃ g, u = Value.slice (some ⟨g, 0, none⟩) 1 1 ∧ Row1 w' g 24 [.int .u64 x]) [7] rfl ?_ ?_ rfl (by kernel_rfl) ?_ ?_
          · exact fun w1 w2 v hk ⟨g, e, h⟩ => ⟨g, e, h.below hk⟩
          · exact fun w1 w2 v hk ⟨g, e, h⟩ => ⟨g, e, h.below hk⟩
          · intro wx hb
            refine Rgb.from_is (some 46) rfl rfl ?_
            refine Rgb.from_nil fun T hT => ?_
            go_wp2
            exact hT _ _ rfl (below_alloc _ _) ⟨_, rfl, row1_new wx [_] 24⟩
          refine Rgb.op_is (.bool true) [3, 8] rfl rfl (by kernel_rfl) ?_ ?_
          · intro wx hb
            refine Rgb.from_is (some 42) rfl rfl ?_
            refine Rgb.from_of (some 47) rfl rfl fun v47 h47 => ?_
            refine Rgb.from_nil fun T hT => ?_
            obtain ⟨g47, rfl, hg47⟩ := h47
            go_wp2_with (fail)
            refine (nums22_c A1 (some ⟨g47, 0, none⟩) [x] [x] c1 1 wx (HQ2.out.below hb) hg47.cells (show (1 : Nat) ≤ _ by omega) (show (1 : Nat) ≤ _ by omega)).mono ?_
            rintro e w9 ⟨rfl, hw9⟩
            rw [decide_eq_true (rfl : [x] = [x])]
            go_wp2
            exact hT _ _ rfl (below_of_dr hw9) rfl
          refine Rgb.walk_nil [0, 1, 2, 3, 4, 5, 6, 7, 8, 9] (by kernel_rfl) ?_
          intro wx hb
          refine Rgb.from_is (some 39) rfl rfl ?_
          refine Rgb.from_is (some 40) rfl rfl ?_
          refine Rgb.from_is (some 41) rfl rfl ?_
          refine Rgb.from_is (some 42) rfl rfl ?_
          refine Rgb.from_of (some 43) rfl rfl fun v43 h43 => ?_
          refine Rgb.from_is (some 44) rfl rfl ?_
          refine Rgb.from_of (some 45) rfl rfl fun v45 h45 => ?_
          refine Rgb.from_is (some 46) rfl rfl ?_
          refine Rgb.from_of (some 47) rfl rfl fun v47 h47 => ?_
          refine Rgb.from_is (some 48) rfl rfl ?_
          refine Rgb.from_nil ?_
          simp only [List.map, Act.put, List.setIfInBounds_toArray, List.set_cons_zero, List.set_cons_succ]
          have HN := hid (below_next HI.out HI.out.size hb)
          clear hb h43 h45 h47 HI
          go_wp2
          go_roundw
          case rel => exact ⟨j + 1, by go_num, by omega, HN⟩
          case measure => simp [intOf]; omega
        · rw [show (j : Int) = 4 by omega]
          have hsep := HSEP.out.below HI.out
          have hG := HG.out.below HI.out
          have hP := HP.out.below HI.out
          have hbw := below_next HBW.out HBW.out.size HI.out
          clear HI HSEP HG HP HBW hlt hj
          generalize wr = wq at *
          have hB := Bun.nil wq
          obtain ⟨p0, p1, p2, p3, p4, p5, p6, p7, p8, p9, p10, p11⟩ := par_cells hP
          go_wp2_with (first | (refine wpList_named hB rfl ?_; clear hB; intro wn gn hB hbn hg; (try rw [hg]); clear hg hbn) | fail)
          refine (tell_c pS pS_ok (some ⟨_, 0, none⟩) A [1, 2, 3, 4] w0L 4 c _ (hB.row (i := 0) rfl).cells (hG.below hB.b) (by decide) (by decide) (rows_22 (by decide)) (HT.out.below (hbw.trans (hB.b.mono hbw.size)))).mono ?_
          rintro e w4 ⟨v, rfl, ho4, hb4⟩
          rw [tw_1] at ho4 ⊢
          dsimp only at ho4 ⊢
          have hB4 := below_next hB.b hB.b.size hb4
          replace hsep := hsep.below hB4
          replace hP := hP.below hB4
          replace hbw := below_next hbw hbw.size hB4
          clear hB hb4 hB4 hG p0 p1 p2 p3 p4 p5 p6 p7 p8 p9 p10 p11
          obtain ⟨A4, k4, rfl, _⟩ := ho4.form
          obtain ⟨gl, cap, hvs, hbg, hcl, hfl, hset⟩ := hsep.set (j := 1) (xs := [13]) rfl (by decide)
          obtain ⟨A', cap', e', hcells⟩ := hsep.out.form
          injection e' with e1 e2 e3
          subst e1
          obtain ⟨b2, o2, rfl, q4⟩ := hcells.at_ hvs
          have q5 := hcl 0 13 rfl
          have q6 := hfl 0
          have hng : g1 ≠ gl := fun e => own_ne_row (hsep.row 1 _ [13] hvs rfl) hP (by decide) (by rw [e]; rfl)
          have hn4 : ∀ g, (Value.slice A4 1 k4).ownBlock = some g → g ≠ gl := fun g hg e => own_ne_own (hsep.row 1 _ [13] hvs rfl) ho4 (by decide) gl rfl (by rw [← e]; exact hg)
          have hS5 : SepR (w4.setCell ⟨gl, 0, none⟩ (.int .u64 9)) w.heap.size _ vs w1L := hset 0 9 (by decide)
          have HS5 := hid hS5
          have HP5 := hid (hP.far (p := ⟨gl, 0, none⟩) (Ne.symm hng) (.int .u64 9))
          have HO5 := hid (ho4.keep (w' := w4.setCell ⟨gl, 0, none⟩ (.int .u64 9)) fun g hg => Below.heap_setCell w4 _ _ g (hn4 g hg))
          have HW5 := hid (hbw.setCell (p := ⟨gl, 0, none⟩) hbg (.int .u64 9))
          clear hS5 hset hcl hfl hcells hvs hsep hP hbw ho4 hng hn4 e2 e3
          go_upto_region 14 with (fail)
          generalize w4.setCell ⟨gl, 0, none⟩ (.int .u64 9) = w5 at *
          obtain ⟨A6, c6, e6, hG⟩ := HS5.out.rows.grid
          injection e6 with e61 e62 e63
          subst e61
          subst e63
          have hcap := own_cap HS5.out.out
          rw [HS5.out.len] at hcap
          have hcap4 : 4 ≤ c := hcap
          have HG := hid hG
          obtain ⟨A7, k7, e7, hc4⟩ := HO5.out.form
          injection e7 with e71 e72 e73
          subst e71
          subst e73
          have HC4 := hid hc4
          have hB := Bun.nil w5
          clear hG hcap e62 hc4 e72 q4 q5 q6 HS5 HO5 hbg
          obtain ⟨p0, p1, p2, p3, p4, p5, p6, p7, p8, p9, p10, p11⟩ := par_cells (HP5.out.below hB.b)
          go_wp2_with (first | (refine wpList_named hB rfl ?_; clear hB; intro wn gn hB hbn hg; (try rw [hg]); clear hg hbn) | fail)
          refine (tell_c pS pS_ok (some ⟨_, 0, none⟩) _ [1, 2, 3, 4] w1L 4 c _ (hB.row (i := 0) rfl).cells (HG.out.below hB.b) (by decide) (by decide) (rows_22 (by decide)) (HT.out.below (HW5.out.trans (hB.b.mono HW5.out.size)))).mono ?_
          rintro e w6 ⟨v, rfl, ho6, hb6⟩
          rw [tw_2] at ho6 ⊢
          dsimp only at ho6 ⊢
          obtain ⟨A6, k6, rfl, hc6⟩ := ho6.form
          have HC6 := hid hc6
          replace hB := (hB.more hb6).drop
          clear hb6 ho6 hc6 p0 p1 p2 p3 p4 p5 p6 p7 p8 p9 p10 p11
          have HBS := hid hB.b
          obtain ⟨p0, p1, p2, p3, p4, p5, p6, p7, p8, p9, p10, p11⟩ := par_cells (HP5.out.below hB.b)
          replace hB := Bun.nil w6
          go_wp2_with (first | (refine wpList_named hB rfl ?_; clear hB; intro wn gn hB hbn hg; (try rw [hg]); clear hg hbn) | fail)
          refine (liars_c pS pS_ok (some ⟨_, 0, none⟩) _ [1, 2, 3, 4] w1L 4 c _ (hB.row (i := 0) rfl).cells (HG.out.below (below_next HBS.out HBS.out.size hB.b)) (by decide) (by decide) (rows_22 (by decide)) (HT.out.below (HW5.out.trans ((below_next HBS.out HBS.out.size hB.b).mono HW5.out.size)))).mono ?_
          rintro e w7 ⟨v, rfl, ho7, hb7⟩
          rw [lw_3] at ho7 ⊢
          dsimp only at ho7 ⊢
          obtain ⟨A8, k8, rfl, hc8⟩ := ho7.form
          have hb67 := below_next hB.b hB.b.size hb7
          have HC6' := hid (HC6.out.below hb67)
          have HC8 := hid hc8
          have hB5 := below_next HBS.out HBS.out.size hb67
          have hP7 := HP5.out.below hB5
          have hG7 := HG.out.below hB5
          have HC4' := hid (HC4.out.below hB5)
          have hW7 := HW5.out.trans (hB5.mono HW5.out.size)
          have HT7 := hid (HT.out.below hW7)
          have HW7 := hid hW7
          have HP7 := hid hP7
          have HG7 := hid hG7
          clear hb7 ho7 hc8 hb67 hB5 hP7 hG7 hW7 hB HBS HC6 HC4 HW5 HP5 HG p0 p1 p2 p3 p4 p5 p6 p7 p8 p9 p10 p11
          go_upto_region 16 with (fail)
          refine Rgb.wp_region (l := [_, _, _, _, _, _, _, _, _]) (tail := [_]) (Rgb.grows _ 10) [some 76, some 77, some 78, some 79, some 80, some 75, some 81, some 82, some 11, some 12] 125 (by kernel_rfl) (by kernel_rfl) (by kernel_rfl) rfl (Rgb.grows_fair _ _) (Rgb.keep_drew _) (trivial) ?_
          refine Rgb.op_is (pval pS) [] rfl rfl (by kernel_rfl) ?_ ?_
          · intro wx hb
            refine Rgb.from_nil fun T hT => ?_
            obtain ⟨p0, p1, p2, p3, p4, p5, p6, p7, p8, p9, p10, p11⟩ := par_cells (HP7.out.below hb)
            go_wp2
            exact hT _ _ rfl (by first | exact Rgb.Keep.refl _ | exact below_of_dr hw2 | exact hw2 | exact (Below.refl _ _).alloc (Nat.le_refl _) _) (by first | rfl | exact congrArg _ (by decide))
          refine Rgb.op_of (fun w' u => ∃ g, u = Value.slice (some ⟨g, 0, none⟩) 2 2 ∧ Row1 w' g 3 [.int .i64 1, .int .i64 2]) [] rfl ?_ ?_ rfl (by kernel_rfl) ?_ ?_
          · exact fun w1 w2 v hk ⟨g, e, h⟩ => ⟨g, e, h.below hk⟩
          · exact fun w1 w2 v hk ⟨g, e, h⟩ => ⟨g, e, h.below hk⟩
          · intro wx hb
            refine Rgb.from_nil fun T hT => ?_
            go_wp2
            exact hT _ _ rfl (below_alloc _ _) ⟨_, rfl, row1_new wx [_, _] 3⟩
          refine' Rgb.op_is _ [] rfl rfl (by kernel_rfl) ?_ ?_
          rotate_left
          · intro wx hb
            refine Rgb.from_nil fun T hT => ?_
            go_wp2
            refine hT _ _ rfl (by first | exact Rgb.Keep.refl _ | exact below_of_dr hw2 | exact hw2 | exact (Below.refl _ _).alloc (Nat.le_refl _) _) ?_
            simp only [Rgb.last, List.getElem?_toArray, List.getElem?_cons_succ, List.getElem?_cons_zero, Option.getD_some]
            rfl
          refine Rgb.op_is (.slice (some ⟨b2, o2, none⟩) 2 c) [2] rfl rfl (by kernel_rfl) ?_ ?_
          · intro wx hb
            refine Rgb.from_is (some 78) rfl rfl ?_
            refine Rgb.from_nil fun T hT => ?_
            go_wp2
            exact hT _ _ rfl (by first | exact Rgb.Keep.refl _ | exact below_of_dr hw2 | exact hw2 | exact (Below.refl _ _).alloc (Nat.le_refl _) _) (by first | rfl | exact congrArg _ (by decide))
          refine Rgb.op_of (fun _ u => ∃ v, u = Value.tuple #[v, .int .i64 5]) [0, 1, 3] rfl ?_ ?_ rfl (by kernel_rfl) ?_ ?_
          · exact fun _ _ _ _ h => h
          · exact fun _ _ _ _ h => h
          · intro wx hb
            refine Rgb.from_is (some 76) rfl rfl ?_
            refine Rgb.from_of (some 77) rfl rfl fun v77 h77 => ?_
            refine Rgb.from_is (some 79) rfl rfl ?_
            refine Rgb.from_nil fun T hT => ?_
            obtain ⟨g77, rfl, hg77⟩ := h77
            go_wp2_with (fail)
            refine (tell_c pS pS_ok (some ⟨g77, 0, none⟩) (some ⟨b2, o2, none⟩) [1, 2] [[8], [9]] 2 c wx hg77.cells ((HG7.out.below hb).take 2) (by decide) (by decide) (rows_22 (by decide)) (HT7.out.below hb)).mono ?_
            rintro e w9 ⟨v, rfl, -, hw9⟩
            rw [tw_4]
            go_wp2
            exact hT _ _ rfl hw9 ⟨_, rfl⟩
          refine Rgb.op_of (fun _ u => ∃ v, u = Value.tuple #[v, .int .i64 5]) [4] rfl ?_ ?_ rfl (by kernel_rfl) ?_ ?_
          · exact fun _ _ _ _ h => h
          · exact fun _ _ _ _ h => h
          · intro wx hb
            refine Rgb.from_of (some 80) rfl rfl fun v80 h80 => ?_
            refine Rgb.from_nil fun T hT => ?_
            obtain ⟨v, rfl⟩ := h80
            go_wp2
            exact hT _ _ rfl (Below.refl _ _) ⟨_, rfl⟩
          refine Rgb.op_of (fun _ _ => True) [5] rfl ?_ ?_ rfl (by kernel_rfl) ?_ ?_
          · exact fun _ _ _ _ h => h
          · exact fun _ _ _ _ h => h
          · intro wx hb
            refine Rgb.from_of (some 75) rfl rfl fun v75 h75 => ?_
            refine Rgb.from_nil fun T hT => ?_
            obtain ⟨v, rfl⟩ := h75
            go_wp2
            exact hT _ _ rfl (Below.refl _ _) trivial
          refine Rgb.op_is (.int .i64 5) [5] rfl rfl (by kernel_rfl) ?_ ?_
          · intro wx hb
            refine Rgb.from_of (some 75) rfl rfl fun v75 h75 => ?_
            refine Rgb.from_nil fun T hT => ?_
            obtain ⟨v, rfl⟩ := h75
            go_wp2
            exact hT _ _ rfl (by first | exact Below.refl _ _ | exact Rgb.Keep.refl _) rfl
          refine Rgb.op_of (fun _ _ => True) [6] rfl ?_ ?_ rfl (by kernel_rfl) ?_ ?_
          · exact fun _ _ _ _ h => h
          · exact fun _ _ _ _ h => h
          · intro wx hb
            refine Rgb.from_of (some 81) rfl rfl fun v81 h81 => ?_
            refine Rgb.from_nil fun T hT => ?_
            go_wp2
            exact hT _ _ rfl (Below.refl _ _) trivial
          refine Rgb.walk_nil [0, 1, 2, 3, 4, 5, 6, 7, 8] (by kernel_rfl) ?_
          intro wx hb
          refine Rgb.from_is (some 76) rfl rfl ?_
          refine Rgb.from_of (some 77) rfl rfl fun v77 h77 => ?_
          refine Rgb.from_is (some 78) rfl rfl ?_
          refine Rgb.from_is (some 79) rfl rfl ?_
          refine Rgb.from_of (some 80) rfl rfl fun v80 h80 => ?_
          refine Rgb.from_of (some 75) rfl rfl fun v75 h75 => ?_
          refine Rgb.from_of (some 81) rfl rfl fun v81 h81 => ?_
          refine Rgb.from_is (some 82) rfl rfl ?_
          refine Rgb.from_of (some 11) rfl rfl fun v11 h11 => ?_
          refine Rgb.from_nil ?_
          simp only [List.map, Act.put, List.setIfInBounds_toArray, List.set_cons_zero, List.set_cons_succ]
          have hP8 := HP7.out.below hb
          have hG8 := HG7.out.below hb
          have hT8 := HT7.out.below hb
          have HP8 := hid hP8
          have HG8 := hid hG8
          have HT8 := hid hT8
          have HB8 := hid hb
          clear hP8 hG8 hT8 HP7 HG7 HT7 hb h75 h77 h80
          go_upto_region 17 with (fail)
          generalize wx = w8 at *
          refine Rgb.wp_region (l := [_, _, _, _, _, _, _, _, _]) (tail := [_]) (Rgb.grows _ 10) [some 84, some 85, some 86, some 87, some 88, some 83, some 89, some 90, some 13, some 14] 125 (by kernel_rfl) (by kernel_rfl) (by kernel_rfl) rfl (Rgb.grows_fair _ _) (Rgb.keep_drew _) (trivial) ?_
          refine Rgb.op_is (pval pS) [] rfl rfl (by kernel_rfl) ?_ ?_
          · intro wx hb
            refine Rgb.from_nil fun T hT => ?_
            obtain ⟨p0, p1, p2, p3, p4, p5, p6, p7, p8, p9, p10, p11⟩ := par_cells (HP8.out.below hb)
            go_wp2
            exact hT _ _ rfl (by first | exact Rgb.Keep.refl _ | exact below_of_dr hw2 | exact hw2 | exact (Below.refl _ _).alloc (Nat.le_refl _) _) (by first | rfl | exact congrArg _ (by decide))
          refine Rgb.op_of (fun w' u => ∃ g, u = Value.slice (some ⟨g, 0, none⟩) 3 3 ∧ Row1 w' g 3 [.int .i64 1, .int .i64 1, .int .i64 2]) [] rfl ?_ ?_ rfl (by kernel_rfl) ?_ ?_
          · exact fun w1 w2 v hk ⟨g, e, h⟩ => ⟨g, e, h.below hk⟩
          · exact fun w1 w2 v hk ⟨g, e, h⟩ => ⟨g, e, h.below hk⟩
          · intro wx hb
            refine Rgb.from_nil fun T hT => ?_
            go_wp2
            exact hT _ _ rfl (below_alloc _ _) ⟨_, rfl, row1_new wx [_, _, _] 3⟩
          refine' Rgb.op_is _ [] rfl rfl (by kernel_rfl) ?_ ?_
          rotate_left
          · intro wx hb
            refine Rgb.from_nil fun T hT => ?_
            go_wp2
            refine hT _ _ rfl (by first | exact Rgb.Keep.refl _ | exact below_of_dr hw2 | exact hw2 | exact (Below.refl _ _).alloc (Nat.le_refl _) _) ?_
            simp only [Rgb.last, List.getElem?_toArray, List.getElem?_cons_succ, List.getElem?_cons_zero, Option.getD_some]
            rfl
          refine Rgb.op_is (.slice (some ⟨b2, o2, none⟩) 3 c) [2] rfl rfl (by kernel_rfl) ?_ ?_
          · intro wx hb
            refine Rgb.from_is (some 86) rfl rfl ?_
            refine Rgb.from_nil fun T hT => ?_
            go_wp2
            exact hT _ _ rfl (by first | exact Rgb.Keep.refl _ | exact below_of_dr hw2 | exact hw2 | exact (Below.refl _ _).alloc (Nat.le_refl _) _) (by first | rfl | exact congrArg _ (by decide))
          refine Rgb.op_of (fun _ u => ∃ v, u = Value.tuple #[v, .int .i64 6]) [0, 1, 3] rfl ?_ ?_ rfl (by kernel_rfl) ?_ ?_
          · exact fun _ _ _ _ h => h
          · exact fun _ _ _ _ h => h
          · intro wx hb
            refine Rgb.from_is (some 84) rfl rfl ?_
            refine Rgb.from_of (some 85) rfl rfl fun v85 h85 => ?_
            refine Rgb.from_is (some 87) rfl rfl ?_
            refine Rgb.from_nil fun T hT => ?_
            obtain ⟨g85, rfl, hg85⟩ := h85
            go_wp2_with (fail)
            refine (tell_c pS pS_ok (some ⟨g85, 0, none⟩) (some ⟨b2, o2, none⟩) [1, 1, 2] [[8], [9], [18]] 3 c wx hg85.cells ((HG8.out.below hb).take 3) (by decide) (by decide) (rows_22 (by decide)) (HT8.out.below hb)).mono ?_
            rintro e w9 ⟨v, rfl, -, hw9⟩
            rw [tw_5]
            go_wp2
            exact hT _ _ rfl hw9 ⟨_, rfl⟩
          refine Rgb.op_of (fun _ u => ∃ v, u = Value.tuple #[v, .int .i64 6]) [4] rfl ?_ ?_ rfl (by kernel_rfl) ?_ ?_
          · exact fun _ _ _ _ h => h
          · exact fun _ _ _ _ h => h
          · intro wx hb
            refine Rgb.from_of (some 88) rfl rfl fun v88 h88 => ?_
            refine Rgb.from_nil fun T hT => ?_
            obtain ⟨v, rfl⟩ := h88
            go_wp2
            exact hT _ _ rfl (Below.refl _ _) ⟨_, rfl⟩
          refine Rgb.op_of (fun _ _ => True) [5] rfl ?_ ?_ rfl (by kernel_rfl) ?_ ?_
          · exact fun _ _ _ _ h => h
          · exact fun _ _ _ _ h => h
          · intro wx hb
            refine Rgb.from_of (some 83) rfl rfl fun v83 h83 => ?_
            refine Rgb.from_nil fun T hT => ?_
            obtain ⟨v, rfl⟩ := h83
            go_wp2
            exact hT _ _ rfl (Below.refl _ _) trivial
          refine Rgb.op_is (.int .i64 6) [5] rfl rfl (by kernel_rfl) ?_ ?_
          · intro wx hb
            refine Rgb.from_of (some 83) rfl rfl fun v83 h83 => ?_
            refine Rgb.from_nil fun T hT => ?_
            obtain ⟨v, rfl⟩ := h83
            go_wp2
            exact hT _ _ rfl (by first | exact Below.refl _ _ | exact Rgb.Keep.refl _) rfl
          refine Rgb.op_of (fun _ _ => True) [6] rfl ?_ ?_ rfl (by kernel_rfl) ?_ ?_
          · exact fun _ _ _ _ h => h
          · exact fun _ _ _ _ h => h
          · intro wx hb
            refine Rgb.from_of (some 89) rfl rfl fun v89 h89 => ?_
            refine Rgb.from_nil fun T hT => ?_
            go_wp2
            exact hT _ _ rfl (Below.refl _ _) trivial
          refine Rgb.walk_nil [0, 1, 2, 3, 4, 5, 6, 7, 8] (by kernel_rfl) ?_
          intro wx hb
          refine Rgb.from_is (some 84) rfl rfl ?_
          refine Rgb.from_of (some 85) rfl rfl fun v85 h85 => ?_
          refine Rgb.from_is (some 86) rfl rfl ?_
          refine Rgb.from_is (some 87) rfl rfl ?_
          refine Rgb.from_of (some 88) rfl rfl fun v88 h88 => ?_
          refine Rgb.from_of (some 83) rfl rfl fun v83 h83 => ?_
          refine Rgb.from_of (some 89) rfl rfl fun v89 h89 => ?_
          refine Rgb.from_is (some 90) rfl rfl ?_
          refine Rgb.from_of (some 13) rfl rfl fun v13 h13 => ?_
          refine Rgb.from_nil ?_
          simp only [List.map, Act.put, List.setIfInBounds_toArray, List.set_cons_zero, List.set_cons_succ]
          have hb9 := below_next HB8.out HB8.out.size hb
          have HC4 := hid (HC4'.out.below hb9)
          have HC6 := hid (HC6'.out.below hb9)
          have hc8 := HC8.out.below hb9
          have HW9 := hid (HW7.out.trans (hb9.mono HW7.out.size))
          clear hb h83 h85 h88 hb9 HB8 HC4' HC6' HC8 HW7 HP8 HG8 HT8
          have HC8 := hid hc8
          clear hc8
          generalize wx = w9 at *
          have hB := Bun.nil w9
          go_wp2_with (first | (refine wpList_named hB rfl ?_; clear hB; intro wn gn hB hbn hg; (try rw [hg]); clear hg hbn) | fail)
          refine (whole22_c A4 (some ⟨_, 0, none⟩) [3] [3] k4 1 _ (HC4.out.below hB.b) (hB.row (i := 0) rfl).cells (by decide) (by decide)).mono ?_
          rintro e w10 ⟨rfl, hd⟩
          rw [decide_eq_true (rfl : ([3] : List Int) = [3])]
          replace hB := hB.more (below_of_dr hd)
          clear hd
          go_wp2_with (first | (refine wpList_named hB rfl ?_; clear hB; intro wn gn hB hbn hg; (try rw [hg]); clear hg hbn) | fail)
          refine (whole22_c A6 (some ⟨_, 0, none⟩) [3] [3] k6 1 _ (HC6.out.below hB.b) (hB.row (i := 0) rfl).cells (by decide) (by decide)).mono ?_
          rintro e w11 ⟨rfl, hd⟩
          rw [decide_eq_true (rfl : ([3] : List Int) = [3])]
          replace hB := hB.more (below_of_dr hd)
          clear hd
          go_wp2_with (first | (refine wpList_named hB rfl ?_; clear hB; intro wn gn hB hbn hg; (try rw [hg]); clear hg hbn) | fail)
          refine (ints22_c A8 (some ⟨_, 0, none⟩) [2] [2] k8 1 _ (HC8.out.below hB.b) (hB.row (i := 0) rfl).cells (by decide) (by decide)).mono ?_
          rintro e w12 ⟨rfl, hd⟩
          rw [decide_eq_true (rfl : ([2] : List Int) = [2])]
          replace hB := hB.more (below_of_dr hd)
          clear hd
          have hfin := HW9.out.trans (hB.b.mono HW9.out.size)
          go_wp2
          go_ret
          exact ⟨rfl, hfin⟩
end Go.Proofs.YtmmmdidbnjcooaaDoor
end

section
namespace Go.Proofs.YtmmmdidbnjcooaaDoor
open Go Go.RowKit Go.Maps Go.Shelf Go.Proofs

def Stab (Φ : World → Prop) : Prop := ∀ w w', Φ w → Below w.heap.size w w' → Φ w'
structure Kept (w0 : World) (Φs : List (World → Prop)) (w : World) : Prop where
  b : Below w0.heap.size w0 w
  stab : ∀ Φ ∈ Φs, Stab Φ
  all : ∀ Φ ∈ Φs, Φ w
theorem Kept.nil (w : World) : Kept w [] w := ⟨Below.refl _ _, (fun _ h => by cases h), (fun _ h => by cases h)⟩
theorem Kept.more {w0 w w' : World} {Φs : List (World → Prop)} (h : Kept w0 Φs w) (hb : Below w.heap.size w w') : Kept w0 Φs w' := ⟨below_next h.b h.b.size hb, h.stab, fun Φ hΦ => h.stab Φ hΦ w w' (h.all Φ hΦ) hb⟩
theorem Kept.push {w0 w : World} {Φs : List (World → Prop)} (h : Kept w0 Φs w) (Φ : World → Prop) (hs : Stab Φ) (hw : Φ w) : Kept w0 (Φ :: Φs) w :=
  ⟨h.b, fun Ψ hΨ => (List.mem_cons.1 hΨ).elim (fun e => e ▸ hs) (h.stab Ψ), fun Ψ hΨ => (List.mem_cons.1 hΨ).elim (fun e => e ▸ hw) (h.all Ψ)⟩
theorem Kept.get {w0 w : World} {Φs : List (World → Prop)} (h : Kept w0 Φs w) (i : Nat) {Φ : World → Prop} (hi : Φs[i]? = some Φ) : Φ w := h.all Φ (List.mem_of_getElem? hi)
theorem stab_row (g : Nat) (e : TypeId) (xs : List Value) : Stab fun w => Row1 w g e xs := fun _ _ h hb => h.below hb
theorem stab_grid (A : Option Addr) (f : List (List Int)) : Stab fun w => Grid w A f := fun _ _ h hb => h.below hb
theorem stab_cells (A : Option Addr) (xs : List Value) : Stab fun w => Cells w A xs := fun _ _ h hb => h.below hb
theorem stab_tabs : Stab fun w => Tabs w := fun _ _ h hb => h.below hb
/-- four rows that lie in blocks of their own. -/
theorem grid4 {w : World} {g a0 a1 a2 a3 : Nat} {e : TypeId} {l0 l1 l2 l3 : List Int} (hr : Row1 w g e [.slice (some ⟨a0, 0, none⟩) l0.length l0.length, .slice (some ⟨a1, 0, none⟩) l1.length l1.length, .slice (some ⟨a2, 0, none⟩) l2.length l2.length, .slice (some ⟨a3, 0, none⟩) l3.length l3.length])
    (h0 : Row1 w a0 24 (u64v l0)) (h1 : Row1 w a1 24 (u64v l1)) (h2 : Row1 w a2 24 (u64v l2)) (h3 : Row1 w a3 24 (u64v l3)) (k0 : l0.length ≤ 100) (k1 : l1.length ≤ 100) (k2 : l2.length ≤ 100) (k3 : l3.length ≤ 100) : Grid w (some ⟨g, 0, none⟩) [l0, l1, l2, l3] := by
  refine ⟨_, hr.cells, rfl, fun i l hi => ?_⟩
  match i, hi with
  | 0, hi => obtain rfl := Option.some.inj hi; exact ⟨_, rfl, _, _, rfl, h0.cells, by omega⟩
  | 1, hi => obtain rfl := Option.some.inj hi; exact ⟨_, rfl, _, _, rfl, h1.cells, by omega⟩
  | 2, hi => obtain rfl := Option.some.inj hi; exact ⟨_, rfl, _, _, rfl, h2.cells, by omega⟩
  | 3, hi => obtain rfl := Option.some.inj hi; exact ⟨_, rfl, _, _, rfl, h3.cells, by omega⟩
  | n + 4, hi => simp at hi
end Go.Proofs.YtmmmdidbnjcooaaDoor
end

section
namespace Go.Proofs.YtmmmdidbnjcooaaDoor
open Go Go.RowKit Go.Maps Go.Shelf Go.Proofs

attribute [local go_sem] Oper.semAt_some

set_option maxRecDepth 100000 in
set_option maxHeartbeats 8000000 in
theorem scoreNames_c (w : World) (hTab : Tabs w) :
    Calls Tryd.prog 10 #[] w fun e w' => e = .returned (.bool true) ∧ Below w.heap.size w w' := by
  have HK := (Kept.nil w).push _ stab_tabs hTab
  clear hTab
  go_enter Tryd.func10, Tryd.ntmps10
  go_upto_region 2 with (go_at_call 39; refine (small22_c _).mono ?_; rintro e w1 ⟨rfl, hb1⟩)
  have hb9 := below_alloc w1 (.cells (pcells pS).toArray 34)
  have hr9 := row1_new w1 (pcells pS) 34
  replace HK := ((HK.more hb1).more hb9).push _ (stab_row _ _ _) hr9
  simp only [List.toArray] at HK
  generalize w1.alloc (.cells _ 34) = w2 at *
  obtain ⟨g1, hg1⟩ : ∃ n, w1.heap.size = n := ⟨_, rfl⟩
  rw [hg1] at HK ⊢
  clear hb9 hr9 hg1 hb1
  go_wp2_with (fail)
  refine (works22_c _ (HK.get 1 rfl)).mono ?_
  rintro e w3 ⟨rfl, hb3⟩
  replace HK := HK.more hb3
  clear hb3
  have hB := Bun.nil w3
  go_upto_region 5 with (first | (refine wpList_named hB rfl ?_; clear hB; intro wn gn hB hbn hg; (try rw [hg]); clear hg hbn) | fail)
  have hG : Grid wn (some ⟨gn, 0, none⟩) s0L := grid4 (hB.row (i := 0) rfl) (hB.row (i := 4) rfl) (hB.row (i := 3) rfl) (hB.row (i := 2) rfl) (hB.row (i := 1) rfl) (by decide) (by decide) (by decide) (by decide)
  replace HK := (HK.more hB.b)
  replace HK := HK.push _ (stab_grid _ _) hG
  clear hG hB
  generalize wn = wls0 at *
  have hB := Bun.nil wls0
  obtain ⟨p0, p1, p2, p3, p4, p5, p6, p7, p8, p9, p10, p11⟩ := par_cells (HK.get 1 rfl)
  go_wp2_with (first | (refine wpList_named hB rfl ?_; clear hB; intro wn gn hB hbn hg; (try rw [hg]); clear hg hbn) | fail)
  have HKn := HK.more hB.b
  refine (tell_c pS pS_ok (some ⟨_, 0, none⟩) _ [4, 3, 2, 1] s0L 4 4 _ (hB.row (i := 0) rfl).cells (HKn.get 0 rfl) (by decide) (by decide) (rows_22 (by decide)) (HKn.get 2 rfl)).mono ?_
  rintro e wc1 ⟨v, rfl, ho, hb⟩
  rw [ts_1] at ho ⊢
  dsimp only at ho ⊢
  obtain ⟨A1, k1, rfl, hc⟩ := ho.form
  replace HK := HKn.more hb
  replace HK := HK.push _ (stab_cells _ _) hc
  clear hB HKn ho hb hc p0 p1 p2 p3 p4 p5 p6 p7 p8 p9 p10 p11
  have hB := Bun.nil wc1
  obtain ⟨p0, p1, p2, p3, p4, p5, p6, p7, p8, p9, p10, p11⟩ := par_cells (HK.get 2 rfl)
  go_wp2_with (first | (refine wpList_named hB rfl ?_; clear hB; intro wn gn hB hbn hg; (try rw [hg]); clear hg hbn) | fail)
  have HKn := HK.more hB.b
  refine (liars_c pS pS_ok (some ⟨_, 0, none⟩) _ [4, 3, 2, 1] s0L 4 4 _ (hB.row (i := 0) rfl).cells (HKn.get 1 rfl) (by decide) (by decide) (rows_22 (by decide)) (HKn.get 3 rfl)).mono ?_
  rintro e wc2 ⟨v, rfl, ho, hb⟩
  rw [ls_2] at ho ⊢
  dsimp only at ho ⊢
  obtain ⟨A2, k2, rfl, hc⟩ := ho.form
  replace HK := HKn.more hb
  replace HK := HK.push _ (stab_cells _ _) hc
  clear hB HKn ho hb hc p0 p1 p2 p3 p4 p5 p6 p7 p8 p9 p10 p11
  have hB := Bun.nil wc2
  obtain ⟨p0, p1, p2, p3, p4, p5, p6, p7, p8, p9, p10, p11⟩ := par_cells (HK.get 3 rfl)
  go_wp2_with (first | (refine wpList_named hB rfl ?_; clear hB; intro wn gn hB hbn hg; (try rw [hg]); clear hg hbn) | fail)
  have HKn := HK.more hB.b
  refine (liars_c pS pS_ok (some ⟨_, 0, none⟩) (some ⟨_, 0, none⟩) [4, 3, 2, 1] s1L 4 4 _ (hB.row (i := 5) rfl).cells (grid4 (hB.row (i := 0) rfl) (hB.row (i := 4) rfl) (hB.row (i := 3) rfl) (hB.row (i := 2) rfl) (hB.row (i := 1) rfl) (by decide) (by decide) (by decide) (by decide)) (by decide) (by decide) (rows_22 (by decide)) (HKn.get 4 rfl)).mono ?_
  rintro e wc3 ⟨v, rfl, ho, hb⟩
  rw [ls_3] at ho ⊢
  dsimp only at ho ⊢
  obtain ⟨A3, k3, rfl, hc⟩ := ho.form
  replace HK := HKn.more hb
  clear hB HKn ho hb hc p0 p1 p2 p3 p4 p5 p6 p7 p8 p9 p10 p11
  have hB := Bun.nil wc3
  obtain ⟨p0, p1, p2, p3, p4, p5, p6, p7, p8, p9, p10, p11⟩ := par_cells (HK.get 3 rfl)
  go_upto_region 9 with (first | (refine wpList_named hB rfl ?_; clear hB; intro wn gn hB hbn hg; (try rw [hg]); clear hg hbn) | fail)
  skip
  refine code_named hB ?_
  clear hB
  intro wn gn hB hbn hg
  rw [hg]
  have hge := Nat.le_of_eq hg
  have hc := (hB.row (i := 0) rfl).cell (k := 7) rfl
  have hf := (hB.row (i := 0) rfl).frozen 7
  have hr := (hB.row (i := 0) rfl).set 7 (.int .i64 2)
  have hbs := hB.b.setCell (p := ⟨gn, 7, none⟩) hge (.int .i64 2)
  replace HK := HK.more hbs
  replace HK := HK.push (fun w => Row1 w gn 34 (pcells pTwo)) (stab_row _ _ _) hr
  clear hB hbn hg hge hr hbs p0 p1 p2 p3 p4 p5 p6 p7 p8 p9 p10 p11
  go_upto_region 10 with (fail)
  clear hc hf
  generalize wn.setCell _ _ = wpTwo at *
  generalize gn = gpTwo at *
  have hB := Bun.nil wpTwo
  go_upto_region 11 with (first | (refine wpList_named hB rfl ?_; clear hB; intro wn gn hB hbn hg; (try rw [hg]); clear hg hbn) | fail)
  have hG : Grid wn (some ⟨gn, 0, none⟩) mL := grid4 (hB.row (i := 0) rfl) (hB.row (i := 4) rfl) (hB.row (i := 3) rfl) (hB.row (i := 2) rfl) (hB.row (i := 1) rfl) (by decide) (by decide) (by decide) (by decide)
  replace HK := (HK.more hB.b)
  replace HK := HK.push _ (stab_grid _ _) hG
  clear hG hB
  generalize wn = wlm at *
  have hB := Bun.nil wlm
  obtain ⟨p0, p1, p2, p3, p4, p5, p6, p7, p8, p9, p10, p11⟩ := par_cells (HK.get 1 rfl)
  go_wp2_with (first | (refine wpList_named hB rfl ?_; clear hB; intro wn gn hB hbn hg; (try rw [hg]); clear hg hbn) | fail)
  have HKn := HK.more hB.b
  refine (tell_c pTwo pTwo_ok (some ⟨_, 0, none⟩) (some ⟨_, 0, none⟩) [1, 2, 3, 4] hL 4 4 _ (hB.row (i := 5) rfl).cells (grid4 (hB.row (i := 0) rfl) (hB.row (i := 4) rfl) (hB.row (i := 3) rfl) (hB.row (i := 2) rfl) (hB.row (i := 1) rfl) (by decide) (by decide) (by decide) (by decide)) (by decide) (by decide) (rows_22 (by decide)) (HKn.get 6 rfl)).mono ?_
  rintro e wc4 ⟨v, rfl, ho, hb⟩
  rw [ts_4] at ho ⊢
  dsimp only at ho ⊢
  obtain ⟨A4, k4, rfl, hc⟩ := ho.form
  replace HK := HKn.more hb
  clear hB HKn ho hb hc p0 p1 p2 p3 p4 p5 p6 p7 p8 p9 p10 p11
  have hB := Bun.nil wc4
  obtain ⟨p0, p1, p2, p3, p4, p5, p6, p7, p8, p9, p10, p11⟩ := par_cells (HK.get 1 rfl)
  go_wp2_with (first | (refine wpList_named hB rfl ?_; clear hB; intro wn gn hB hbn hg; (try rw [hg]); clear hg hbn) | fail)
  have HKn := HK.more hB.b
  refine (liars_c pTwo pTwo_ok (some ⟨_, 0, none⟩) _ [1, 2, 3, 4] mL 4 4 _ (hB.row (i := 0) rfl).cells (HKn.get 0 rfl) (by decide) (by decide) (rows_22 (by decide)) (HKn.get 6 rfl)).mono ?_
  rintro e wc5 ⟨v, rfl, ho, hb⟩
  rw [ls_5] at ho ⊢
  dsimp only at ho ⊢
  obtain ⟨A5, k5, rfl, hc⟩ := ho.form
  replace HK := HKn.more hb
  replace HK := HK.push _ (stab_cells _ _) hc
  clear hB HKn ho hb hc p0 p1 p2 p3 p4 p5 p6 p7 p8 p9 p10 p11
  have hB := Bun.nil wc5
  obtain ⟨p0, p1, p2, p3, p4, p5, p6, p7, p8, p9, p10, p11⟩ := par_cells (HK.get 2 rfl)
  go_wp2_with (first | (refine wpList_named hB rfl ?_; clear hB; intro wn gn hB hbn hg; (try rw [hg]); clear hg hbn) | fail)
  have HKn := HK.more hB.b
  refine (tell_c pTwo pTwo_ok (some ⟨_, 0, none⟩) _ [1, 2, 3, 4] mL 4 4 _ (hB.row (i := 0) rfl).cells (HKn.get 1 rfl) (by decide) (by decide) (rows_22 (by decide)) (HKn.get 7 rfl)).mono ?_
  rintro e wc6 ⟨v, rfl, ho, hb⟩
  rw [ts_6] at ho ⊢
  dsimp only at ho ⊢
  obtain ⟨A6, k6, rfl, hc⟩ := ho.form
  replace HK := HKn.more hb
  replace HK := HK.push _ (stab_cells _ _) hc
  clear hB HKn ho hb hc p0 p1 p2 p3 p4 p5 p6 p7 p8 p9 p10 p11
  have hB := Bun.nil wc6
  obtain ⟨p0, p1, p2, p3, p4, p5, p6, p7, p8, p9, p10, p11⟩ := par_cells (HK.get 7 rfl)
  go_upto_region 15 with (first | (refine wpList_named hB rfl ?_; clear hB; intro wn gn hB hbn hg; (try rw [hg]); clear hg hbn) | fail)
  skip
  refine code_named hB ?_
  clear hB
  intro wn gn hB hbn hg
  rw [hg]
  have hge := Nat.le_of_eq hg
  have hc := (hB.row (i := 0) rfl).cell (k := 7) rfl
  have hf := (hB.row (i := 0) rfl).frozen 7
  have hr := (hB.row (i := 0) rfl).set 7 (.int .i64 0)
  have hbs := hB.b.setCell (p := ⟨gn, 7, none⟩) hge (.int .i64 0)
  replace HK := HK.more hbs
  replace HK := HK.push (fun w => Row1 w gn 34 (pcells pNone)) (stab_row _ _ _) hr
  clear hB hbn hg hge hr hbs p0 p1 p2 p3 p4 p5 p6 p7 p8 p9 p10 p11
  go_upto_region 16 with (fail)
  clear hc hf
  generalize wn.setCell _ _ = wpNone at *
  generalize gn = gpNone at *
  have hB := Bun.nil wpNone
  obtain ⟨p0, p1, p2, p3, p4, p5, p6, p7, p8, p9, p10, p11⟩ := par_cells (HK.get 8 rfl)
  go_upto_region 17 with (first | (refine wpList_named hB rfl ?_; clear hB; intro wn gn hB hbn hg; (try rw [hg]); clear hg hbn) | fail)
  skip
  refine code_named hB ?_
  clear hB
  intro wn gn hB hbn hg
  rw [hg]
  have hge := Nat.le_of_eq hg
  have hc := (hB.row (i := 0) rfl).cell (k := 1) rfl
  have hf := (hB.row (i := 0) rfl).frozen 1
  have hr := (hB.row (i := 0) rfl).set 1 (.int .u64 22)
  have hbs := hB.b.setCell (p := ⟨gn, 1, none⟩) hge (.int .u64 22)
  replace HK := HK.more hbs
  replace HK := HK.push (fun w => Row1 w gn 34 (pcells pOdd)) (stab_row _ _ _) hr
  clear hB hbn hg hge hr hbs p0 p1 p2 p3 p4 p5 p6 p7 p8 p9 p10 p11
  go_upto_region 18 with (fail)
  clear hc hf
  generalize wn.setCell _ _ = wpOdd at *
  generalize gn = gpOdd at *
  have hB := Bun.nil wpOdd
  obtain ⟨p0, p1, p2, p3, p4, p5, p6, p7, p8, p9, p10, p11⟩ := par_cells (HK.get 9 rfl)
  go_wp2_with (first | (refine wpList_named hB rfl ?_; clear hB; intro wn gn hB hbn hg; (try rw [hg]); clear hg hbn) | fail)
  have HKn := HK.more hB.b
  refine (tell_c pS pS_ok (some ⟨_, 0, none⟩) _ [1, 2, 3] s0L 3 4 _ (hB.row (i := 0) rfl).cells (HKn.get 8 rfl) (by decide) (by decide) (rows_22 (by decide)) (HKn.get 10 rfl)).mono ?_
  rintro e wc7 ⟨v, rfl, ho, hb⟩
  rw [ts_7] at ho ⊢
  dsimp only at ho ⊢
  obtain ⟨A7, k7, rfl, hc⟩ := ho.form
  replace HK := HKn.more hb
  clear hB HKn ho hb hc p0 p1 p2 p3 p4 p5 p6 p7 p8 p9 p10 p11
  have hB := Bun.nil wc7
  obtain ⟨p0, p1, p2, p3, p4, p5, p6, p7, p8, p9, p10, p11⟩ := par_cells (HK.get 9 rfl)
  go_wp2_with (first | (refine wpList_named hB rfl ?_; clear hB; intro wn gn hB hbn hg; (try rw [hg]); clear hg hbn) | fail)
  have HKn := HK.more hB.b
  refine (tell_c pS pS_ok (some ⟨_, 0, none⟩) _ [1, 2, 3, 8] s0L 4 4 _ (hB.row (i := 0) rfl).cells (HKn.get 8 rfl) (by decide) (by decide) (rows_22 (by decide)) (HKn.get 10 rfl)).mono ?_
  rintro e wc8 ⟨v, rfl, ho, hb⟩
  rw [ts_8] at ho ⊢
  dsimp only at ho ⊢
  obtain ⟨A8, k8, rfl, hc⟩ := ho.form
  replace HK := HKn.more hb
  clear hB HKn ho hb hc p0 p1 p2 p3 p4 p5 p6 p7 p8 p9 p10 p11
  have hB := Bun.nil wc8
  obtain ⟨p0, p1, p2, p3, p4, p5, p6, p7, p8, p9, p10, p11⟩ := par_cells (HK.get 9 rfl)
  go_wp2_with (first | (refine wpList_named hB rfl ?_; clear hB; intro wn gn hB hbn hg; (try rw [hg]); clear hg hbn) | fail)
  have HKn := HK.more hB.b
  refine (tell_c pS pS_ok (some ⟨_, 0, none⟩) _ [0, 2, 3, 1] s0L 4 4 _ (hB.row (i := 0) rfl).cells (HKn.get 8 rfl) (by decide) (by decide) (rows_22 (by decide)) (HKn.get 10 rfl)).mono ?_
  rintro e wc9 ⟨v, rfl, ho, hb⟩
  rw [ts_9] at ho ⊢
  dsimp only at ho ⊢
  obtain ⟨A9, k9, rfl, hc⟩ := ho.form
  replace HK := HKn.more hb
  clear hB HKn ho hb hc p0 p1 p2 p3 p4 p5 p6 p7 p8 p9 p10 p11
  have hB := Bun.nil wc9
  obtain ⟨p0, p1, p2, p3, p4, p5, p6, p7, p8, p9, p10, p11⟩ := par_cells (HK.get 5 rfl)
  go_wp2_with (first | (refine wpList_named hB rfl ?_; clear hB; intro wn gn hB hbn hg; (try rw [hg]); clear hg hbn) | fail)
  have HKn := HK.more hB.b
  refine (tell_c pTwo pTwo_ok (some ⟨_, 0, none⟩) _ [1, 2, 3, 4] s0L 4 4 _ (hB.row (i := 0) rfl).cells (HKn.get 8 rfl) (by decide) (by decide) (rows_22 (by decide)) (HKn.get 10 rfl)).mono ?_
  rintro e wc10 ⟨v, rfl, ho, hb⟩
  rw [ts_10] at ho ⊢
  dsimp only at ho ⊢
  obtain ⟨A10, k10, rfl, hc⟩ := ho.form
  replace HK := HKn.more hb
  clear hB HKn ho hb hc p0 p1 p2 p3 p4 p5 p6 p7 p8 p9 p10 p11
  have hB := Bun.nil wc10
  obtain ⟨p0, p1, p2, p3, p4, p5, p6, p7, p8, p9, p10, p11⟩ := par_cells (HK.get 1 rfl)
  go_wp2_with (first | (refine wpList_named hB rfl ?_; clear hB; intro wn gn hB hbn hg; (try rw [hg]); clear hg hbn) | fail)
  have HKn := HK.more hB.b
  refine (tell_c pNone pNone_ok none none [] [] 0 0 _ (.inl rfl) (grid_none _) (by decide) (by decide) (rows_22 (by decide)) (HKn.get 10 rfl)).mono ?_
  rintro e wc11 ⟨v, rfl, ho, hb⟩
  rw [ts_11] at ho ⊢
  dsimp only at ho ⊢
  obtain ⟨A11, k11, rfl, hc⟩ := ho.form
  replace HK := HKn.more hb
  clear hB HKn ho hb hc p0 p1 p2 p3 p4 p5 p6 p7 p8 p9 p10 p11
  have hB := Bun.nil wc11
  obtain ⟨p0, p1, p2, p3, p4, p5, p6, p7, p8, p9, p10, p11⟩ := par_cells (HK.get 0 rfl)
  go_wp2_with (first | (refine wpList_named hB rfl ?_; clear hB; intro wn gn hB hbn hg; (try rw [hg]); clear hg hbn) | fail)
  have HKn := HK.more hB.b
  refine (liars_c pOdd pOdd_ok (some ⟨_, 0, none⟩) _ [1, 2, 3, 4] s0L 4 4 _ (hB.row (i := 0) rfl).cells (HKn.get 8 rfl) (by decide) (by decide) (rows_22 (by decide)) (HKn.get 10 rfl)).mono ?_
  rintro e wc12 ⟨v, rfl, ho, hb⟩
  rw [ls_12] at ho ⊢
  dsimp only at ho ⊢
  obtain ⟨A12, k12, rfl, hc⟩ := ho.form
  replace HK := HKn.more hb
  clear hB HKn ho hb hc p0 p1 p2 p3 p4 p5 p6 p7 p8 p9 p10 p11
  have hB := Bun.nil wc12
  obtain ⟨p0, p1, p2, p3, p4, p5, p6, p7, p8, p9, p10, p11⟩ := par_cells (HK.get 9 rfl)
  go_wp2_with (first | (refine wpList_named hB rfl ?_; clear hB; intro wn gn hB hbn hg; (try rw [hg]); clear hg hbn) | fail)
  have HKn := HK.more hB.b
  refine (tell_c pS pS_ok none none [] [] 0 0 _ (.inl rfl) (grid_none _) (by decide) (by decide) (rows_22 (by decide)) (HKn.get 10 rfl)).mono ?_
  rintro e wc13 ⟨v, rfl, ho, hb⟩
  rw [ts_13] at ho ⊢
  dsimp only at ho ⊢
  obtain ⟨A13, k13, rfl, hc⟩ := ho.form
  replace HK := HKn.more hb
  clear hB HKn ho hb hc p0 p1 p2 p3 p4 p5 p6 p7 p8 p9 p10 p11
  have hB := Bun.nil wc13
  go_wp2_with (first | (refine wpList_named hB rfl ?_; clear hB; intro wn gn hB hbn hg; (try rw [hg]); clear hg hbn) | fail)
  refine (whole22_c A1 (some ⟨_, 0, none⟩) [3] [3] k1 1 _ ((HK.more hB.b).get 7 rfl) (hB.row (i := 0) rfl).cells (by decide) (by decide)).mono ?_
  rintro e wz ⟨rfl, hd⟩
  rw [decide_eq_true (rfl : ([3] : List Int) = [3])]
  replace HK := (HK.more hB.b).more (below_of_dr hd)
  clear hB hd
  have hB := Bun.nil wz
  go_wp2_with (first | (refine wpList_named hB rfl ?_; clear hB; intro wn gn hB hbn hg; (try rw [hg]); clear hg hbn) | fail)
  refine (ints22_c A2 (some ⟨_, 0, none⟩) [2] [2] k2 1 _ ((HK.more hB.b).get 6 rfl) (hB.row (i := 0) rfl).cells (by decide) (by decide)).mono ?_
  rintro e wz ⟨rfl, hd⟩
  rw [decide_eq_true (rfl : ([2] : List Int) = [2])]
  replace HK := (HK.more hB.b).more (below_of_dr hd)
  clear hB hd
  have hB := Bun.nil wz
  go_wp2_with (first | (refine wpList_named hB rfl ?_; clear hB; intro wn gn hB hbn hg; (try rw [hg]); clear hg hbn) | fail)
  refine (ints22_c A5 (some ⟨_, 0, none⟩) [1, 4] [1, 4] k5 2 _ ((HK.more hB.b).get 3 rfl) (hB.row (i := 0) rfl).cells (by decide) (by decide)).mono ?_
  rintro e wz ⟨rfl, hd⟩
  rw [decide_eq_true (rfl : ([1, 4] : List Int) = [1, 4])]
  replace HK := (HK.more hB.b).more (below_of_dr hd)
  clear hB hd
  have hB := Bun.nil wz
  go_wp2_with (first | (refine wpList_named hB rfl ?_; clear hB; intro wn gn hB hbn hg; (try rw [hg]); clear hg hbn) | fail)
  refine (whole22_c A6 (some ⟨_, 0, none⟩) [3, 5] [3, 5] k6 2 _ ((HK.more hB.b).get 2 rfl) (hB.row (i := 0) rfl).cells (by decide) (by decide)).mono ?_
  rintro e wz ⟨rfl, hd⟩
  rw [decide_eq_true (rfl : ([3, 5] : List Int) = [3, 5])]
  replace HK := (HK.more hB.b).more (below_of_dr hd)
  clear hB hd
  have hB := Bun.nil wz
  have hfin := HK.b
  go_wp2
  go_ret
  exact ⟨rfl, hfin⟩
end Go.Proofs.YtmmmdidbnjcooaaDoor
end
