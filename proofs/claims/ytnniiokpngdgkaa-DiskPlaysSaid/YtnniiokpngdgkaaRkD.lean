/-
  The document's disk: a crash.
-/
import Derived.Test.YtnniiokpngdgkaaRkC
namespace Go.Proofs.Ytnniiokpngdgkaa
open Go Go.ChangeShapes Go.WideShapes Go.ChangeAt Go.RowKit Go.Maps Go.Shelf Go.Proofs

theorem crashR_len (C P : List Pt) (keep : List Bool) (n : Nat) : ∀ k, (crashR C keep n P k).2.length ≤ P.length + k
  | 0 => Nat.le_refl _
  | k + 1 => by
    have ih := crashR_len C P keep n k
    rw [crashR]
    cases C[k]? with
    | none => simp only; omega
    | some p =>
      simp only
      split
      · simp only [List.length_append, List.length_cons, List.length_nil]; omega
      · split
        · omega
        · simp only [List.length_append, List.length_cons, List.length_nil]; omega
theorem crashR_fine {C P : List Pt} {keep : List Bool} {n : Nat} (hC : Fine C) (hP : Fine P) (hn : n ≤ 512) : ∀ k, Fine (crashR C keep n P k).2
  | 0 => hP
  | k + 1 => by
    have ih := crashR_fine (keep := keep) hC hP hn k
    rw [crashR]
    cases hp : C[k]? with
    | none => exact ih
    | some p =>
      obtain ⟨hpa, hps⟩ := hC p (List.mem_of_getElem? hp)
      simp only
      split
      · exact ih.append (Fine.one hpa hps)
      · split
        · exact ih
        · exact ih.append (Fine.one hpa (Nat.le_of_eq (cut_size (pad_size hps) (pad_size (sOf_size ih _)) hn)))

theorem RT.set_new {w w' : World} {g : Nat} (h : RT w w' g) (p : Addr) (u : Value) (hp : w.heap.size ≤ p.block) : RT w (w'.setCell p u) g :=
  ⟨h.os, h.tape, h.output, by simpa using h.size, fun i hi h1 => (Below.heap_setCell w' p u i (by omega)).trans (h.block i hi h1)⟩
theorem OwnR.cells_of {w : World} {base n c : Nat} {A : Option Addr} {l : List Pt} (h : OwnR w base (.slice A n c) l) : CellsP w A l := by
  obtain ⟨A', c', e, hc⟩ := h.cellsP
  injection e with e1 e2 e3
  subst e1
  exact hc
/-- the writes l behind a new row of none: no old block is turned. -/
theorem wpList_append_R0 {ops : Array Oper} {rest : List Oper} {o : Oper} {a : Act} {Q : Exit → Act → World → Prop} (w : World) (hgd : o.guard = none) (s x : Operand)
    (ho : o.op = .call { callee := .builtin .append, args := #[s, x], argTypes := #[42, 42] })
    (base b : Nat) (hs : a.eval s = .slice (some ⟨b, 0, none⟩) 0 0) (hown : w.ownsRow base 96 2 (.slice (some ⟨b, 0, none⟩) 0 0) 0 [])
    (A : Option Addr) (l : List Pt) (c : Nat) (hx : a.eval x = .slice A l.length c) (hA : CellsP w A l) (hn : l.length ≤ 1000000) (hbase : base ≤ w.heap.size)
    (h : ∀ v' w', w'.ownsRow base 96 2 v' l.length (l.flatMap pcl) → Below w.heap.size w w' → wpList Try.prog ops Q rest (a.put o.dst v') w') : wpList Try.prog ops Q (o :: rest) a w := by
  obtain ⟨i0, hi, hz0, hz1, hz2⟩ := info_parts info_rput
  have hnone : l = [] → A = none → wpList Try.prog ops Q (o :: rest) a w := fun hl ha => by
    subst hl ha
    have hr := run_append_none (P := Try.prog) w 42 o.type _ i0 Try.underlying42 hi (some ⟨b, 0, none⟩) 0 0 c (Nat.le_refl _)
    refine wpList_plain hgd fun K hK => ?_
    unfold Oper.wp execOp
    simp only [ho, resolve, invoke, builtin, Sem.run_bind, Sem.run_pure, Result.andThen_ok, List.map_toArray, List.map_cons, List.map_nil, hs, hx, List.length_nil, hr]
    exact hK _ _ (h _ _ hown (Below.refl _ _))
  have hsome : ∀ ad, A = some ad → (∀ j u, (l.flatMap pcl)[j]? = some u → w.cell? (ad.add j) = some u) → wpList Try.prog ops Q (o :: rest) a w := fun ad ha hc => by
    subst ha
    refine wpList_append_arg w hgd s x _ ho 96 i0 (pval ⟨0, ⟨#[]⟩⟩) 2 24 Try.underlying42 hi hz0 hz1 hz2 (by rfl) (by decide) b 0 0 0 [] hs rfl (fun j u hu => by simp at hu) ad l.length c (l.flatMap pcl) hx (flatP_len l) hc (fun u hu => by obtain ⟨y, _, hy⟩ := List.mem_flatMap.1 hu; exact one_two y u hy) (fun h0 j hj => by rw [flatP_len] at hj; omega) (by unfold maxLen; omega) (by omega) (fun h0 => ?_) fun _ v' w' h1 h2 => ?_
    · obtain rfl : l = [] := List.eq_nil_of_length_eq_zero (by omega)
      exact h _ _ hown (Below.refl _ _)
    · rw [Nat.zero_add, List.nil_append] at h1
      exact h v' w' (ownsRow_from h1 hbase) ⟨h2.os, h2.tape, h2.output, h2.size, fun i hi => h2.block i hi (by simp)⟩
  rcases hA with h0 | ⟨b2, off, rfl, h5⟩
  · have hl : l = [] := by
      have := flatP_len l
      rw [h0] at this
      exact List.eq_nil_of_length_eq_zero (by simp at this; omega)
    cases A with
    | none => exact hnone hl rfl
    | some ad => exact hsome ad rfl fun j u hu => by rw [h0] at hu; simp at hu
  · exact hsome _ rfl fun j u hu => by rw [add_none rfl]; exact h5 j u hu

set_option maxRecDepth 100000 in
set_option maxHeartbeats 2000000 in
theorem rcrash_c (g : Nat) (vp vc : Value) (r : Rk) (A : Option Addr) (ks : List Bool) (c : Nat) (n : Int) (w : World) (h : RDsk w g vp vc r) (hm : r.P.length + r.C.length ≤ 900000) (hoC : Fine r.C) (hoP : Fine r.P) (hA : ∀ wr, RT w wr g → Cells wr A (ks.map Value.bool)) (hks : ks.length ≤ 9223372036854775807) [DecidableEq Lit] :
    Calls Try.prog 59 #[.pointer (some ⟨g, 0, none⟩), .slice A ks.length c, .int .i64 n] w fun e w' => ∃ vp' vc', e = .returned (.tuple #[]) ∧ RDsk w' g vp' vc' (r.crash ks n) ∧ RT w w' g := by
  obtain ⟨A0, cap0, rfl, -⟩ := h.C.cellsP
  obtain ⟨c0, c1, c2, c3, c4⟩ := h.cells
  have HA := hid hA
  have HC := hid hoC
  have HP := hid hoP
  clear hA hoC hoP
  go_enter Try.func59, Try.ntmps59
  go_wp2
  have hcl2 := clamp_le n
  obtain ⟨N, hN⟩ : ∃ N : Nat, min (max n 0) 512 = (N : Int) := ⟨(clamp n).toNat, by unfold clamp at hcl2 ⊢; omega⟩
  have hN2 : N ≤ 512 := by unfold clamp at hcl2; omega
  have HN := hid (show (clamp n).toNat = N by unfold clamp; omega)
  rw [hN]
  clear hN hcl2
  go_loopw [6, 7] (fun t i wr => ∃ (k : Nat) (vp : Value), i = .int .i64 k ∧ k ≤ r.C.length ∧ t = .bool (crashR r.C ks N r.P k).1 ∧ RDsk wr g vp (.slice A0 r.C.length cap0) { r with P := (crashR r.C ks N r.P k).2 } ∧ RT w wr g) (fun _ i _ => r.C.length - (intOf i).toNat)
  case atStart => exact ⟨0, vp, rfl, by omega, rfl, h, RT.refl⟩
  case round =>
    obtain ⟨k, vp, rfl, hk, rfl, hDr, hTr⟩ := hrel
    clear h c0 c1 c2 c3 c4
    by_cases hkl : k < r.C.length
    · obtain ⟨p, hp⟩ := get_of_lt hkl
      obtain ⟨hpa, hps⟩ := HC.out p (List.mem_of_getElem? hp)
      obtain ⟨A1, c1', hv, hcc⟩ := hDr.C.cellsP
      injection hv with e1 e2 e3
      subst e1
      obtain ⟨b, off, rfl, x0, x1⟩ := cellsP_at hcc hp
      have hS : crashR r.C ks N r.P (k + 1) = if (ks[k]?).getD false then ((crashR r.C ks N r.P k).1, (crashR r.C ks N r.P k).2 ++ [p]) else if (crashR r.C ks N r.P k).1 then crashR r.C ks N r.P k else (true, (crashR r.C ks N r.P k).2 ++ [⟨p.at_, cut (pad p.s) (pad (sOf (lastC (crashR r.C ks N r.P k).2 p.at_))) N⟩]) := by
        rw [crashR, hp]
      have hPl := crashR_len r.C r.P ks N k
      have HF := hid (crashR_fine (keep := ks) HC.out HP.out hN2 k)
      have HPA := hid (⟨hpa, hps⟩ : _ ∧ _)
      have hba := below_alloc wr (.cells #[.int .i64 p.1, .string p.2] 96)
      have HAr := hid ((HA.out wr hTr).below hba)
      have hRow := row1_new wr (pcl p) 96
      simp only [List.toArray] at hRow
      generalize hst : crashR r.C ks N r.P k = st at *
      obtain ⟨tn, P'⟩ := st
      obtain ⟨c0, c1, c2, c3, c4⟩ := hDr.cells
      have HD := hid hDr
      clear hst hp hcc hpa hDr
      cases hkk : (ks[k]?).getD false with
      | true =>
        have hkn : k < ks.length := by
          rcases Nat.lt_or_ge k ks.length with h | h
          · exact h
          · rw [List.getElem?_eq_none h] at hkk; cases hkk
        have hkb : ks[k]? = some true := by
          rw [List.getElem?_eq_getElem hkn] at hkk ⊢
          simpa using hkk
        obtain ⟨b2, off2, rfl, q5⟩ := HAr.out.at_map hkb
        rw [hkk] at hS
        simp only [if_true] at hS
        have HS := hid hS
        clear hS hkk hkb
        go_wp2_with (fail)
        have hT1 := hTr.next hba
        have hD1 := HD.out.below hba
        obtain ⟨Ap, cp, rfl, hAp⟩ := hD1.P.cellsP
        have HD1 := hid hD1
        have HAp := hid hAp
        clear hD1 hAp HD hTr hba c0 c1 c2 c3 c4 x0 x1
        generalize wr.alloc _ = w1 at *
        generalize wr.heap.size = gx at hRow ⊢
        refine Rgd.wp_region (l := [_, _, _, _, _, _, _, _, _, _, _, _]) (tail := [_]) (Rgd.keep w1 [9] [(0, 1), (0, 0), (0, 0), (0, 0), (0, 0), (0, 0), (0, 0), (0, 0), (0, 0), (0, 0), (1, 1), (1, 1)]) [some 59, some 60, some 61, some 62, some 63, some 64, some 65, some 66, some 67, some 68, some 69, some 70, none] 77 rfl [[], [], [], [2], [2, 3], [2, 3, 4], [1, 2, 3, 4, 5], [], [7], [1, 2, 3, 4, 5, 6, 7, 8], [0, 1, 2, 3, 4, 5, 6, 7, 8, 9], [0, 1, 2, 3, 4, 5, 6, 7, 8, 9, 10]] (by kernel_rfl) (by kernel_rfl) (by kernel_rfl) (by kernel_rfl) (by kernel_rfl) rfl (Rgd.keep_fair) (Rgd.keep_start _) ?_
        refine' Rgd.op_is _ [] 0 1 rfl rfl rfl (by kernel_rfl) ?_ ?_
        rotate_left
        · intro p wx hp1 hp2 hb
          refine Rgd.from_nil fun T hT => ?_
          go_wp2
          refine hT _ _ rfl (by first | exact Rgd.Keep.refl _ | exact below_of_dr hw2 | exact hw2 | exact (Below.refl _ _).alloc (Nat.le_refl _) _) ?_
          simp only [Rgd.last, List.getElem?_toArray, List.getElem?_cons_succ, List.getElem?_cons_zero, Option.getD_some]
          rfl
        refine Rgd.op_of (fun p w u => p = 0 → ∃ b, u = .slice (some ⟨b, 0, none⟩) 0 0 ∧ w.ownsRow w1.heap.size 96 2 u 0 []) [] 0 0 rfl rfl ?_ ?_ rfl (by kernel_rfl) ?_ ?_
        · exact fun p w1 w2 v _ hk h hp => by obtain ⟨b, h1, h2⟩ := h hp; exact ⟨b, h1, ownsRow_below h2 hk⟩
        · exact fun p w1 w2 v _ _ _ _ _ _ hp => by omega
        · intro p wx hp1 hp2 hb
          obtain rfl : p = 0 := by omega
          refine Rgd.from_nil fun T hT => ?_
          have hb : Below w1.heap.size w1 wx := hb
          go_wp2
          exact hT _ _ rfl (below_alloc _ _) fun _ => ⟨_, rfl, ownsRow_from (ownR_new wx) hb.size⟩
        refine' Rgd.op_is _ [] 0 0 rfl rfl rfl (by kernel_rfl) ?_ ?_
        rotate_left
        · intro p wx hp1 hp2 hb
          obtain rfl : p = 0 := by omega
          refine Rgd.from_nil fun T hT => ?_
          go_wp2
          refine hT _ _ rfl (by first | exact Rgd.Keep.refl _ | exact below_of_dr hw2 | exact hw2 | exact (Below.refl _ _).alloc (Nat.le_refl _) _) ?_
          simp only [Rgd.last, List.getElem?_toArray, List.getElem?_cons_succ, List.getElem?_cons_zero, Option.getD_some]
          rfl
        refine' Rgd.op_is _ [2] 0 0 rfl rfl rfl (by kernel_rfl) ?_ ?_
        rotate_left
        · intro p wx hp1 hp2 hb
          obtain rfl : p = 0 := by omega
          refine Rgd.from_is (some 61) rfl rfl ?_
          refine Rgd.from_nil fun T hT => ?_
          go_wp2
          refine hT _ _ rfl (by first | exact Rgd.Keep.refl _ | exact below_of_dr hw2 | exact hw2 | exact (Below.refl _ _).alloc (Nat.le_refl _) _) ?_
          simp only [Rgd.last, List.getElem?_toArray, List.getElem?_cons_succ, List.getElem?_cons_zero, Option.getD_some]
          rfl
        refine' Rgd.op_is _ [3] 0 0 rfl rfl rfl (by kernel_rfl) ?_ ?_
        rotate_left
        · intro p wx hp1 hp2 hb
          obtain rfl : p = 0 := by omega
          refine Rgd.from_is (some 62) rfl rfl ?_
          refine Rgd.from_nil fun T hT => ?_
          go_wp2
          refine hT _ _ rfl (by first | exact Rgd.Keep.refl _ | exact below_of_dr hw2 | exact hw2 | exact (Below.refl _ _).alloc (Nat.le_refl _) _) ?_
          simp only [Rgd.last, List.getElem?_toArray, List.getElem?_cons_succ, List.getElem?_cons_zero, Option.getD_some]
          rfl
        refine Rgd.op_is (.slice Ap P'.length cp) [4] 0 0 rfl rfl rfl (by kernel_rfl) ?_ ?_
        · intro p wx hp1 hp2 hb
          obtain rfl : p = 0 := by omega
          refine Rgd.from_is (some 63) rfl rfl ?_
          refine Rgd.from_nil fun T hT => ?_
          have c0 := (HD1.out.below hb).cells.1
          go_wp2
          exact hT _ _ rfl (by first | exact Rgd.Keep.refl _ | exact below_of_dr hw2 | exact hw2 | exact (Below.refl _ _).alloc (Nat.le_refl _) _) (by first | rfl | exact congrArg _ (by decide))
        refine Rgd.op_of (fun p w u => p = 0 → w.ownsRow w1.heap.size 96 2 u P'.length (P'.flatMap pcl)) [1, 5] 0 0 rfl rfl ?_ ?_ rfl (by kernel_rfl) ?_ ?_
        · exact fun p w1 w2 v _ hk h hp => ownsRow_below (h hp) hk
        · exact fun p w1 w2 v _ _ _ _ _ _ hp => by omega
        · intro p wx hp1 hp2 hb
          obtain rfl : p = 0 := by omega
          refine Rgd.from_of (some 60) rfl rfl fun v60 h60 => ?_
          refine Rgd.from_is (some 64) rfl rfl ?_
          refine Rgd.from_nil fun T hT => ?_
          have hb : Below w1.heap.size w1 wx := hb
          obtain ⟨b, rfl, hrow⟩ := h60 rfl
          refine wpList_append_R0 wx rfl _ _ (by rfl) w1.heap.size b (by rfl) hrow Ap P' cp (by rfl) (HAp.out.below hb) (by omega) hb.size ?_
          intro v' w' hown hk
          exact hT _ _ rfl hk fun _ => hown
        refine Rgd.op_is (.agg #[.int .i64 p.at_, .string p.s]) [] 0 0 rfl rfl rfl (by kernel_rfl) ?_ ?_
        · intro p wx hp1 hp2 hb
          obtain rfl : p = 0 := by omega
          refine Rgd.from_nil fun T hT => ?_
          have y0 := (hRow.below hb).cell (k := 0) rfl
          have y1 := (hRow.below hb).cell (k := 1) rfl
          go_wp2
          exact hT _ _ rfl (by first | exact Rgd.Keep.refl _ | exact below_of_dr hw2 | exact hw2 | exact (Below.refl _ _).alloc (Nat.le_refl _) _) (by first | rfl | exact congrArg _ (by decide))
        refine Rgd.op_of (fun p' w u => p' = 0 → ∃ b, u = .slice (some ⟨b, 0, none⟩) 1 1 ∧ CellsP w (some ⟨b, 0, none⟩) [⟨p.at_, p.s⟩]) [7] 0 0 rfl rfl ?_ ?_ rfl (by kernel_rfl) ?_ ?_
        · exact fun p w1 w2 v _ hk h hp => by obtain ⟨b, h1, h2⟩ := h hp; exact ⟨b, h1, Cells.below h2 hk⟩
        · exact fun p w1 w2 v _ _ _ _ _ _ hp => by omega
        · intro p wx hp1 hp2 hb
          obtain rfl : p = 0 := by omega
          refine Rgd.from_is (some 66) rfl rfl ?_
          refine Rgd.from_nil fun T hT => ?_
          go_wp2
          exact hT _ _ rfl (below_alloc _ _) fun _ => ⟨_, rfl, cellsP_new wx (Pt.mk p.at_ p.s)⟩
        refine Rgd.op_turns (fun p' w u => p' = 1 → w.ownsRow w1.heap.size 96 2 u (P'.length + 1) ((P' ++ [Pt.mk p.at_ p.s]).flatMap pcl)) [6, 8] 0 rfl ?_ ?_ rfl (by kernel_rfl) ?_ ?_
        · exact fun p w1 w2 v _ hk h hp => ownsRow_below (h hp) hk
        · exact fun p w1 w2 v h0 h1 => by simp [Rgd.keep] at h1; omega
        · intro wx hb
          refine Rgd.from_of (some 65) rfl rfl fun v65 h65 => ?_
          refine Rgd.from_of (some 67) rfl rfl fun v67 h67 => ?_
          refine Rgd.from_nil fun T hT => ?_
          have hb : Below w1.heap.size w1 wx := hb
          have hrow := h65 rfl
          obtain ⟨b, rfl, hcn⟩ := h67 rfl
          refine wpList_append_R wx rfl _ _ (by rfl) w1.heap.size _ P'.length _ (by rfl) hrow (some ⟨b, 0, none⟩) [⟨p.at_, p.s⟩] 1 (by rfl) hcn (by simp; omega) hb.size ?_
          intro v' w' hown hgr
          exact hT _ _ rfl trivial (hb.grown hgr hb.size fun k e => (World.ownsRow.lt hrow k e).1) fun _ => by rw [List.flatMap_append]; exact hown
        refine' Rgd.op_is _ [0] 1 1 rfl rfl rfl (by kernel_rfl) ?_ ?_
        rotate_left
        · intro p wx hp1 hp2 hb
          obtain rfl : p = 1 := by omega
          refine Rgd.from_is (some 59) rfl rfl ?_
          refine Rgd.from_nil fun T hT => ?_
          go_wp2
          refine hT _ _ rfl (by first | exact Rgd.Keep.refl _ | exact below_of_dr hw2 | exact hw2 | exact (Below.refl _ _).alloc (Nat.le_refl _) _) ?_
          simp only [Rgd.last, List.getElem?_toArray, List.getElem?_cons_succ, List.getElem?_cons_zero, Option.getD_some]
          rfl
        refine' Rgd.op_is _ [10] 1 1 rfl rfl rfl (by kernel_rfl) ?_ ?_
        rotate_left
        · intro p wx hp1 hp2 hb
          obtain rfl : p = 1 := by omega
          refine Rgd.from_is (some 69) rfl rfl ?_
          refine Rgd.from_nil fun T hT => ?_
          go_wp2
          refine hT _ _ rfl (by first | exact Rgd.Keep.refl _ | exact below_of_dr hw2 | exact hw2 | exact (Below.refl _ _).alloc (Nat.le_refl _) _) ?_
          simp only [Rgd.last, List.getElem?_toArray, List.getElem?_cons_succ, List.getElem?_cons_zero, Option.getD_some]
          rfl
        refine Rgd.walk_nil [0, 1, 2, 3, 4, 5, 6, 7, 8, 9, 10, 11] (by kernel_rfl) ?_
        intro wx hb
        refine Rgd.from_is (some 59) rfl rfl ?_
        refine Rgd.from_of (some 60) rfl rfl fun v60 h60 => ?_
        refine Rgd.from_is (some 61) rfl rfl ?_
        refine Rgd.from_is (some 62) rfl rfl ?_
        refine Rgd.from_is (some 63) rfl rfl ?_
        refine Rgd.from_is (some 64) rfl rfl ?_
        refine Rgd.from_of (some 65) rfl rfl fun v65 h65 => ?_
        refine Rgd.from_is (some 66) rfl rfl ?_
        refine Rgd.from_of (some 67) rfl rfl fun v67 h67 => ?_
        refine Rgd.from_of (some 68) rfl rfl fun v68 h68 => ?_
        refine Rgd.from_is (some 69) rfl rfl ?_
        refine Rgd.from_is (some 70) rfl rfl ?_
        refine Rgd.from_nil ?_
        simp only [List.map, Act.put, List.setIfInBounds_toArray, List.set_cons_zero, List.set_cons_succ]
        have hb : Below w1.heap.size w1 wx := hb
        have hrow := h68 rfl
        obtain ⟨A9, c9, rfl⟩ := ownsRow_form hrow
        have hD9 := HD1.out.below hb
        obtain ⟨f0, f1, f2, f3, f4⟩ := hD9.free
        obtain ⟨k0, k1, k2, k3, k4⟩ := hD9.cells
        clear h60 h65 h67 h68
        go_wp2
        have hs1 := hD9.set 0 (.slice A9 (P'.length + 1) c9) (vc' := .slice (some ⟨b, off, none⟩) r.C.length cap0) (r' := { r with P := P' ++ [⟨p.at_, p.s⟩] }) rfl (OwnR.of hrow (by simp) rfl) hD9.C
        go_roundw
        case rel => exact ⟨k + 1, _, by go_num, by omega, by rw [HS.out], by rw [HS.out]; exact hs1, (hT1.next hb).set _ _⟩
        case measure => simp [intOf]; omega
      | false =>
        rw [hkk] at hS
        simp only [Bool.false_eq_true, if_false] at hS
        have HKK := hid hkk
        have hway : k < ks.length ∧ ks[k]? = some false ∨ ks.length ≤ k := by
          rcases Nat.lt_or_ge k ks.length with h | h
          · have h2 := HKK.out
            rw [List.getElem?_eq_getElem h] at h2 ⊢
            exact .inl ⟨h, by simpa using h2⟩
          · exact .inr h
        clear hkk
        have hT1 := hTr.next hba
        have hD1 := HD.out.below hba
        rcases hway with ⟨hkn, hkb⟩ | hkn
        · obtain ⟨b2, off2, rfl, q5⟩ := HAr.out.at_map hkb
          clear hkb
          obtain ⟨Ap, cp, rfl, hAp⟩ := hD1.P.cellsP
          have HLT := hid (⟨HD.out.row.lt, fun k e => (HD.out.P.block k e).2, fun k e => (HD.out.C.block k e).2, hTr.size⟩ : g < wr.heap.size ∧ (∀ k, (Value.slice Ap P'.length cp).ownBlock = some k → k < wr.heap.size) ∧ (∀ k, (Value.slice (some ⟨b, off, none⟩) r.C.length cap0).ownBlock = some k → k < wr.heap.size) ∧ w.heap.size ≤ wr.heap.size)
          have HD1 := hid hD1
          have HSZ := hid (⟨pad_size HPA.out.2, pad_size (sOf_size HF.out p.at_)⟩ : (pad p.s).size = 512 ∧ (pad (sOf (lastC P' p.at_))).size = 512)
          clear hAp HD
          cases tn with
          | true =>
            have HS := hid hS
            clear hS
            go_wp2
            go_roundw
            case rel => exact ⟨k + 1, _, by go_num, by omega, by rw [HS.out]; rfl, by rw [HS.out]; exact HD1.out, hT1⟩
            case measure => simp [intOf]; omega
          | false =>
            simp only [Bool.false_eq_true, if_false] at hS
            have HS := hid hS
            clear hS
            go_wp2_with (fail)
            clear c0 c1 c2 c3 c4 x0 x1 hTr hba
            generalize wr.alloc _ = w1 at *
            generalize wr.heap.size = gx at hRow HLT ⊢
            refine Rgd.wp_region (l := [_, _, _, _, _, _, _, _, _, _, _, _, _]) (tail := [_]) (Rgd.keep w1 [] [(0, 0), (0, 0), (0, 0), (0, 0), (0, 0), (0, 0), (0, 0), (0, 0), (0, 0), (0, 0), (0, 0), (0, 0), (0, 0)]) [some 46, some 47, some 48, some 49, some 50, some 51, some 52, some 53, some 54, some 55, some 56, some 57, some 58, none] 77 rfl [[], [0], [0, 1], [], [0, 1, 2, 3], [], [], [6], [0, 1, 2, 5, 6, 7], [], [0, 1, 2, 5, 6, 7, 8, 9], [0, 1, 2, 3, 4, 5, 6, 7, 8, 9, 10], [0, 1, 2, 3, 4, 5, 6, 7, 8, 9, 10, 11]] (by kernel_rfl) (by kernel_rfl) (by kernel_rfl) (by kernel_rfl) (by kernel_rfl) rfl (Rgd.keep_fair) (Rgd.keep_start _) ?_
            refine' Rgd.op_is _ [] 0 0 rfl rfl rfl (by kernel_rfl) ?_ ?_
            rotate_left
            · intro p wx hp1 hp2 hb
              obtain rfl : p = 0 := by omega
              refine Rgd.from_nil fun T hT => ?_
              go_wp2
              refine hT _ _ rfl (by first | exact Rgd.Keep.refl _ | exact below_of_dr hw2 | exact hw2 | exact (Below.refl _ _).alloc (Nat.le_refl _) _) ?_
              simp only [Rgd.last, List.getElem?_toArray, List.getElem?_cons_succ, List.getElem?_cons_zero, Option.getD_some]
              rfl
            refine Rgd.op_is (.string p.s) [0] 0 0 rfl rfl rfl (by kernel_rfl) ?_ ?_
            · intro p wx hp1 hp2 hb
              obtain rfl : p = 0 := by omega
              refine Rgd.from_is (some 46) rfl rfl ?_
              refine Rgd.from_nil fun T hT => ?_
              have y1 := (hRow.below hb).cell (k := 1) rfl
              go_wp2
              exact hT _ _ rfl (by first | exact Rgd.Keep.refl _ | exact below_of_dr hw2 | exact hw2 | exact (Below.refl _ _).alloc (Nat.le_refl _) _) (by first | rfl | exact congrArg _ (by decide))
            refine Rgd.op_is (.string (pad p.s)) [1] 0 0 rfl rfl rfl (by kernel_rfl) ?_ ?_
            · intro p wx hp1 hp2 hb
              obtain rfl : p = 0 := by omega
              refine Rgd.from_is (some 47) rfl rfl ?_
              refine Rgd.from_nil fun T hT => ?_
              have hps := HPA.out.2
              go_wp2_with (fail)
              refine (rfull_c p.s _ hps).mono ?_
              rintro e wy ⟨rfl, hk⟩
              go_wp2
              exact hT _ _ rfl hk rfl
            refine' Rgd.op_is _ [] 0 0 rfl rfl rfl (by kernel_rfl) ?_ ?_
            rotate_left
            · intro p wx hp1 hp2 hb
              obtain rfl : p = 0 := by omega
              refine Rgd.from_nil fun T hT => ?_
              go_wp2
              refine hT _ _ rfl (by first | exact Rgd.Keep.refl _ | exact below_of_dr hw2 | exact hw2 | exact (Below.refl _ _).alloc (Nat.le_refl _) _) ?_
              simp only [Rgd.last, List.getElem?_toArray, List.getElem?_cons_succ, List.getElem?_cons_zero, Option.getD_some]
              rfl
            refine Rgd.op_is (.string ((pad p.s).extract 0 N)) [2, 3] 0 0 rfl rfl rfl (by kernel_rfl) ?_ ?_
            · intro p wx hp1 hp2 hb
              obtain rfl : p = 0 := by omega
              refine Rgd.from_is (some 48) rfl rfl ?_
              refine Rgd.from_is (some 49) rfl rfl ?_
              refine Rgd.from_nil fun T hT => ?_
              have hps := HSZ.out.1
              go_wp2
              exact hT _ _ rfl (Rgd.Keep.refl _) rfl
            refine' Rgd.op_is _ [] 0 0 rfl rfl rfl (by kernel_rfl) ?_ ?_
            rotate_left
            · intro p wx hp1 hp2 hb
              obtain rfl : p = 0 := by omega
              refine Rgd.from_nil fun T hT => ?_
              go_wp2
              refine hT _ _ rfl (by first | exact Rgd.Keep.refl _ | exact below_of_dr hw2 | exact hw2 | exact (Below.refl _ _).alloc (Nat.le_refl _) _) ?_
              simp only [Rgd.last, List.getElem?_toArray, List.getElem?_cons_succ, List.getElem?_cons_zero, Option.getD_some]
              rfl
            refine' Rgd.op_is _ [] 0 0 rfl rfl rfl (by kernel_rfl) ?_ ?_
            rotate_left
            · intro p wx hp1 hp2 hb
              obtain rfl : p = 0 := by omega
              refine Rgd.from_nil fun T hT => ?_
              go_wp2
              refine hT _ _ rfl (by first | exact Rgd.Keep.refl _ | exact below_of_dr hw2 | exact hw2 | exact (Below.refl _ _).alloc (Nat.le_refl _) _) ?_
              simp only [Rgd.last, List.getElem?_toArray, List.getElem?_cons_succ, List.getElem?_cons_zero, Option.getD_some]
              rfl
            refine Rgd.op_is (.int .i64 p.at_) [6] 0 0 rfl rfl rfl (by kernel_rfl) ?_ ?_
            · intro p wx hp1 hp2 hb
              obtain rfl : p = 0 := by omega
              refine Rgd.from_is (some 52) rfl rfl ?_
              refine Rgd.from_nil fun T hT => ?_
              have y0 := (hRow.below hb).cell (k := 0) rfl
              go_wp2
              exact hT _ _ rfl (by first | exact Rgd.Keep.refl _ | exact below_of_dr hw2 | exact hw2 | exact (Below.refl _ _).alloc (Nat.le_refl _) _) (by first | rfl | exact congrArg _ (by decide))
            refine Rgd.op_is (.string (pad (sOf (lastC P' p.at_)))) [5, 7] 0 0 rfl rfl rfl (by kernel_rfl) ?_ ?_
            · intro p wx hp1 hp2 hb
              obtain rfl : p = 0 := by omega
              refine Rgd.from_is (some 51) rfl rfl ?_
              refine Rgd.from_is (some 53) rfl rfl ?_
              refine Rgd.from_nil fun T hT => ?_
              go_wp2_with (fail)
              refine (rplat_c g _ _ _ p.at_ _ (HD1.out.below hb) (by show P'.length ≤ _; omega) HF.out).mono ?_
              rintro e wy ⟨rfl, hk⟩
              go_wp2
              exact hT _ _ rfl hk (by simp [Rgd.last, Rk.plat, HPA.out.1])
            refine' Rgd.op_is _ [] 0 0 rfl rfl rfl (by kernel_rfl) ?_ ?_
            rotate_left
            · intro p wx hp1 hp2 hb
              obtain rfl : p = 0 := by omega
              refine Rgd.from_nil fun T hT => ?_
              go_wp2
              refine hT _ _ rfl (by first | exact Rgd.Keep.refl _ | exact below_of_dr hw2 | exact hw2 | exact (Below.refl _ _).alloc (Nat.le_refl _) _) ?_
              simp only [Rgd.last, List.getElem?_toArray, List.getElem?_cons_succ, List.getElem?_cons_zero, Option.getD_some]
              rfl
            refine Rgd.op_is (.string ((pad (sOf (lastC P' p.at_))).extract N 512)) [8, 9] 0 0 rfl rfl rfl (by kernel_rfl) ?_ ?_
            · intro p wx hp1 hp2 hb
              obtain rfl : p = 0 := by omega
              refine Rgd.from_is (some 54) rfl rfl ?_
              refine Rgd.from_is (some 55) rfl rfl ?_
              refine Rgd.from_nil fun T hT => ?_
              have hps := HSZ.out.2
              go_wp2
              exact hT _ _ rfl (Rgd.Keep.refl _) (by simp [Rgd.last, hps])
            refine Rgd.op_is (.string (cut (pad p.s) (pad (sOf (lastC P' p.at_))) N)) [4, 10] 0 0 rfl rfl rfl (by kernel_rfl) ?_ ?_
            · intro p wx hp1 hp2 hb
              obtain rfl : p = 0 := by omega
              refine Rgd.from_is (some 50) rfl rfl ?_
              refine Rgd.from_is (some 56) rfl rfl ?_
              refine Rgd.from_nil fun T hT => ?_
              have hps := HSZ.out
              go_wp2
              exact hT _ _ rfl (Rgd.Keep.refl _) rfl
            refine' Rgd.op_is _ [] 0 0 rfl rfl rfl (by kernel_rfl) ?_ ?_
            rotate_left
            · intro p wx hp1 hp2 hb
              obtain rfl : p = 0 := by omega
              refine Rgd.from_nil fun T hT => ?_
              go_wp2
              refine hT _ _ rfl (by first | exact Rgd.Keep.refl _ | exact below_of_dr hw2 | exact hw2 | exact (Below.refl _ _).alloc (Nat.le_refl _) _) ?_
              simp only [Rgd.last, List.getElem?_toArray, List.getElem?_cons_succ, List.getElem?_cons_zero, Option.getD_some]
              rfl
            refine Rgd.walk_nil [0, 1, 2, 3, 4, 5, 6, 7, 8, 9, 10, 11, 12] (by kernel_rfl) ?_
            intro wx hb
            refine Rgd.from_is (some 46) rfl rfl ?_
            refine Rgd.from_is (some 47) rfl rfl ?_
            refine Rgd.from_is (some 48) rfl rfl ?_
            refine Rgd.from_is (some 49) rfl rfl ?_
            refine Rgd.from_is (some 50) rfl rfl ?_
            refine Rgd.from_is (some 51) rfl rfl ?_
            refine Rgd.from_is (some 52) rfl rfl ?_
            refine Rgd.from_is (some 53) rfl rfl ?_
            refine Rgd.from_is (some 54) rfl rfl ?_
            refine Rgd.from_is (some 55) rfl rfl ?_
            refine Rgd.from_is (some 56) rfl rfl ?_
            refine Rgd.from_is (some 57) rfl rfl ?_
            refine Rgd.from_is (some 58) rfl rfl ?_
            refine Rgd.from_nil ?_
            simp only [List.map, Act.put, List.setIfInBounds_toArray, List.set_cons_zero, List.set_cons_succ]
            have hb10 : Below w1.heap.size w1 wx := hb
            have hRx := hRow.below hb10
            have c0x := hRx.cell (k := 1) rfl
            have f0x := hRx.frozen 1
            go_wp2
            have hDx := HD1.out.below hb10
            have hlt := HLT.out
            obtain ⟨S0, hS0⟩ : ∃ S0, cut (pad p.s) (pad (sOf (lastC P' p.at_))) N = S0 := ⟨_, rfl⟩
            rw [hS0] at HS ⊢
            have hD2 : RDsk (wx.setCell ⟨gx, 1, none⟩ (.string S0)) g (.slice Ap P'.length cp) (.slice (some ⟨b, off, none⟩) r.C.length cap0) { r with P := P' } := hDx.keep (Below.heap_setCell wx ⟨gx, 1, none⟩ _ _ (by show g ≠ gx; omega)) (fun k e => Below.heap_setCell wx ⟨gx, 1, none⟩ _ _ (by have := hlt.2.1 k e; show k ≠ gx; omega)) (fun k e => Below.heap_setCell wx ⟨gx, 1, none⟩ _ _ (by have := hlt.2.2.1 k e; show k ≠ gx; omega))
            have hRq := hRx.set 1 (.string S0)
            have hT2 := (hT1.next hb10).set_new ⟨gx, 1, none⟩ (.string S0) hlt.2.2.2
            have HD2 := hid hD2
            have HAq := hid hD2.P.cells_of
            clear hDx hlt hD2 hRx c0x f0x hRow hT1 hb10 HSZ hS0 HD1 HLT hb
            generalize wx.setCell _ _ = wq at *
            go_wp2_with (fail)
            refine Rgd.wp_region (l := [_, _, _, _, _, _, _, _, _, _, _, _]) (tail := [_]) (Rgd.keep wq [9] [(0, 1), (0, 0), (0, 0), (0, 0), (0, 0), (0, 0), (0, 0), (0, 0), (0, 0), (0, 0), (1, 1), (1, 1)]) [some 59, some 60, some 61, some 62, some 63, some 64, some 65, some 66, some 67, some 68, some 69, some 70, none] 77 rfl [[], [], [], [2], [2, 3], [2, 3, 4], [1, 2, 3, 4, 5], [], [7], [1, 2, 3, 4, 5, 6, 7, 8], [0, 1, 2, 3, 4, 5, 6, 7, 8, 9], [0, 1, 2, 3, 4, 5, 6, 7, 8, 9, 10]] (by kernel_rfl) (by kernel_rfl) (by kernel_rfl) (by kernel_rfl) (by kernel_rfl) rfl (Rgd.keep_fair) (Rgd.keep_start _) ?_
            refine' Rgd.op_is _ [] 0 1 rfl rfl rfl (by kernel_rfl) ?_ ?_
            rotate_left
            · intro p wx hp1 hp2 hb
              refine Rgd.from_nil fun T hT => ?_
              go_wp2
              refine hT _ _ rfl (by first | exact Rgd.Keep.refl _ | exact below_of_dr hw2 | exact hw2 | exact (Below.refl _ _).alloc (Nat.le_refl _) _) ?_
              simp only [Rgd.last, List.getElem?_toArray, List.getElem?_cons_succ, List.getElem?_cons_zero, Option.getD_some]
              rfl
            refine Rgd.op_of (fun p w u => p = 0 → ∃ b, u = .slice (some ⟨b, 0, none⟩) 0 0 ∧ w.ownsRow wq.heap.size 96 2 u 0 []) [] 0 0 rfl rfl ?_ ?_ rfl (by kernel_rfl) ?_ ?_
            · exact fun p wq w2 v _ hk h hp => by obtain ⟨b, h1, h2⟩ := h hp; exact ⟨b, h1, ownsRow_below h2 hk⟩
            · exact fun p wq w2 v _ _ _ _ _ _ hp => by omega
            · intro p wx hp1 hp2 hb
              obtain rfl : p = 0 := by omega
              refine Rgd.from_nil fun T hT => ?_
              have hb : Below wq.heap.size wq wx := hb
              go_wp2
              exact hT _ _ rfl (below_alloc _ _) fun _ => ⟨_, rfl, ownsRow_from (ownR_new wx) hb.size⟩
            refine' Rgd.op_is _ [] 0 0 rfl rfl rfl (by kernel_rfl) ?_ ?_
            rotate_left
            · intro p wx hp1 hp2 hb
              obtain rfl : p = 0 := by omega
              refine Rgd.from_nil fun T hT => ?_
              go_wp2
              refine hT _ _ rfl (by first | exact Rgd.Keep.refl _ | exact below_of_dr hw2 | exact hw2 | exact (Below.refl _ _).alloc (Nat.le_refl _) _) ?_
              simp only [Rgd.last, List.getElem?_toArray, List.getElem?_cons_succ, List.getElem?_cons_zero, Option.getD_some]
              rfl
            refine' Rgd.op_is _ [2] 0 0 rfl rfl rfl (by kernel_rfl) ?_ ?_
            rotate_left
            · intro p wx hp1 hp2 hb
              obtain rfl : p = 0 := by omega
              refine Rgd.from_is (some 61) rfl rfl ?_
              refine Rgd.from_nil fun T hT => ?_
              go_wp2
              refine hT _ _ rfl (by first | exact Rgd.Keep.refl _ | exact below_of_dr hw2 | exact hw2 | exact (Below.refl _ _).alloc (Nat.le_refl _) _) ?_
              simp only [Rgd.last, List.getElem?_toArray, List.getElem?_cons_succ, List.getElem?_cons_zero, Option.getD_some]
              rfl
            refine' Rgd.op_is _ [3] 0 0 rfl rfl rfl (by kernel_rfl) ?_ ?_
            rotate_left
            · intro p wx hp1 hp2 hb
              obtain rfl : p = 0 := by omega
              refine Rgd.from_is (some 62) rfl rfl ?_
              refine Rgd.from_nil fun T hT => ?_
              go_wp2
              refine hT _ _ rfl (by first | exact Rgd.Keep.refl _ | exact below_of_dr hw2 | exact hw2 | exact (Below.refl _ _).alloc (Nat.le_refl _) _) ?_
              simp only [Rgd.last, List.getElem?_toArray, List.getElem?_cons_succ, List.getElem?_cons_zero, Option.getD_some]
              rfl
            refine Rgd.op_is (.slice Ap P'.length cp) [4] 0 0 rfl rfl rfl (by kernel_rfl) ?_ ?_
            · intro p wx hp1 hp2 hb
              obtain rfl : p = 0 := by omega
              refine Rgd.from_is (some 63) rfl rfl ?_
              refine Rgd.from_nil fun T hT => ?_
              have c0 := (HD2.out.below hb).cells.1
              go_wp2
              exact hT _ _ rfl (by first | exact Rgd.Keep.refl _ | exact below_of_dr hw2 | exact hw2 | exact (Below.refl _ _).alloc (Nat.le_refl _) _) (by first | rfl | exact congrArg _ (by decide))
            refine Rgd.op_of (fun p w u => p = 0 → w.ownsRow wq.heap.size 96 2 u P'.length (P'.flatMap pcl)) [1, 5] 0 0 rfl rfl ?_ ?_ rfl (by kernel_rfl) ?_ ?_
            · exact fun p wq w2 v _ hk h hp => ownsRow_below (h hp) hk
            · exact fun p wq w2 v _ _ _ _ _ _ hp => by omega
            · intro p wx hp1 hp2 hb
              obtain rfl : p = 0 := by omega
              refine Rgd.from_of (some 60) rfl rfl fun v60 h60 => ?_
              refine Rgd.from_is (some 64) rfl rfl ?_
              refine Rgd.from_nil fun T hT => ?_
              have hb : Below wq.heap.size wq wx := hb
              obtain ⟨b, rfl, hrow⟩ := h60 rfl
              refine wpList_append_R0 wx rfl _ _ (by rfl) wq.heap.size b (by rfl) hrow Ap P' cp (by rfl) (HAq.out.below hb) (by omega) hb.size ?_
              intro v' w' hown hk
              exact hT _ _ rfl hk fun _ => hown
            refine Rgd.op_is (.agg #[.int .i64 p.at_, .string S0]) [] 0 0 rfl rfl rfl (by kernel_rfl) ?_ ?_
            · intro p wx hp1 hp2 hb
              obtain rfl : p = 0 := by omega
              refine Rgd.from_nil fun T hT => ?_
              have y0 := (hRq.below hb).cell (k := 0) rfl
              have y1 := (hRq.below hb).cell (k := 1) rfl
              go_wp2
              exact hT _ _ rfl (by first | exact Rgd.Keep.refl _ | exact below_of_dr hw2 | exact hw2 | exact (Below.refl _ _).alloc (Nat.le_refl _) _) (by first | rfl | exact congrArg _ (by decide))
            refine Rgd.op_of (fun p' w u => p' = 0 → ∃ b, u = .slice (some ⟨b, 0, none⟩) 1 1 ∧ CellsP w (some ⟨b, 0, none⟩) [⟨p.at_, S0⟩]) [7] 0 0 rfl rfl ?_ ?_ rfl (by kernel_rfl) ?_ ?_
            · exact fun p wq w2 v _ hk h hp => by obtain ⟨b, h1, h2⟩ := h hp; exact ⟨b, h1, Cells.below h2 hk⟩
            · exact fun p wq w2 v _ _ _ _ _ _ hp => by omega
            · intro p wx hp1 hp2 hb
              obtain rfl : p = 0 := by omega
              refine Rgd.from_is (some 66) rfl rfl ?_
              refine Rgd.from_nil fun T hT => ?_
              go_wp2
              exact hT _ _ rfl (below_alloc _ _) fun _ => ⟨_, rfl, cellsP_new wx (Pt.mk p.at_ S0)⟩
            refine Rgd.op_turns (fun p' w u => p' = 1 → w.ownsRow wq.heap.size 96 2 u (P'.length + 1) ((P' ++ [Pt.mk p.at_ S0]).flatMap pcl)) [6, 8] 0 rfl ?_ ?_ rfl (by kernel_rfl) ?_ ?_
            · exact fun p wq w2 v _ hk h hp => ownsRow_below (h hp) hk
            · exact fun p wq w2 v h0 h1 => by simp [Rgd.keep] at h1; omega
            · intro wx hb
              refine Rgd.from_of (some 65) rfl rfl fun v65 h65 => ?_
              refine Rgd.from_of (some 67) rfl rfl fun v67 h67 => ?_
              refine Rgd.from_nil fun T hT => ?_
              have hb : Below wq.heap.size wq wx := hb
              have hrow := h65 rfl
              obtain ⟨b, rfl, hcn⟩ := h67 rfl
              refine wpList_append_R wx rfl _ _ (by rfl) wq.heap.size _ P'.length _ (by rfl) hrow (some ⟨b, 0, none⟩) [⟨p.at_, S0⟩] 1 (by rfl) hcn (by simp; omega) hb.size ?_
              intro v' w' hown hgr
              exact hT _ _ rfl trivial (hb.grown hgr hb.size fun k e => (World.ownsRow.lt hrow k e).1) fun _ => by rw [List.flatMap_append]; exact hown
            refine' Rgd.op_is _ [0] 1 1 rfl rfl rfl (by kernel_rfl) ?_ ?_
            rotate_left
            · intro p wx hp1 hp2 hb
              obtain rfl : p = 1 := by omega
              refine Rgd.from_is (some 59) rfl rfl ?_
              refine Rgd.from_nil fun T hT => ?_
              go_wp2
              refine hT _ _ rfl (by first | exact Rgd.Keep.refl _ | exact below_of_dr hw2 | exact hw2 | exact (Below.refl _ _).alloc (Nat.le_refl _) _) ?_
              simp only [Rgd.last, List.getElem?_toArray, List.getElem?_cons_succ, List.getElem?_cons_zero, Option.getD_some]
              rfl
            refine' Rgd.op_is _ [10] 1 1 rfl rfl rfl (by kernel_rfl) ?_ ?_
            rotate_left
            · intro p wx hp1 hp2 hb
              obtain rfl : p = 1 := by omega
              refine Rgd.from_is (some 69) rfl rfl ?_
              refine Rgd.from_nil fun T hT => ?_
              go_wp2
              refine hT _ _ rfl (by first | exact Rgd.Keep.refl _ | exact below_of_dr hw2 | exact hw2 | exact (Below.refl _ _).alloc (Nat.le_refl _) _) ?_
              simp only [Rgd.last, List.getElem?_toArray, List.getElem?_cons_succ, List.getElem?_cons_zero, Option.getD_some]
              rfl
            refine Rgd.walk_nil [0, 1, 2, 3, 4, 5, 6, 7, 8, 9, 10, 11] (by kernel_rfl) ?_
            intro wx hb
            refine Rgd.from_is (some 59) rfl rfl ?_
            refine Rgd.from_of (some 60) rfl rfl fun v60 h60 => ?_
            refine Rgd.from_is (some 61) rfl rfl ?_
            refine Rgd.from_is (some 62) rfl rfl ?_
            refine Rgd.from_is (some 63) rfl rfl ?_
            refine Rgd.from_is (some 64) rfl rfl ?_
            refine Rgd.from_of (some 65) rfl rfl fun v65 h65 => ?_
            refine Rgd.from_is (some 66) rfl rfl ?_
            refine Rgd.from_of (some 67) rfl rfl fun v67 h67 => ?_
            refine Rgd.from_of (some 68) rfl rfl fun v68 h68 => ?_
            refine Rgd.from_is (some 69) rfl rfl ?_
            refine Rgd.from_is (some 70) rfl rfl ?_
            refine Rgd.from_nil ?_
            simp only [List.map, Act.put, List.setIfInBounds_toArray, List.set_cons_zero, List.set_cons_succ]
            have hb : Below wq.heap.size wq wx := hb
            have hrow := h68 rfl
            obtain ⟨A9, c9, rfl⟩ := ownsRow_form hrow
            have hD9 := HD2.out.below hb
            obtain ⟨f0, f1, f2, f3, f4⟩ := hD9.free
            obtain ⟨k0, k1, k2, k3, k4⟩ := hD9.cells
            clear h60 h65 h67 h68
            go_wp2
            have hs1 := hD9.set 0 (.slice A9 (P'.length + 1) c9) (vc' := .slice (some ⟨b, off, none⟩) r.C.length cap0) (r' := { r with P := P' ++ [⟨p.at_, S0⟩] }) rfl (OwnR.of hrow (by simp) rfl) hD9.C
            go_roundw
            case rel => exact ⟨k + 1, _, by go_num, by omega, by rw [HS.out], by rw [HS.out]; exact hs1, (hT2.next hb).set _ _⟩
            case measure => simp [intOf]; omega
        · obtain ⟨Ap, cp, rfl, hAp⟩ := hD1.P.cellsP
          have HLT := hid (⟨HD.out.row.lt, fun k e => (HD.out.P.block k e).2, fun k e => (HD.out.C.block k e).2, hTr.size⟩ : g < wr.heap.size ∧ (∀ k, (Value.slice Ap P'.length cp).ownBlock = some k → k < wr.heap.size) ∧ (∀ k, (Value.slice (some ⟨b, off, none⟩) r.C.length cap0).ownBlock = some k → k < wr.heap.size) ∧ w.heap.size ≤ wr.heap.size)
          have HD1 := hid hD1
          have HSZ := hid (⟨pad_size HPA.out.2, pad_size (sOf_size HF.out p.at_)⟩ : (pad p.s).size = 512 ∧ (pad (sOf (lastC P' p.at_))).size = 512)
          clear hAp HD
          cases tn with
          | true =>
            have HS := hid hS
            clear hS
            go_wp2
            go_roundw
            case rel => exact ⟨k + 1, _, by go_num, by omega, by rw [HS.out]; rfl, by rw [HS.out]; exact HD1.out, hT1⟩
            case measure => simp [intOf]; omega
          | false =>
            simp only [Bool.false_eq_true, if_false] at hS
            have HS := hid hS
            clear hS
            go_wp2_with (fail)
            clear c0 c1 c2 c3 c4 x0 x1 hTr hba
            generalize wr.alloc _ = w1 at *
            generalize wr.heap.size = gx at hRow HLT ⊢
            refine Rgd.wp_region (l := [_, _, _, _, _, _, _, _, _, _, _, _, _]) (tail := [_]) (Rgd.keep w1 [] [(0, 0), (0, 0), (0, 0), (0, 0), (0, 0), (0, 0), (0, 0), (0, 0), (0, 0), (0, 0), (0, 0), (0, 0), (0, 0)]) [some 46, some 47, some 48, some 49, some 50, some 51, some 52, some 53, some 54, some 55, some 56, some 57, some 58, none] 77 rfl [[], [0], [0, 1], [], [0, 1, 2, 3], [], [], [6], [0, 1, 2, 5, 6, 7], [], [0, 1, 2, 5, 6, 7, 8, 9], [0, 1, 2, 3, 4, 5, 6, 7, 8, 9, 10], [0, 1, 2, 3, 4, 5, 6, 7, 8, 9, 10, 11]] (by kernel_rfl) (by kernel_rfl) (by kernel_rfl) (by kernel_rfl) (by kernel_rfl) rfl (Rgd.keep_fair) (Rgd.keep_start _) ?_
            refine' Rgd.op_is _ [] 0 0 rfl rfl rfl (by kernel_rfl) ?_ ?_
            rotate_left
            · intro p wx hp1 hp2 hb
              obtain rfl : p = 0 := by omega
              refine Rgd.from_nil fun T hT => ?_
              go_wp2
              refine hT _ _ rfl (by first | exact Rgd.Keep.refl _ | exact below_of_dr hw2 | exact hw2 | exact (Below.refl _ _).alloc (Nat.le_refl _) _) ?_
              simp only [Rgd.last, List.getElem?_toArray, List.getElem?_cons_succ, List.getElem?_cons_zero, Option.getD_some]
              rfl
            refine Rgd.op_is (.string p.s) [0] 0 0 rfl rfl rfl (by kernel_rfl) ?_ ?_
            · intro p wx hp1 hp2 hb
              obtain rfl : p = 0 := by omega
              refine Rgd.from_is (some 46) rfl rfl ?_
              refine Rgd.from_nil fun T hT => ?_
              have y1 := (hRow.below hb).cell (k := 1) rfl
              go_wp2
              exact hT _ _ rfl (by first | exact Rgd.Keep.refl _ | exact below_of_dr hw2 | exact hw2 | exact (Below.refl _ _).alloc (Nat.le_refl _) _) (by first | rfl | exact congrArg _ (by decide))
            refine Rgd.op_is (.string (pad p.s)) [1] 0 0 rfl rfl rfl (by kernel_rfl) ?_ ?_
            · intro p wx hp1 hp2 hb
              obtain rfl : p = 0 := by omega
              refine Rgd.from_is (some 47) rfl rfl ?_
              refine Rgd.from_nil fun T hT => ?_
              have hps := HPA.out.2
              go_wp2_with (fail)
              refine (rfull_c p.s _ hps).mono ?_
              rintro e wy ⟨rfl, hk⟩
              go_wp2
              exact hT _ _ rfl hk rfl
            refine' Rgd.op_is _ [] 0 0 rfl rfl rfl (by kernel_rfl) ?_ ?_
            rotate_left
            · intro p wx hp1 hp2 hb
              obtain rfl : p = 0 := by omega
              refine Rgd.from_nil fun T hT => ?_
              go_wp2
              refine hT _ _ rfl (by first | exact Rgd.Keep.refl _ | exact below_of_dr hw2 | exact hw2 | exact (Below.refl _ _).alloc (Nat.le_refl _) _) ?_
              simp only [Rgd.last, List.getElem?_toArray, List.getElem?_cons_succ, List.getElem?_cons_zero, Option.getD_some]
              rfl
            refine Rgd.op_is (.string ((pad p.s).extract 0 N)) [2, 3] 0 0 rfl rfl rfl (by kernel_rfl) ?_ ?_
            · intro p wx hp1 hp2 hb
              obtain rfl : p = 0 := by omega
              refine Rgd.from_is (some 48) rfl rfl ?_
              refine Rgd.from_is (some 49) rfl rfl ?_
              refine Rgd.from_nil fun T hT => ?_
              have hps := HSZ.out.1
              go_wp2
              exact hT _ _ rfl (Rgd.Keep.refl _) rfl
            refine' Rgd.op_is _ [] 0 0 rfl rfl rfl (by kernel_rfl) ?_ ?_
            rotate_left
            · intro p wx hp1 hp2 hb
              obtain rfl : p = 0 := by omega
              refine Rgd.from_nil fun T hT => ?_
              go_wp2
              refine hT _ _ rfl (by first | exact Rgd.Keep.refl _ | exact below_of_dr hw2 | exact hw2 | exact (Below.refl _ _).alloc (Nat.le_refl _) _) ?_
              simp only [Rgd.last, List.getElem?_toArray, List.getElem?_cons_succ, List.getElem?_cons_zero, Option.getD_some]
              rfl
            refine' Rgd.op_is _ [] 0 0 rfl rfl rfl (by kernel_rfl) ?_ ?_
            rotate_left
            · intro p wx hp1 hp2 hb
              obtain rfl : p = 0 := by omega
              refine Rgd.from_nil fun T hT => ?_
              go_wp2
              refine hT _ _ rfl (by first | exact Rgd.Keep.refl _ | exact below_of_dr hw2 | exact hw2 | exact (Below.refl _ _).alloc (Nat.le_refl _) _) ?_
              simp only [Rgd.last, List.getElem?_toArray, List.getElem?_cons_succ, List.getElem?_cons_zero, Option.getD_some]
              rfl
            refine Rgd.op_is (.int .i64 p.at_) [6] 0 0 rfl rfl rfl (by kernel_rfl) ?_ ?_
            · intro p wx hp1 hp2 hb
              obtain rfl : p = 0 := by omega
              refine Rgd.from_is (some 52) rfl rfl ?_
              refine Rgd.from_nil fun T hT => ?_
              have y0 := (hRow.below hb).cell (k := 0) rfl
              go_wp2
              exact hT _ _ rfl (by first | exact Rgd.Keep.refl _ | exact below_of_dr hw2 | exact hw2 | exact (Below.refl _ _).alloc (Nat.le_refl _) _) (by first | rfl | exact congrArg _ (by decide))
            refine Rgd.op_is (.string (pad (sOf (lastC P' p.at_)))) [5, 7] 0 0 rfl rfl rfl (by kernel_rfl) ?_ ?_
            · intro p wx hp1 hp2 hb
              obtain rfl : p = 0 := by omega
              refine Rgd.from_is (some 51) rfl rfl ?_
              refine Rgd.from_is (some 53) rfl rfl ?_
              refine Rgd.from_nil fun T hT => ?_
              go_wp2_with (fail)
              refine (rplat_c g _ _ _ p.at_ _ (HD1.out.below hb) (by show P'.length ≤ _; omega) HF.out).mono ?_
              rintro e wy ⟨rfl, hk⟩
              go_wp2
              exact hT _ _ rfl hk (by simp [Rgd.last, Rk.plat, HPA.out.1])
            refine' Rgd.op_is _ [] 0 0 rfl rfl rfl (by kernel_rfl) ?_ ?_
            rotate_left
            · intro p wx hp1 hp2 hb
              obtain rfl : p = 0 := by omega
              refine Rgd.from_nil fun T hT => ?_
              go_wp2
              refine hT _ _ rfl (by first | exact Rgd.Keep.refl _ | exact below_of_dr hw2 | exact hw2 | exact (Below.refl _ _).alloc (Nat.le_refl _) _) ?_
              simp only [Rgd.last, List.getElem?_toArray, List.getElem?_cons_succ, List.getElem?_cons_zero, Option.getD_some]
              rfl
            refine Rgd.op_is (.string ((pad (sOf (lastC P' p.at_))).extract N 512)) [8, 9] 0 0 rfl rfl rfl (by kernel_rfl) ?_ ?_
            · intro p wx hp1 hp2 hb
              obtain rfl : p = 0 := by omega
              refine Rgd.from_is (some 54) rfl rfl ?_
              refine Rgd.from_is (some 55) rfl rfl ?_
              refine Rgd.from_nil fun T hT => ?_
              have hps := HSZ.out.2
              go_wp2
              exact hT _ _ rfl (Rgd.Keep.refl _) (by simp [Rgd.last, hps])
            refine Rgd.op_is (.string (cut (pad p.s) (pad (sOf (lastC P' p.at_))) N)) [4, 10] 0 0 rfl rfl rfl (by kernel_rfl) ?_ ?_
            · intro p wx hp1 hp2 hb
              obtain rfl : p = 0 := by omega
              refine Rgd.from_is (some 50) rfl rfl ?_
              refine Rgd.from_is (some 56) rfl rfl ?_
              refine Rgd.from_nil fun T hT => ?_
              have hps := HSZ.out
              go_wp2
              exact hT _ _ rfl (Rgd.Keep.refl _) rfl
            refine' Rgd.op_is _ [] 0 0 rfl rfl rfl (by kernel_rfl) ?_ ?_
            rotate_left
            · intro p wx hp1 hp2 hb
              obtain rfl : p = 0 := by omega
              refine Rgd.from_nil fun T hT => ?_
              go_wp2
              refine hT _ _ rfl (by first | exact Rgd.Keep.refl _ | exact below_of_dr hw2 | exact hw2 | exact (Below.refl _ _).alloc (Nat.le_refl _) _) ?_
              simp only [Rgd.last, List.getElem?_toArray, List.getElem?_cons_succ, List.getElem?_cons_zero, Option.getD_some]
              rfl
            refine Rgd.walk_nil [0, 1, 2, 3, 4, 5, 6, 7, 8, 9, 10, 11, 12] (by kernel_rfl) ?_
            intro wx hb
            refine Rgd.from_is (some 46) rfl rfl ?_
            refine Rgd.from_is (some 47) rfl rfl ?_
            refine Rgd.from_is (some 48) rfl rfl ?_
            refine Rgd.from_is (some 49) rfl rfl ?_
            refine Rgd.from_is (some 50) rfl rfl ?_
            refine Rgd.from_is (some 51) rfl rfl ?_
            refine Rgd.from_is (some 52) rfl rfl ?_
            refine Rgd.from_is (some 53) rfl rfl ?_
            refine Rgd.from_is (some 54) rfl rfl ?_
            refine Rgd.from_is (some 55) rfl rfl ?_
            refine Rgd.from_is (some 56) rfl rfl ?_
            refine Rgd.from_is (some 57) rfl rfl ?_
            refine Rgd.from_is (some 58) rfl rfl ?_
            refine Rgd.from_nil ?_
            simp only [List.map, Act.put, List.setIfInBounds_toArray, List.set_cons_zero, List.set_cons_succ]
            have hb10 : Below w1.heap.size w1 wx := hb
            have hRx := hRow.below hb10
            have c0x := hRx.cell (k := 1) rfl
            have f0x := hRx.frozen 1
            go_wp2
            have hDx := HD1.out.below hb10
            have hlt := HLT.out
            obtain ⟨S0, hS0⟩ : ∃ S0, cut (pad p.s) (pad (sOf (lastC P' p.at_))) N = S0 := ⟨_, rfl⟩
            rw [hS0] at HS ⊢
            have hD2 : RDsk (wx.setCell ⟨gx, 1, none⟩ (.string S0)) g (.slice Ap P'.length cp) (.slice (some ⟨b, off, none⟩) r.C.length cap0) { r with P := P' } := hDx.keep (Below.heap_setCell wx ⟨gx, 1, none⟩ _ _ (by show g ≠ gx; omega)) (fun k e => Below.heap_setCell wx ⟨gx, 1, none⟩ _ _ (by have := hlt.2.1 k e; show k ≠ gx; omega)) (fun k e => Below.heap_setCell wx ⟨gx, 1, none⟩ _ _ (by have := hlt.2.2.1 k e; show k ≠ gx; omega))
            have hRq := hRx.set 1 (.string S0)
            have hT2 := (hT1.next hb10).set_new ⟨gx, 1, none⟩ (.string S0) hlt.2.2.2
            have HD2 := hid hD2
            have HAq := hid hD2.P.cells_of
            clear hDx hlt hD2 hRx c0x f0x hRow hT1 hb10 HSZ hS0 HD1 HLT hb
            generalize wx.setCell _ _ = wq at *
            go_wp2_with (fail)
            refine Rgd.wp_region (l := [_, _, _, _, _, _, _, _, _, _, _, _]) (tail := [_]) (Rgd.keep wq [9] [(0, 1), (0, 0), (0, 0), (0, 0), (0, 0), (0, 0), (0, 0), (0, 0), (0, 0), (0, 0), (1, 1), (1, 1)]) [some 59, some 60, some 61, some 62, some 63, some 64, some 65, some 66, some 67, some 68, some 69, some 70, none] 77 rfl [[], [], [], [2], [2, 3], [2, 3, 4], [1, 2, 3, 4, 5], [], [7], [1, 2, 3, 4, 5, 6, 7, 8], [0, 1, 2, 3, 4, 5, 6, 7, 8, 9], [0, 1, 2, 3, 4, 5, 6, 7, 8, 9, 10]] (by kernel_rfl) (by kernel_rfl) (by kernel_rfl) (by kernel_rfl) (by kernel_rfl) rfl (Rgd.keep_fair) (Rgd.keep_start _) ?_
            refine' Rgd.op_is _ [] 0 1 rfl rfl rfl (by kernel_rfl) ?_ ?_
            rotate_left
            · intro p wx hp1 hp2 hb
              refine Rgd.from_nil fun T hT => ?_
              go_wp2
              refine hT _ _ rfl (by first | exact Rgd.Keep.refl _ | exact below_of_dr hw2 | exact hw2 | exact (Below.refl _ _).alloc (Nat.le_refl _) _) ?_
              simp only [Rgd.last, List.getElem?_toArray, List.getElem?_cons_succ, List.getElem?_cons_zero, Option.getD_some]
              rfl
            refine Rgd.op_of (fun p w u => p = 0 → ∃ b, u = .slice (some ⟨b, 0, none⟩) 0 0 ∧ w.ownsRow wq.heap.size 96 2 u 0 []) [] 0 0 rfl rfl ?_ ?_ rfl (by kernel_rfl) ?_ ?_
            · exact fun p wq w2 v _ hk h hp => by obtain ⟨b, h1, h2⟩ := h hp; exact ⟨b, h1, ownsRow_below h2 hk⟩
            · exact fun p wq w2 v _ _ _ _ _ _ hp => by omega
            · intro p wx hp1 hp2 hb
              obtain rfl : p = 0 := by omega
              refine Rgd.from_nil fun T hT => ?_
              have hb : Below wq.heap.size wq wx := hb
              go_wp2
              exact hT _ _ rfl (below_alloc _ _) fun _ => ⟨_, rfl, ownsRow_from (ownR_new wx) hb.size⟩
            refine' Rgd.op_is _ [] 0 0 rfl rfl rfl (by kernel_rfl) ?_ ?_
            rotate_left
            · intro p wx hp1 hp2 hb
              obtain rfl : p = 0 := by omega
              refine Rgd.from_nil fun T hT => ?_
              go_wp2
              refine hT _ _ rfl (by first | exact Rgd.Keep.refl _ | exact below_of_dr hw2 | exact hw2 | exact (Below.refl _ _).alloc (Nat.le_refl _) _) ?_
              simp only [Rgd.last, List.getElem?_toArray, List.getElem?_cons_succ, List.getElem?_cons_zero, Option.getD_some]
              rfl
            refine' Rgd.op_is _ [2] 0 0 rfl rfl rfl (by kernel_rfl) ?_ ?_
            rotate_left
            · intro p wx hp1 hp2 hb
              obtain rfl : p = 0 := by omega
              refine Rgd.from_is (some 61) rfl rfl ?_
              refine Rgd.from_nil fun T hT => ?_
              go_wp2
              refine hT _ _ rfl (by first | exact Rgd.Keep.refl _ | exact below_of_dr hw2 | exact hw2 | exact (Below.refl _ _).alloc (Nat.le_refl _) _) ?_
              simp only [Rgd.last, List.getElem?_toArray, List.getElem?_cons_succ, List.getElem?_cons_zero, Option.getD_some]
              rfl
            refine' Rgd.op_is _ [3] 0 0 rfl rfl rfl (by kernel_rfl) ?_ ?_
            rotate_left
            · intro p wx hp1 hp2 hb
              obtain rfl : p = 0 := by omega
              refine Rgd.from_is (some 62) rfl rfl ?_
              refine Rgd.from_nil fun T hT => ?_
              go_wp2
              refine hT _ _ rfl (by first | exact Rgd.Keep.refl _ | exact below_of_dr hw2 | exact hw2 | exact (Below.refl _ _).alloc (Nat.le_refl _) _) ?_
              simp only [Rgd.last, List.getElem?_toArray, List.getElem?_cons_succ, List.getElem?_cons_zero, Option.getD_some]
              rfl
            refine Rgd.op_is (.slice Ap P'.length cp) [4] 0 0 rfl rfl rfl (by kernel_rfl) ?_ ?_
            · intro p wx hp1 hp2 hb
              obtain rfl : p = 0 := by omega
              refine Rgd.from_is (some 63) rfl rfl ?_
              refine Rgd.from_nil fun T hT => ?_
              have c0 := (HD2.out.below hb).cells.1
              go_wp2
              exact hT _ _ rfl (by first | exact Rgd.Keep.refl _ | exact below_of_dr hw2 | exact hw2 | exact (Below.refl _ _).alloc (Nat.le_refl _) _) (by first | rfl | exact congrArg _ (by decide))
            refine Rgd.op_of (fun p w u => p = 0 → w.ownsRow wq.heap.size 96 2 u P'.length (P'.flatMap pcl)) [1, 5] 0 0 rfl rfl ?_ ?_ rfl (by kernel_rfl) ?_ ?_
            · exact fun p wq w2 v _ hk h hp => ownsRow_below (h hp) hk
            · exact fun p wq w2 v _ _ _ _ _ _ hp => by omega
            · intro p wx hp1 hp2 hb
              obtain rfl : p = 0 := by omega
              refine Rgd.from_of (some 60) rfl rfl fun v60 h60 => ?_
              refine Rgd.from_is (some 64) rfl rfl ?_
              refine Rgd.from_nil fun T hT => ?_
              have hb : Below wq.heap.size wq wx := hb
              obtain ⟨b, rfl, hrow⟩ := h60 rfl
              refine wpList_append_R0 wx rfl _ _ (by rfl) wq.heap.size b (by rfl) hrow Ap P' cp (by rfl) (HAq.out.below hb) (by omega) hb.size ?_
              intro v' w' hown hk
              exact hT _ _ rfl hk fun _ => hown
            refine Rgd.op_is (.agg #[.int .i64 p.at_, .string S0]) [] 0 0 rfl rfl rfl (by kernel_rfl) ?_ ?_
            · intro p wx hp1 hp2 hb
              obtain rfl : p = 0 := by omega
              refine Rgd.from_nil fun T hT => ?_
              have y0 := (hRq.below hb).cell (k := 0) rfl
              have y1 := (hRq.below hb).cell (k := 1) rfl
              go_wp2
              exact hT _ _ rfl (by first | exact Rgd.Keep.refl _ | exact below_of_dr hw2 | exact hw2 | exact (Below.refl _ _).alloc (Nat.le_refl _) _) (by first | rfl | exact congrArg _ (by decide))
            refine Rgd.op_of (fun p' w u => p' = 0 → ∃ b, u = .slice (some ⟨b, 0, none⟩) 1 1 ∧ CellsP w (some ⟨b, 0, none⟩) [⟨p.at_, S0⟩]) [7] 0 0 rfl rfl ?_ ?_ rfl (by kernel_rfl) ?_ ?_
            · exact fun p wq w2 v _ hk h hp => by obtain ⟨b, h1, h2⟩ := h hp; exact ⟨b, h1, Cells.below h2 hk⟩
            · exact fun p wq w2 v _ _ _ _ _ _ hp => by omega
            · intro p wx hp1 hp2 hb
              obtain rfl : p = 0 := by omega
              refine Rgd.from_is (some 66) rfl rfl ?_
              refine Rgd.from_nil fun T hT => ?_
              go_wp2
              exact hT _ _ rfl (below_alloc _ _) fun _ => ⟨_, rfl, cellsP_new wx (Pt.mk p.at_ S0)⟩
            refine Rgd.op_turns (fun p' w u => p' = 1 → w.ownsRow wq.heap.size 96 2 u (P'.length + 1) ((P' ++ [Pt.mk p.at_ S0]).flatMap pcl)) [6, 8] 0 rfl ?_ ?_ rfl (by kernel_rfl) ?_ ?_
            · exact fun p wq w2 v _ hk h hp => ownsRow_below (h hp) hk
            · exact fun p wq w2 v h0 h1 => by simp [Rgd.keep] at h1; omega
            · intro wx hb
              refine Rgd.from_of (some 65) rfl rfl fun v65 h65 => ?_
              refine Rgd.from_of (some 67) rfl rfl fun v67 h67 => ?_
              refine Rgd.from_nil fun T hT => ?_
              have hb : Below wq.heap.size wq wx := hb
              have hrow := h65 rfl
              obtain ⟨b, rfl, hcn⟩ := h67 rfl
              refine wpList_append_R wx rfl _ _ (by rfl) wq.heap.size _ P'.length _ (by rfl) hrow (some ⟨b, 0, none⟩) [⟨p.at_, S0⟩] 1 (by rfl) hcn (by simp; omega) hb.size ?_
              intro v' w' hown hgr
              exact hT _ _ rfl trivial (hb.grown hgr hb.size fun k e => (World.ownsRow.lt hrow k e).1) fun _ => by rw [List.flatMap_append]; exact hown
            refine' Rgd.op_is _ [0] 1 1 rfl rfl rfl (by kernel_rfl) ?_ ?_
            rotate_left
            · intro p wx hp1 hp2 hb
              obtain rfl : p = 1 := by omega
              refine Rgd.from_is (some 59) rfl rfl ?_
              refine Rgd.from_nil fun T hT => ?_
              go_wp2
              refine hT _ _ rfl (by first | exact Rgd.Keep.refl _ | exact below_of_dr hw2 | exact hw2 | exact (Below.refl _ _).alloc (Nat.le_refl _) _) ?_
              simp only [Rgd.last, List.getElem?_toArray, List.getElem?_cons_succ, List.getElem?_cons_zero, Option.getD_some]
              rfl
            refine' Rgd.op_is _ [10] 1 1 rfl rfl rfl (by kernel_rfl) ?_ ?_
            rotate_left
            · intro p wx hp1 hp2 hb
              obtain rfl : p = 1 := by omega
              refine Rgd.from_is (some 69) rfl rfl ?_
              refine Rgd.from_nil fun T hT => ?_
              go_wp2
              refine hT _ _ rfl (by first | exact Rgd.Keep.refl _ | exact below_of_dr hw2 | exact hw2 | exact (Below.refl _ _).alloc (Nat.le_refl _) _) ?_
              simp only [Rgd.last, List.getElem?_toArray, List.getElem?_cons_succ, List.getElem?_cons_zero, Option.getD_some]
              rfl
            refine Rgd.walk_nil [0, 1, 2, 3, 4, 5, 6, 7, 8, 9, 10, 11] (by kernel_rfl) ?_
            intro wx hb
            refine Rgd.from_is (some 59) rfl rfl ?_
            refine Rgd.from_of (some 60) rfl rfl fun v60 h60 => ?_
            refine Rgd.from_is (some 61) rfl rfl ?_
            refine Rgd.from_is (some 62) rfl rfl ?_
            refine Rgd.from_is (some 63) rfl rfl ?_
            refine Rgd.from_is (some 64) rfl rfl ?_
            refine Rgd.from_of (some 65) rfl rfl fun v65 h65 => ?_
            refine Rgd.from_is (some 66) rfl rfl ?_
            refine Rgd.from_of (some 67) rfl rfl fun v67 h67 => ?_
            refine Rgd.from_of (some 68) rfl rfl fun v68 h68 => ?_
            refine Rgd.from_is (some 69) rfl rfl ?_
            refine Rgd.from_is (some 70) rfl rfl ?_
            refine Rgd.from_nil ?_
            simp only [List.map, Act.put, List.setIfInBounds_toArray, List.set_cons_zero, List.set_cons_succ]
            have hb : Below wq.heap.size wq wx := hb
            have hrow := h68 rfl
            obtain ⟨A9, c9, rfl⟩ := ownsRow_form hrow
            have hD9 := HD2.out.below hb
            obtain ⟨f0, f1, f2, f3, f4⟩ := hD9.free
            obtain ⟨k0, k1, k2, k3, k4⟩ := hD9.cells
            clear h60 h65 h67 h68
            go_wp2
            have hs1 := hD9.set 0 (.slice A9 (P'.length + 1) c9) (vc' := .slice (some ⟨b, off, none⟩) r.C.length cap0) (r' := { r with P := P' ++ [⟨p.at_, S0⟩] }) rfl (OwnR.of hrow (by simp) rfl) hD9.C
            go_roundw
            case rel => exact ⟨k + 1, _, by go_num, by omega, by rw [HS.out], by rw [HS.out]; exact hs1, (hT2.next hb).set _ _⟩
            case measure => simp [intOf]; omega
    · obtain rfl : k = r.C.length := by omega
      obtain ⟨c0, c1, c2, c3, c4⟩ := hDr.cells
      obtain ⟨f0, f1, f2, f3, f4⟩ := hDr.free
      go_wp2
      go_end0
      have h1 := hDr.set 1 (.slice none 0 0) (vp' := vp) (r' := { r with P := (crashR r.C ks N r.P r.C.length).2, C := [] }) rfl hDr.P ⟨rfl, .inl ⟨rfl, rfl⟩⟩
      have h2 := h1.set 4 (.bool true) (vp' := vp) (vc' := .slice none 0 0) (r' := r.crash ks n) (by unfold Rk.crash; rfl) (by unfold Rk.crash; rw [HN.out]; exact h1.P) h1.C
      exact ⟨rfl, ⟨_, _, h2⟩, (hTr.set _ _).set _ _⟩
end Go.Proofs.Ytnniiokpngdgkaa
