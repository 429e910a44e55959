/-
  The document's disk: what is asked, a write, a sync.
-/
import Derived.Test.YtnniiokpngdgkaaRkA
namespace Go.Proofs.Ytnniiokpngdgkaa
open Go Go.ChangeShapes Go.WideShapes Go.ChangeAt Go.RowKit Go.Maps Go.Shelf Go.Proofs

theorem sOf_size {L : List Pt} (h : Fine L) (x : Int) : (sOf (lastC L x)).size ≤ 512 := by
  cases hl : lastC L x with
  | none => exact Nat.zero_le _
  | some q => exact (h q (lastC_mem hl).1).2
theorem rspend_c (g : Nat) (vp vc : Value) (r : Rk) (w : World) (h : RDsk w g vp vc r) (hl : I64 r.lf) (hf : r.hs = true → 0 ≤ r.lf) :
    Calls Try.prog 83 #[.pointer (some ⟨g, 0, none⟩)] w fun e w' => e = .returned (.bool r.spendB) ∧ RDsk w' g vp vc r.spend ∧ RT w w' g := by
  obtain ⟨c0, c1, c2, c3, c4⟩ := h.cells
  obtain ⟨f0, f1, f2, f3, f4⟩ := h.free
  cases hh : r.hs with
  | false =>
    have e1 : r.spendB = true := by simp [Rk.spendB, hh]
    have e2 : r.spend = r := by simp [Rk.spend, hh]
    rw [e1, e2]
    rw [hh] at c2
    clear hf hh e1 e2
    go_enter Try.func83, Try.ntmps83
    go_wp2
    go_ret
    exact ⟨rfl, h, RT.refl⟩
  | true =>
    have h0 := hf hh
    by_cases hz : r.lf = 0
    · have e1 : r.spendB = false := by simp [Rk.spendB, hh, hz]
      have e2 : r.spend = { r with ov := true } := by simp [Rk.spend, hh, hz]
      rw [e1, e2]
      have hs := h.set 4 (.bool true) (vp' := vp) (vc' := vc) (r' := { r with ov := true }) rfl h.P h.C
      rw [hh] at c2
      rw [hz] at c3
      clear hf hh e1 e2 hz hl h0
      go_enter Try.func83, Try.ntmps83
      go_wp2
      go_ret
      exact ⟨rfl, hs, RT.refl.set _ _⟩
    · have e1 : r.spendB = true := by simp [Rk.spendB, hh, hz]
      have e2 : r.spend = { r with lf := r.lf - 1 } := by simp [Rk.spend, hh, hz]
      rw [e1, e2]
      have hs := h.set 3 (.int .i64 (r.lf - 1)) (vp' := vp) (vc' := vc) (r' := { r with lf := r.lf - 1 }) rfl h.P h.C
      rw [hh] at c2
      obtain ⟨hl1, hl2⟩ := hl
      clear hf hh e1 e2
      go_enter Try.func83, Try.ntmps83
      go_wp2
      go_ret
      exact ⟨rfl, hs, RT.refl.set _ _⟩
theorem rplat_c (g : Nat) (vp vc : Value) (r : Rk) (a : Int) (w : World) (h : RDsk w g vp vc r) (hl : r.P.length ≤ 1000000) (ho : Fine r.P) :
    Calls Try.prog 32 #[.pointer (some ⟨g, 0, none⟩), .int .i64 a] w fun e w' => e = .returned (.string (r.plat a)) ∧ Below w.heap.size w w' := by
  obtain ⟨A, c, rfl, hA⟩ := h.P.cellsP
  obtain ⟨c0, c1, c2, c3, c4⟩ := h.cells
  have hss := sOf_size ho a
  have HO := hid ho
  clear ho
  go_enter Try.func32, Try.ntmps32
  go_wp2_with (fail)
  refine (ris_c a w).mono ?_
  rintro e _ ⟨rfl, rfl⟩
  cases his : isS a with
  | false =>
    have e1 : r.plat a = ⟨#[]⟩ := by simp [Rk.plat, his]
    have E1 := hid e1
    clear e1
    go_wp2
    go_ret
    exact ⟨by rw [E1.out]; rfl, Below.refl _ _⟩
  | true =>
    have e1 : r.plat a = pad (sOf (lastC r.P a)) := by simp [Rk.plat, his]
    have E1 := hid e1
    clear e1
    clear his
    go_wp2_with (fail)
    refine (rlast_c A r.P c a _ hA hl).mono ?_
    rintro e _ ⟨rfl, rfl⟩
    generalize sOf (lastC r.P a) = s at *
    go_wp2_with (fail)
    refine (rfull_c s _ hss).mono ?_
    rintro e w2 ⟨rfl, hb⟩
    go_wp2
    go_ret
    exact ⟨by rw [E1.out]; rfl, hb⟩
theorem rread_c (g : Nat) (vp vc : Value) (r : Rk) (a : Int) (w : World) (h : RDsk w g vp vc r) (hl : r.P.length ≤ 1000000) (hl2 : r.C.length ≤ 1000000) (ho : Fine r.P) (ho2 : Fine r.C) :
    Calls Try.prog 31 #[.pointer (some ⟨g, 0, none⟩), .int .i64 a] w fun e w' => e = .returned (.string (r.read a)) ∧ Below w.heap.size w w' := by
  obtain ⟨A, c, rfl, hA⟩ := h.C.cellsP
  obtain ⟨c0, c1, c2, c3, c4⟩ := h.cells
  have HH := hid h
  have hss := sOf_size ho2 a
  have HO := hid ho
  clear ho ho2
  cases hov : r.ov with
  | true =>
    have e1 : r.read a = ⟨#[]⟩ := by simp [Rk.read, hov]
    rw [e1]
    rw [hov] at c4
    clear h hov e1
    go_enter Try.func31, Try.ntmps31
    go_wp2
    go_ret
    exact ⟨rfl, Below.refl _ _⟩
  | false =>
    rw [hov] at c4
    have HOV := hid hov
    clear hov h
    go_enter Try.func31, Try.ntmps31
    go_wp2_with (fail)
    refine (ris_c a w).mono ?_
    rintro e _ ⟨rfl, rfl⟩
    cases his : isS a with
    | false =>
      have e1 : r.read a = ⟨#[]⟩ := by simp [Rk.read, HOV.out, his]
      have E1 := hid e1
      clear e1
      go_wp2
      go_ret
      exact ⟨by rw [E1.out]; rfl, Below.refl _ _⟩
    | true =>
      have HIS := hid his
      clear his
      go_wp2_with (fail)
      refine (rlast_c A r.C c a _ hA hl2).mono ?_
      rintro e _ ⟨rfl, rfl⟩
      cases hla : lastC r.C a with
      | some p =>
        have e1 : r.read a = pad p.s := by simp [Rk.read, HOV.out, HIS.out, hla]
        have E1 := hid e1
        clear e1
        rw [hla] at hss
        have hps : p.s.size ≤ 512 := hss
        simp only [sOf, Option.isSome_some]
        clear hla hss
        go_wp2_with (fail)
        refine (rfull_c p.s _ hps).mono ?_
        rintro e w2 ⟨rfl, hb⟩
        go_wp2
        go_ret
        exact ⟨by rw [E1.out]; rfl, hb⟩
      | none =>
        have e1 : r.read a = r.plat a := by simp [Rk.read, HOV.out, HIS.out, hla]
        have E1 := hid e1
        clear e1
        simp only [sOf, Option.isSome_none]
        clear hla hss
        go_wp2_with (fail)
        refine (rplat_c g vp _ r a _ HH.out hl HO.out).mono ?_
        rintro e w2 ⟨rfl, hb⟩
        go_wp2
        go_ret
        exact ⟨by rw [E1.out]; rfl, hb⟩
theorem rfuse_c (g : Nat) (vp vc : Value) (r : Rk) (n : Int) (w : World) (h : RDsk w g vp vc r) :
    Calls Try.prog 58 #[.pointer (some ⟨g, 0, none⟩), .int .i64 n] w fun e w' => e = .returned (.tuple #[]) ∧ RDsk w' g vp vc (r.fuse n) ∧ RT w w' g := by
  obtain ⟨c0, c1, c2, c3, c4⟩ := h.cells
  obtain ⟨f0, f1, f2, f3, f4⟩ := h.free
  go_enter Try.func58, Try.ntmps58
  go_wp2
  go_end0
  have h1 := h.set 2 (.bool (decide (0 ≤ n))) (vp' := vp) (vc' := vc) (r' := { r with hs := decide (0 ≤ n) }) rfl h.P h.C
  exact ⟨rfl, h1.set 3 (.int .i64 n) (r' := r.fuse n) rfl h1.P h1.C, (RT.refl.set _ _).set _ _⟩
theorem rstart_c (g : Nat) (vp vc : Value) (r : Rk) (w : World) (h : RDsk w g vp vc r) :
    Calls Try.prog 60 #[.pointer (some ⟨g, 0, none⟩)] w fun e w' => e = .returned (.tuple #[]) ∧ RDsk w' g vp vc r.start ∧ RT w w' g := by
  obtain ⟨c0, c1, c2, c3, c4⟩ := h.cells
  obtain ⟨f0, f1, f2, f3, f4⟩ := h.free
  go_enter Try.func60, Try.ntmps60
  go_wp2
  go_end0
  have h1 := h.set 4 (.bool false) (vp' := vp) (vc' := vc) (r' := { r with ov := false }) rfl h.P h.C
  exact ⟨rfl, h1.set 2 (.bool false) (r' := r.start) rfl h1.P h1.C, (RT.refl.set _ _).set _ _⟩

theorem info_rput : (Try.prog.info? 96).map (fun i => (i.zero, i.size, i.bytes)) = some (some (pval ⟨0, ⟨#[]⟩⟩), 2, 24) := by kernel_rfl
/-- the writes l behind a row of its own. -/
theorem wpList_append_R {ops : Array Oper} {rest : List Oper} {o : Oper} {a : Act} {Q : Exit → Act → World → Prop} (w : World) (hgd : o.guard = none) (s x : Operand)
    (ho : o.op = .call { callee := .builtin .append, args := #[s, x], argTypes := #[42, 42] })
    (base : Nat) (v : Value) (n : Nat) (xs : List Value) (hs : a.eval s = v) (hown : w.ownsRow base 96 2 v n xs)
    (A : Option Addr) (l : List Pt) (c : Nat) (hx : a.eval x = .slice A l.length c) (hA : CellsP w A l) (hn : n + l.length ≤ 1000000) (hbase : base ≤ w.heap.size)
    (h : ∀ v' w', w'.ownsRow base 96 2 v' (n + l.length) (xs ++ l.flatMap pcl) → w.grownBy w' v.ownBlock → wpList Try.prog ops Q rest (a.put o.dst v') w') : wpList Try.prog ops Q (o :: rest) a w := by
  obtain ⟨i0, hi, hz0, hz1, hz2⟩ := info_parts info_rput
  rcases hA with h0 | ⟨b, off, rfl, h5⟩
  · have hl : l = [] := by
      have := flatP_len l
      rw [h0] at this
      exact List.eq_nil_of_length_eq_zero (by simp at this; omega)
    subst hl
    simp only [List.flatMap_nil, List.append_nil, List.length_nil, Nat.add_zero] at h hx
    cases A with
    | some ad => exact wpList_append_own_at w hgd s x _ ho base 96 i0 (pval ⟨0, ⟨#[]⟩⟩) 2 24 Try.underlying42 hi hz0 hz1 hz2 (by rfl) (by decide) v n xs hs hown ad 0 c [] hx rfl (fun j u hu => by simp at hu) (fun u hu => by cases hu) (by simp at hn; unfold maxLen; omega) (by simp at hn; omega) hbase fun v' w' h1 h2 _ _ => h v' w' (by simpa using h1) h2
    | none =>
    have hv : ∃ B cap, v = .slice B n cap ∧ n ≤ cap := by
      rcases hown.2 with ⟨rfl, rfl⟩ | ⟨g, cap, cur, rfl, _, _, h6, _⟩
      · exact ⟨none, 0, rfl, Nat.le_refl _⟩
      · exact ⟨_, cap, rfl, h6⟩
    obtain ⟨B, cap, rfl, hcap⟩ := hv
    have hr := run_append_none (P := Try.prog) w 42 o.type _ i0 Try.underlying42 hi B n cap c hcap
    refine wpList_plain hgd fun K hK => ?_
    unfold Oper.wp execOp
    simp only [ho, resolve, invoke, builtin, Sem.run_bind, Sem.run_pure, Result.andThen_ok, List.map_toArray, List.map_cons, List.map_nil, hs, hx, hr]
    exact hK _ _ (h _ _ hown ⟨rfl, rfl, rfl, Nat.le_refl _, fun _ _ _ => rfl⟩)
  · refine wpList_append_own_at w hgd s x _ ho base 96 i0 (pval ⟨0, ⟨#[]⟩⟩) 2 24 Try.underlying42 hi hz0 hz1 hz2 (by rfl) (by decide) v n xs hs hown ⟨b, off, none⟩ l.length c (l.flatMap pcl) hx (flatP_len l) (fun j u hu => by rw [add_none rfl]; exact h5 j u hu) ?_ (by unfold maxLen; omega) (by omega) hbase fun v' w' h1 h2 _ _ => h v' w' h1 h2
    intro u hu
    obtain ⟨y, _, hy⟩ := List.mem_flatMap.1 hu
    exact one_two y u hy
theorem cellsP_new (w : World) (p : Pt) : CellsP (w.alloc (.cells (pcl p).toArray 96)) (some ⟨w.heap.size, 0, none⟩) [p] := by
  have h := (row1_new w (pcl p) 96).cells
  unfold CellsP
  rw [List.flatMap_cons, List.flatMap_nil, List.append_nil]
  exact h
theorem ownR_new (w : World) : (w.alloc (.cells #[] 96)).ownsRow w.heap.size 96 2 (.slice (some ⟨w.heap.size, 0, none⟩) 0 0) 0 [] := ⟨rfl, .inr ⟨_, 0, #[], rfl, Nat.le_refl _, row1_new w [] _, Nat.le_refl _, by decide, rfl, rfl⟩⟩
end Go.Proofs.Ytnniiokpngdgkaa
