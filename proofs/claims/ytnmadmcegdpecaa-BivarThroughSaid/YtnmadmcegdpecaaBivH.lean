/-
  The law's own copy of a list of lists.
-/
import Derived.Test.YtnmadmcegdpecaaBivE
import Derived.Test.YtnmadmcegdpecaaFixE
import Derived.Test.YtnmadmcegdpecaaMany
import Derived.Test.YtnmadmcegdpecaaRegionB
namespace Go.Proofs.Ytnmadmcegdpecaa
open Go.RowKit

attribute [local go_sem] Oper.semAt_some

/-- 'make([]T, 0, n)'. -/
theorem wpList_make_cap {P : Program} {t e : TypeId} {z : Value} {bytes : Nat} (E : Elt P t e z bytes) (w : World) {ops : Array Oper} {rest : List Oper} {o : Oper} {a : Act} {Q : Exit → Act → World → Prop}
    (hg : o.guard = none) (l c : Operand) (hop : o.op = Op.makeSlice t l c)
    (kl kc : IntKind) (n : Nat) (hl : a.eval l = .int kl 0) (C : Int) (hc : a.eval c = .int kc C) (hC : C = (n : Int)) (b2 : bytes * n ≤ 281474976710656) (b3 : n ≤ 4611686018427387903)
    (hK : ∀ w', Own w' w.heap.size e (.slice (some ⟨w.heap.size, 0, none⟩) 0 n) [] → w'.heap.size = w.heap.size + 1 → Below w.heap.size w w' → wpList P ops Q rest (a.put o.dst (.slice (some ⟨w.heap.size, 0, none⟩) 0 n)) w') :
    wpList P ops Q (o :: rest) a w := by
  obtain ⟨i, hi, hz, hs, hby⟩ := E.info
  refine wpList_plain hg fun K hK' => ?_
  have hb : (i.bytes : Int) * (n : Int) ≤ 281474976710656 := by
    rw [hby]
    have h : ((bytes * n : Nat) : Int) ≤ 281474976710656 := by omega
    rwa [Int.natCast_mul] at h
  have hr := run_make (P := P) w t e i z E.under hi hz kl kc 0 (n : Int) (by omega) (by omega) hb (by omega)
  simp only [Int.toNat_natCast, Int.toNat_zero] at hr
  subst hC
  unfold Oper.wp
  simp [execOp, hop, hl, hc, hr, Result.andThen]
  refine hK' _ _ (hK _ ⟨rfl, .inr ⟨w.heap.size, n, madeCells z.cells (n * i.size), rfl, Nat.le_refl _, heap_alloc_new _ _, by simp, by unfold maxLen; omega, ?_, by simp⟩⟩ (by simp) ((Below.refl _ _).alloc (Nat.le_refl _) _))
  rw [hs, E.zc, Nat.mul_one, madeCells_one]
  simp

/-- 'out = append(out, l...)': l is read. -/
theorem wpList_pushes_cells {P : Program} {t e : TypeId} {z : Value} {bytes : Nat} (E : Elt P t e z bytes) (wr : World) {ops : Array Oper} {rest : List Oper} {o : Oper} {a : Act} {Q : Exit → Act → World → Prop}
    (hg : o.guard = none) (s x : Operand) (hop : o.op = .call { callee := .builtin .append, args := #[s, x], argTypes := #[t, t] })
    (base : Nat) {v : Value} {xs : List Value} (hown : Own wr base e v xs) (hs : a.eval s = v) {A : Option Addr} {c : Nat} {news : List Value} (hnew : Cells wr A news) (hx : a.eval x = .slice A news.length c) (h1 : ∀ u ∈ news, u.oneCell' = true)
    (hb : (xs.length + news.length) * bytes ≤ 140737488355328) (hm : xs.length + news.length ≤ 9223372036854775807) (hbase : base ≤ wr.heap.size)
    (hK : ∀ v' w', Own w' base e v' (xs ++ news) → (∀ k, k < wr.heap.size → some k ≠ v.ownBlock → w'.heap[k]? = wr.heap[k]?) → Below base wr w' → wpList P ops Q rest (a.put o.dst v') w') :
    wpList P ops Q (o :: rest) a wr := by
  obtain ⟨i, hi, hz, hsz, hby⟩ := E.info
  rcases hnew with h0 | ⟨b, off, rfl, hc⟩
  · subst h0
    have hsrc : Src P i.size t (.slice A ([] : List Value).length c) 0 [] wr := by
      cases A with
      | none => exact Src.ofNil wr E.under c
      | some A => exact Src.ofSlice wr E.under A 0 c [] (by simp) (fun j u hu => by simp at hu) (fun u hu => by cases hu)
    obtain ⟨A0, n0, c0, hv, hle⟩ : ∃ A0 n0 c0, v = .slice A0 n0 c0 ∧ n0 ≤ c0 := by
      rcases hown.2 with ⟨rfl, h0⟩ | ⟨g, cap, cur, rfl, _, _, hn2, _⟩
      · exact ⟨_, _, _, rfl, Nat.le_refl _⟩
      · exact ⟨_, _, _, rfl, hn2⟩
    have hrun := run_append_nothing (P := P) wr t t o.type e i E.under hi A0 n0 c0 hle _ hsrc
    refine wpList_plain hg fun K hK' => ?_
    unfold Oper.wp
    simp only [List.length_nil] at hx hrun
    rw [hv] at hs
    simp [execOp, hop, resolve, invoke, builtin, hs, hx, hrun, Result.andThen]
    exact hK' _ _ (hK _ _ (by rw [List.append_nil, ← hv]; exact hown) (fun _ _ _ => rfl) (Below.refl _ _))
  · refine wpList_append_own wr hg s x t hop base e i z 1 bytes E.under hi hz hsz hby E.one (by decide) v xs.length xs hs hown ⟨b, off, none⟩ news.length c news hx (by omega) (fun j u hu => ?_) h1 (by unfold maxLen; omega) hb hbase ?_
    · have hadd : (⟨b, off, none⟩ : Addr).add j = ⟨b, off + j, none⟩ := by unfold Addr.add; split <;> simp_all
      rw [hadd]
      exact hc j u hu
    · intro v' w' h2 h3 _
      refine hK v' w' ?_ (fun k hk hne => h3.block k hk hne) ((Below.refl _ _).grown h3 hbase fun k hk => (hown.block k hk).1)
      unfold Own; rw [List.length_append]; exact h2

/-- one operation turns memory of the region's own. -/
def ownWay (w0 : World) (s : Nat) : Rgb.Way := ⟨Rgb.Keep, fun w w' => Below w0.heap.size w w', fun w => Below w0.heap.size w0 w, fun _ => True, s⟩
theorem ownWay_fair (w0 : World) (s : Nat) : (ownWay w0 s).Fair := ⟨fun _ _ h1 h2 => h1.trans (Below.mono h2 h1.size), fun _ _ h1 h2 => h1.trans h2, fun _ _ _ _ => trivial⟩
theorem drew_below (B : Nat) (w : World) : Below B w w.drew := ⟨rfl, rfl, rfl, Nat.le_refl _, fun _ _ => rfl⟩

def NewRows (f : List (List Int)) (w : World) (e : Ending) (w' : World) : Prop := ∃ v, e = .returned v ∧ OwnRows w' w.heap.size 26 23 v (rowsU f) ∧ Below w.heap.size w w'

set_option maxRecDepth 100000 in
set_option maxHeartbeats 2000000 in
theorem own06_c (A : Option Addr) (f : List (List Int)) (c : Nat) (w : World) (hA : Grid w A f) (hl : f.length ≤ 1000000) (hwd : ∀ l ∈ f, l.length ≤ 1000000) :
    Calls Try.prog 18 #[.slice A f.length c] w (NewRows f w) := by
  go_enter Try.func18, Try.ntmps18
  go_wp2
  go_loopw [3, 4, 25] (fun o i _ wr => ∃ k : Nat, i = .int .i64 k ∧ k ≤ f.length ∧ OwnRows wr w.heap.size 26 23 o (rowsU (f.take k)) ∧ Below w.heap.size w wr) (fun _ i _ _ => f.length - (intOf i).toNat)
  case atStart => exact ⟨0, rfl, by omega, by simpa [rowsU] using OwnRows.nil w w.heap.size 26 23, Below.refl _ _⟩
  case round =>
    obtain ⟨k, rfl, hk, ⟨vs, hown, hvl, hvr⟩, hbr⟩ := hrel
    rename_i wr
    by_cases hlt : k < f.length
    · obtain ⟨l, hxl⟩ := get_of_lt hlt
      have hll := hwd l (List.mem_of_getElem? hxl)
      have hvl' : vs.length = k := by rw [hvl]; simp [rowsU]; omega
      obtain ⟨o1, off, A', c', rfl, hc, hcs, hln⟩ := (hA.below hbr).at_ hxl
      have hto := rowsU_take hxl
      have HV := hid (⟨hxl, hvl, hvl', hvr, hto⟩ : _ ∧ _ ∧ _ ∧ _ ∧ _)
      clear hxl hvl hvl' hvr hto
      obtain ⟨A1, c1, hvo, _⟩ := hown.form
      subst hvo
      go_wp2
      refine Rgb.wp_region (l := [_, _, _, _, _, _, _, _, _, _, _, _, _, _]) (tail := [_, _]) (ownWay wr 12) [some 11, some 12, some 13, some 14, some 15, some 16, some 17, some 18, some 19, some 20, some 21, some 22, some 23, some 24, some 25, some 3] 27 (by kernel_rfl) (by kernel_rfl) (by kernel_rfl) rfl (ownWay_fair _ _) (drew_below _ _) (trivial) ?_
      refine' Rgb.op_is _ [] rfl rfl (by kernel_rfl) ?_ ?_
      rotate_left
      · intro wx hb
        refine Rgb.from_nil fun T hT => ?_
        go_wp2
        refine hT _ _ rfl (by first | exact Rgb.Keep.refl _ | exact below_of_dr hw2 | exact hw2 | exact (Below.refl _ _).alloc (Nat.le_refl _) _) ?_
        simp only [Rgb.last, List.getElem?_toArray, List.getElem?_cons_succ, List.getElem?_cons_zero, Option.getD_some]
        rfl
      refine' Rgb.op_is _ [] rfl rfl (by kernel_rfl) ?_ ?_
      rotate_left
      · intro wx hb
        refine Rgb.from_nil fun T hT => ?_
        go_wp2
        refine hT _ _ rfl (by first | exact Rgb.Keep.refl _ | exact below_of_dr hw2 | exact hw2 | exact (Below.refl _ _).alloc (Nat.le_refl _) _) ?_
        simp only [Rgb.last, List.getElem?_toArray, List.getElem?_cons_succ, List.getElem?_cons_zero, Option.getD_some]
        rfl
      refine' Rgb.op_is _ [] rfl rfl (by kernel_rfl) ?_ ?_
      rotate_left
      · intro wx hb
        refine Rgb.from_nil fun T hT => ?_
        go_wp2
        refine hT _ _ rfl (by first | exact Rgb.Keep.refl _ | exact below_of_dr hw2 | exact hw2 | exact (Below.refl _ _).alloc (Nat.le_refl _) _) ?_
        simp only [Rgb.last, List.getElem?_toArray, List.getElem?_cons_succ, List.getElem?_cons_zero, Option.getD_some]
        rfl
      refine' Rgb.op_is _ [1, 2] rfl rfl (by kernel_rfl) ?_ ?_
      rotate_left
      · intro wx hb
        refine Rgb.from_is (some 12) rfl rfl ?_
        refine Rgb.from_is (some 13) rfl rfl ?_
        refine Rgb.from_nil fun T hT => ?_
        go_wp2
        refine hT _ _ rfl (by first | exact Rgb.Keep.refl _ | exact below_of_dr hw2 | exact hw2 | exact (Below.refl _ _).alloc (Nat.le_refl _) _) ?_
        simp only [Rgb.last, List.getElem?_toArray, List.getElem?_cons_succ, List.getElem?_cons_zero, Option.getD_some]
        rfl
      refine Rgb.op_is (.slice A' l.length c') [3] rfl rfl (by kernel_rfl) ?_ ?_
      · intro wx hb
        refine Rgb.from_is (some 14) rfl rfl ?_
        refine Rgb.from_nil fun T hT => ?_
        have hc2 := (hb.cell (lt_of_cell hc)).trans hc
        go_wp2
        exact hT _ _ rfl (by first | exact Rgb.Keep.refl _ | exact below_of_dr hw2 | exact hw2 | exact (Below.refl _ _).alloc (Nat.le_refl _) _) (by first | rfl | exact congrArg _ (by decide))
      refine' Rgb.op_is _ [4] rfl rfl (by kernel_rfl) ?_ ?_
      rotate_left
      · intro wx hb
        refine Rgb.from_is (some 15) rfl rfl ?_
        refine Rgb.from_nil fun T hT => ?_
        go_wp2
        refine hT _ _ rfl (by first | exact Rgb.Keep.refl _ | exact below_of_dr hw2 | exact hw2 | exact (Below.refl _ _).alloc (Nat.le_refl _) _) ?_
        simp only [Rgb.last, List.getElem?_toArray, List.getElem?_cons_succ, List.getElem?_cons_zero, Option.getD_some]
        rfl
      refine' Rgb.op_is _ [5] rfl rfl (by kernel_rfl) ?_ ?_
      rotate_left
      · intro wx hb
        refine Rgb.from_is (some 16) rfl rfl ?_
        refine Rgb.from_nil fun T hT => ?_
        go_wp2
        refine hT _ _ rfl (by first | exact Rgb.Keep.refl _ | exact below_of_dr hw2 | exact hw2 | exact (Below.refl _ _).alloc (Nat.le_refl _) _) ?_
        simp only [Rgb.last, List.getElem?_toArray, List.getElem?_cons_succ, List.getElem?_cons_zero, Option.getD_some]
        rfl
      refine Rgb.op_till (fun w' v => ∃ g, v = Value.slice (some ⟨g, 0, none⟩) 0 (l.length + 3) ∧ Own w' wr.heap.size 23 v []) [6] rfl ?_ rfl (by kernel_rfl) ?_ ?_
      · exact fun w1 w2 v hk ⟨g, e, h⟩ => ⟨g, e, h.below hk⟩
      · intro wx hb
        refine Rgb.from_is (some 17) rfl rfl ?_
        refine Rgb.from_nil fun T hT => ?_
        refine wpList_make_cap elt_u64 _ rfl _ _ rfl .i64 .i64 (l.length + 3) rfl _ rfl (by go_num) (by omega) (by omega) ?_
        intro w' h1 _ h2
        go_wp2
        exact hT _ _ rfl h2 ⟨_, rfl, h1.from_ hb.size⟩
      refine' Rgb.op_is _ [] rfl rfl (by kernel_rfl) ?_ ?_
      rotate_left
      · intro wx hb
        refine Rgb.from_nil fun T hT => ?_
        go_wp2
        refine hT _ _ rfl (by first | exact Rgb.Keep.refl _ | exact below_of_dr hw2 | exact hw2 | exact (Below.refl _ _).alloc (Nat.le_refl _) _) ?_
        simp only [Rgb.last, List.getElem?_toArray, List.getElem?_cons_succ, List.getElem?_cons_zero, Option.getD_some]
        rfl
      refine' Rgb.op_is _ [] rfl rfl (by kernel_rfl) ?_ ?_
      rotate_left
      · intro wx hb
        refine Rgb.from_nil fun T hT => ?_
        go_wp2
        refine hT _ _ rfl (by first | exact Rgb.Keep.refl _ | exact below_of_dr hw2 | exact hw2 | exact (Below.refl _ _).alloc (Nat.le_refl _) _) ?_
        simp only [Rgb.last, List.getElem?_toArray, List.getElem?_cons_succ, List.getElem?_cons_zero, Option.getD_some]
        rfl
      refine' Rgb.op_is _ [8, 9] rfl rfl (by kernel_rfl) ?_ ?_
      rotate_left
      · intro wx hb
        refine Rgb.from_is (some 19) rfl rfl ?_
        refine Rgb.from_is (some 20) rfl rfl ?_
        refine Rgb.from_nil fun T hT => ?_
        go_wp2
        refine hT _ _ rfl (by first | exact Rgb.Keep.refl _ | exact below_of_dr hw2 | exact hw2 | exact (Below.refl _ _).alloc (Nat.le_refl _) _) ?_
        simp only [Rgb.last, List.getElem?_toArray, List.getElem?_cons_succ, List.getElem?_cons_zero, Option.getD_some]
        rfl
      refine Rgb.op_is (.slice A' l.length c') [10] rfl rfl (by kernel_rfl) ?_ ?_
      · intro wx hb
        refine Rgb.from_is (some 21) rfl rfl ?_
        refine Rgb.from_nil fun T hT => ?_
        have hc2 := (hb.cell (lt_of_cell hc)).trans hc
        go_wp2
        exact hT _ _ rfl (by first | exact Rgb.Keep.refl _ | exact below_of_dr hw2 | exact hw2 | exact (Below.refl _ _).alloc (Nat.le_refl _) _) (by first | rfl | exact congrArg _ (by decide))
      refine Rgb.op_turn (fun w' v => Own w' wr.heap.size 23 v (l.map (.int .u64))) [7, 11] rfl ?_ rfl (by kernel_rfl) ?_ ?_
      · exact fun w1 w2 v hk h => h.below hk
      · intro wx hb hb1
        refine Rgb.from_till (some 18) rfl rfl fun v18 h18 => ?_
        refine Rgb.from_is (some 22) rfl rfl ?_
        refine Rgb.from_nil fun T hT => ?_
        obtain ⟨g, rfl, hg⟩ := h18
        refine wpList_pushes_cells elt_u64 _ rfl _ _ rfl wr.heap.size hg rfl (hcs.keep fun p hp => hb.cell hp) (by simp [List.length_map]; rfl) (fun u hu => by simp only [List.mem_map] at hu; obtain ⟨z, _, rfl⟩ := hu; rfl) (by simp; omega) (by simp; omega) hb.size ?_
        intro v' w' hown' _ hbel
        rw [List.nil_append] at hown'
        go_wp2
        exact hT _ _ rfl hbel hown'
      refine Rgb.op_after (fun w' v => ∃ g u, v = Value.slice (some ⟨g, 0, none⟩) 1 1 ∧ wr.heap.size ≤ g ∧ Row1 w' g 26 [u] ∧ u.oneCell' = true ∧ RowT w' 23 u (l.map (.int .u64))) [12] rfl (by kernel_rfl) ?_ rfl (by kernel_rfl) ?_ ?_
      · exact fun w1 w2 v hk ⟨g, u, e, h1, h2, h3, h4⟩ => ⟨g, u, e, h1, h2.below hk, h3, h4.below hk⟩
      · intro wx hb
        refine Rgb.from_of (some 23) rfl rfl fun v23 h23 => ?_
        refine Rgb.from_nil fun T hT => ?_
        have hrt0 := h23.rowT
        obtain ⟨A9, c9, rfl, _⟩ := h23.form
        rw [List.length_map] at hrt0
        go_wp2
        exact hT _ _ rfl (below_alloc _ _) ⟨wx.heap.size, _, rfl, hb.size, row1_new wx [_] 26, rfl, hrt0.below (below_alloc _ _)⟩
      refine Rgb.walk_nil [0, 1, 2, 3, 4, 5, 6, 7, 8, 9, 10, 11, 12, 13] (by kernel_rfl) ?_
      intro wx hb
      refine Rgb.from_is (some 11) rfl rfl ?_
      refine Rgb.from_is (some 12) rfl rfl ?_
      refine Rgb.from_is (some 13) rfl rfl ?_
      refine Rgb.from_is (some 14) rfl rfl ?_
      refine Rgb.from_is (some 15) rfl rfl ?_
      refine Rgb.from_is (some 16) rfl rfl ?_
      refine Rgb.from_is (some 17) rfl rfl ?_
      refine Rgb.from_gone (some 18) rfl rfl fun v18 => ?_
      refine Rgb.from_is (some 19) rfl rfl ?_
      refine Rgb.from_is (some 20) rfl rfl ?_
      refine Rgb.from_is (some 21) rfl rfl ?_
      refine Rgb.from_is (some 22) rfl rfl ?_
      refine Rgb.from_of (some 23) rfl rfl fun v23 h23 => ?_
      refine Rgb.from_of (some 24) rfl rfl fun v24 h24 => ?_
      refine Rgb.from_nil ?_
      simp only [List.map, Act.put, List.setIfInBounds_toArray, List.set_cons_zero, List.set_cons_succ]
      obtain ⟨g, u, rfl, hg, hrg, hone, hrt⟩ := h24
      have hnew : Own wx w.heap.size 26 (.slice (some ⟨g, 0, none⟩) 1 1) [u] := by
        simpa using hrg.own (base := w.heap.size) (by have := hbr.size; omega) (by simp)
      refine wpList_pushes elt_rows wx rfl _ _ rfl w.heap.size (hown.below hb) rfl hnew rfl (fun z hz => by simp only [List.mem_singleton] at hz; subst hz; exact hone) (by simp [HV.out.2.2.1]; omega) (by simp [HV.out.2.2.1]; omega) (by have := hb.size; have := hbr.size; omega) ?_
      intro v' w' hown' hoth hbel
      have hrows := OwnRows.push (w := wx) (by decide) HV.out.2.1 (fun j u xs a b => (HV.out.2.2.2.1 j u xs a b).below hb) (hown.below hb) hrt hown' hoth
      rw [HV.out.2.2.2.2] at hrows
      have hbw : Below w.heap.size w w' := (below_next hbr hbr.size hb).trans hbel
      clear hbel hb hrg hnew h23 hrt hown hbr hown' hoth hc hcs
      go_wp2
      go_roundw
      case rel => exact ⟨k + 1, by go_num, by omega, hrows, hbw⟩
      case measure => simp [intOf]; omega
    · obtain rfl : k = f.length := by omega
      go_wp2
      go_ret
      rw [List.take_length] at hvl hvr
      exact ⟨_, rfl, ⟨vs, hown, hvl, hvr⟩, hbr⟩

end Go.Proofs.Ytnmadmcegdpecaa
