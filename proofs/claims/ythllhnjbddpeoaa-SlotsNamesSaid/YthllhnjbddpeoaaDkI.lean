/-
  The sectors of a map, in whatever order: slices.Collect(maps.Keys(..)).
-/
import Derived.Test.YthllhnjbddpeoaaDkH
import Derived.Laws.EntriesVeiled
import Derived.Deep.Cut
namespace Go.Proofs.Ythllhnjbddpeoaa
open Go.RowKit Go.Maps Go.Shelf Go.Proofs

theorem RangeAt.walks {P : Program} {k : TypeId} {α H : Type} {M : MK P k α H} {w w' : World} {b r cnt : Nat} {L rest : List α} (h : RangeAt M w b r L rest cnt) (hk : KeepsWalks w w') : RangeAt M w' b r L rest cnt := by
  obtain ⟨h1, h2, h3, h4, D, left, ⟨es, clock, since, seen, c0, e1, e2, e3, e4, e5, e6⟩, h6, h7⟩ := h
  exact ⟨h1, h2, h3, h4, D, left, ⟨es, clock, since, seen, c0, hk.same _ _ e1 rfl, e2, e3, e4, hk.same _ _ e5 rfl, e6⟩, h6, h7⟩
theorem RangeAt.iter {P : Program} {k : TypeId} {α H : Type} {M : MK P k α H} {w : World} {b r cnt : Nat} {L rest : List α} (h : RangeAt M w b r L rest cnt) : ∃ o : Obj, w.heap[r]? = some o ∧ o.isCells = false := by
  obtain ⟨_, _, _, _, D, left, ⟨es, clock, since, seen, c0, e1, e2, e3, e4, e5, e6⟩, _⟩ := h
  exact ⟨_, e5, rfl⟩

theorem wpList_range_pt (w : World) {ops : Array Oper} {rest : List Oper} {o : Oper} {a : Act} {Q : Exit → Act → World → Prop} {b : Nat} {L : List Pt} (hg : o.guard = none) (m : Operand) (hop : o.op = Op.range 82 m) (hm : a.eval m = .map (some b)) (h : MapAt dM w b L)
    (hK : ∀ w' cnt, RangeAt dM w' b w.heap.size L L cnt → w.grownBy w' none → w'.heap.size = w.heap.size + 1 → wpList Try.prog ops Q rest (a.put o.dst (.pointer (some ⟨w.heap.size, 0, none⟩))) w') :
    wpList Try.prog ops Q (o :: rest) a w := wpList_range_tab w hg m _ hop _ Try.underlying82 hm h hK
theorem wpList_next_pt (w : World) {ops : Array Oper} {rest : List Oper} {o : Oper} {a : Act} {Q : Exit → Act → World → Prop} {b : Nat} {L : List Pt} (hg : o.guard = none) (it : Operand) (hop : o.op = Op.next it false) {r cnt : Nat} {left : List Pt} (hit : a.eval it = .pointer (some ⟨r, 0, none⟩)) (h : RangeAt dM w b r L left cnt)
    (hDone : left = [] → wpList Try.prog ops Q rest (a.put o.dst (.tuple #[.bool false])) w)
    (hMore : (∀ (x : Pt) (left' : List Pt) (w' : World) (cnt' : Nat), left.Perm (x :: left') → x ∈ L → RangeAt dM w' b r L left' cnt' → cnt' < cnt → w.grownBy w' (some r) → w'.heap.size = w.heap.size →
      (Instr.entry (.pointer (some ⟨r, 0, none⟩))).run Try.prog w' = .ok (.tuple #[.int .i64 x.1, .string x.2]) w' → wpList Try.prog ops Q rest (a.put o.dst (.tuple #[.bool true, .int .i64 x.1, .string x.2])) w')) :
    wpList Try.prog ops Q (o :: rest) a w := wpList_next_tab w hg it hop hit h hDone hMore

attribute [local go_sem] Oper.semAt_some

set_option maxRecDepth 100000 in
set_option maxHeartbeats 400000 in
theorem keys1_c (bx b : Nat) (L : List Pt) (lp n : Nat) (w : World) (J : List Pt → World → Prop) (hJ : ∀ xs A C, w.heap.size ≤ A.heap.size → J xs A → Turns w.heap.size A C → J xs C)
    (hY : ∀ pre (x : Pt) A, w.heap.size ≤ A.heap.size → J pre A → x ∈ L → pre.length < L.length → YieldAt Fence.wide n Try.prog lp #[.int .i64 x.1] A fun e C => e = .returned (.bool true) ∧ J (pre ++ [x]) C ∧ KeepsWalks A C)
    (hB : Row1 w bx 82 [.map (some b)]) (hM : MapAt dM w b L) (h0 : J [] w) :
    Calls Try.prog 85 #[.func (.yield lp) #[] #[], .pointer (some ⟨bx, 0, none⟩)] w fun e w' => (∃ v, e = .returned v) ∧ ∃ xs, L.Perm xs ∧ J xs w' := by
  have c0 := hB.cell (k := 0) rfl
  have HJ := hid hJ
  have HY := hid hY
  clear hJ hY
  go_enter Try.func85, Try.ntmps85
  go_wp2_with (at_range; refine wpList_range_pt _ rfl _ rfl rfl hM ?_; intro w2 cnt hrg2 hg2 hs2)
  go_frame
  have hr2 : w.heap.size ≤ w2.heap.size := by omega
  have hJ2 := HJ.out _ _ _ (Nat.le_refl _) h0 ⟨none, hg2, fun r e => by cases e⟩
  clear hs2 hg2 h0 hM c0
  obtain ⟨r, hr⟩ : ∃ r, w.heap.size = r := ⟨_, rfl⟩
  have hle : w.heap.size ≤ r := by omega
  rw [hr] at hrg2 ⊢
  clear hr
  go_loopw [3, 7] (fun _ _ wr => ∃ rest cnt pre, RangeAt dM wr b r L rest cnt ∧ L.Perm (pre ++ rest) ∧ J pre wr ∧ w.heap.size ≤ wr.heap.size) (fun _ _ wr => wr.rangeLeft b r)
  case atStart => exact ⟨L, cnt, [], hrg2, .refl _, hJ2, hr2⟩
  case round =>
    obtain ⟨rest, cnt2, pre, hrg, hp, hJw, hsz⟩ := hrel
    rename_i wr
    have HL := hid hrg.left
    have HP := hid hp
    clear hp hrg2 hJ2 hr2
    go_wp2_with (at_next; refine wpList_next_pt _ rfl _ rfl rfl hrg ?_ ?_)
    · intro hr
      subst hr
      go_wp2
      go_end0
      exact ⟨⟨_, rfl⟩, pre, by simpa using HP.out, hJw⟩
    · intro x rest' w3 cnt3 hperm hx hrg3 hlt hg3 hs3 hen
      have HPM := hid hperm
      have hsz3 : w.heap.size ≤ w3.heap.size := by omega
      clear hperm hs3
      have hJ3 := HJ.out _ _ _ hsz hJw ⟨some r, hg3, fun r' e => by cases e; exact ⟨hle, hrg.iter⟩⟩
      go_upto_region 3 with (fail)
      refine (wpIn_wide (n := n + 1)).1 ?_
      obtain ⟨fn, tmps, assign, body, hy, hR⟩ := HY.out pre x w3 hsz3 hJ3 hx (by have h1 := HP.out.length_eq; have h2 := HPM.out.length_eq; simp at h1 h2; omega)
      clear hJ3 hg3 hrg hJw hsz
      gi_wp2
      refine hR.mono ?_
      rintro e C ⟨rfl, hJC, hKC⟩
      gi_wp2
      go_wp2
      go_roundw
      case rel => exact ⟨rest', cnt3, pre ++ [x], hrg3.walks hKC, by rw [List.append_assoc]; exact HP.out.trans (HPM.out.append_left pre), hJC, Nat.le_trans hsz3 hKC.size⟩
      case measure => rw [HL.out, (hrg3.walks hKC).left]; exact hlt

/-- numbers of this call's own. -/
def OwnI (w : World) (base : Nat) (v : Value) (xs : List Int) : Prop := w.ownsRow base 3 1 v xs.length (xs.map (Value.int .i64))
theorem OwnI.nil (w : World) (base : Nat) : OwnI w base (.slice none 0 0) [] := ⟨rfl, .inl ⟨rfl, rfl⟩⟩
theorem OwnI.block {w : World} {base : Nat} {v : Value} {xs : List Int} (h : OwnI w base v xs) : ∀ g, v.ownBlock = some g → base ≤ g ∧ g < w.heap.size := World.ownsRow.lt h
theorem OwnI.keep {w w' : World} {base : Nat} {v : Value} {xs : List Int} (h : OwnI w base v xs) (hk : ∀ g, v.ownBlock = some g → w'.heap[g]? = w.heap[g]?) : OwnI w' base v xs := by
  refine ⟨h.1, ?_⟩
  rcases h.2 with hn | ⟨g, cap, cur, rfl, hb, hg, rest⟩
  · exact .inl hn
  · exact .inr ⟨g, cap, cur, rfl, hb, (hk g rfl).trans hg, rest⟩
theorem OwnI.ne_row {w : World} {base g : Nat} {e : TypeId} {v : Value} {xs : List Int} {ys : List Value} (h : OwnI w base v xs) (hr : Row1 w g e ys) (he : e ≠ 3) : ∀ g', v.ownBlock = some g' → g' ≠ g := by
  intro g' hg' e1
  rcases h.2 with ⟨rfl, _⟩ | ⟨g2, cap, cur, rfl, _, h3, _⟩
  · cases hg'
  · simp only [Value.ownBlock, Option.some.injEq] at hg'
    subst hg' e1
    unfold Row1 at hr
    rw [hr] at h3
    simp only [Option.some.injEq, Obj.cells.injEq] at h3
    exact he h3.2.1
theorem OwnI.cells {w : World} {base : Nat} {v : Value} {xs : List Int} (h : OwnI w base v xs) : ∀ (j : Nat) (o : Obj), v.ownBlock = some j → w.heap[j]? = some o → o.isCells = true := by
  intro j o hj ho
  rcases h.2 with ⟨rfl, _⟩ | ⟨g2, cap, cur, rfl, _, h3, _⟩
  · cases hj
  · simp only [Value.ownBlock, Option.some.injEq] at hj
    subst hj
    rw [h3] at ho
    obtain rfl := Option.some.inj ho
    rfl
theorem info_int : (Try.prog.info? 3).map (fun i => (i.zero, i.size, i.bytes)) = some (some (.int .i64 0), 1, 8) := by kernel_rfl
/-- between two rounds: gb the box. -/
structure ApI (w0 : World) (gb : Nat) (pre : List Int) (w : World) : Prop where
  b : Below w0.heap.size w0 w
  own : ∃ v, Row1 w gb 47 [v] ∧ OwnI w w0.heap.size v pre
theorem news_one (A : World) (x : Int) : ∀ j u, [Value.int .i64 x][j]? = some u → (A.alloc (.cells #[.int .i64 x] 3)).cell? ((⟨A.heap.size, 0, none⟩ : Addr).add j) = some u := by
  intro j u hu
  have h := (row1_new A [.int .i64 x] 3).cell hu
  have hadd : (⟨A.heap.size, 0, none⟩ : Addr).add j = ⟨A.heap.size, j, none⟩ := by unfold Addr.add; split <;> simp_all
  rw [hadd]
  exact h

set_option maxRecDepth 100000 in
set_option maxHeartbeats 1000000 in
theorem appendSeq_c (bx b : Nat) (L : List Pt) (w : World) (hB : Row1 w bx 82 [.map (some b)]) (hM : MapAt dM w b L) (hlen : L.length ≤ 1000000) :
    Calls Try.prog 84 #[.slice none 0 0, .func (.func 85) #[] #[.pointer (some ⟨bx, 0, none⟩)]] w fun e w' => ∃ v xs, e = .returned v ∧ L.Perm xs ∧ OwnI w' w.heap.size v (xs.map Pt.at_) ∧ Below w.heap.size w w' := by
  have hbx := hB.lt
  have HM := hid hM
  clear hM
  refine (callsIn_wide (n := 10)).1 ?_
  refine callsIn_of_wp_marks Try.func84 rfl trivial ?_ rfl
  refine (wpIn_wide (n := 10)).2 ?_
  simp only [Try.ntmps84, List.size_toArray, List.length_cons, List.length_nil, Nat.reduceAdd, Nat.reduceSub, Array.replicate_succ, Array.replicate_zero, List.push_toArray, List.append_toArray, List.nil_append, List.cons_append]
  go_wp2
  have hR0 := row1_new w [.slice none 0 0] 47
  have hb0 := below_alloc w (.cells #[.slice none 0 0] 47)
  have hz0 : (w.alloc (.cells #[.slice none 0 0] 47)).heap.size = w.heap.size + 1 := by simp
  generalize w.alloc (.cells #[.slice none 0 0] 47) = w1 at *
  have hsz1 : w.heap.size ≤ w1.heap.size := by omega
  have hgb1 : w.heap.size < w1.heap.size := by omega
  clear hz0
  have hI0 : ApI w w.heap.size [] w1 := ⟨hb0, _, hR0, OwnI.nil _ _⟩
  have hB1 := hB.below hb0
  have hM1 := HM.out.below hb0
  clear hB hR0 hb0
  refine (wpIn_wide (n := 10)).1 ?_
  refine wpIn_rangeMap (n := 10) rfl (by decide) (gf := 85) (lb := #[.pointer (some ⟨bx, 0, none⟩)]) rfl trivial (enters_of Try.func85 (by kernel_rfl) rfl) (encs := fun y : Pt => #[.int .i64 y.1]) (fun _ => rfl)
    (fun pre W => ApI w w.heap.size (pre.map Pt.at_) W) (fun pre y => y ∈ L ∧ pre.length < L.length) (fun xs => L.Perm xs) ?hI hI0 ?it (fun x a' W => a' = { tmps := #[.slice none 0 0, .func (.func 85) #[] #[.pointer (some ⟨bx, 0, none⟩)], .pointer (some ⟨w.heap.size, 0, none⟩), undef, .slice none 0 0, .int .i64 x.1, .func (.func 85) #[] #[.pointer (some ⟨bx, 0, none⟩)], .int .i64 x.1, undef, undef, undef, undef, undef], defers := [] }) ?hAx ?assign ?body ?done
  case hI =>
    intro xs A C hA h ht
    obtain ⟨h1, v, h2, h3⟩ := h
    exact ⟨(ht.mono hsz1).past h1 (Nat.le_trans hsz1 hA), v, ht.row h2, ht.ownsRow h3⟩
  case it =>
    intro lp J W hW hJ hY h0
    exact callsIn_wide.2 ((keys1_c bx b L lp 8 W J hJ (fun pre x A hA hj hx hl => hY pre x A hA hj ⟨hx, hl⟩) (hB1.below hW) (hM1.below hW) h0).mono fun e w' h => h)
  case hAx => exact fun x a' A C hA h ht => h
  case assign =>
    intro lp pre x W K hW hI hOk hK
    gi_wp2
    exact hK _ _ (Below.refl _ _) rfl
  case body =>
    rintro lp pre x a' A hA ⟨hb, v, hR, hO⟩ ⟨hx, hl⟩ rfl
    have c0 := hR.cell (k := 0) rfl
    have f0 := hR.frozen 0
    have hlb : pre.length + 1 ≤ 1000000 := by omega
    have hlt := hR.lt
    have hO' := hO.keep (w' := A.alloc (.cells #[.int .i64 x.1] 3)) fun g hg => Below.heap_alloc A _ g (hO.block g hg).2
    obtain ⟨i0, hi, hz0, hz1, hz2⟩ := info_parts info_int
    clear hx hl
    have hR' := hR.alloc (.cells #[.int .i64 x.1] 3)
    have HNE := hid (hO'.ne_row hR' (by decide))
    have HC := hid hO'.cells
    have HLN := hid (show (pre.map Pt.at_).length = pre.length from List.length_map ..)
    have HO' := hid hO'
    clear hO hO'
    gi_wp2_with (gi_at_builtin; refine wpListIn_append_own _ rfl _ _ 47 rfl w.heap.size 3 i0 (.int .i64 0) 1 8 Try.underlying47 hi hz0 hz1 hz2 rfl (by decide) v (pre.map Pt.at_).length ((pre.map Pt.at_).map (Value.int .i64)) rfl HO'.out ⟨A.heap.size, 0, none⟩ 1 1 [.int .i64 x.1] rfl rfl (news_one A x.1) (by simp [Value.oneCell']) (by rw [HLN.out]; unfold maxLen; omega) (by rw [HLN.out]; omega) (by simp; omega) ?_; intro v' A2 hO2 hg2 _; obtain ⟨g', cap', rfl⟩ := ownsRow_succ hO2; have hR2 := hR'.keep (hg2.block _ (by simp; omega) (fun e => HNE.out _ e.symm rfl)); have c2 := hR2.cell (k := 0) rfl; have f2 := hR2.frozen 0)
    have hO3 : OwnI A2 w.heap.size (.slice (some ⟨g', 0, none⟩) ((pre.map Pt.at_).length + 1) cap') ((pre ++ [x]).map Pt.at_) := by
      unfold OwnI
      rw [List.map_append, List.map_append, List.length_append]
      exact hO2
    rw [HLN.out] at hO3
    have hB2 : Below w.heap.size w A2 := (hb.alloc hb.size _).grown hg2 (by simp; omega) fun k e => (HO'.out.block k e).1
    refine ⟨rfl, ((KeepsOthers.alloc _ _).trans (KeepsOthers.of_grownBy hg2 HC.out)).trans (KeepsOthers.setCell _ _ _), trivial, ?_, hB2.setCell (p := ⟨w.heap.size, 0, none⟩) (Nat.le_refl _) _, _, hR2.set 0 _, hO3.keep fun g hg => Below.heap_setCell A2 ⟨w.heap.size, 0, none⟩ _ g (hO3.ne_row hR2 (by decide) g hg)⟩
    have := hg2.size
    simp at this ⊢
    omega
  case done =>
    rintro D xs A hD hS ⟨hb, v, hR, hO⟩ hK
    have c0 := hR.cell (k := 0) rfl
    go_wp2
    refine ⟨by simp, .inl ⟨_, _, rfl, run_takeDeferred hK, ?_⟩⟩
    refine ⟨_, results_tmp rfl _ _ _, v, xs, rfl, hS, ?_, ?_⟩
    · exact (Turns.put (B := w.heap.size) _ hK rfl (by omega)).ownsRow hO
    · exact (Turns.put (B := w.heap.size) _ hK rfl (by omega)).past hb hb.size
end Go.Proofs.Ythllhnjbddpeoaa
