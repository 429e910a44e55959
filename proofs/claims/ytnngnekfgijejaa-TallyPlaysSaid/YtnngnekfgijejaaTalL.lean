/-
  All votes of a map, in whatever order: slices.Collect(maps.Values(..)).
-/
import Derived.Test.YtnngnekfgijejaaTalK
import Derived.Laws.EntriesVeiled
namespace Go.Proofs.Ytnngnekfgijejaa
open Go.RowKit Go.Maps Go.Shelf

attribute [local go_sem] Oper.semAt_some

/-- a row of votes of this call's own. -/
def OwnV (w : World) (base : Nat) (t : TypeId) (v : Value) (xs : List Vt) : Prop := w.ownsRow base t 5 v xs.length (xs.flatMap vcl)
theorem OwnV.nil (w : World) (base : Nat) (t : TypeId) : OwnV w base t (.slice none 0 0) [] := ⟨rfl, .inl ⟨rfl, rfl⟩⟩
theorem OwnV.block {w : World} {base : Nat} {t : TypeId} {v : Value} {xs : List Vt} (h : OwnV w base t v xs) : ∀ g, v.ownBlock = some g → base ≤ g ∧ g < w.heap.size := World.ownsRow.lt h
theorem OwnV.keep {w w' : World} {base : Nat} {t : TypeId} {v : Value} {xs : List Vt} (h : OwnV w base t v xs) (hk : ∀ g, v.ownBlock = some g → w'.heap[g]? = w.heap[g]?) : OwnV w' base t v xs := by
  refine ⟨h.1, ?_⟩
  rcases h.2 with hn | ⟨g, cap, cur, rfl, hb, hg, rest⟩
  · exact .inl hn
  · exact .inr ⟨g, cap, cur, rfl, hb, (hk g rfl).trans hg, rest⟩
theorem OwnV.below {w w' : World} {base : Nat} {t : TypeId} {v : Value} {xs : List Vt} (h : OwnV w base t v xs) (hb : Below w.heap.size w w') : OwnV w' base t v xs := h.keep fun g hg => hb.block g (h.block g hg).2
theorem OwnV.from_ {w : World} {base b : Nat} {t : TypeId} {v : Value} {xs : List Vt} (h : OwnV w base t v xs) (hb : b ≤ base) : OwnV w b t v xs := by
  refine ⟨h.1, ?_⟩
  rcases h.2 with hn | ⟨g, cap, cur, rfl, hg, rest⟩
  · exact .inl hn
  · exact .inr ⟨g, cap, cur, rfl, Nat.le_trans hb hg, rest⟩

theorem info_vote : (Try.prog.info? 30).map (fun i => (i.zero, i.size, i.bytes)) = some (some (vval zeroVt), 5, 48) := by kernel_rfl
theorem news_five (A : World) (x : Vt) (e : TypeId) : ∀ j u, (vcl x)[j]? = some u → (A.alloc (.cells #[.int .i64 x.fr, .int .i64 x.rd, .int .u8 x.kd, .int .i64 x.va, .string x.tx] e)).cell? ((⟨A.heap.size, 0, none⟩ : Addr).add j) = some u := by
  intro j u hu
  have h := (row1_new A (vcl x) e).cell hu
  have hadd : (⟨A.heap.size, 0, none⟩ : Addr).add j = ⟨A.heap.size, j, none⟩ := by unfold Addr.add; split <;> simp_all
  rw [hadd]
  exact h
theorem one_five (x : Vt) : ∀ u ∈ vcl x, u.oneCell' = true := by
  intro u hu
  simp only [vcl, List.mem_cons, List.not_mem_nil, or_false] at hu
  rcases hu with rfl | rfl | rfl | rfl | rfl <;> rfl
theorem OwnV.ne_row {w : World} {base g : Nat} {t e : TypeId} {v : Value} {xs : List Vt} {ys : List Value} (h : OwnV w base t v xs) (hr : Row1 w g e ys) (he : e ≠ t) : ∀ g', v.ownBlock = some g' → g' ≠ g := by
  intro g' hg' e1
  rcases h.2 with ⟨rfl, _⟩ | ⟨g2, cap, cur, rfl, _, h3, _⟩
  · cases hg'
  · simp only [Value.ownBlock, Option.some.injEq] at hg'
    subst hg' e1
    unfold Row1 at hr
    rw [hr] at h3
    simp only [Option.some.injEq, Obj.cells.injEq] at h3
    exact he h3.2.1
theorem OwnV.cells {w : World} {base : Nat} {t : TypeId} {v : Value} {xs : List Vt} (h : OwnV w base t v xs) : ∀ (j : Nat) (o : Obj), v.ownBlock = some j → w.heap[j]? = some o → o.isCells = true := by
  intro j o hj ho
  rcases h.2 with ⟨rfl, _⟩ | ⟨g2, cap, cur, rfl, _, h3, _⟩
  · cases hj
  · simp only [Value.ownBlock, Option.some.injEq] at hj
    subst hj
    rw [h3] at ho
    obtain rfl := Option.some.inj ho
    rfl
theorem OwnV.far {w : World} {base : Nat} {t : TypeId} {v : Value} {xs : List Vt} (h : OwnV w base t v xs) {p : Addr} (hp : ∀ g, v.ownBlock = some g → g ≠ p.block) (u : Value) : OwnV (w.setCell p u) base t v xs :=
  h.keep fun g hg => Below.heap_setCell w p u g (hp g hg)
/-- between two rounds of AppendSeq: gb the box. -/
structure ApI (w0 : World) (gb : Nat) (pre : List Vt) (w : World) : Prop where
  b : Below w0.heap.size w0 w
  own : ∃ v, Row1 w gb 22 [v] ∧ OwnV w w0.heap.size 30 v pre

set_option maxRecDepth 100000 in
set_option maxHeartbeats 1000000 in
theorem appendSeq_c (bx b : Nat) (L : List Vt) (w : World) (hB : Row1 w bx 68 [.map (some b)]) (hM : MapAt tM w b L) (hlen : L.length ≤ 10000) :
    Calls Try.prog 56 #[.slice none 0 0, .func (.func 52) #[] #[.pointer (some ⟨bx, 0, none⟩)]] w fun e w' => ∃ v xs, e = .returned v ∧ L.Perm xs ∧ OwnV w' w.heap.size 30 v xs ∧ Below w.heap.size w w' := by
  have hbx := hB.lt
  have HM := hid hM
  clear hM
  refine (callsIn_wide (n := 10)).1 ?_
  refine callsIn_of_wp_marks Try.func56 rfl trivial ?_ rfl
  refine (wpIn_wide (n := 10)).2 ?_
  simp only [Try.ntmps56, List.size_toArray, List.length_cons, List.length_nil, Nat.reduceAdd, Nat.reduceSub, Array.replicate_succ, Array.replicate_zero, List.push_toArray, List.append_toArray, List.nil_append, List.cons_append]
  go_wp2
  have hR0 := row1_new w [.slice none 0 0] 22
  have hb0 := below_alloc w (.cells #[.slice none 0 0] 22)
  simp only [List.toArray] at hR0
  have hz0 : (w.alloc (.cells #[.slice none 0 0] 22)).heap.size = w.heap.size + 1 := by simp
  generalize w.alloc (.cells #[.slice none 0 0] 22) = w1 at *
  have HZ := hid hz0
  have hsz1 : w.heap.size ≤ w1.heap.size := by omega
  have hgb1 : w.heap.size < w1.heap.size := by omega
  clear hz0
  have hI0 : ApI w w.heap.size [] w1 := ⟨hb0, _, hR0, OwnV.nil _ _ _⟩
  have hB1 := hB.below hb0
  have hM1 := HM.out.below hb0
  clear hB hR0 hb0
  refine (wpIn_wide (n := 10)).1 ?_
  refine wpIn_rangeMap (n := 10) rfl (by decide) (gf := 52) (lb := #[.pointer (some ⟨bx, 0, none⟩)]) rfl trivial (enters_of Try.func52 (by kernel_rfl) rfl) (encs := fun y : Vt => #[vval y]) (fun _ => rfl)
    (fun pre W => ApI w w.heap.size pre W) (fun pre y => y ∈ L ∧ pre.length < L.length) (fun xs => L.Perm xs) ?hI hI0 ?it (fun x a' W => ∃ g, Row1 W g 30 (vcl x) ∧ w.heap.size < g ∧ a' = { tmps := #[.slice none 0 0, .func (.func 52) #[] #[.pointer (some ⟨bx, 0, none⟩)], .pointer (some ⟨w.heap.size, 0, none⟩), undef, .slice none 0 0, .pointer (some ⟨g, 0, none⟩), .func (.func 52) #[] #[.pointer (some ⟨bx, 0, none⟩)], vval x, undef, undef, undef, undef, undef], defers := [] }) ?hAx ?assign ?body ?done
  case hI =>
    intro xs A C hA h ht
    obtain ⟨h1, v, h2, h3⟩ := h
    exact ⟨(ht.mono hsz1).past h1 (Nat.le_trans hsz1 hA), v, ht.row h2, ht.ownsRow h3⟩
  case it =>
    intro lp J W hW hJ hY h0
    exact callsIn_wide.2 ((values1_c bx b L lp 8 W J hJ (fun pre x A hA hj hx hl => hY pre x A hA hj ⟨hx, hl⟩) (hB1.below hW) (hM1.below hW) h0).mono fun e w' h => h)
  case hAx =>
    rintro x a' A C hA ⟨g, h1, h2, rfl⟩ ht
    exact ⟨g, ht.row h1, h2, rfl⟩
  case assign =>
    intro lp pre x W K hW hI hOk hK
    gi_wp2
    exact hK _ _ (below_alloc _ _) ⟨_, row1_new W (vcl x) _, by omega, rfl⟩
  case body =>
    rintro lp pre x a' A hA ⟨hb, v, hR, hO⟩ ⟨hx, hl⟩ ⟨g, hV, hgg, rfl⟩
    have c0 := hR.cell (k := 0) rfl
    have f0 := hR.frozen 0
    obtain ⟨d0, d1, d2, d3, d4⟩ := hV.five
    have hlb : pre.length + 1 ≤ 10000 := by omega
    have hlt := hR.lt
    have hO' := hO.below (below_alloc A (.cells (vcl x).toArray 30))
    obtain ⟨i0, hi, hz0, hz1, hz2⟩ := info_parts info_vote
    clear hx hl
    have hneb := hO'.ne_row (hR.alloc (.cells (vcl x).toArray 30)) (by decide)
    have HNE := hid hneb
    have HC := hid hO'.cells
    clear hneb hO
    gi_wp2_with (gi_at_builtin; refine wpListIn_append_own _ rfl _ _ 22 rfl w.heap.size 30 i0 (vval zeroVt) 5 48 Try.underlying22 hi hz0 hz1 hz2 rfl (by decide) _ _ _ rfl hO' ⟨A.heap.size, 0, none⟩ 1 1 (vcl x) rfl rfl (news_five A x _) (one_five x) (by unfold maxLen; omega) (by omega) (by simp; omega) ?_; intro v' A2 hO2 hg2 _; obtain ⟨g', cap', rfl⟩ := ownsRow_succ hO2; have hR2 := (hR.alloc (.cells (vcl x).toArray 30)).keep (hg2.block _ (by simp; omega) (fun e => HNE.out _ e.symm rfl)); have c2 := hR2.cell (k := 0) rfl; have f2 := hR2.frozen 0)
    have hO3 : OwnV A2 w.heap.size 30 (.slice (some ⟨g', 0, none⟩) (pre.length + 1) cap') (pre ++ [x]) := by
      unfold OwnV
      rw [List.length_append, List.flatMap_append]
      exact hO2
    have hB2 : Below w.heap.size w A2 := (hb.alloc hb.size _).grown hg2 (by simp; omega) fun k e => (hO'.block k e).1
    refine ⟨rfl, ((KeepsOthers.alloc _ _).trans (KeepsOthers.of_grownBy hg2 HC.out)).trans (KeepsOthers.setCell _ _ _), trivial, ?_, hB2.setCell (p := ⟨w.heap.size, 0, none⟩) (Nat.le_refl _) _, _, hR2.set 0 _, hO3.far (hO3.ne_row hR2 (by decide)) _⟩
    have := hg2.size
    simp at this ⊢
    omega
  case done =>
    rintro D xs A hD hS ⟨hb, v, hR, hO⟩ hK
    have c0 := hR.cell (k := 0) rfl
    go_wp2
    refine ⟨by simp, .inl ⟨_, _, rfl, run_takeDeferred hK, ?_⟩⟩
    refine ⟨_, results_tmp rfl _ _ _, v, xs, rfl, hS, ?_, ?_⟩
    · exact (Turns.put (B := w.heap.size) _ hK rfl (by omega)).ownsRow hO
    · exact (Turns.put (B := w.heap.size) _ hK rfl (by omega)).past hb hb.size
end Go.Proofs.Ytnngnekfgijejaa
