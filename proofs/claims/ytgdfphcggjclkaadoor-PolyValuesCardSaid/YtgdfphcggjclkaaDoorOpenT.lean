/-
  The rows' first step: what the arguments are; and their last: that they stay.
-/
import Derived.Test.YtgdfphcggjclkaaDoorJoinT
import Derived.Test.YtgdfphcggjclkaaDoorCore
import Derived.Carry
import Derived.Deep.Matrix
import Derived.Deep.Fields
namespace Go.Proofs.YtgdfphcggjclkaaDoor
open Go.ChangeShapes Go.WideShapes Go.ChangeAt Go.RowKit Go.Deep

theorem Tryd.laidOut : laidOutB Tryd.prog = true := by kernel_rfl

section
variable {H : Type} {enc : TypeId × Value → H} {P : Program}

/-- types that may be read again. -/
def again (P : Program) (ts : List TypeId) : Bool := ts.all fun t => P.readableRec t && decide (t < P.types.size)

theorem trodAll_below (hl : laidOutB P = true) {W W' : World} (hb : Below W.heap.size W W') : ∀ {ts : List TypeId} {vs : List Value} {ds : List (DataW H)} {ps : List MemPlace}, again P ts = true →
    DataW.TrodAll enc P W 0 (fun _ => true) true ts vs ds ps → (∀ x ∈ ps, x.block < W.heap.size) → DataW.TrodAll enc P W' 0 (fun b => decide (b < W.heap.size)) true ts vs ds ps
  | [], [], [], _, _, h, _ => h
  | t :: ts, v :: vs, d :: ds, _, ht, ⟨p, q, h1, h2, rfl⟩, hlt => by
    simp only [again, List.all_cons, Bool.and_eq_true, decide_eq_true_eq] at ht
    exact ⟨p, q, Below.trod hl ht.1.1 ht.1.2 h1 hb fun x hx => hlt x (List.mem_append_left _ hx),
      trodAll_below hl hb (by simpa only [again, Bool.and_eq_true, decide_eq_true_eq] using ht.2) h2 fun x hx => hlt x (List.mem_append_right _ hx), rfl⟩
  | [], [], _ :: _, _, _, h, _ => h.elim
  | [], _ :: _, _, _, _, h, _ => h.elim
  | _ :: _, [], _, _, _, h, _ => h.elim
  | _ :: _, _ :: _, [], _, _, h, _ => h.elim

/-- a law that answers true, and leaves all that was there. -/
theorem post_true {f : Func} {s : ChangeSpec} {fresh handsOn : Bool} {W W' : World} {args : Array Value} {ds gs : List (DataW H)} {before : List MemPlace} {tb : TypeId}
    (hW : DataW.Whole enc P f.params.toList s.vars false W args.toList ds gs before) (hb : Below W.heap.size W W') (hl : laidOutB P = true) (hts : again P f.params.toList = true) (hv : s.vars = [])
    (hr : (s.fn H (ds ++ gs)).results = [.lit (.bool true)]) (ha : (s.fn H (ds ++ gs)).args = ds) (hvs : (s.fn H (ds ++ gs)).vars = []) (hrt : f.resultTypes = #[tb]) (htb : P.underlying tb = some .bool) :
    s.post enc P f false fresh handsOn false W args (.bool true) W' := by
  have hlt := hW.lt
  have hW2 := hW
  obtain ⟨p, q, hA, hV, rfl, _⟩ := hW2
  rw [hv] at hV
  obtain ⟨rfl, rfl⟩ := trodVars_none hV
  rw [List.append_nil] at hlt
  have hA' := trodAll_below hl hb hts hA hlt
  refine ⟨ds, [], p ++ [], [], p, [], hW, ?_, ?_, ?_, World.keptBut_mono (fun x hx => ⟨hx, .inr (.inl (by simpa using hx))⟩) (hb.frame (· ∈ p ++ [])), fun h => by cases h⟩
  · rw [hr, hrt]
    exact trodAll_mk1 (shut_bool htb true)
  · rw [ha]; exact hA'
  · rw [hvs, hv]; exact rfl

theorem trodAll_more {w : World} {base : Nat} {spare : Nat → Bool} {held : Bool} {t : TypeId} {ts : List TypeId} {vs : List Value} {ds : List (DataW H)} {ps : List MemPlace} (h : DataW.TrodAll enc P w base spare held (t :: ts) vs ds ps) :
    ∃ v vs' d ds' p q, vs = v :: vs' ∧ ds = d :: ds' ∧ ps = p ++ q ∧ DataW.Trod enc P w base spare held t v d p ∧ DataW.TrodAll enc P w base spare held ts vs' ds' q := by
  cases vs with
  | nil => cases ds <;> exact h.elim
  | cons v vs' =>
    cases ds with
    | nil => exact h.elim
    | cons d ds' =>
      obtain ⟨p, q, h1, h2, rfl⟩ := h
      exact ⟨v, vs', d, ds', p, q, rfl, rfl, rfl, h1, h2⟩
theorem trodAll_end {w : World} {base : Nat} {spare : Nat → Bool} {held : Bool} {vs : List Value} {ds : List (DataW H)} {ps : List MemPlace} (h : DataW.TrodAll enc P w base spare held [] vs ds ps) : vs = [] ∧ ds = [] ∧ ps = [] := by
  cases vs <;> cases ds <;> first | exact ⟨rfl, rfl, h⟩ | exact h.elim
theorem trodAll_five' {w : World} {base : Nat} {spare : Nat → Bool} {held : Bool} {t0 t1 t2 t3 t4 : TypeId} {args : Array Value} {ds : List (DataW H)} {ps : List MemPlace} (h : DataW.TrodAll enc P w base spare held [t0, t1, t2, t3, t4] args.toList ds ps) :
    ∃ v0 v1 v2 v3 v4 d0 d1 d2 d3 d4 p0 p1 p2 p3 p4, args = #[v0, v1, v2, v3, v4] ∧ ds = [d0, d1, d2, d3, d4] ∧ ps = p0 ++ (p1 ++ (p2 ++ (p3 ++ p4))) ∧ DataW.Trod enc P w base spare held t0 v0 d0 p0 ∧ DataW.Trod enc P w base spare held t1 v1 d1 p1 ∧
      DataW.Trod enc P w base spare held t2 v2 d2 p2 ∧ DataW.Trod enc P w base spare held t3 v3 d3 p3 ∧ DataW.Trod enc P w base spare held t4 v4 d4 p4 := by
  obtain ⟨l⟩ := args
  obtain ⟨v0, l0, d0, e0, p0, q0, rfl, rfl, rfl, h0, h⟩ := trodAll_more h
  obtain ⟨v1, l1, d1, e1, p1, q1, rfl, rfl, rfl, h1, h⟩ := trodAll_more h
  obtain ⟨v2, l2, d2, e2, p2, q2, rfl, rfl, rfl, h2, h⟩ := trodAll_more h
  obtain ⟨v3, l3, d3, e3, p3, q3, rfl, rfl, rfl, h3, h⟩ := trodAll_more h
  obtain ⟨v4, l4, d4, e4, p4, q4, rfl, rfl, rfl, h4, h⟩ := trodAll_more h
  obtain ⟨rfl, rfl, rfl⟩ := trodAll_end h
  exact ⟨v0, v1, v2, v3, v4, d0, d1, d2, d3, d4, p0, p1, p2, p3, p4, rfl, rfl, by rw [List.append_nil], h0, h1, h2, h3, h4⟩

theorem spot_none {w : World} {a : Addr} {u : Value} (h : w.cell? a = some u) : a.spot = none := by
  unfold World.cell? at h
  split at h
  · split at h
    · cases h
    · rename_i hs; simpa using hs
  · cases h

/-- a row of numbers. -/
theorem nums_at {t e : TypeId} {k : IntKind} {fuel : Nat} {v : Value} {x : DataW H × List MemPlace} {w : World} (ht : P.underlying t = some (.slice e)) (he : P.underlying e = some (.int k)) (hc : P.cellsOf e = 1)
    (h : DataW.trod enc P w 0 (fun _ => true) true fuel t [v] = some x) : ∃ (A : Option Addr) (l : List Int) (c : Nat), v = .slice A l.length c ∧ Cells w A (l.map (.int k)) ∧ l.length ≤ 9223372036854775807 ∧ ∀ n ∈ l, (Lit.int k n).wf = true := by
  rcases open_ints ht he hc h with ⟨h1, _⟩ | ⟨a, len, cap, zs, h1, _, hl, hm, hz, _, hcell, hw⟩
  · simp only [List.cons.injEq, and_true] at h1
    exact ⟨none, [], 0, h1, .inl rfl, by simp, by simp⟩
  · simp only [List.cons.injEq, and_true] at h1
    simp only [if_true] at hz
    have hlen : (zs.take len).length = len := by simp; omega
    refine ⟨some a, zs.take len, cap, by rw [hlen]; exact h1, ?_, by rw [hlen]; unfold maxLen at hm; omega, fun n hn => hw n (List.mem_of_mem_take hn)⟩
    cases len with
    | zero => exact .inl (by simp)
    | succ len =>
      right
      have h0 := hcell 0 (by omega)
      have ha0 : a.add 0 = a := rfl
      rw [ha0] at h0
      have hs := spot_none h0
      refine ⟨a.block, a.off, by cases a; simp only at hs; subst hs; rfl, fun i u hu => ?_⟩
      rw [List.getElem?_map, List.getElem?_take] at hu
      split at hu
      · rename_i hi
        have h2 := hcell i (by omega)
        have hadd : a.add i = ⟨a.block, a.off + i, none⟩ := by
          unfold Addr.add
          split
          · rename_i h3; subst h3; cases a; simp only at hs; subst hs; rfl
          · rfl
        rw [hadd] at h2
        rw [h2]
        rw [List.getD_eq_getElem?_getD] 
        have hi2 : i < zs.length := by omega
        rw [List.getElem?_eq_getElem hi2] at hu ⊢
        simpa using hu
      · simp at hu

/-- a row of rows of numbers. -/
theorem rows_at {t e q : TypeId} {k : IntKind} {fuel : Nat} {v : Value} {x : DataW H × List MemPlace} {w : World} (ht : P.underlying t = some (.slice e)) (he : P.underlying e = some (.slice q)) (hq : P.underlying q = some (.int k))
    (ce : P.cellsOf e = 1) (cq : P.cellsOf q = 1) (h : DataW.trod enc P w 0 (fun _ => true) true fuel t [v] = some x) :
    ∃ (A : Option Addr) (f : List (List Int)) (c : Nat), v = .slice A f.length c ∧ f.length ≤ 9223372036854775807 ∧ (∀ l ∈ f, ∀ n ∈ l, (Lit.int k n).wf = true) ∧
      ∃ vs : List Value, Cells w A vs ∧ vs.length = f.length ∧ ∀ (i : Nat) (l : List Int), f[i]? = some l → ∃ v, vs[i]? = some v ∧ ∃ A' c', v = .slice A' l.length c' ∧ Cells w A' (l.map (.int k)) ∧ l.length ≤ 9223372036854775807 := by
  rcases open_int_rows ht he hq ce cq h with ⟨h1, _⟩ | ⟨a, len, cap, A, L, C, Z, h1, _, hl, hm, _, hrow⟩
  · simp only [List.cons.injEq, and_true] at h1
    exact ⟨none, [], 0, h1, by simp, by simp, [], .inl rfl, rfl, fun i l hl => by simp at hl⟩
  · simp only [List.cons.injEq, and_true] at h1
    have hlen : ((List.range len).map fun r => (Z r).take (L r)).length = len := by simp
    refine ⟨some a, (List.range len).map fun r => (Z r).take (L r), cap, by rw [hlen]; exact h1, by rw [hlen]; unfold maxLen at hm; omega, fun l hl n hn => ?_, (List.range len).map fun r => .slice (A r) (L r) (C r), ?_, by simp, fun i l hl2 => ?_⟩
    · obtain ⟨r, hr, rfl⟩ := List.mem_map.1 hl
      exact (hrow r (by have := List.mem_range.1 hr; omega)).2.2.2.2.1 n (List.mem_of_mem_take hn)
    · cases len with
      | zero => exact .inl (by simp)
      | succ len =>
        right
        have h0 := (hrow 0 (by omega)).1
        have ha0 : a.add 0 = a := rfl
        rw [ha0] at h0
        have hs := spot_none h0
        refine ⟨a.block, a.off, by cases a; simp only at hs; subst hs; rfl, fun i u hu => ?_⟩
        have hi : i < len + 1 := by
          have := (List.getElem?_eq_some_iff.1 hu).1; simpa using this
        rw [List.getElem?_map, List.getElem?_range hi] at hu
        simp only [Option.map_some, Option.some.injEq] at hu
        subst hu
        have h2 := (hrow i (by omega)).1
        have hadd : a.add i = ⟨a.block, a.off + i, none⟩ := by
          unfold Addr.add
          split
          · rename_i h3; subst h3; cases a; simp only at hs; subst hs; rfl
          · rfl
        rw [hadd] at h2
        exact h2
    · have hi : i < len := by
        have := (List.getElem?_eq_some_iff.1 hl2).1; simpa using this
      rw [List.getElem?_map, List.getElem?_range hi] at hl2
      simp only [Option.map_some, Option.some.injEq] at hl2
      subst hl2
      obtain ⟨_, r1, r2, r3, r4, r5, r6⟩ := hrow i (by omega)
      have hll : ((Z i).take (L i)).length = L i := by simp; omega
      refine ⟨_, by rw [List.getElem?_map, List.getElem?_range hi]; rfl, A i, C i, by rw [hll], ?_, by rw [hll]; unfold maxLen at r2; omega⟩
      cases hAi : A i with
      | none =>
        have := r5 hAi
        exact .inl (by simp [show L i = 0 by omega])
      | some a' =>
        obtain ⟨_, hc⟩ := r6 a' hAi
        cases hL : L i with
        | zero => exact .inl (by simp)
        | succ m =>
          right
          have h0 := hc 0 (by omega)
          have ha0 : a'.add 0 = a' := rfl
          rw [ha0] at h0
          have hs := spot_none h0
          refine ⟨a'.block, a'.off, by cases a'; simp only at hs; subst hs; rfl, fun j u hu => ?_⟩
          rw [List.getElem?_map, List.getElem?_take] at hu
          split at hu
          · rename_i hj
            have h2 := hc j (by omega)
            have hadd : a'.add j = ⟨a'.block, a'.off + j, none⟩ := by
              unfold Addr.add
              split
              · rename_i h3; subst h3; cases a'; simp only at hs; subst hs; rfl
              · rfl
            rw [hadd] at h2
            rw [h2, List.getD_eq_getElem?_getD]
            have hj2 : j < (Z i).length := by omega
            rw [List.getElem?_eq_getElem hj2] at hu ⊢
            simpa using hu
          · simp at hu

/-- a struct of fields of one cell each, by value. -/
theorem fields_at {r : Reach} {b0 : Nat} {t : TypeId} {fs : Array Field} {v : Value} {d : DataW H} {p : List MemPlace} {w : World} {base : Nat} {spare : Nat → Bool} {held : Bool} (hs : P.underlying t = some (.struct fs)) (hone : oneCellFields P fs = true) (hC : P.cellsOf t = fs.size)
    (hv : Value.okWide P w r b0 t v) (h : DataW.Trod enc P w base spare held t v d p) :
    ∃ (cs : List Value) (n : Nat), v = .agg cs.toArray ∧ cs.length = fs.size ∧ ∀ (j : Nat) (f : Field) (c : Value), fs[j]? = some f → cs[j]? = some c → ∃ y, DataW.trod enc P w base spare held n f.type [c] = some y := by
  obtain ⟨cs, rfl, hsz⟩ := okWide_struct hs hv
  obtain ⟨l⟩ := cs
  obtain ⟨fuel, hf⟩ := h
  obtain ⟨xs, n, _, _, _, hlen, hg⟩ := DataW.trod_struct hs hf
  refine ⟨l, n, rfl, by simpa [hC] using hsz, fun j f c hj hc => ?_⟩
  obtain ⟨h1, h2⟩ := hone_of hone j f hj
  have h3 := hg j f hj
  have hjl : j < fs.size := (Array.getElem?_eq_some_iff.1 hj).1
  have hll : l.length = fs.size := by simpa [hC] using hsz
  have h4 : (l.drop j).take 1 = [c] := by
    rw [List.drop_eq_getElem_cons (by omega)]
    have := (List.getElem?_eq_some_iff.1 hc).2
    rw [← this]; rfl
  have h5 : (Value.agg l.toArray).cells.toList = l := by simp [Value.cells]
  rw [h1, h2, h5, h4] at h3
  exact ⟨xs[j]'(by omega), by rw [h3]; exact List.getElem?_eq_getElem (by omega)⟩

end
end Go.Proofs.YtgdfphcggjclkaaDoor
