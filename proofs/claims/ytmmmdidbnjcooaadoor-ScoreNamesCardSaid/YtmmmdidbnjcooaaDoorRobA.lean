/-
  All sets of so many of some numbers: the program's, one by one, till whoever asks says stop.
-/
import Derived.Test.YtmmmdidbnjcooaaDoorRobL
import Derived.Test.YtmmmdidbnjcooaaDoorPlyC
import Derived.Test.YtmmmdidbnjcooaaDoorWays
import Derived.Test.YtmmmdidbnjcooaaDoorRoundY
namespace Go.Proofs.YtmmmdidbnjcooaaDoor
open Go.RowKit Go.Shelf

attribute [local go_sem] Oper.semAt_some

/-- all sets of m of the numbers from fr on, below n, each rising, in order. -/
def setsL : Nat → Nat → Nat → List (List Nat)
  | 0, _, _ => [[]]
  | m + 1, fr, n => (List.range' fr (n - m - fr)).flatMap fun i => (setsL m (i + 1) n).map (i :: ·)
/-- a set in new memory, or none. -/
def RowN (m n : Nat) (x : Value × List Nat) (w : World) : Prop := RowT w 3 x.1 (x.2.map fun (i : Nat) => Value.int .i64 (i : Int)) ∧ x.2.length = m ∧ ∀ i ∈ x.2, i < n
abbrev encN (x : Value × List Nat) : Array Value := #[x.1]
def SetsOk (m : Nat) : Prop := ∀ (k fr n gm gf gn N0 : Nat) (w : World), n ≤ 7 → fr ≤ 8 → N0 ≤ gm → N0 ≤ gf → N0 ≤ gn → Row1 w gm 3 [.int .i64 (m : Int)] → Row1 w gf 3 [.int .i64 (fr : Int)] → Row1 w gn 3 [.int .i64 (n : Int)] →
  SeqO Fence.wide k Tryd.prog 90 #[.pointer (some ⟨gm, 0, none⟩), .pointer (some ⟨gf, 0, none⟩), .pointer (some ⟨gn, 0, none⟩)] encN (RowN m n) (fun xs => xs.map (·.2) = setsL m fr n) (fun pre => pre ≠ [] ∧ ∃ rest, pre.map (·.2) ++ rest = setsL m fr n) N0 w
theorem sets_c (fr n m : Int) (w : World) :
    Calls Tryd.prog 58 #[.int .i64 fr, .int .i64 n, .int .i64 m] w fun e w' => ∃ gf gn gm : Nat, e = .returned (.func (.func 90) #[] #[.pointer (some ⟨gm, 0, none⟩), .pointer (some ⟨gf, 0, none⟩), .pointer (some ⟨gn, 0, none⟩)]) ∧ Row1 w' gm 3 [.int .i64 m] ∧ Row1 w' gf 3 [.int .i64 fr] ∧ Row1 w' gn 3 [.int .i64 n] ∧ w.heap.size ≤ gm ∧ w.heap.size ≤ gf ∧ w.heap.size ≤ gn ∧ Below w.heap.size w w' := by
  have h1 := row1_new w [.int .i64 fr] 3
  have h2 := row1_in (w.alloc (.cells #[.int .i64 fr] 3)) [.int .i64 n] 3 (w.heap.size + 1) (by simp)
  have h3 := row1_in ((w.alloc (.cells #[.int .i64 fr] 3)).alloc (.cells #[.int .i64 n] 3)) [.int .i64 m] 3 (w.heap.size + 1 + 1) (by simp)
  have hb := ((below_alloc w (.cells #[.int .i64 fr] 3)).alloc (by simp) (.cells #[.int .i64 n] 3)).alloc (by simp; omega) (.cells #[.int .i64 m] 3)
  go_enter Tryd.func58, Tryd.ntmps58
  go_wp2
  go_ret
  exact ⟨_, _, _, rfl, h3, (h1.alloc _).alloc _, h2.alloc _, by omega, by omega, by omega, hb⟩

/-! ### Marks on what is deferred -/
abbrev markD (D : Nat) : Deferred := { target := .collected D, args := #[] }
def Marks (N : Nat) (Ds : List Nat) (w : World) : Prop := Ds.Nodup ∧ ∀ D ∈ Ds, N ≤ D ∧ w.heap[D]? = some (.deferred (some []))
theorem Marks.nil (N : Nat) (w : World) : Marks N [] w := ⟨List.nodup_nil, fun _ h => by cases h⟩
theorem Marks.lt {N : Nat} {Ds : List Nat} {w : World} (h : Marks N Ds w) {D : Nat} (hD : D ∈ Ds) : D < w.heap.size := (Array.getElem?_eq_some_iff.1 (h.2 D hD).2).1
theorem Marks.below {N K : Nat} {Ds : List Nat} {w w' : World} (h : Marks N Ds w) (hb : Below K w w') (hK : ∀ D ∈ Ds, D < K) : Marks N Ds w' := ⟨h.1, fun D hD => ⟨(h.2 D hD).1, (hb.block D (hK D hD)).trans (h.2 D hD).2⟩⟩
theorem Marks.up {N : Nat} {Ds : List Nat} {w w' : World} (h : Marks N Ds w) (hu : Up N w w') : Marks N Ds w' := ⟨h.1, fun D hD => ⟨(h.2 D hD).1, (hu.2 D (h.2 D hD).1 (h.lt hD)).trans (h.2 D hD).2⟩⟩
theorem Marks.cons {N D : Nat} {Ds : List Nat} {w : World} (h : Marks N Ds w) (hD : w.heap[D]? = some (.deferred (some []))) (hN : N ≤ D) (hK : ∀ E ∈ Ds, E < D) : Marks N (D :: Ds) w :=
  ⟨List.nodup_cons.2 ⟨fun hm => Nat.lt_irrefl _ (hK D hm), h.1⟩, fun E hE => by
    rcases List.mem_cons.1 hE with rfl | hE
    · exact ⟨hN, hD⟩
    · exact h.2 E hE⟩
theorem leaves_marks {F : Fence} {n : Nat} {P : Program} {fn : Func} {tmps : Array Value} {R : Ending → World → Prop} {N : Nat} : ∀ (Ds : List Nat) (w : World), Marks N Ds w → (∀ w', Below N w w' → CellsUp 0 w w' → LeavesIn F n P fn tmps R [] .returning w') → LeavesInM F n P fn tmps R (Ds.map markD) .returning w
  | [], w, _, h => h w (Below.refl _ _) (CellsUp.refl _ _)
  | D :: Ds, w, hm, h => by
    obtain ⟨hN, hD⟩ := hm.2 D (List.mem_cons_self ..)
    have hlt := hm.lt (List.mem_cons_self ..)
    have hb : Below N w (w.putObj D (.deferred none)) := below_putR _ (by omega) hN
    refine ⟨by simp, .inl ⟨_, _, rfl, run_takeDeferred hD, leaves_marks Ds _ ⟨(List.nodup_cons.1 hm.1).2, fun E hE => ?_⟩ fun w' hb' hc' => h w' (hb.trans hb') ((CellsUp.put hD rfl).trans hc')⟩⟩
    obtain ⟨h1, h2⟩ := hm.2 E (List.mem_cons_of_mem _ hE)
    exact ⟨h1, (World.putObj_heap_other (fun e => (List.nodup_cons.1 hm.1).1 (by subst e; exact hE))).trans h2⟩
theorem yieldAt_wide {n m l : Nat} {P : Program} {args : Array Value} {W : World} {R : Ending → World → Prop} (k : Nat) (h : YieldAt Fence.wide n P l args W R) : YieldAt (Fence.wide.inRound k) m P l args W R := by
  obtain ⟨fn, tmps, assign, body, hy, h1, h2⟩ := h
  exact ⟨fn, tmps, assign, body, hy, h1, fun c cs _ => h2 c cs (room_wide _)⟩

theorem yieldAt_any {n m l : Nat} {P : Program} {args : Array Value} {W : World} {R : Ending → World → Prop} (h : YieldAt Fence.wide n P l args W R) : YieldAt Fence.wide m P l args W R := by
  obtain ⟨fn, tmps, assign, body, hy, h1, h2⟩ := h
  exact ⟨fn, tmps, assign, body, hy, h1, fun c cs _ => h2 c cs (room_wide _)⟩

/-- the sets that begin by less than i. -/
def upto (m fr n i : Nat) : List (List Nat) := (List.range' fr (i - fr)).flatMap fun i => (setsL m (i + 1) n).map (i :: ·)
theorem upto_start (m fr n : Nat) : upto m fr n fr = [] := by simp [upto]
theorem upto_next {m fr n i : Nat} (h : fr ≤ i) : upto m fr n (i + 1) = upto m fr n i ++ (setsL m (i + 1) n).map (i :: ·) := by
  unfold upto
  rw [show i + 1 - fr = (i - fr) + 1 by omega, List.range'_concat, List.flatMap_append]
  simp only [List.flatMap_cons, List.flatMap_nil, List.append_nil, Nat.one_mul]
  rw [show fr + (i - fr) = i by omega]
theorem upto_end (m fr n : Nat) : upto m fr n (fr + (n - m - fr)) = setsL (m + 1) fr n := by
  unfold upto
  rw [setsL, show fr + (n - m - fr) - fr = n - m - fr by omega]
theorem upto_more {m fr n i : Nat} (h : fr ≤ i) (h2 : i ≤ fr + (n - m - fr)) : ∃ rest, upto m fr n i ++ rest = setsL (m + 1) fr n := by
  refine ⟨(List.range' i (fr + (n - m - fr) - i)).flatMap fun i => (setsL m (i + 1) n).map (i :: ·), ?_⟩
  rw [← upto_end]
  unfold upto
  rw [← List.flatMap_append]
  have e : List.range' fr (i - fr) ++ List.range' i (fr + (n - m - fr) - i) = List.range' fr (fr + (n - m - fr) - fr) := by
    have := @List.range'_append_1 fr (i - fr) (fr + (n - m - fr) - i)
    rw [show fr + (i - fr) = i by omega, show i - fr + (fr + (n - m - fr) - i) = fr + (n - m - fr) - fr by omega] at this
    exact this
  rw [e]
/-- the state of the walk through the sets. -/
structure St1 (m fr n gm gf gn gy g5 i l N0 : Nat) (Wz K : Nat) (Ds : List Nat) (A : World) : Prop where
  M : Row1 A gm 3 [.int .i64 ((m : Int) + 1)]
  F : Row1 A gf 3 [.int .i64 (fr : Int)]
  N : Row1 A gn 3 [.int .i64 (n : Int)]
  Y : Row1 A gy 136 [.func (.yield l) #[] #[]]
  I : Row1 A g5 3 [.int .i64 (i : Int)]
  m0 : N0 ≤ gm ∧ N0 ≤ gf ∧ N0 ≤ gn
  y0 : Wz ≤ gy ∧ Wz ≤ g5
  k0 : gm < K ∧ gf < K ∧ gn < K ∧ gy < K ∧ g5 < K ∧ ∀ D ∈ Ds, D < K
  kz : K ≤ A.heap.size
  wz : Wz ≤ A.heap.size
  D : Marks Wz Ds A
section
variable {m fr n gm gf gn gy g5 i l N0 : Nat} {Wz K : Nat} {Ds : List Nat} {A B : World}
theorem St1.below (h : St1 m fr n gm gf gn gy g5 i l N0 Wz K Ds A) (hb : Below K A B) : St1 m fr n gm gf gn gy g5 i l N0 Wz K Ds B :=
  ⟨h.M.keep (hb.block _ h.k0.1), h.F.keep (hb.block _ h.k0.2.1), h.N.keep (hb.block _ h.k0.2.2.1), h.Y.keep (hb.block _ h.k0.2.2.2.1), h.I.keep (hb.block _ h.k0.2.2.2.2.1), h.m0, h.y0, h.k0, Nat.le_trans h.kz hb.size, Nat.le_trans h.wz hb.size, h.D.below hb h.k0.2.2.2.2.2⟩
theorem St1.up (h : St1 m fr n gm gf gn gy g5 i l N0 Wz K Ds A) (hu : Up Wz A B) (hc : CellsUp N0 A B) : St1 m fr n gm gf gn gy g5 i l N0 Wz K Ds B :=
  ⟨h.M.up hc h.m0.1, h.F.up hc h.m0.2.1, h.N.up hc h.m0.2.2, h.Y.up (.of_up hu) h.y0.1, h.I.up (.of_up hu) h.y0.2, h.m0, h.y0, h.k0, Nat.le_trans h.kz hu.1, Nat.le_trans h.wz hu.1, h.D.up hu⟩
theorem St1.raise (h : St1 m fr n gm gf gn gy g5 i l N0 Wz K Ds A) : St1 m fr n gm gf gn gy g5 i l N0 Wz A.heap.size Ds A :=
  ⟨h.M, h.F, h.N, h.Y, h.I, h.m0, h.y0, ⟨h.M.lt, h.F.lt, h.N.lt, h.Y.lt, h.I.lt, fun D hD => h.D.lt hD⟩, Nat.le_refl _, h.wz, h.D⟩
end
def cellM (n : Nat) (v : Value) (w : World) : Nat := match v with
  | .pointer (some p) => n + 20 - (intOf ((w.cell? p).getD (.int .i64 0))).toNat
  | _ => 0
theorem cellM_at {n g i : Nat} {w : World} (h : Row1 w g 3 [.int .i64 (i : Int)]) : cellM n (.pointer (some ⟨g, 0, none⟩)) w = n + 20 - i := by
  have c := h.cell (k := 0) rfl
  simp [cellM, c, intOf]
theorem elt_int : Elt Tryd.prog 46 3 (.int .i64 0) 8 := .of Tryd.underlying46 (by kernel_rfl) rfl
abbrev frm1 (l gm gf gn gy g5 : Nat) (m fr : Nat) (u : Nat → Value) (Ds : List Nat) : Act :=
  { tmps := #[.func (.yield l) #[] #[], .pointer (some ⟨gm, 0, none⟩), .pointer (some ⟨gf, 0, none⟩), .pointer (some ⟨gn, 0, none⟩), .pointer (some ⟨gy, 0, none⟩), .pointer (some ⟨g5, 0, none⟩), u 6, .int .i64 ((m : Int) + 1), u 8, undef, undef, .int .i64 (fr : Int), u 12, u 13, u 14, u 15, u 16, u 17, u 18, u 19, u 20, u 21, u 22, u 23, u 24, u 25, u 26, u 27, u 28, u 29, u 30, u 31, u 32, u 33], defers := Ds.map markD }
theorem frm_of {l gm gf gn gy g5 m fr : Nat} {Ds : List Nat} (x6 x8 x12 x13 x14 x15 x16 x17 x18 x19 x20 x21 x22 x23 x24 x25 x26 x27 x28 x29 x30 x31 x32 x33 : Value) : ∃ u, ({ tmps := #[.func (.yield l) #[] #[], .pointer (some ⟨gm, 0, none⟩), .pointer (some ⟨gf, 0, none⟩), .pointer (some ⟨gn, 0, none⟩), .pointer (some ⟨gy, 0, none⟩), .pointer (some ⟨g5, 0, none⟩), x6, .int .i64 ((m : Int) + 1), x8, undef, undef, .int .i64 (fr : Int), x12, x13, x14, x15, x16, x17, x18, x19, x20, x21, x22, x23, x24, x25, x26, x27, x28, x29, x30, x31, x32, x33], defers := Ds.map markD } : Act) = frm1 l gm gf gn gy g5 m fr u Ds :=
  ⟨fun j => match j with | 6 => x6 | 8 => x8 | 12 => x12 | 13 => x13 | 14 => x14 | 15 => x15 | 16 => x16 | 17 => x17 | 18 => x18 | 19 => x19 | 20 => x20 | 21 => x21 | 22 => x22 | 23 => x23 | 24 => x24 | 25 => x25 | 26 => x26 | 27 => x27 | 28 => x28 | 29 => x29 | 30 => x30 | 31 => x31 | 32 => x32 | 33 => x33 | _ => undef, rfl⟩
theorem wpList_appends_nil {P : Program} {t e : TypeId} {z : Value} {bytes : Nat} (E : Elt P t e z bytes) (wr : World) {ops : Array Oper} {rest : List Oper} {o : Oper} {a : Act} {Q : Exit → Act → World → Prop}
    (hg : o.guard = none) (s x : Operand) (hop : o.op = .call { callee := .builtin .append, args := #[s, x], argTypes := #[t, t] })
    (base : Nat) {v : Value} {xs : List Value} (hown : Own wr base e v xs) (hs : a.eval s = v) {c : Nat} (hx : a.eval x = .slice none 0 c) (h : wpList P ops Q rest (a.put o.dst v) wr) : wpList P ops Q (o :: rest) a wr := by
  obtain ⟨i, hi, _, _, _⟩ := E.info
  have hr : (Builtin.append_ #[t, t] o.type #[v, .slice none 0 c]).run P wr = .ok v wr := by
    rcases hown.2 with ⟨rfl, h0⟩ | ⟨g, cap, cur, rfl, hb, hg, hn, hm, hs, ht⟩
    · simp [Builtin.append_, run_underlying E.under, sizeOf, typeInfo, hi, Builtin.lenOf, Builtin.firstCells]
    · simp [Builtin.append_, run_underlying E.under, sizeOf, typeInfo, hi, Builtin.lenOf, Builtin.firstCells, loadCells, hn, storeCells]
  refine wpList_plain hg fun K hK => ?_
  unfold Oper.wp execOp
  simp only [hop, resolve, invoke, builtin, Sem.run_bind, Sem.run_pure, Result.andThen_ok, List.map_toArray, List.map_cons, List.map_nil, hs, hx, hr]
  exact hK _ _ h
set_option maxRecDepth 100000 in
set_option maxHeartbeats 2000000 in
theorem sets1_zero : SetsOk 0 := by
  intro k fr n gm gf gn N0 w hn hf ng1 ng2 ng3 hm hff hnn l J Jx W hb hJ hJx hY h0
  refine callsIn_wide.2 ?_
  have hm1 := hm.below hb
  have hbw := below_alloc W (.cells #[.func (.yield l) #[] #[]] 136)
  have hy1 := row1_new W [.func (.yield l) #[] #[]] 136
  have c0 := (hm1.below hbw).cell (k := 0) rfl
  have cy := hy1.cell (k := 0) rfl
  have h1 := hJ _ _ _ h0 hbw
  have hsz := hbw.size
  have HY := hid hY
  clear hY hm1 hm hff hnn hJ hJx h0 hbw hy1
  go_enter Tryd.func90, Tryd.ntmps90
  go_upto_region 2 with (fail)
  simp only [List.toArray] at c0 cy h1 hsz
  generalize W.alloc (.cells #[.func (.yield l) #[] #[]] 136) = W1 at *
  obtain ⟨gy, hgy⟩ : ∃ g, W.heap.size = g := ⟨_, rfl⟩
  obtain ⟨fn, tmps, assign, body, hy, hR⟩ := HY.out [] (.slice none 0 0, []) W1 hsz h1 ⟨RowT.nil _ _ _ _, rfl, fun _ h => by cases h⟩
  rw [hgy] at cy ⊢
  refine (wpIn_wide (n := k)).1 ?_
  simp only [encN] at hy
  gi_wp2
  refine ⟨fun h => absurd h (by decide), ?_⟩
  refine hR.mono ?_
  rintro e W3 ⟨h3 | h3, _⟩
  · obtain ⟨rfl, hJ3⟩ := h3
    gi_wp2
    go_wp2
    refine bodyPost_ret (results_none rfl _ _ _) rfl ?_
    exact ⟨⟨_, rfl⟩, .inl ⟨[(.slice none 0 0, [])], rfl, hJ3⟩⟩
  · obtain ⟨rfl, hJ3⟩ := h3
    gi_wp2
    go_wp2
    refine bodyPost_ret (results_none rfl _ _ _) rfl ?_
    exact ⟨⟨_, rfl⟩, .inr ⟨[(.slice none 0 0, [])], ⟨by simp, [], rfl⟩, hJ3⟩⟩
set_option maxRecDepth 100000 in
set_option maxHeartbeats 4000000 in
theorem sets1_succ (m : Nat) (hm3 : m ≤ 10) (ih : SetsOk m) : SetsOk (m + 1) := by
  intro k fr n gm gf gn N0 w hn hf ng1 ng2 ng3 hm hff hnn l J Jx W hb hJ hJx hY h0
  have hbw := below_alloc W (.cells #[.func (.yield l) #[] #[]] 136)
  have hy1 := row1_new W [.func (.yield l) #[] #[]] 136
  have hM := (hm.below hb).below hbw
  have hF := (hff.below hb).below hbw
  have hN := (hnn.below hb).below hbw
  have c0 := hM.cell (k := 0) rfl
  have c1 := hF.cell (k := 0) rfl
  have h1 := hJ _ _ _ h0 hbw
  have hsz := hbw.size
  have HY := hid hY
  have hz : (((m + 1 : Nat) : Int) == 0) = false := by simp; omega
  clear hY h0 hm hff hnn
  refine callsIn_of_wp_marks Tryd.func90 rfl trivial ?_ rfl
  refine (wpIn_wide (n := k)).2 ?_
  simp only [Tryd.ntmps90, List.size_toArray, List.length_cons, List.length_nil, Nat.reduceAdd, Nat.reduceSub, Array.replicate_succ, Array.replicate_zero, List.push_toArray, List.append_toArray, List.nil_append, List.cons_append]
  go_upto_region 3 with (fail)
  simp only [List.toArray] at hy1 hM hF hN c0 c1 h1 hsz hbw
  generalize W.alloc (.cells #[.func (.yield l) #[] #[]] 136) = W1 at *
  obtain ⟨gy, hgy⟩ : ∃ g, W.heap.size = g := ⟨_, rfl⟩
  rw [hgy] at hy1 ⊢
  have hs1 := hsz
  rw [hgy] at hs1
  have S0 : St1 m fr n gm gf gn gy W1.heap.size fr l N0 W.heap.size (W1.heap.size + 1) [] (W1.alloc (.cells #[.int .i64 (fr : Int)] 3)) :=
    ⟨hM.alloc _, hF.alloc _, hN.alloc _, hy1.alloc _, row1_new W1 [.int .i64 (fr : Int)] _, ⟨ng1, ng2, ng3⟩, ⟨by omega, hsz⟩, ⟨by have := hM.lt; omega, by have := hF.lt; omega, by have := hN.lt; omega, by have := hy1.lt; omega, by omega, fun D hD => by cases hD⟩, by simp, by simp; omega, .nil _ _⟩
  have hJ0 := hJ _ _ _ h1 ((below_alloc W1 (.cells #[.int .i64 (fr : Int)] 3)).mono hsz)
  go_wp2
  clear hM hF hN hy1 h1 c0 c1 hbw
  refine wp_loop (fun a' w' => ∃ (i g5 K : Nat) (Ds : List Nat) (pre : List (Value × List Nat)), (∃ u, a' = frm1 l gm gf gn gy g5 m fr u Ds) ∧ fr ≤ i ∧ i ≤ fr + (n - m - fr) ∧ pre.map (·.2) = upto m fr n i ∧ J pre w' ∧ St1 m fr n gm gf gn gy g5 i l N0 W.heap.size K Ds w') (fun a' w' => cellM n (a'.tmps.getD 5 undef) w') ?_ ?_
  · exact ⟨fr, W1.heap.size, W1.heap.size + 1, [], [], ⟨fun j => if j = 8 then .bool ((m : Int) + 1 == 0) else undef, rfl⟩, Nat.le_refl _, by omega, by rw [upto_start]; rfl, hJ0, S0⟩
  · rintro a' wr ⟨i, g5, K, Ds, pre, ⟨u, rfl⟩, hi1, hi2, hpre, hj, S⟩
    have hmeas := hid (cellM_at (n := n) S.I)
    have c5 := S.I.cell (k := 0) rfl
    have cN := S.N.cell (k := 0) rfl
    have cM := S.M.cell (k := 0) rfl
    have HS := hid S
    have HJ := hid hj
    have HPRE := hid hpre
    clear S0 hJ0 S hj hpre
    by_cases hlt : i < fr + (n - m - fr)
    · have hle : (i : Int) ≤ (n : Int) - ((m : Int) + 1) := by omega
      go_wp2_with (fail)
      refine (sets_c ((i : Int) + 1) n m wr).mono ?_
      rintro e w3 ⟨gf2, gn2, gm2, rfl, rm, rf, rn, l1, l2, l3, hb3⟩
      have S3 := ((HS.out.raise).below hb3).raise
      have J3 := hJ _ _ _ HJ.out (hb3.mono HS.out.wz)
      have hi7 : i < n := by omega
      have hwz : W.heap.size ≤ w3.heap.size := S3.wz
      clear c5 cN cM
      go_wp2
      refine (wpIn_wide (n := 10)).1 ?_
      refine wpIn_rangeStop (n := 10) rfl (by decide) (gf := 90) (lb := #[.pointer (some ⟨gm2, 0, none⟩), .pointer (some ⟨gf2, 0, none⟩), .pointer (some ⟨gn2, 0, none⟩)]) rfl trivial (enters_of Tryd.func90 (by kernel_rfl) rfl) (encs := encN) (fun _ => rfl)
        (fun xs A => (∃ pre', pre'.map (·.2) = upto m fr n i ++ xs.map (fun x => i :: x.2) ∧ J pre' A) ∧ St1 m fr n gm gf gn gy g5 i l N0 W.heap.size w3.heap.size Ds A)
        (fun c xs A => c = .ret ∧ (∃ pre', pre' ≠ [] ∧ pre'.map (·.2) = upto m fr n i ++ xs.map (fun x => i :: x.2) ∧ Jx pre' A) ∧ Marks W.heap.size Ds A)
        (RowN m n) _ _ ?ib ?ixb ?op ⟨⟨pre, by rw [HPRE.out]; simp, J3⟩, S3⟩ (ih 9 (i + 1) n gm2 gf2 gn2 wr.heap.size w3 hn (by omega) l1 l2 l3 rm rf rn) ?a₁ ?assign ?body ?done ?stop
      case assign =>
        intro l y W K hK
        gi_wp2
        exact hK
      case ib => exact fun xs A B h hb => ⟨by obtain ⟨pre', h1, h2⟩ := h.1; exact ⟨pre', h1, hJ _ _ _ h2 (hb.mono hwz)⟩, h.2.below hb⟩
      case ixb => exact fun c xs A B h hb hcu => ⟨h.1, by obtain ⟨pre', h0, h1, h2⟩ := h.2.1; exact ⟨pre', h0, h1, hJx _ _ _ h2 (hb.mono hwz) hcu⟩, h.2.2.below hb S3.k0.2.2.2.2.2⟩
      case op => exact fun x A l o o' h _ h1 h2 => ⟨h.1.put o' h1 h2, h.2⟩
      case body =>
        intro l2 pre2 x A hszA hI hOk
        obtain ⟨v, sx⟩ := x
        obtain ⟨⟨pre', hp', hj'⟩, SA⟩ := hI
        obtain ⟨hrt, hlen, hlts⟩ := hOk
        dsimp only at hrt hlen hlts
        obtain ⟨A5, c5, rfl, hcs, hln⟩ := hrt.form
        rw [List.length_map] at hln ⊢
        have cY := SA.Y.cell (k := 0) rfl
        have cI := SA.I.cell (k := 0) rfl
        have HSA := hid SA
        have HJ2 := hid hj'
        have HP2 := hid hp'
        have hAw : W.heap.size ≤ A.heap.size := SA.wz
        have hA3 : w3.heap.size ≤ A.heap.size := SA.kz
        have hlm : sx.length ≤ 1000 := by omega
        have HLEN := hid hlen
        have hwr := HS.out.wz
        have hone : ∀ u ∈ sx.map (fun (j : Nat) => Value.int .i64 (j : Int)), u.oneCell' = true := fun u hu => by obtain ⟨j, _, rfl⟩ := List.mem_map.1 hu; rfl
        have HONE := hid hone
        have HNC := hid hcs
        clear SA hj' hp' S3 J3 HS HJ HPRE hrt hlen hone hcs
        generalize hln2 : sx.length = ln at *
        have HLN := hid hln2
        clear hln2
        gi_wp2
        refine Rgb.round_regionY (m := _) (L := [_, _, _, _, _]) (tail := [_, _]) (Rgb.freshWay A 4) [some 26, some 27, some 28, some 29, some 30, some 31, some 32] 34 rfl (by kernel_rfl) (by kernel_rfl) (by kernel_rfl) (by kernel_rfl) rfl (Rgb.freshWay_fair _ _) (Rgb.keep_drew _) (trivial) ?_
        intro QQ hQQ
        have HQQ := hid hQQ
        clear hQQ
        refine Rgb.op_is (.func (.yield l) #[] #[]) [] rfl rfl (by kernel_rfl) ?_ ?_
        · intro wx hb
          refine Rgb.from_nil fun T hT => ?_
          have g1 := (hb.cell (lt_of_cell cY)).trans cY
          go_wp2
          exact hT _ _ rfl (by first | exact Rgb.Keep.refl _ | exact below_of_dr hw2 | exact hw2 | exact (Below.refl _ _).alloc (Nat.le_refl _) _) (by first | rfl | exact congrArg _ (by decide))
        refine Rgb.op_is (.int .i64 (i : Int)) [] rfl rfl (by kernel_rfl) ?_ ?_
        · intro wx hb
          refine Rgb.from_nil fun T hT => ?_
          have g1 := (hb.cell (lt_of_cell cI)).trans cI
          go_wp2
          exact hT _ _ rfl (by first | exact Rgb.Keep.refl _ | exact below_of_dr hw2 | exact hw2 | exact (Below.refl _ _).alloc (Nat.le_refl _) _) (by first | rfl | exact congrArg _ (by decide))
        refine Rgb.op_till (fun w v => Own w A.heap.size 3 v [.int .i64 (i : Int)]) [1] rfl ?_ rfl (by kernel_rfl) ?_ ?_
        · exact fun w1 w2 v hk h => h.below hk
        · intro wx hb
          refine Rgb.from_is (some 27) rfl rfl ?_
          refine Rgb.from_nil fun T hT => ?_
          go_wp2
          exact hT _ _ rfl (below_alloc _ _) ((row1_new _ [.int .i64 (i : Int)] 3).own hb.size (by simp))
        refine Rgb.op_is (.slice A5 ln c5) [] rfl rfl (by kernel_rfl) ?_ ?_
        · intro wx hb
          refine Rgb.from_nil fun T hT => ?_
          go_wp2
          exact hT _ _ rfl (by first | exact Rgb.Keep.refl _ | exact below_of_dr hw2 | exact hw2 | exact (Below.refl _ _).alloc (Nat.le_refl _) _) (by first | rfl | exact congrArg _ (by decide))
        refine Rgb.op_turn (fun w v => Own w A.heap.size 3 v (.int .i64 (i : Int) :: sx.map fun (j : Nat) => Value.int .i64 (j : Int))) [2, 3] rfl ?_ rfl (by kernel_rfl) ?_ ?_
        · exact fun w1 w2 v hk h => h.below hk
        · intro wx hb hb1
          refine Rgb.from_till (some 28) rfl rfl fun v28 h28 => ?_
          refine Rgb.from_is (some 29) rfl rfl ?_
          refine Rgb.from_nil fun T hT => ?_
          have hbA := hb.size
          have hcA := HNC.out.keep fun p hp => hb.cell hp
          cases A5 with
          | none =>
            have hsx : sx = [] := by
              rcases hcA with h | ⟨b, off, h, _⟩
              · simpa using h
              · cases h
            subst hsx
            obtain rfl : ln = 0 := by rw [← HLN.out]; rfl
            refine wpList_appends_nil elt_int _ rfl _ _ rfl A.heap.size h28 rfl rfl ?_
            exact hT _ _ rfl (Below.refl _ _) h28
          | some a5 =>
            refine wpList_appends elt_int _ rfl _ _ rfl A.heap.size h28 rfl hcA (by rw [List.length_map, HLN.out]; rfl) HONE.out (by rw [List.length_map, HLN.out]; simp; omega) (by rw [List.length_map, HLN.out]; simp; omega) hbA ?_
            intro v' w' ho' _ hb'
            exact hT _ _ rfl hb' ho'
        refine Rgb.walk_nil [0, 1, 2, 3, 4] (by kernel_rfl) ?_
        intro wx hb
        refine Rgb.from_is (some 26) rfl rfl ?_
        refine Rgb.from_is (some 27) rfl rfl ?_
        refine Rgb.from_gone (some 28) rfl rfl fun v28 => ?_
        refine Rgb.from_is (some 29) rfl rfl ?_
        refine Rgb.from_of (some 30) rfl rfl fun v30 h30 => ?_
        refine Rgb.from_nil ?_
        refine HQQ.out _ _ ?_
        simp only [List.map, Act.put, List.setIfInBounds_toArray, List.set_cons_zero, List.set_cons_succ]
        clear HQQ
        have hJx' := hJ _ _ _ HJ2.out (hb.mono hAw)
        obtain ⟨fn, tmps, assign, body, hy, hR⟩ := yieldAt_any (m := 7) (HY.out pre' (v30, i :: sx) wx (Nat.le_trans hAw hb.size) hJx' ⟨h30.rowT, by simp only [List.length_cons]; rw [HLN.out, HLEN.out], fun j hj => by rcases List.mem_cons.1 hj with rfl | hj; exact hi7; exact hlts j hj⟩)
        simp only [encN] at hy
        have SX := HSA.out.below (hb.mono hA3)
        have HSX := hid SX
        have HUA := hid (Up.below (N := w3.heap.size) hb)
        have HCA := hid (CellsUp.below (N := wr.heap.size) hb)
        clear SX cY cI
        gi_wp2
        refine hR.mono ?_
        rintro e B ⟨h3, hu, hcu⟩
        have SB := HSX.out.up hu hcu
        have hUB := HUA.out.trans (hu.from_ hwz)
        have hCB := HCA.out.trans ((CellsUp.of_up hu).from_ hwr)
        rcases h3 with h3 | h3
        · obtain ⟨rfl, hJ3⟩ := h3
          gi_wp2
          exact ⟨⟨hUB, hCB⟩, ⟨pre' ++ [(v30, i :: sx)], by simp [HP2.out], hJ3⟩, SB⟩
        · obtain ⟨rfl, hJ3⟩ := h3
          gi_wp2
          exact ⟨⟨hUB, hCB⟩, rfl, ⟨pre' ++ [(v30, i :: sx)], by simp, by simp [HP2.out], hJ3⟩, SB.D⟩
      case done =>
        intro D xs A hD hAz hS hI hK
        obtain ⟨⟨pre', hp', hj'⟩, SA⟩ := hI
        have cI := SA.I.cell (k := 0) rfl
        have HSA := hid SA
        have HJ2 := hid hj'
        have HP2 := hid hp'
        clear SA hj' hp'
        go_wp2
        have hlt := (Array.getElem?_eq_some_iff.1 hK).1
        have SA := HSA.out.raise
        have hMk : Marks W.heap.size (D :: Ds) A := SA.D.cons hK (by omega) fun E hE => Nat.lt_of_lt_of_le (S3.k0.2.2.2.2.2 E hE) hD
        have SN : St1 m fr n gm gf gn gy A.heap.size (i + 1) l N0 W.heap.size (A.heap.size + 1) (D :: Ds) (A.alloc (.cells #[.int .i64 ((i : Int) + 1)] 3)) :=
          ⟨SA.M.alloc _, SA.F.alloc _, SA.N.alloc _, SA.Y.alloc _, row1_new A [.int .i64 ((i : Int) + 1)] _, SA.m0, ⟨SA.y0.1, SA.wz⟩, ⟨by have := SA.k0.1; omega, by have := SA.k0.2.1; omega, by have := SA.k0.2.2.1; omega, by have := SA.k0.2.2.2.1; omega, by omega, fun E hE => Nat.lt_succ_of_lt (hMk.lt hE)⟩, by simp, by have := SA.wz; simp; omega, hMk.below (below_alloc A _) fun E hE => hMk.lt hE⟩
        refine ⟨⟨i + 1, A.heap.size, A.heap.size + 1, D :: Ds, pre', frm_of (Ds := D :: Ds) _ _ _ _ _ _ _ _ _ _ _ _ _ _ _ _ _ _ _ _ _ _ _ _, by omega, by omega, ?_, hJ _ _ _ HJ2.out ((below_alloc A _).mono SA.wz), SN⟩, ?_⟩
        · rw [HP2.out, upto_next hi1, ← hS]
          simp
        · show cellM n (.pointer (some ⟨A.heap.size, 0, none⟩)) _ < cellM n (.pointer (some ⟨g5, 0, none⟩)) wr
          rw [cellM_at SN.I, hmeas.out]
          omega
      case stop =>
        intro D c pre2 A hD hAz hSp hI hK
        obtain ⟨rfl, ⟨pre', hne, hp', hj'⟩, hM⟩ := hI
        obtain ⟨_, rest2, hrest2⟩ := hSp
        obtain ⟨rest3, hrest3⟩ := upto_more (m := m) (fr := fr) (n := n) (i := i + 1) (by omega) (by omega)
        gi_wp2
        refine leaves_marks (D :: Ds) A (hM.cons hK (by omega) fun E hE => Nat.lt_of_lt_of_le (S3.k0.2.2.2.2.2 E hE) hD) fun w' hb' hcu' => ⟨.tuple #[], results_none rfl _ _ _, ⟨_, rfl⟩, .inr ⟨pre', ⟨hne, rest2.map (i :: ·) ++ rest3, ?_⟩, hJx _ _ _ hj' hb' hcu'⟩⟩
        rw [hp', ← hrest3, upto_next hi1, ← hrest2]
        simp
    · obtain rfl : i = fr + (n - m - fr) := by omega
      have hle : ¬ ((fr + (n - m - fr) : Nat) : Int) ≤ (n : Int) - ((m : Int) + 1) := by omega
      go_wp2
      refine leaves_marks Ds _ HS.out.D fun w' hb' _ => ⟨.tuple #[], results_none rfl _ _ _, ⟨_, rfl⟩, .inl ⟨pre, by rw [HPRE.out, upto_end], hJ _ _ _ HJ.out hb'⟩⟩
end Go.Proofs.YtmmmdidbnjcooaaDoor
