/-
  Parts of these texts that the statement needs: RobA, PlyD, Grow, RobB.
-/
import Derived.Test.YtlbhmoiicbhgkaaDoorRobQ4
import Derived.Test.YtlbhmoiicbhgkaaDoorRobQ7
import Derived.Test.YtlbhmoiicbhgkaaDoorRobQ5
import Derived.Test.YtlbhmoiicbhgkaaDoorRobQ1

section
namespace Go.Proofs.YtlbhmoiicbhgkaaDoor
open Go.RowKit Go.Shelf
attribute [local go_sem] Oper.semAt_some
/-- all sets of m of the numbers from fr on, below n, each rising, in order. -/
def setsL : Nat → Nat → Nat → List (List Nat)
  | 0, _, _ => [[]]
  | m + 1, fr, n => (List.range' fr (n - m - fr)).flatMap fun i => (setsL m (i + 1) n).map (i :: ·)
/-- a set in new memory, or none. -/
def RowN (m n : Nat) (x : Value × List Nat) (w : World) : Prop := RowT w 3 x.1 (x.2.map fun (i : Nat) => Value.int .i64 (i : Int)) ∧ x.2.length = m ∧ ∀ i ∈ x.2, i < n
abbrev encN (x : Value × List Nat) : Array Value := #[x.1]
def SetsOk (m : Nat) : Prop := ∀ (k fr n gm gf gn N0 : Nat) (w : World), n ≤ 7 → fr ≤ 8 → N0 ≤ gm → N0 ≤ gf → N0 ≤ gn → Row1 w gm 3 [.int .i64 (m : Int)] → Row1 w gf 3 [.int .i64 (fr : Int)] → Row1 w gn 3 [.int .i64 (n : Int)] →
  SeqO Fence.wide k Tryd.prog 92 #[.pointer (some ⟨gm, 0, none⟩), .pointer (some ⟨gf, 0, none⟩), .pointer (some ⟨gn, 0, none⟩)] encN (RowN m n) (fun xs => xs.map (·.2) = setsL m fr n) (fun pre => pre ≠ [] ∧ ∃ rest, pre.map (·.2) ++ rest = setsL m fr n) N0 w
theorem sets_c (fr n m : Int) (w : World) :
    Calls Tryd.prog 61 #[.int .i64 fr, .int .i64 n, .int .i64 m] w fun e w' => ∃ gf gn gm : Nat, e = .returned (.func (.func 92) #[] #[.pointer (some ⟨gm, 0, none⟩), .pointer (some ⟨gf, 0, none⟩), .pointer (some ⟨gn, 0, none⟩)]) ∧ Row1 w' gm 3 [.int .i64 m] ∧ Row1 w' gf 3 [.int .i64 fr] ∧ Row1 w' gn 3 [.int .i64 n] ∧ w.heap.size ≤ gm ∧ w.heap.size ≤ gf ∧ w.heap.size ≤ gn ∧ Below w.heap.size w w' := by
  have h1 := row1_new w [.int .i64 fr] 3
  have h2 := row1_in (w.alloc (.cells #[.int .i64 fr] 3)) [.int .i64 n] 3 (w.heap.size + 1) (by simp)
  have h3 := row1_in ((w.alloc (.cells #[.int .i64 fr] 3)).alloc (.cells #[.int .i64 n] 3)) [.int .i64 m] 3 (w.heap.size + 1 + 1) (by simp)
  have hb := ((below_alloc w (.cells #[.int .i64 fr] 3)).alloc (by simp) (.cells #[.int .i64 n] 3)).alloc (by simp; omega) (.cells #[.int .i64 m] 3)
  go_enter Tryd.func61, Tryd.ntmps61
  go_wp2
  go_ret
  exact ⟨_, _, _, rfl, h3, (h1.alloc _).alloc _, h2.alloc _, by omega, by omega, by omega, hb⟩
abbrev markD (D : Nat) : Deferred := { target := .collected D, args := #[] }
def Marks (N : Nat) (Ds : List Nat) (w : World) : Prop := Ds.Nodup ∧ ∀ D ∈ Ds, N ≤ D ∧ w.heap[D]? = some (.deferred (some []))
theorem Marks.nil (N : Nat) (w : World) : Marks N [] w := ⟨List.nodup_nil, fun _ h => by cases h⟩
theorem Marks.lt {N : Nat} {Ds : List Nat} {w : World} (h : Marks N Ds w) {D : Nat} (hD : D ∈ Ds) : D < w.heap.size := (Array.getElem?_eq_some_iff.1 (h.2 D hD).2).1
theorem Marks.below {N K : Nat} {Ds : List Nat} {w w' : World} (h : Marks N Ds w) (hb : Below K w w') (hK : ∀ D ∈ Ds, D < K) : Marks N Ds w' := ⟨h.1, fun D hD => ⟨(h.2 D hD).1, (hb.block D (hK D hD)).trans (h.2 D hD).2⟩⟩
theorem Marks.up {N : Nat} {Ds : List Nat} {w w' : World} (h : Marks N Ds w) (hu : Up N w w') : Marks N Ds w' := ⟨h.1, fun D hD => ⟨(h.2 D hD).1, (hu.2 D (h.2 D hD).1 (h.lt hD)).trans (h.2 D hD).2⟩⟩
theorem Marks.cons {N D : Nat} {Ds : List Nat} {w : World} (h : Marks N Ds w) (hD : w.heap[D]? = some (.deferred (some []))) (hN : N ≤ D) (hK : ∀ E ∈ Ds, E < D) : Marks N (D :: Ds) w :=
  ⟨List.nodup_cons.2 ⟨fun hm => Nat.lt_irrefl _ (hK D hm), h.1⟩, fun E hE => by
    rcases List.mem_cons.1 hE with rfl | hE
    · exact ⟨hN, hD⟩
    · exact h.2 E hE⟩
theorem leaves_marks {F : Fence} {n : Nat} {P : Program} {fn : Func} {tmps : Array Value} {R : Ending → World → Prop} {N : Nat} : ∀ (Ds : List Nat) (w : World), Marks N Ds w → (∀ w', Below N w w' → CellsUp 0 w w' → LeavesIn F n P fn tmps R [] .returning w') → LeavesInM F n P fn tmps R (Ds.map markD) .returning w
  | [], w, _, h => h w (Below.refl _ _) (CellsUp.refl _ _)
  | D :: Ds, w, hm, h => by
    obtain ⟨hN, hD⟩ := hm.2 D (List.mem_cons_self ..)
    have hlt := hm.lt (List.mem_cons_self ..)
    have hb : Below N w (w.putObj D (.deferred none)) := below_putR _ (by omega) hN
    refine ⟨by simp, .inl ⟨_, _, rfl, run_takeDeferred hD, leaves_marks Ds _ ⟨(List.nodup_cons.1 hm.1).2, fun E hE => ?_⟩ fun w' hb' hc' => h w' (hb.trans hb') ((CellsUp.put hD rfl).trans hc')⟩⟩
    obtain ⟨h1, h2⟩ := hm.2 E (List.mem_cons_of_mem _ hE)
    exact ⟨h1, (World.putObj_heap_other (fun e => (List.nodup_cons.1 hm.1).1 (by subst e; exact hE))).trans h2⟩
theorem yieldAt_any {n m l : Nat} {P : Program} {args : Array Value} {W : World} {R : Ending → World → Prop} (h : YieldAt Fence.wide n P l args W R) : YieldAt Fence.wide m P l args W R := by
  obtain ⟨fn, tmps, assign, body, hy, h1, h2⟩ := h
  exact ⟨fn, tmps, assign, body, hy, h1, fun c cs _ => h2 c cs (room_wide _)⟩
/-- the sets that begin by less than i. -/
def upto (m fr n i : Nat) : List (List Nat) := (List.range' fr (i - fr)).flatMap fun i => (setsL m (i + 1) n).map (i :: ·)
theorem upto_start (m fr n : Nat) : upto m fr n fr = [] := by simp [upto]
theorem upto_next {m fr n i : Nat} (h : fr ≤ i) : upto m fr n (i + 1) = upto m fr n i ++ (setsL m (i + 1) n).map (i :: ·) := by
  unfold upto
  rw [show i + 1 - fr = (i - fr) + 1 by omega, List.range'_concat, List.flatMap_append]
  simp only [List.flatMap_cons, List.flatMap_nil, List.append_nil, Nat.one_mul]
  rw [show fr + (i - fr) = i by omega]
theorem upto_end (m fr n : Nat) : upto m fr n (fr + (n - m - fr)) = setsL (m + 1) fr n := by
  unfold upto
  rw [setsL, show fr + (n - m - fr) - fr = n - m - fr by omega]
theorem upto_more {m fr n i : Nat} (h : fr ≤ i) (h2 : i ≤ fr + (n - m - fr)) : ∃ rest, upto m fr n i ++ rest = setsL (m + 1) fr n := by
  refine ⟨(List.range' i (fr + (n - m - fr) - i)).flatMap fun i => (setsL m (i + 1) n).map (i :: ·), ?_⟩
  rw [← upto_end]
  unfold upto
  rw [← List.flatMap_append]
  have e : List.range' fr (i - fr) ++ List.range' i (fr + (n - m - fr) - i) = List.range' fr (fr + (n - m - fr) - fr) := by
    have := @List.range'_append_1 fr (i - fr) (fr + (n - m - fr) - i)
    rw [show fr + (i - fr) = i by omega, show i - fr + (fr + (n - m - fr) - i) = fr + (n - m - fr) - fr by omega] at this
    exact this
  rw [e]
/-- the state of the walk through the sets. -/
structure St1 (m fr n gm gf gn gy g5 i l N0 : Nat) (Wz K : Nat) (Ds : List Nat) (A : World) : Prop where
  M : Row1 A gm 3 [.int .i64 ((m : Int) + 1)]
  F : Row1 A gf 3 [.int .i64 (fr : Int)]
  N : Row1 A gn 3 [.int .i64 (n : Int)]
  Y : Row1 A gy 116 [.func (.yield l) #[] #[]]
  I : Row1 A g5 3 [.int .i64 (i : Int)]
  m0 : N0 ≤ gm ∧ N0 ≤ gf ∧ N0 ≤ gn
  y0 : Wz ≤ gy ∧ Wz ≤ g5
  k0 : gm < K ∧ gf < K ∧ gn < K ∧ gy < K ∧ g5 < K ∧ ∀ D ∈ Ds, D < K
  kz : K ≤ A.heap.size
  wz : Wz ≤ A.heap.size
  D : Marks Wz Ds A
section
variable {m fr n gm gf gn gy g5 i l N0 : Nat} {Wz K : Nat} {Ds : List Nat} {A B : World}
theorem St1.below (h : St1 m fr n gm gf gn gy g5 i l N0 Wz K Ds A) (hb : Below K A B) : St1 m fr n gm gf gn gy g5 i l N0 Wz K Ds B :=
  ⟨h.M.keep (hb.block _ h.k0.1), h.F.keep (hb.block _ h.k0.2.1), h.N.keep (hb.block _ h.k0.2.2.1), h.Y.keep (hb.block _ h.k0.2.2.2.1), h.I.keep (hb.block _ h.k0.2.2.2.2.1), h.m0, h.y0, h.k0, Nat.le_trans h.kz hb.size, Nat.le_trans h.wz hb.size, h.D.below hb h.k0.2.2.2.2.2⟩
theorem St1.up (h : St1 m fr n gm gf gn gy g5 i l N0 Wz K Ds A) (hu : Up Wz A B) (hc : CellsUp N0 A B) : St1 m fr n gm gf gn gy g5 i l N0 Wz K Ds B :=
  ⟨h.M.up hc h.m0.1, h.F.up hc h.m0.2.1, h.N.up hc h.m0.2.2, h.Y.up (.of_up hu) h.y0.1, h.I.up (.of_up hu) h.y0.2, h.m0, h.y0, h.k0, Nat.le_trans h.kz hu.1, Nat.le_trans h.wz hu.1, h.D.up hu⟩
theorem St1.raise (h : St1 m fr n gm gf gn gy g5 i l N0 Wz K Ds A) : St1 m fr n gm gf gn gy g5 i l N0 Wz A.heap.size Ds A :=
  ⟨h.M, h.F, h.N, h.Y, h.I, h.m0, h.y0, ⟨h.M.lt, h.F.lt, h.N.lt, h.Y.lt, h.I.lt, fun _D hD => h.D.lt hD⟩, Nat.le_refl _, h.wz, h.D⟩
end
def cellM (n : Nat) (v : Value) (w : World) : Nat := match v with
  | .pointer (some p) => n + 20 - (intOf ((w.cell? p).getD (.int .i64 0))).toNat
  | _ => 0
theorem cellM_at {n g i : Nat} {w : World} (h : Row1 w g 3 [.int .i64 (i : Int)]) : cellM n (.pointer (some ⟨g, 0, none⟩)) w = n + 20 - i := by
  have c := h.cell (k := 0) rfl
  simp [cellM, c, intOf]
theorem elt_int : Elt Tryd.prog 47 3 (.int .i64 0) 8 := .of Tryd.underlying47 (by kernel_rfl) rfl
abbrev frm1 (l gm gf gn gy g5 : Nat) (m fr : Nat) (u : Nat → Value) (Ds : List Nat) : Act :=
  { tmps := #[.func (.yield l) #[] #[], .pointer (some ⟨gm, 0, none⟩), .pointer (some ⟨gf, 0, none⟩), .pointer (some ⟨gn, 0, none⟩), .pointer (some ⟨gy, 0, none⟩), .pointer (some ⟨g5, 0, none⟩), u 6, .int .i64 ((m : Int) + 1), u 8, undef, undef, .int .i64 (fr : Int), u 12, u 13, u 14, u 15, u 16, u 17, u 18, u 19, u 20, u 21, u 22, u 23, u 24, u 25, u 26, u 27, u 28, u 29, u 30, u 31, u 32, u 33], defers := Ds.map markD }
theorem frm_of {l gm gf gn gy g5 m fr : Nat} {Ds : List Nat} (x6 x8 x12 x13 x14 x15 x16 x17 x18 x19 x20 x21 x22 x23 x24 x25 x26 x27 x28 x29 x30 x31 x32 x33 : Value) : ∃ u, ({ tmps := #[.func (.yield l) #[] #[], .pointer (some ⟨gm, 0, none⟩), .pointer (some ⟨gf, 0, none⟩), .pointer (some ⟨gn, 0, none⟩), .pointer (some ⟨gy, 0, none⟩), .pointer (some ⟨g5, 0, none⟩), x6, .int .i64 ((m : Int) + 1), x8, undef, undef, .int .i64 (fr : Int), x12, x13, x14, x15, x16, x17, x18, x19, x20, x21, x22, x23, x24, x25, x26, x27, x28, x29, x30, x31, x32, x33], defers := Ds.map markD } : Act) = frm1 l gm gf gn gy g5 m fr u Ds :=
  ⟨fun j => match j with | 6 => x6 | 8 => x8 | 12 => x12 | 13 => x13 | 14 => x14 | 15 => x15 | 16 => x16 | 17 => x17 | 18 => x18 | 19 => x19 | 20 => x20 | 21 => x21 | 22 => x22 | 23 => x23 | 24 => x24 | 25 => x25 | 26 => x26 | 27 => x27 | 28 => x28 | 29 => x29 | 30 => x30 | 31 => x31 | 32 => x32 | 33 => x33 | _ => undef, rfl⟩
theorem wpList_appends_nil {P : Program} {t e : TypeId} {z : Value} {bytes : Nat} (E : Elt P t e z bytes) (wr : World) {ops : Array Oper} {rest : List Oper} {o : Oper} {a : Act} {Q : Exit → Act → World → Prop}
    (hg : o.guard = none) (s x : Operand) (hop : o.op = .call { callee := .builtin .append, args := #[s, x], argTypes := #[t, t] })
    (base : Nat) {v : Value} {xs : List Value} (hown : Own wr base e v xs) (hs : a.eval s = v) {c : Nat} (hx : a.eval x = .slice none 0 c) (h : wpList P ops Q rest (a.put o.dst v) wr) : wpList P ops Q (o :: rest) a wr := by
  obtain ⟨i, hi, _, _, _⟩ := E.info
  have hr : (Builtin.append_ #[t, t] o.type #[v, .slice none 0 c]).run P wr = .ok v wr := by
    rcases hown.2 with ⟨rfl, h0⟩ | ⟨g, cap, cur, rfl, hb, hg, hn, hm, hs, ht⟩
    · simp [Builtin.append_, run_underlying E.under, sizeOf, typeInfo, hi, Builtin.lenOf, Builtin.firstCells]
    · simp [Builtin.append_, run_underlying E.under, sizeOf, typeInfo, hi, Builtin.lenOf, Builtin.firstCells, loadCells, hn, storeCells]
  refine wpList_plain hg fun K hK => ?_
  unfold Oper.wp execOp
  simp only [hop, resolve, invoke, builtin, Sem.run_bind, Sem.run_pure, Result.andThen_ok, List.map_toArray, List.map_cons, List.map_nil, hs, hx, hr]
  exact hK _ _ h
set_option maxRecDepth 100000 in
set_option maxHeartbeats 2000000 in
theorem sets1_zero : SetsOk 0 := by
  intro k fr n gm gf gn N0 w hn hf ng1 ng2 ng3 hm hff hnn l J Jx W hb hJ hJx hY h0
  refine callsIn_wide.2 ?_
  have hm1 := hm.below hb
  have hbw := below_alloc W (.cells #[.func (.yield l) #[] #[]] 116)
  have hy1 := row1_new W [.func (.yield l) #[] #[]] 116
  have c0 := (hm1.below hbw).cell (k := 0) rfl
  have cy := hy1.cell (k := 0) rfl
  have h1 := hJ _ _ _ h0 hbw
  have hsz := hbw.size
  have HY := hid hY
  clear hY hm1 hm hff hnn hJ hJx h0 hbw hy1
  go_enter Tryd.func92, Tryd.ntmps92
  go_upto_region 2 with (fail)
  simp only [List.toArray] at c0 cy h1 hsz
  generalize W.alloc (.cells #[.func (.yield l) #[] #[]] 116) = W1 at *
  obtain ⟨gy, hgy⟩ : ∃ g, W.heap.size = g := ⟨_, rfl⟩
  obtain ⟨fn, tmps, assign, body, hy, hR⟩ := HY.out [] (.slice none 0 0, []) W1 hsz h1 ⟨RowT.nil _ _ _ _, rfl, fun _ h => by cases h⟩
  rw [hgy] at cy ⊢
  refine (wpIn_wide (n := k)).1 ?_
  simp only [encN] at hy
  gi_wp2
  refine ⟨fun h => absurd h (by decide), ?_⟩
  refine hR.mono ?_
  rintro e W3 ⟨h3 | h3, _⟩
  · obtain ⟨rfl, hJ3⟩ := h3
    gi_wp2
    go_wp2
    refine bodyPost_ret (results_none rfl _ _ _) rfl ?_
    exact ⟨⟨_, rfl⟩, .inl ⟨[(.slice none 0 0, [])], rfl, hJ3⟩⟩
  · obtain ⟨rfl, hJ3⟩ := h3
    gi_wp2
    go_wp2
    refine bodyPost_ret (results_none rfl _ _ _) rfl ?_
    exact ⟨⟨_, rfl⟩, .inr ⟨[(.slice none 0 0, [])], ⟨by simp, [], rfl⟩, hJ3⟩⟩
set_option maxRecDepth 100000 in
set_option maxHeartbeats 4000000 in
theorem sets1_succ (m : Nat) (hm3 : m ≤ 10) (ih : SetsOk m) : SetsOk (m + 1) := by
  intro k fr n gm gf gn N0 w hn hf ng1 ng2 ng3 hm hff hnn l J Jx W hb hJ hJx hY h0
  have hbw := below_alloc W (.cells #[.func (.yield l) #[] #[]] 116)
  have hy1 := row1_new W [.func (.yield l) #[] #[]] 116
  have hM := (hm.below hb).below hbw
  have hF := (hff.below hb).below hbw
  have hN := (hnn.below hb).below hbw
  have c0 := hM.cell (k := 0) rfl
  have c1 := hF.cell (k := 0) rfl
  have h1 := hJ _ _ _ h0 hbw
  have hsz := hbw.size
  have HY := hid hY
  have hz : (((m + 1 : Nat) : Int) == 0) = false := by simp; omega
  clear hY h0 hm hff hnn
  refine callsIn_of_wp_marks Tryd.func92 rfl trivial ?_ rfl
  refine (wpIn_wide (n := k)).2 ?_
  simp only [Tryd.ntmps92, List.size_toArray, List.length_cons, List.length_nil, Nat.reduceAdd, Nat.reduceSub, Array.replicate_succ, Array.replicate_zero, List.push_toArray, List.append_toArray, List.nil_append, List.cons_append]
  go_upto_region 3 with (fail)
  simp only [List.toArray] at hy1 hM hF hN c0 c1 h1 hsz hbw
  generalize W.alloc (.cells #[.func (.yield l) #[] #[]] 116) = W1 at *
  obtain ⟨gy, hgy⟩ : ∃ g, W.heap.size = g := ⟨_, rfl⟩
  rw [hgy] at hy1 ⊢
  have hs1 := hsz
  rw [hgy] at hs1
  have S0 : St1 m fr n gm gf gn gy W1.heap.size fr l N0 W.heap.size (W1.heap.size + 1) [] (W1.alloc (.cells #[.int .i64 (fr : Int)] 3)) :=
    ⟨hM.alloc _, hF.alloc _, hN.alloc _, hy1.alloc _, row1_new W1 [.int .i64 (fr : Int)] _, ⟨ng1, ng2, ng3⟩, ⟨by omega, hsz⟩, ⟨by have := hM.lt; omega, by have := hF.lt; omega, by have := hN.lt; omega, by have := hy1.lt; omega, by omega, fun D hD => by cases hD⟩, by simp, by simp; omega, .nil _ _⟩
  have hJ0 := hJ _ _ _ h1 ((below_alloc W1 (.cells #[.int .i64 (fr : Int)] 3)).mono hsz)
  go_wp2
  clear hM hF hN hy1 h1 c0 c1 hbw
  refine wp_loop (fun a' w' => ∃ (i g5 K : Nat) (Ds : List Nat) (pre : List (Value × List Nat)), (∃ u, a' = frm1 l gm gf gn gy g5 m fr u Ds) ∧ fr ≤ i ∧ i ≤ fr + (n - m - fr) ∧ pre.map (·.2) = upto m fr n i ∧ J pre w' ∧ St1 m fr n gm gf gn gy g5 i l N0 W.heap.size K Ds w') (fun a' w' => cellM n (a'.tmps.getD 5 undef) w') ?_ ?_
  · exact ⟨fr, W1.heap.size, W1.heap.size + 1, [], [], ⟨fun j => if j = 8 then .bool ((m : Int) + 1 == 0) else undef, rfl⟩, Nat.le_refl _, by omega, by rw [upto_start]; rfl, hJ0, S0⟩
  · rintro a' wr ⟨i, g5, K, Ds, pre, ⟨u, rfl⟩, hi1, hi2, hpre, hj, S⟩
    have hmeas := hid (cellM_at (n := n) S.I)
    have c5 := S.I.cell (k := 0) rfl
    have cN := S.N.cell (k := 0) rfl
    have cM := S.M.cell (k := 0) rfl
    have HS := hid S
    have HJ := hid hj
    have HPRE := hid hpre
    clear S0 hJ0 S hj hpre
    by_cases hlt : i < fr + (n - m - fr)
    · have hle : (i : Int) ≤ (n : Int) - ((m : Int) + 1) := by omega
      go_wp2_with (fail)
      refine (sets_c ((i : Int) + 1) n m wr).mono ?_
      rintro e w3 ⟨gf2, gn2, gm2, rfl, rm, rf, rn, l1, l2, l3, hb3⟩
      have S3 := ((HS.out.raise).below hb3).raise
      have J3 := hJ _ _ _ HJ.out (hb3.mono HS.out.wz)
      have hi7 : i < n := by omega
      have hwz : W.heap.size ≤ w3.heap.size := S3.wz
      clear c5 cN cM
      go_wp2
      refine (wpIn_wide (n := 10)).1 ?_
      refine wpIn_rangeStop (n := 10) rfl (by decide) (gf := 92) (lb := #[.pointer (some ⟨gm2, 0, none⟩), .pointer (some ⟨gf2, 0, none⟩), .pointer (some ⟨gn2, 0, none⟩)]) rfl trivial (enters_of Tryd.func92 (by kernel_rfl) rfl) (encs := encN) (fun _ => rfl)
        (fun xs A => (∃ pre', pre'.map (·.2) = upto m fr n i ++ xs.map (fun x => i :: x.2) ∧ J pre' A) ∧ St1 m fr n gm gf gn gy g5 i l N0 W.heap.size w3.heap.size Ds A)
        (fun c xs A => c = .ret ∧ (∃ pre', pre' ≠ [] ∧ pre'.map (·.2) = upto m fr n i ++ xs.map (fun x => i :: x.2) ∧ Jx pre' A) ∧ Marks W.heap.size Ds A)
        (RowN m n) _ _ ?ib ?ixb ?op ⟨⟨pre, by rw [HPRE.out]; simp, J3⟩, S3⟩ (ih 9 (i + 1) n gm2 gf2 gn2 wr.heap.size w3 hn (by omega) l1 l2 l3 rm rf rn) ?a₁ ?assign ?body ?done ?stop
      case assign =>
        intro l y W K hK
        gi_wp2
        exact hK
      case ib => exact fun xs A B h hb => ⟨by obtain ⟨pre', h1, h2⟩ := h.1; exact ⟨pre', h1, hJ _ _ _ h2 (hb.mono hwz)⟩, h.2.below hb⟩
      case ixb => exact fun c xs A B h hb hcu => ⟨h.1, by obtain ⟨pre', h0, h1, h2⟩ := h.2.1; exact ⟨pre', h0, h1, hJx _ _ _ h2 (hb.mono hwz) hcu⟩, h.2.2.below hb S3.k0.2.2.2.2.2⟩
      case op => exact fun x A l o o' h _ h1 h2 => ⟨h.1.put o' h1 h2, h.2⟩
      case body =>
        intro l2 pre2 x A hszA hI hOk
        obtain ⟨v, sx⟩ := x
        obtain ⟨⟨pre', hp', hj'⟩, SA⟩ := hI
        obtain ⟨hrt, hlen, hlts⟩ := hOk
        dsimp only at hrt hlen hlts
        obtain ⟨A5, c5, rfl, hcs, hln⟩ := hrt.form
        rw [List.length_map] at hln ⊢
        have cY := SA.Y.cell (k := 0) rfl
        have cI := SA.I.cell (k := 0) rfl
        have HSA := hid SA
        have HJ2 := hid hj'
        have HP2 := hid hp'
        have hAw : W.heap.size ≤ A.heap.size := SA.wz
        have hA3 : w3.heap.size ≤ A.heap.size := SA.kz
        have hlm : sx.length ≤ 1000 := by omega
        have HLEN := hid hlen
        have hwr := HS.out.wz
        have hone : ∀ u ∈ sx.map (fun (j : Nat) => Value.int .i64 (j : Int)), u.oneCell' = true := fun u hu => by obtain ⟨j, _, rfl⟩ := List.mem_map.1 hu; rfl
        have HONE := hid hone
        have HNC := hid hcs
        clear SA hj' hp' S3 J3 HS HJ HPRE hrt hlen hone hcs
        generalize hln2 : sx.length = ln at *
        have HLN := hid hln2
        clear hln2
        gi_wp2
        refine Rgb.round_regionY (m := _) (L := [_, _, _, _, _]) (tail := [_, _]) (Rgb.freshWay A 4) [some 26, some 27, some 28, some 29, some 30, some 31, some 32] 34 rfl (by kernel_rfl) (by kernel_rfl) (by kernel_rfl) (by kernel_rfl) rfl (Rgb.freshWay_fair _ _) (Rgb.keep_drew _) (trivial) ?_
        intro QQ hQQ
        have HQQ := hid hQQ
        clear hQQ
        refine Rgb.op_is (.func (.yield l) #[] #[]) [] rfl rfl (by kernel_rfl) ?_ ?_
        · intro wx hb
          refine Rgb.from_nil fun T hT => ?_
          have g1 := (hb.cell (lt_of_cell cY)).trans cY
          go_wp2
          exact hT _ _ rfl (by first | exact Rgb.Keep.refl _ | exact below_of_dr hw2 | exact hw2 | exact (Below.refl _ _).alloc (Nat.le_refl _) _) (by first | rfl | exact congrArg _ (by decide))
        refine Rgb.op_is (.int .i64 (i : Int)) [] rfl rfl (by kernel_rfl) ?_ ?_
        · intro wx hb
          refine Rgb.from_nil fun T hT => ?_
          have g1 := (hb.cell (lt_of_cell cI)).trans cI
          go_wp2
          exact hT _ _ rfl (by first | exact Rgb.Keep.refl _ | exact below_of_dr hw2 | exact hw2 | exact (Below.refl _ _).alloc (Nat.le_refl _) _) (by first | rfl | exact congrArg _ (by decide))
        refine Rgb.op_till (fun w v => Own w A.heap.size 3 v [.int .i64 (i : Int)]) [1] rfl ?_ rfl (by kernel_rfl) ?_ ?_
        · exact fun w1 w2 v hk h => h.below hk
        · intro wx hb
          refine Rgb.from_is (some 27) rfl rfl ?_
          refine Rgb.from_nil fun T hT => ?_
          go_wp2
          exact hT _ _ rfl (below_alloc _ _) ((row1_new _ [.int .i64 (i : Int)] 3).own hb.size (by simp))
        refine Rgb.op_is (.slice A5 ln c5) [] rfl rfl (by kernel_rfl) ?_ ?_
        · intro wx hb
          refine Rgb.from_nil fun T hT => ?_
          go_wp2
          exact hT _ _ rfl (by first | exact Rgb.Keep.refl _ | exact below_of_dr hw2 | exact hw2 | exact (Below.refl _ _).alloc (Nat.le_refl _) _) (by first | rfl | exact congrArg _ (by decide))
        refine Rgb.op_turn (fun w v => Own w A.heap.size 3 v (.int .i64 (i : Int) :: sx.map fun (j : Nat) => Value.int .i64 (j : Int))) [2, 3] rfl ?_ rfl (by kernel_rfl) ?_ ?_
        · exact fun w1 w2 v hk h => h.below hk
        · intro wx hb hb1
          refine Rgb.from_till (some 28) rfl rfl fun v28 h28 => ?_
          refine Rgb.from_is (some 29) rfl rfl ?_
          refine Rgb.from_nil fun T hT => ?_
          have hbA := hb.size
          have hcA := HNC.out.keep fun p hp => hb.cell hp
          cases A5 with
          | none =>
            have hsx : sx = [] := by
              rcases hcA with h | ⟨b, off, h, _⟩
              · simpa using h
              · cases h
            subst hsx
            obtain rfl : ln = 0 := by rw [← HLN.out]; rfl
            refine wpList_appends_nil elt_int _ rfl _ _ rfl A.heap.size h28 rfl rfl ?_
            exact hT _ _ rfl (Below.refl _ _) h28
          | some a5 =>
            refine wpList_appends elt_int _ rfl _ _ rfl A.heap.size h28 rfl hcA (by rw [List.length_map, HLN.out]; rfl) HONE.out (by rw [List.length_map, HLN.out]; simp; omega) (by rw [List.length_map, HLN.out]; simp; omega) hbA ?_
            intro v' w' ho' _ hb'
            exact hT _ _ rfl hb' ho'
        refine Rgb.walk_nil [0, 1, 2, 3, 4] (by kernel_rfl) ?_
        intro wx hb
        refine Rgb.from_is (some 26) rfl rfl ?_
        refine Rgb.from_is (some 27) rfl rfl ?_
        refine Rgb.from_gone (some 28) rfl rfl fun v28 => ?_
        refine Rgb.from_is (some 29) rfl rfl ?_
        refine Rgb.from_of (some 30) rfl rfl fun v30 h30 => ?_
        refine Rgb.from_nil ?_
        refine HQQ.out _ _ ?_
        simp only [Act.put, List.setIfInBounds_toArray, List.set_cons_zero, List.set_cons_succ]
        clear HQQ
        have hJx' := hJ _ _ _ HJ2.out (hb.mono hAw)
        obtain ⟨fn, tmps, assign, body, hy, hR⟩ := yieldAt_any (m := 7) (HY.out pre' (v30, i :: sx) wx (Nat.le_trans hAw hb.size) hJx' ⟨h30.rowT, by simp only [List.length_cons]; rw [HLN.out, HLEN.out], fun j hj => by rcases List.mem_cons.1 hj with rfl | hj; exact hi7; exact hlts j hj⟩)
        simp only [encN] at hy
        have SX := HSA.out.below (hb.mono hA3)
        have HSX := hid SX
        have HUA := hid (Up.below (N := w3.heap.size) hb)
        have HCA := hid (CellsUp.below (N := wr.heap.size) hb)
        clear SX cY cI
        gi_wp2
        refine hR.mono ?_
        rintro e B ⟨h3, hu, hcu⟩
        have SB := HSX.out.up hu hcu
        have hUB := HUA.out.trans (hu.from_ hwz)
        have hCB := HCA.out.trans ((CellsUp.of_up hu).from_ hwr)
        rcases h3 with h3 | h3
        · obtain ⟨rfl, hJ3⟩ := h3
          gi_wp2
          exact ⟨⟨hUB, hCB⟩, ⟨pre' ++ [(v30, i :: sx)], by simp [HP2.out], hJ3⟩, SB⟩
        · obtain ⟨rfl, hJ3⟩ := h3
          gi_wp2
          exact ⟨⟨hUB, hCB⟩, rfl, ⟨pre' ++ [(v30, i :: sx)], by simp, by simp [HP2.out], hJ3⟩, SB.D⟩
      case done =>
        intro D xs A hD hAz hS hI hK
        obtain ⟨⟨pre', hp', hj'⟩, SA⟩ := hI
        have cI := SA.I.cell (k := 0) rfl
        have HSA := hid SA
        have HJ2 := hid hj'
        have HP2 := hid hp'
        clear SA hj' hp'
        go_wp2
        have hlt := (Array.getElem?_eq_some_iff.1 hK).1
        have SA := HSA.out.raise
        have hMk : Marks W.heap.size (D :: Ds) A := SA.D.cons hK (by omega) fun E hE => Nat.lt_of_lt_of_le (S3.k0.2.2.2.2.2 E hE) hD
        have SN : St1 m fr n gm gf gn gy A.heap.size (i + 1) l N0 W.heap.size (A.heap.size + 1) (D :: Ds) (A.alloc (.cells #[.int .i64 ((i : Int) + 1)] 3)) :=
          ⟨SA.M.alloc _, SA.F.alloc _, SA.N.alloc _, SA.Y.alloc _, row1_new A [.int .i64 ((i : Int) + 1)] _, SA.m0, ⟨SA.y0.1, SA.wz⟩, ⟨by have := SA.k0.1; omega, by have := SA.k0.2.1; omega, by have := SA.k0.2.2.1; omega, by have := SA.k0.2.2.2.1; omega, by omega, fun E hE => Nat.lt_succ_of_lt (hMk.lt hE)⟩, by simp, by have := SA.wz; simp; omega, hMk.below (below_alloc A _) fun E hE => hMk.lt hE⟩
        refine ⟨⟨i + 1, A.heap.size, A.heap.size + 1, D :: Ds, pre', frm_of (Ds := D :: Ds) _ _ _ _ _ _ _ _ _ _ _ _ _ _ _ _ _ _ _ _ _ _ _ _, by omega, by omega, ?_, hJ _ _ _ HJ2.out ((below_alloc A _).mono SA.wz), SN⟩, ?_⟩
        · rw [HP2.out, upto_next hi1, ← hS]
          simp
        · show cellM n (.pointer (some ⟨A.heap.size, 0, none⟩)) _ < cellM n (.pointer (some ⟨g5, 0, none⟩)) wr
          rw [cellM_at SN.I, hmeas.out]
          omega
      case stop =>
        intro D c pre2 A hD hAz hSp hI hK
        obtain ⟨rfl, ⟨pre', hne, hp', hj'⟩, hM⟩ := hI
        obtain ⟨_, rest2, hrest2⟩ := hSp
        obtain ⟨rest3, hrest3⟩ := upto_more (m := m) (fr := fr) (n := n) (i := i + 1) (by omega) (by omega)
        gi_wp2
        refine leaves_marks (D :: Ds) A (hM.cons hK (by omega) fun E hE => Nat.lt_of_lt_of_le (S3.k0.2.2.2.2.2 E hE) hD) fun w' hb' hcu' => ⟨.tuple #[], results_none rfl _ _ _, ⟨_, rfl⟩, .inr ⟨pre', ⟨hne, rest2.map (i :: ·) ++ rest3, ?_⟩, hJx _ _ _ hj' hb' hcu'⟩⟩
        rw [hp', ← hrest3, upto_next hi1, ← hrest2]
        simp
    · obtain rfl : i = fr + (n - m - fr) := by omega
      have hle : ¬ ((fr + (n - m - fr) : Nat) : Int) ≤ (n : Int) - ((m : Int) + 1) := by omega
      go_wp2
      refine leaves_marks Ds _ HS.out.D fun w' hb' _ => ⟨.tuple #[], results_none rfl _ _ _, ⟨_, rfl⟩, .inl ⟨pre, by rw [HPRE.out, upto_end], hJ _ _ _ HJ.out hb'⟩⟩
end Go.Proofs.YtlbhmoiicbhgkaaDoor
end

section
namespace Go.Proofs.YtlbhmoiicbhgkaaDoor
open Go.RowKit
attribute [local go_sem] Oper.semAt_some
/-- a row of the call's own, and what is wrong. -/
def NewTwo (l : List Int) (err : Int) (w : World) (e : Ending) (w' : World) : Prop := ∃ v, e = .returned (.tuple #[v, .int .i64 err]) ∧ Own w' w.heap.size 24 v (l.map (.int .u64)) ∧ Below w.heap.size w w'
open Classical in
noncomputable def eApart (xs : List Int) (q : Int) : Int := if Apart xs q then 0 else 5
noncomputable def eAll (xs : List Int) (q : Int) : Int := if eUnlike xs q = 0 then eApart xs q else eUnlike xs q
theorem eAll_bad {xs : List Int} {q : Int} (h : eUnlike xs q ≠ 0) : eAll xs q = eUnlike xs q := by unfold eAll; rw [if_neg h]
theorem eAll_yes {xs : List Int} {q : Int} (h : eUnlike xs q = 0) (ha : Apart xs q) : eAll xs q = 0 := by unfold eAll eApart; rw [if_pos h, if_pos ha]
theorem eAll_no {xs : List Int} {q : Int} (h : eUnlike xs q = 0) (ha : ¬ Apart xs q) : eAll xs q = 5 := by unfold eAll eApart; rw [if_pos h, if_neg ha]
theorem unlike_okm {xs : List Int} {q : Int} (h : eUnlike xs q = 0) : okm q = true := by
  unfold eUnlike at h
  split at h
  · assumption
  · omega
noncomputable def wAll (xs : List Int) (y q : Int) : List Int := (List.range xs.length).map (wOne xs y q)
noncomputable def wList (xs : List Int) (y q : Int) : List Int := if eAll xs q = 0 then wAll xs y q else []
theorem wAll_at {xs : List Int} {y q : Int} {k : Nat} {x : Int} (h : xs[k]? = some x) : (wAll xs y q)[k]? = some (mMul (iVal (mProd (but xs k) x q) q) (mProd (but xs k) y q) q) := by
  have hk := (List.getElem?_eq_some_iff.1 h).1
  unfold wAll
  rw [List.getElem?_map, List.getElem?_range hk, Option.map_some, wOne, List.getD_eq_getElem?_getD, h]; rfl
set_option maxRecDepth 100000 in
set_option maxHeartbeats 2000000 in
theorem pweights_c (A : Option Addr) (l : List Int) (c : Nat) (at_ q : Int) (w : World) (hA : Cells w A (l.map (.int .u64))) (hl : l.length ≤ 1000000) (hu : U64s l) (hat : U64 at_) (hq : U64 q) :
    Calls Tryd.prog 60 #[.slice A l.length c, .int .u64 at_, .int .u64 q] w (NewTwo (wList l at_ q) (eAll l q) w) := by
  by_cases he0 : eUnlike l q = 0
  · have hk := unlike_okm he0
    have HE0 := hid he0
    have hnb : ((0 : Int) != 0) = false := by decide
    go_enter Tryd.func60, Tryd.ntmps60
    clear he0
    go_wp2_with (go_at_call 90; refine (unlike_c A l c q _ hA (by omega) hu hq).mono ?_; rintro e w2 ⟨rfl, hb2⟩; rw [HE0.out])
    go_loopw [9, 10, 11, 12, 13, 22] (fun o _ _ _ _ i wr => ∃ k : Nat, i = .int .i64 k ∧ k ≤ l.length ∧ Own wr w.heap.size 24 o (((wAll l at_ q).take k).map (.int .u64)) ∧ Below w.heap.size w wr ∧ Hid (∀ j x, j < k → l[j]? = some x → Un (pd (but l j) x) q)) (fun _ _ _ _ _ i _ => l.length - (intOf i).toNat)
    case atStart => exact ⟨0, rfl, by omega, by simpa using Own.nil w2 w.heap.size 24, hb2, fun j x h => by omega⟩
    case round =>
      obtain ⟨k, rfl, hk1, hown, hb, hall⟩ := hrel
      by_cases hlt : k < l.length
      · obtain ⟨x, hx⟩ := get_of_lt hlt
        have hA2 := hA.keep fun p hp => hb.cell hp
        have hsh := share_c A l c k x at_ q wr hA2 hl hx hu hat hq hk
        by_cases hun : Un (pd (but l k) x) q
        · have hie : iErr (mProd (but l k) x q) q = 0 := (iErr_zero hk).2 (hun.congr (by rw [mProd_emod hk, Int.emod_emod]))
          have hz2 := wAll_at (y := at_) (q := q) hx
          have hall2 : ∀ j x, j < k + 1 → l[j]? = some x → Un (pd (but l j) x) q := fun j y hj hy => by
            rcases Nat.lt_or_ge j k with h | h
            · exact hall.out j y h hy
            · obtain rfl : j = k := by omega
              rw [hx] at hy
              obtain rfl := Option.some.inj hy
              exact hun
          have hv := iVal_u64 (mProd (but l k) x q) q
          have hp := mProd_u64 hk (but l k) at_
          rw [hie] at hsh
          obtain ⟨pu, hpu⟩ : ∃ p, iVal (mProd (but l k) x q) q = p := ⟨_, rfl⟩
          obtain ⟨pv, hpv⟩ : ∃ p, mProd (but l k) at_ q = p := ⟨_, rfl⟩
          rw [hpu, hpv] at hsh hz2
          rw [hpu] at hv
          rw [hpv] at hp
          have hs : ((wAll l at_ q).take k).map (Value.int .u64) ++ [Value.int .u64 (mMul pu pv q)] = ((wAll l at_ q).take (k + 1)).map (Value.int .u64) := by
            rw [take_snocP hz2]; simp
          have hlen : (((wAll l at_ q).take k).map (Value.int .u64)).length = k := by simp [wAll]; omega
          have HS := hid (⟨hs, hlen, hall2, hsh⟩ : _ ∧ _ ∧ _ ∧ _)
          clear hs hlen hall2 hall hsh hz2 hx hun hie hpu hpv
          go_wp2_with (fail)
          refine HS.out.2.2.2.mono ?_
          rintro e w3 ⟨rfl, hb3⟩
          have hown3 := hown.below hb3
          have hb4 := below_next hb hb.size hb3
          go_wp2_with (first | (go_at_call 89; refine (mul_c _ _ _ hv hp hq _).mono ?_; rintro e w4 ⟨rfl, hw4⟩) | (at_builtin; refine wpList_push elt_u64 _ rfl _ _ rfl w.heap.size (hown3.dr hw4) rfl (.int .u64 (mMul pu pv q)) rfl rfl (by rw [HS.out.2.1]; omega) (by rw [HS.out.2.1]; omega) (by have := hb4.size; have := Dr.size hw4; omega) ?_; intro v' w5 hown5 _ hb5))
          go_roundw
          case rel =>
            rw [HS.out.1] at hown5
            exact ⟨k + 1, by go_num, by omega, hown5, (below_dr hb4 hw4).trans hb5, HS.out.2.2.1⟩
          case measure => simp [intOf]; omega
        · have hie : iErr (mProd (but l k) x q) q = 5 := iErr_five hk fun h => hun (h.congr (by rw [mProd_emod hk, Int.emod_emod]))
          have hea : eAll l q = 5 := eAll_no HE0.out fun ha => hun (apart_iff.1 ha k x hx)
          have hw0 : wList l at_ q = [] := by unfold wList; rw [hea, if_neg (by decide)]
          rw [hie] at hsh
          have HS := hid (⟨hsh, hea, hw0⟩ : _ ∧ _ ∧ _)
          clear hsh hea hw0 hx hie hun hall
          go_wp2_with (fail)
          refine HS.out.1.mono ?_
          rintro e w3 ⟨rfl, hb3⟩
          go_wp2
          go_ret2
          rw [HS.out.2.1, HS.out.2.2]
          exact ⟨_, rfl, Own.nil _ _ _, below_next hb hb.size hb3⟩
      · obtain rfl : k = l.length := by omega
        have ha : Apart l q := apart_iff.2 fun j x hx => hall.out j x (List.getElem?_eq_some_iff.1 hx).1 hx
        have HE := hid (eAll_yes HE0.out ha)
        clear ha
        go_wp2
        go_ret2
        unfold wList
        rw [HE.out, if_pos rfl]
        rw [List.take_of_length_le (by simp [wAll])] at hown
        exact ⟨_, rfl, hown, hb⟩
  · have hbn : (eUnlike l q != 0) = true := bne_iff_ne.2 he0
    have hea := eAll_bad he0
    have hw0 : wList l at_ q = [] := by unfold wList; rw [hea, if_neg he0]
    have HE := hid (⟨hea, hw0⟩ : _ ∧ _)
    clear hea hw0
    go_enter Tryd.func60, Tryd.ntmps60
    go_wp2_with (go_at_call 90; refine (unlike_c A l c q _ hA (by omega) hu hq).mono ?_; rintro e w2 ⟨rfl, hb2⟩)
    go_ret2
    rw [HE.out.1, HE.out.2]
    exact ⟨_, rfl, Own.nil _ _ _, hb2⟩
open Go.RowKit
attribute [local go_sem] Oper.semAt_some
noncomputable def tErr (xs ys : List Int) (q : Int) : Int := if xs.length = ys.length then eAll xs q else 1
noncomputable def tVal (xs ys : List Int) (q : Int) : List Int := if tErr xs ys q = 0 then pOut xs ys q xs.length else []
theorem tVal_bad {xs ys : List Int} {q : Int} (h : tErr xs ys q ≠ 0) : tVal xs ys q = [] := by unfold tVal; rw [if_neg h]
theorem tVal_ok {xs ys : List Int} {q : Int} (h : tErr xs ys q = 0) : tVal xs ys q = pOut xs ys q xs.length := by unfold tVal; rw [if_pos h]
theorem pTimes_u64 (a b : List Int) (q : Int) : U64s (pTimes a b q) := by
  unfold pTimes
  split
  · intro z hz
    obtain ⟨n, _, rfl⟩ := List.mem_map.1 hz
    exact tAt_u64 _ _ _ _ _
  · intro z hz; cases hz
theorem pSum_u64 (a b : List Int) (q : Int) : U64s (pSum a b q) := by
  unfold pSum
  split
  · intro z hz
    obtain ⟨n, _, rfl⟩ := List.mem_map.1 hz
    exact mAdd_u64 _ _ _
  · intro z hz; cases hz
theorem pScale_u64 (a : List Int) (k q : Int) : U64s (pScale a k q) := by
  unfold pScale
  split
  · intro z hz
    obtain ⟨n, _, rfl⟩ := List.mem_map.1 hz
    exact mMul_u64 _ _ _
  · intro z hz; cases hz
theorem withoutL_u64 (c : List Int) (x q : Int) : U64s (withoutL c x q) := by
  intro z hz
  obtain ⟨n, _, rfl⟩ := List.mem_map.1 hz
  exact mEval_u64 _ _ _
theorem pAll_u64 {q : Int} (h : okm q = true) (xs : List Int) : U64s (pAll xs q) := by
  unfold pAll
  have key : ∀ (l a : List Int), U64s a → U64s (l.foldl (fun a x => pTimes a [mSub 0 x q, 1] q) a) := by
    intro l
    induction l with
    | nil => exact fun a h => h
    | cons x l ih => exact fun a _ => ih _ (pTimes_u64 _ _ _)
  refine key _ _ fun z hz => ?_
  rw [List.mem_singleton] at hz
  subst hz
  exact mod_u64 h
theorem pOut_u64 (xs ys : List Int) (q : Int) : ∀ k, U64s (pOut xs ys q k)
  | 0 => by
    intro z hz
    rw [pOut, List.mem_replicate] at hz
    obtain ⟨_, rfl⟩ := hz
    exact ⟨by omega, by omega⟩
  | k + 1 => pSum_u64 _ _ _
theorem pAll_step {xs : List Int} {k : Nat} {x : Int} (h : xs[k]? = some x) (q : Int) : pAll (xs.take (k + 1)) q = pTimes (pAll (xs.take k) q) [mSub 0 x q, 1] q := by
  rw [take_snocP h, pAll_snoc]
theorem pOut_step {xs ys : List Int} {k : Nat} {x y : Int} (h : xs[k]? = some x) (h' : ys[k]? = some y) (q : Int) : pOut xs ys q (k + 1) = pSum (pOut xs ys q k) (pScale (withoutL (pAll xs q) x q) (mMul (iVal (mProd (but xs k) x q) q) y q) q) q := by
  rw [pOut, List.getD_eq_getElem?_getD, List.getD_eq_getElem?_getD, h, h']; rfl
theorem u64_pair (a q : Int) : U64s [mSub 0 a q, 1] := by
  intro z hz
  simp only [List.mem_cons, List.not_mem_nil, or_false] at hz
  rcases hz with rfl | rfl
  · exact mSub_u64 _ _ _
  · exact ⟨by decide, by decide⟩
set_option maxRecDepth 100000 in
set_option maxHeartbeats 2000000 in
theorem pthrough_c (A B : Option Addr) (l m : List Int) (c d : Nat) (q : Int) (w : World) (hA : Cells w A (l.map (.int .u64))) (hB : Cells w B (m.map (.int .u64))) (hl : l.length ≤ 100000) (_hl' : m.length ≤ 100000) (hu : U64s l) (hu' : U64s m) (hq : U64 q) :
    Calls Tryd.prog 93 #[.slice A l.length c, .slice B m.length d, .int .u64 q] w (NewTwo (tVal l m q) (tErr l m q) w) := by
  by_cases hlm : l.length = m.length
  · have hln : ((l.length : Int) != (m.length : Int)) = false := by simp [hlm]
    have hln2 : (l.length != m.length) = false := by simp [hlm]
    by_cases he0 : eUnlike l q = 0
    · have hk := unlike_okm he0
      have h0 := okm_pos hk
      have h1 := okm_le hk
      have HE0 := hid he0
      have HLM := hid hlm
      have hnb : ((0 : Int) != 0) = false := by decide
      clear he0 hlm
      go_enter Tryd.func93, Tryd.ntmps93
      go_wp2_with (first | (go_at_call 109; refine (pmay_c _ hq _).mono ?_; rintro e w' ⟨rfl, rfl⟩; rw [hk]) | (go_at_call 90; refine (unlike_c A l c q _ hA (by omega) hu hq).mono ?_; rintro e w2 ⟨rfl, hb2⟩; rw [HE0.out]))
      have hs2 := hb2.size
      have hr1 := row1_new w2 [.int .u64 (1 % q)] 24
      have hb3 := below_next hb2 hb2.size (below_alloc w2 (.cells #[.int .u64 (1 % q)] 24))
      simp only [List.toArray] at hr1
      generalize w2.alloc (.cells #[.int .u64 (1 % q)] 24) = w3 at *
      go_loopw [9, 11, 39] (fun v _ i wr => ∃ k : Nat, i = .int .i64 k ∧ k ≤ l.length ∧ (∃ C cc, v = .slice C (pAll (l.take k) q).length cc ∧ Cells wr C ((pAll (l.take k) q).map (.int .u64))) ∧ Below w.heap.size w wr) (fun _ _ i _ => l.length - (intOf i).toNat)
      case atStart => exact ⟨0, rfl, by omega, ⟨_, _, by first | rfl | simp [pAll], by simpa [pAll] using hr1.cells⟩, hb3⟩
      case round =>
        obtain ⟨k, rfl, hk1, ⟨C, cc, rfl, hC⟩, hb⟩ := hrel
        have hpl : (pAll (l.take k) q).length = k + 1 := by rw [(pAll_is hk _).1, List.length_take]; omega
        have hpu := pAll_u64 hk (l.take k)
        by_cases hlt : k < l.length
        · obtain ⟨x, hx⟩ := get_of_lt hlt
          obtain ⟨o2, off2, rfl, hcx⟩ := (hA.keep fun p hp => hb.cell hp).at_map hx
          have hux := hu.at_ hx
          have hst := pAll_step hx q
          generalize pAll (l.take k) q = P at *
          have HS := hid (⟨hst, hpl⟩ : _ ∧ _)
          clear hst hpl hx hr1
          go_wp2_with (go_at_call 105; refine (sub_c 0 _ _ ⟨by decide, by decide⟩ hux hq _).mono ?_; rintro e w4 ⟨rfl, hw4⟩)
          have hC4 := (hC.keep fun p hp => (below_of_dr hw4 (B := wr.heap.size)).cell hp)
          have hb4 := below_dr hb hw4
          have hr5 := row1_new w4 [.int .u64 (mSub 0 x q), .int .u64 1] 24
          have hC5 := hC4.keep fun p hp => (below_alloc w4 (.cells #[.int .u64 (mSub 0 x q), .int .u64 1] 24)).cell hp
          have hb5 := below_next hb4 hb4.size (below_alloc w4 (.cells #[.int .u64 (mSub 0 x q), .int .u64 1] 24))
          refine (ptimes_c C _ P [mSub 0 x q, 1] cc 2 q _ hC5 hr5.cells (by rw [HS.out.2]; omega) (by simp) hpu (u64_pair x q) hq).mono ?_
          rintro e w6 ⟨v, rfl, hown6, hb6⟩
          obtain ⟨C6, c6, rfl, hC6⟩ := hown6.form
          rw [List.length_map, ← HS.out.1]
          rw [← HS.out.1] at hC6
          have hb7 := below_next hb5 hb5.size hb6
          clear hown6 hr5 hC5 hC4
          go_wp2
          go_roundw
          case rel => exact ⟨k + 1, by go_num, by omega, ⟨_, _, rfl, hC6⟩, hb7⟩
          case measure => simp [intOf]; omega
        · obtain rfl : k = l.length := by omega
          rw [List.take_length] at hC hpl hpu ⊢
          generalize wr = wm at *
          have hsm := hb.size
          obtain ⟨P, hP⟩ : ∃ P, pAll l q = P := ⟨_, rfl⟩
          have hst0 := fun (k : Nat) (x y : Int) (h : l[k]? = some x) (h' : m[k]? = some y) => pOut_step h h' q
          rw [hP] at hC hpl hpu hst0 ⊢
          have HP := hid (⟨hpl, hst0⟩ : _ ∧ _)
          clear hP hpl hst0 hr1
          go_wp2_with (at_make; refine wpList_make_row elt_u64 _ rfl _ _ rfl .i64 .i64 _ _ l.length rfl rfl rfl rfl (by omega) (by omega) ?_; intro w4 hr4 hs4 hb4)
          go_loopw [12, 13, 14, 15, 16, 17, 56] (fun o _ _ _ _ _ i wr => ∃ k : Nat, i = .int .i64 k ∧ k ≤ l.length ∧ Own wr wm.heap.size 24 o ((pOut l m q k).map (.int .u64)) ∧ Below wm.heap.size wm wr ∧ Hid (∀ j x, j < k → l[j]? = some x → Un (pd (but l j) x) q)) (fun _ _ _ _ _ _ i _ => l.length - (intOf i).toNat)
          case atStart =>
            refine ⟨0, rfl, by omega, ?_, hb4, fun j x h => by omega⟩
            have h9 := hr4.own (Nat.le_refl _) (by rw [List.length_replicate]; omega)
            rw [List.length_replicate] at h9
            rw [pOut, List.map_replicate]
            exact h9
          case round =>
            obtain ⟨k, rfl, hk1, hown, hbm, hall⟩ := hrel
            have hb5 := below_next hb hsm hbm
            clear hr4 hb4 hs4
            by_cases hlt : k < l.length
            · obtain ⟨x, hx⟩ := get_of_lt hlt
              have hkm : k < m.length := by have := HLM.out; omega
              obtain ⟨y, hy⟩ := get_of_lt hkm
              have hux := hu.at_ hx
              have huy := hu'.at_ hy
              have hA5 := hA.keep fun p hp => hb5.cell hp
              have hC5 := hC.keep fun p hp => hbm.cell hp
              obtain ⟨o2, off2, rfl, hcx⟩ := hA5.at_map hx
              obtain ⟨o3, off3, rfl, hcy⟩ := (hB.keep fun p hp => hb5.cell hp).at_map hy
              have hsh := share_c _ l c k x 0 q wr hA5 (by omega) hx hu ⟨by decide, by decide⟩ hq hk
              have hol := pOut_len hk l m k
              have hou := pOut_u64 l m q k
              by_cases hun : Un (pd (but l k) x) q
              · have hie : iErr (mProd (but l k) x q) q = 0 := (iErr_zero hk).2 (hun.congr (by rw [mProd_emod hk, Int.emod_emod]))
                have hall2 : ∀ j x, j < k + 1 → l[j]? = some x → Un (pd (but l j) x) q := fun j y' hj hy' => by
                  rcases Nat.lt_or_ge j k with h | h
                  · exact hall.out j y' h hy'
                  · obtain rfl : j = k := by omega
                    rw [hx] at hy'
                    obtain rfl := Option.some.inj hy'
                    exact hun
                have hst := HP.out.2 k x y hx hy
                have hv := iVal_u64 (mProd (but l k) x q) q
                rw [hie] at hsh
                obtain ⟨pu, hpu2⟩ : ∃ p, iVal (mProd (but l k) x q) q = p := ⟨_, rfl⟩
                rw [hpu2] at hsh hv hst
                have hwl : (withoutL P x q).length = l.length := by simp [withoutL, HP.out.1]
                have hwu := withoutL_u64 P x q
                have hsl : (pScale (withoutL P x q) (mMul pu y q) q).length = l.length := by rw [scale_len hk, hwl]
                have hsu := pScale_u64 (withoutL P x q) (mMul pu y q) q
                obtain ⟨M, hM⟩ : ∃ M, pScale (withoutL P x q) (mMul pu y q) q = M := ⟨_, rfl⟩
                obtain ⟨O, hO⟩ : ∃ O, pOut l m q k = O := ⟨_, rfl⟩
                rw [hM] at hsl hsu hst
                rw [hO] at hown hol hou hst
                obtain ⟨A6, c6, rfl, hA6⟩ := hown.form
                rw [List.length_map]
                have HS := hid (⟨hall2, hsh, hst, hM, hwl, hsl, hol⟩ : _ ∧ _ ∧ _ ∧ _ ∧ _ ∧ _ ∧ _)
                clear hall2 hall hsh hst hM hwl hsl hol hx hy hun hie hpu2 hO hown
                go_wp2_with (fail)
                refine HS.out.2.1.mono ?_
                rintro e w7 ⟨rfl, hb7⟩
                have hA7 := hA6.keep fun p hp => hb7.cell hp
                have hC7 := hC5.keep fun p hp => hb7.cell hp
                have hcy7 := (hb7.cell (lt_of_cell hcy)).trans hcy
                have hbm7 := below_next hbm hbm.size hb7
                clear hA6 hC5 hcy hcx hA5
                go_upto_region 19 with (fail)
                refine Rgb.wp_region (l := [_, _, _, _, _, _, _, _, _, _, _, _, _, _, _, _]) (tail := [_]) (Rgb.grows _ 17) [some 72, some 73, some 74, some 75, some 76, some 77, some 78, some 79, some 80, some 81, some 82, some 83, some 84, some 85, some 86, some 87, some 12] 90 (by kernel_rfl) (by kernel_rfl) (by kernel_rfl) rfl (Rgb.grows_fair _ _) (Rgb.keep_drew _) (trivial) ?_
                refine' Rgb.op_is _ [] rfl rfl (by kernel_rfl) ?_ ?_
                rotate_left
                · intro wx hb
                  refine Rgb.from_nil fun T hT => ?_
                  go_wp2
                  refine hT _ _ rfl (by first | exact Rgb.Keep.refl _ | exact below_of_dr hw2 | exact hw2 | exact (Below.refl _ _).alloc (Nat.le_refl _) _) ?_
                  simp only [Rgb.last, List.getElem?_toArray, List.getElem?_cons_succ, List.getElem?_cons_zero, Option.getD_some]
                  rfl
                refine' Rgb.op_is _ [] rfl rfl (by kernel_rfl) ?_ ?_
                rotate_left
                · intro wx hb
                  refine Rgb.from_nil fun T hT => ?_
                  go_wp2
                  refine hT _ _ rfl (by first | exact Rgb.Keep.refl _ | exact below_of_dr hw2 | exact hw2 | exact (Below.refl _ _).alloc (Nat.le_refl _) _) ?_
                  simp only [Rgb.last, List.getElem?_toArray, List.getElem?_cons_succ, List.getElem?_cons_zero, Option.getD_some]
                  rfl
                refine' Rgb.op_is _ [] rfl rfl (by kernel_rfl) ?_ ?_
                rotate_left
                · intro wx hb
                  refine Rgb.from_nil fun T hT => ?_
                  go_wp2
                  refine hT _ _ rfl (by first | exact Rgb.Keep.refl _ | exact below_of_dr hw2 | exact hw2 | exact (Below.refl _ _).alloc (Nat.le_refl _) _) ?_
                  simp only [Rgb.last, List.getElem?_toArray, List.getElem?_cons_succ, List.getElem?_cons_zero, Option.getD_some]
                  rfl
                refine' Rgb.op_is _ [] rfl rfl (by kernel_rfl) ?_ ?_
                rotate_left
                · intro wx hb
                  refine Rgb.from_nil fun T hT => ?_
                  go_wp2
                  refine hT _ _ rfl (by first | exact Rgb.Keep.refl _ | exact below_of_dr hw2 | exact hw2 | exact (Below.refl _ _).alloc (Nat.le_refl _) _) ?_
                  simp only [Rgb.last, List.getElem?_toArray, List.getElem?_cons_succ, List.getElem?_cons_zero, Option.getD_some]
                  rfl
                refine Rgb.op_of (fun w' v => Own w' w7.heap.size 24 v ((withoutL P x q).map (.int .u64))) [1, 2, 3] rfl ?_ ?_ rfl (by kernel_rfl) ?_ ?_
                · exact fun w1 w2 v hk h => h.below hk
                · exact fun w1 w2 v hk h => h.below hk
                · intro wx hb
                  refine Rgb.from_is (some 73) rfl rfl ?_
                  refine Rgb.from_is (some 74) rfl rfl ?_
                  refine Rgb.from_is (some 75) rfl rfl ?_
                  refine Rgb.from_nil fun T hT => ?_
                  go_wp2_with (fail)
                  refine (without_c C P cc x q _ (hC7.keep fun p hp => hb.cell hp) (by rw [HP.out.1]; omega) (by rw [HP.out.1]; omega) hpu hux hq).mono ?_
                  rintro e w8 ⟨v, rfl, hown8, hb8⟩
                  go_wp2
                  exact hT _ _ rfl hb8 (hown8.from_ hb.size)
                refine' Rgb.op_is _ [] rfl rfl (by kernel_rfl) ?_ ?_
                rotate_left
                · intro wx hb
                  refine Rgb.from_nil fun T hT => ?_
                  go_wp2
                  refine hT _ _ rfl (by first | exact Rgb.Keep.refl _ | exact below_of_dr hw2 | exact hw2 | exact (Below.refl _ _).alloc (Nat.le_refl _) _) ?_
                  simp only [Rgb.last, List.getElem?_toArray, List.getElem?_cons_succ, List.getElem?_cons_zero, Option.getD_some]
                  rfl
                refine' Rgb.op_is _ [] rfl rfl (by kernel_rfl) ?_ ?_
                rotate_left
                · intro wx hb
                  refine Rgb.from_nil fun T hT => ?_
                  go_wp2
                  refine hT _ _ rfl (by first | exact Rgb.Keep.refl _ | exact below_of_dr hw2 | exact hw2 | exact (Below.refl _ _).alloc (Nat.le_refl _) _) ?_
                  simp only [Rgb.last, List.getElem?_toArray, List.getElem?_cons_succ, List.getElem?_cons_zero, Option.getD_some]
                  rfl
                refine' Rgb.op_is _ [] rfl rfl (by kernel_rfl) ?_ ?_
                rotate_left
                · intro wx hb
                  refine Rgb.from_nil fun T hT => ?_
                  go_wp2
                  refine hT _ _ rfl (by first | exact Rgb.Keep.refl _ | exact below_of_dr hw2 | exact hw2 | exact (Below.refl _ _).alloc (Nat.le_refl _) _) ?_
                  simp only [Rgb.last, List.getElem?_toArray, List.getElem?_cons_succ, List.getElem?_cons_zero, Option.getD_some]
                  rfl
                refine Rgb.op_is (.pointer (some ⟨o3, off3 + k, none⟩)) [6, 7] rfl rfl (by kernel_rfl) ?_ ?_
                · intro wx hb
                  refine Rgb.from_is (some 78) rfl rfl ?_
                  refine Rgb.from_is (some 79) rfl rfl ?_
                  refine Rgb.from_nil fun T hT => ?_
                  go_wp2
                  exact hT _ _ rfl (by first | exact Rgb.Keep.refl _ | exact below_of_dr hw2 | exact hw2 | exact (Below.refl _ _).alloc (Nat.le_refl _) _) (by first | rfl | exact congrArg _ (by decide))
                refine Rgb.op_is (.int .u64 y) [8] rfl rfl (by kernel_rfl) ?_ ?_
                · intro wx hb
                  refine Rgb.from_is (some 80) rfl rfl ?_
                  refine Rgb.from_nil fun T hT => ?_
                  have g1 := (hb.cell (lt_of_cell hcy7)).trans hcy7
                  go_wp2
                  exact hT _ _ rfl (by first | exact Rgb.Keep.refl _ | exact below_of_dr hw2 | exact hw2 | exact (Below.refl _ _).alloc (Nat.le_refl _) _) (by first | rfl | exact congrArg _ (by decide))
                refine' Rgb.op_is _ [] rfl rfl (by kernel_rfl) ?_ ?_
                rotate_left
                · intro wx hb
                  refine Rgb.from_nil fun T hT => ?_
                  go_wp2
                  refine hT _ _ rfl (by first | exact Rgb.Keep.refl _ | exact below_of_dr hw2 | exact hw2 | exact (Below.refl _ _).alloc (Nat.le_refl _) _) ?_
                  simp only [Rgb.last, List.getElem?_toArray, List.getElem?_cons_succ, List.getElem?_cons_zero, Option.getD_some]
                  rfl
                refine Rgb.op_is (.int .u64 (mMul pu y q)) [5, 9, 10] rfl rfl (by kernel_rfl) ?_ ?_
                · intro wx hb
                  refine Rgb.from_is (some 77) rfl rfl ?_
                  refine Rgb.from_is (some 81) rfl rfl ?_
                  refine Rgb.from_is (some 82) rfl rfl ?_
                  refine Rgb.from_nil fun T hT => ?_
                  go_wp2_with (go_at_call 89; refine (mul_c _ _ _ hv huy hq _).mono ?_; rintro e w8 ⟨rfl, hw8⟩)
                  exact hT _ _ rfl (below_of_dr hw8) rfl
                refine' Rgb.op_is _ [] rfl rfl (by kernel_rfl) ?_ ?_
                rotate_left
                · intro wx hb
                  refine Rgb.from_nil fun T hT => ?_
                  go_wp2
                  refine hT _ _ rfl (by first | exact Rgb.Keep.refl _ | exact below_of_dr hw2 | exact hw2 | exact (Below.refl _ _).alloc (Nat.le_refl _) _) ?_
                  simp only [Rgb.last, List.getElem?_toArray, List.getElem?_cons_succ, List.getElem?_cons_zero, Option.getD_some]
                  rfl
                refine Rgb.op_of (fun w' v => Own w' w7.heap.size 24 v (M.map (.int .u64))) [4, 11, 12] rfl ?_ ?_ rfl (by kernel_rfl) ?_ ?_
                · exact fun w1 w2 v hk h => h.below hk
                · exact fun w1 w2 v hk h => h.below hk
                · intro wx hb
                  refine Rgb.from_of (some 76) rfl rfl fun v76 h76 => ?_
                  refine Rgb.from_is (some 83) rfl rfl ?_
                  refine Rgb.from_is (some 84) rfl rfl ?_
                  refine Rgb.from_nil fun T hT => ?_
                  obtain ⟨A9, c9, rfl, g9⟩ := h76.form
                  rw [List.length_map]
                  go_wp2_with (fail)
                  refine (pscale_c A9 (withoutL P x q) c9 (mMul pu y q) q _ g9 (by rw [HS.out.2.2.2.2.1]; omega) hwu (mMul_u64 _ _ _) hq).mono ?_
                  rintro e w8 ⟨v, rfl, hown8, hb8⟩
                  rw [HS.out.2.2.2.1] at hown8
                  go_wp2
                  exact hT _ _ rfl hb8 (hown8.from_ hb.size)
                refine' Rgb.op_is _ [] rfl rfl (by kernel_rfl) ?_ ?_
                rotate_left
                · intro wx hb
                  refine Rgb.from_nil fun T hT => ?_
                  go_wp2
                  refine hT _ _ rfl (by first | exact Rgb.Keep.refl _ | exact below_of_dr hw2 | exact hw2 | exact (Below.refl _ _).alloc (Nat.le_refl _) _) ?_
                  simp only [Rgb.last, List.getElem?_toArray, List.getElem?_cons_succ, List.getElem?_cons_zero, Option.getD_some]
                  rfl
                refine Rgb.op_of (fun w' v => Own w' w7.heap.size 24 v ((pOut l m q (k + 1)).map (.int .u64))) [0, 13, 14] rfl ?_ ?_ rfl (by kernel_rfl) ?_ ?_
                · exact fun w1 w2 v hk h => h.below hk
                · exact fun w1 w2 v hk h => h.below hk
                · intro wx hb
                  refine Rgb.from_is (some 72) rfl rfl ?_
                  refine Rgb.from_of (some 85) rfl rfl fun v85 h85 => ?_
                  refine Rgb.from_is (some 86) rfl rfl ?_
                  refine Rgb.from_nil fun T hT => ?_
                  obtain ⟨A9, c9, rfl, g9⟩ := h85.form
                  rw [List.length_map]
                  go_wp2_with (fail)
                  refine (psum_c A6 A9 O M c6 c9 q _ (hA7.keep fun p hp => hb.cell hp) g9 (by rw [HS.out.2.2.2.2.2.2]; omega) (by rw [HS.out.2.2.2.2.2.1]; omega) hou hsu hq).mono ?_
                  rintro e w8 ⟨v, rfl, hown8, hb8⟩
                  rw [← HS.out.2.2.1] at hown8
                  go_wp2
                  exact hT _ _ rfl hb8 (hown8.from_ hb.size)
                refine Rgb.walk_nil [0, 1, 2, 3, 4, 5, 6, 7, 8, 9, 10, 11, 12, 13, 14, 15] (by kernel_rfl) ?_
                intro wx hb
                refine Rgb.from_is (some 72) rfl rfl ?_
                refine Rgb.from_is (some 73) rfl rfl ?_
                refine Rgb.from_is (some 74) rfl rfl ?_
                refine Rgb.from_is (some 75) rfl rfl ?_
                refine Rgb.from_of (some 76) rfl rfl fun v76 h76 => ?_
                refine Rgb.from_is (some 77) rfl rfl ?_
                refine Rgb.from_is (some 78) rfl rfl ?_
                refine Rgb.from_is (some 79) rfl rfl ?_
                refine Rgb.from_is (some 80) rfl rfl ?_
                refine Rgb.from_is (some 81) rfl rfl ?_
                refine Rgb.from_is (some 82) rfl rfl ?_
                refine Rgb.from_is (some 83) rfl rfl ?_
                refine Rgb.from_is (some 84) rfl rfl ?_
                refine Rgb.from_of (some 85) rfl rfl fun v85 h85 => ?_
                refine Rgb.from_is (some 86) rfl rfl ?_
                refine Rgb.from_of (some 87) rfl rfl fun v87 h87 => ?_
                refine Rgb.from_nil ?_
                simp only [List.map, Act.put, List.setIfInBounds_toArray, List.set_cons_zero, List.set_cons_succ]
                have hbm8 := below_next hbm7 hbm7.size hb
                have hs7 := hbm7.size
                clear hA7 hC7 hcy7
                go_wp2
                go_roundw
                case rel => exact ⟨k + 1, by go_num, by omega, h87.from_ hs7, hbm8, HS.out.1⟩
                case measure => simp [intOf]; omega
              · have hie : iErr (mProd (but l k) x q) q = 5 := iErr_five hk fun h => hun (h.congr (by rw [mProd_emod hk, Int.emod_emod]))
                have hea : tErr l m q = 5 := by unfold tErr; rw [if_pos HLM.out]; exact eAll_no HE0.out fun ha => hun (apart_iff.1 ha k x hx)
                have hw0 : tVal l m q = [] := tVal_bad (by rw [hea]; decide)
                rw [hie] at hsh
                have HS := hid (⟨hsh, hea, hw0⟩ : _ ∧ _ ∧ _)
                clear hsh hea hw0 hx hy hie hun hall hcy hol hou
                go_wp2_with (fail)
                refine HS.out.1.mono ?_
                rintro e w7 ⟨rfl, hb7⟩
                go_wp2
                go_ret2
                rw [HS.out.2.1, HS.out.2.2]
                exact ⟨_, rfl, Own.nil _ _ _, below_next hb5 hb5.size hb7⟩
            · obtain rfl : k = l.length := by omega
              have ha : Apart l q := apart_iff.2 fun j x hx => hall.out j x (List.getElem?_eq_some_iff.1 hx).1 hx
              have hte : tErr l m q = 0 := by unfold tErr; rw [if_pos HLM.out]; exact eAll_yes HE0.out ha
              have HE := hid (⟨hte, tVal_ok hte⟩ : _ ∧ _)
              clear ha hte hall
              go_wp2
              go_ret2
              rw [HE.out.1, HE.out.2]
              exact ⟨_, rfl, hown.from_ hsm, hb5⟩
    · have hbn : (eUnlike l q != 0) = true := bne_iff_ne.2 he0
      have hea : tErr l m q = eUnlike l q := by unfold tErr; rw [if_pos hlm]; exact eAll_bad he0
      have hw0 : tVal l m q = [] := tVal_bad (by rw [hea]; exact he0)
      cases hk : okm q with
      | true =>
        have HE := hid (⟨hea, hw0⟩ : _ ∧ _)
        clear hea hw0 he0 hlm
        go_enter Tryd.func93, Tryd.ntmps93
        go_wp2_with (first | (go_at_call 109; refine (pmay_c _ hq _).mono ?_; rintro e w' ⟨rfl, rfl⟩; rw [hk]) | (go_at_call 90; refine (unlike_c A l c q _ hA (by omega) hu hq).mono ?_; rintro e w2 ⟨rfl, hb2⟩))
        go_ret2
        rw [HE.out.1, HE.out.2]
        exact ⟨_, rfl, Own.nil _ _ _, hb2⟩
      | false =>
        have hu1 : eUnlike l q = 1 := by unfold eUnlike; rw [if_neg (by rw [hk]; decide)]
        rw [hu1] at hea
        have HE := hid (⟨hea, hw0⟩ : _ ∧ _)
        clear hea hw0 he0 hlm hu1 hbn
        go_enter Tryd.func93, Tryd.ntmps93
        go_wp2_with (go_at_call 109; refine (pmay_c _ hq _).mono ?_; rintro e w' ⟨rfl, rfl⟩; rw [hk])
        go_ret2
        rw [HE.out.1, HE.out.2]
        exact ⟨_, rfl, Own.nil _ _ _, Below.refl _ _⟩
  · have hln : ((l.length : Int) != (m.length : Int)) = true := by simp; omega
    have hln2 : (l.length != m.length) = true := by simp; omega
    have hea : tErr l m q = 1 := by unfold tErr; rw [if_neg hlm]
    have hw0 : tVal l m q = [] := tVal_bad (by rw [hea]; decide)
    have HE := hid (⟨hea, hw0⟩ : _ ∧ _)
    clear hea hw0 hlm
    cases hk : okm q with
    | true =>
      go_enter Tryd.func93, Tryd.ntmps93
      go_wp2_with (go_at_call 109; refine (pmay_c _ hq _).mono ?_; rintro e w' ⟨rfl, rfl⟩; rw [hk])
      go_ret2
      rw [HE.out.1, HE.out.2]
      exact ⟨_, rfl, Own.nil _ _ _, Below.refl _ _⟩
    | false =>
      go_enter Tryd.func93, Tryd.ntmps93
      go_wp2_with (go_at_call 109; refine (pmay_c _ hq _).mono ?_; rintro e w' ⟨rfl, rfl⟩; rw [hk])
      go_ret2
      rw [HE.out.1, HE.out.2]
      exact ⟨_, rfl, Own.nil _ _ _, Below.refl _ _⟩
end Go.Proofs.YtlbhmoiicbhgkaaDoor
end

section
namespace Go.Rgb
open Go.RowKit
theorem grown_trans {a b c : World} {r : Option Nat} (h : a.grownBy b r) (k : b.grownBy c r) : a.grownBy c r :=
  ⟨k.os.trans h.os, k.tape.trans h.tape, k.output.trans h.output, Nat.le_trans h.size k.size, fun i hi hr => (k.block i (Nat.lt_of_lt_of_le hi h.size) hr).trans (h.block i hi hr)⟩
theorem keep_grown {a b : World} (r : Option Nat) (h : Keep a b) : a.grownBy b r := ⟨h.os, h.tape, h.output, h.size, fun i hi _ => h.block i hi⟩
/-- one operation (number s) puts something onto a row. -/
def growWay (w0 : World) (r : Option Nat) (s : Nat) : Way := ⟨Keep, fun w w' => w.grownBy w' r, fun w => w0.grownBy w r, fun w => Keep w0 w, s⟩
theorem growWay_fair (w0 : World) (r : Option Nat) (s : Nat) : (growWay w0 r s).Fair := ⟨fun _ _ h k => grown_trans h (keep_grown r k), fun _ _ h k => grown_trans h k, fun _ _ h k => h.trans k⟩
theorem grow_drew (w : World) (r : Option Nat) : w.grownBy w.drew r := ⟨rfl, rfl, rfl, Nat.le_refl _, fun _ _ _ => rfl⟩
theorem grow_cell {w w' : World} {r : Option Nat} {p : Addr} {u : Value} (h : w.grownBy w' r) (hp : w.cell? p = some u) (hr : some p.block ≠ r) : w'.cell? p = some u := by
  have hlt := Go.Proofs.YtlbhmoiicbhgkaaDoor.lt_of_cell hp
  exact (World.cell?_of_block (h.block _ hlt hr)).trans hp
end Go.Rgb
namespace Go.Proofs.YtlbhmoiicbhgkaaDoor
open Go.RowKit
theorem wpList_push_at {P : Program} {t e : TypeId} {z : Value} {bytes : Nat} (E : Elt P t e z bytes) (wr : World) {ops : Array Oper} {rest : List Oper} {o : Oper} {a : Act} {Q : Exit → Act → World → Prop}
    (hg : o.guard = none) (s x : Operand) (hop : o.op = .call { callee := .builtin .append, args := #[s, x], argTypes := #[t, t] })
    (base : Nat) {v : Value} {xs : List Value} (hown : Own wr base e v xs) (hs : a.eval s = v) (u : Value) (g : Nat) (hx : a.eval x = .slice (some ⟨g, 0, none⟩) 1 1) (hu : Row1 wr g e [u]) (h1 : u.oneCell' = true)
    (hb : (xs.length + 1) * bytes ≤ 140737488355328) (hm : xs.length + 1 ≤ 9223372036854775807) (hbase : base ≤ wr.heap.size)
    (hK : ∀ v' w', Own w' base e v' (xs ++ [u]) → wr.grownBy w' v.ownBlock → (v'.ownBlock = v.ownBlock ∨ v'.ownBlock = some wr.heap.size) → wpList P ops Q rest (a.put o.dst v') w') :
    wpList P ops Q (o :: rest) a wr := by
  obtain ⟨i, hi, hz, hsz, hby⟩ := E.info
  refine wpList_append_own_at (P := P) wr hg s x t hop base e i z 1 bytes E.under hi hz hsz hby E.one (by decide) v xs.length xs hs hown ⟨g, 0, none⟩ 1 1 [u] hx rfl (fun j u' hj => ?_) (by simpa using h1) (by unfold maxLen; omega) hb hbase ?_
  · have hadd : (⟨g, 0, none⟩ : Addr).add j = ⟨g, 0 + j, none⟩ := by unfold Addr.add; split <;> simp_all
    rw [hadd, Nat.zero_add]
    exact hu.cell hj
  · intro v' w' h2 h3 _ h5
    refine hK v' w' ?_ h3 h5
    unfold Own; rw [List.length_append]; exact h2
end Go.Proofs.YtlbhmoiicbhgkaaDoor
end

section
namespace Go.Proofs.YtlbhmoiicbhgkaaDoor
open Go.RowKit Go.Shelf
attribute [local go_sem] Oper.semAt_some
theorem sets_ok : ∀ m, m ≤ 10 → SetsOk m
  | 0, _ => sets1_zero
  | m + 1, h => sets1_succ m (by omega) (sets_ok m (by omega))
/-- the points, as a value. -/
abbrev pts (A B : Option Addr) (n m c d : Nat) (q : Int) : Value := .agg #[.slice A n c, .slice B m d, .int .u64 q]
abbrev ptsL (A B : Option Addr) (n m c d : Nat) (q : Int) : List Value := [.slice A n c, .slice B m d, .int .u64 q]
/-- some of them. -/
def pick (l : List Int) (s : List Nat) : List Int := s.map fun i => l.getD i 0
theorem pick_snoc {l : List Int} {s : List Nat} {k i : Nat} (h : s[k]? = some i) : pick l (s.take (k + 1)) = pick l (s.take k) ++ [l.getD i 0] := by
  unfold pick
  rw [take_snocP h, List.map_append]; rfl
theorem pick_u64 {l : List Int} (h : U64s l) (s : List Nat) : U64s (pick l s) := by
  intro z hz
  obtain ⟨i, _, rfl⟩ := List.mem_map.1 hz
  rw [List.getD_eq_getElem?_getD]
  cases hi : l[i]? with
  | none => exact ⟨by simp, by simp⟩
  | some z => exact h z (List.mem_of_getElem? hi)
set_option maxRecDepth 100000 in
set_option maxHeartbeats 4000000 in
theorem rthrough_c (A B S : Option Addr) (l m : List Int) (s : List Nat) (c d e : Nat) (q : Int) (w : World) (hA : Cells w A (l.map (.int .u64))) (hB : Cells w B (m.map (.int .u64))) (hS : Cells w S (s.map fun (i : Nat) => Value.int .i64 (i : Int)))
    (_hl : l.length ≤ 1000) (hlm : l.length = m.length) (hs : s.length ≤ 1000) (hsl : ∀ i ∈ s, i < l.length) (hu : U64s l) (hu' : U64s m) (hq : U64 q) :
    Calls Tryd.prog 62 #[pts A B l.length m.length c d q, .slice S s.length e] w (NewTwo (tVal (pick l s) (pick m s) q) (tErr (pick l s) (pick m s) q) w) := by
  have hb0 := below_alloc w (.cells (ptsL A B l.length m.length c d q).toArray 87)
  have hP := row1_new w (ptsL A B l.length m.length c d q) 87
  have HA := hid hA
  have HB := hid hB
  have HS := hid hS
  have HLM := hid hlm
  clear hA hB hS hlm
  go_enter Tryd.func62, Tryd.ntmps62
  go_wp2
  simp only [List.toArray] at hb0 hP
  generalize w.alloc (.cells #[.slice A l.length c, .slice B m.length d, .int .u64 q] 87) = w1 at *
  have HP := hid hP
  have HB0 := hid hb0
  clear hP hb0
  go_loopw [6, 7, 12] (fun x y i wr => ∃ k : Nat, i = .int .i64 (k : Int) ∧ k ≤ s.length ∧ Hid (Own wr w1.heap.size 24 x ((pick l (s.take k)).map (.int .u64)) ∧ Own wr w1.heap.size 24 y ((pick m (s.take k)).map (.int .u64)) ∧ (∀ g, x.ownBlock = some g → y.ownBlock ≠ some g) ∧ Below w1.heap.size w1 wr)) (fun _ _ i _ => s.length - (intOf i).toNat)
  case atStart => exact ⟨0, rfl, by omega, hid ⟨Own.nil _ _ _, Own.nil _ _ _, fun g h => (by cases h), Below.refl _ _⟩⟩
  case round =>
    obtain ⟨k, rfl, hk, HI⟩ := hrel
    by_cases hlt : k < s.length
    · obtain ⟨i, hi⟩ := get_of_lt hlt
      have hil := hsl i (List.mem_of_getElem? hi)
      have hbw := below_next HB0.out HB0.out.size HI.out.2.2.2
      obtain ⟨z, hz⟩ := get_of_lt hil
      obtain ⟨z', hz'⟩ := get_of_lt (l := m) (show i < m.length by have := HLM.out; omega)
      obtain ⟨b1, off1, rfl, dS⟩ := HS.out.at_map hi
      obtain ⟨b2, off2, rfl, dA⟩ := HA.out.at_map hz
      obtain ⟨b3, off3, rfl, dB⟩ := HB.out.at_map hz'
      have cS := (hbw.cell (lt_of_cell dS)).trans dS
      have cA := (hbw.cell (lt_of_cell dA)).trans dA
      have cB := (hbw.cell (lt_of_cell dB)).trans dB
      have hP := HP.out.below HI.out.2.2.2
      have hX := HI.out.1
      have hY := HI.out.2.1
      have hXY := HI.out.2.2.1
      have hbl := HI.out.2.2.2
      have hi1 : (i : Int) < (l.length : Int) := by omega
      have hi2 : (i : Int) < (m.length : Int) := by have := HLM.out; omega
      have HX1 := hid (show pick l (s.take (k + 1)) = pick l (s.take k) ++ [z] by rw [pick_snoc hi, List.getD_eq_getElem?_getD, hz]; rfl)
      have HY1 := hid (show pick m (s.take (k + 1)) = pick m (s.take k) ++ [z'] by rw [pick_snoc hi, List.getD_eq_getElem?_getD, hz']; rfl)
      have hlX : ((pick l (s.take k)).map (Value.int .u64)).length ≤ 1000 := by simp [pick]; omega
      have hlY : ((pick m (s.take k)).map (Value.int .u64)).length ≤ 1000 := by simp [pick]; omega
      have hnx : ∀ b, b < w1.heap.size → some b ≠ u6.ownBlock := fun b hb e => by have := (hX.block b e.symm).1; omega
      have hw1 := HB0.out.size
      have hn2 := hnx _ (Nat.lt_of_lt_of_le (lt_of_cell dA) hw1)
      have hn3 := hnx _ (Nat.lt_of_lt_of_le (lt_of_cell dB) hw1)
      have hn4 := hnx _ HP.out.lt
      have cp0 := hP.cell (k := 0) rfl
      have cp1 := hP.cell (k := 1) rfl
      have hw1r : w1.heap.size ≤ wr.heap.size := hbl.size
      clear HI hi hz hz' dS dA dB hnx
      go_upto_region 5 with (fail)
      refine Rgb.wp_region (l := [_, _, _, _, _, _, _, _, _, _, _, _, _, _, _]) (tail := [_, _, _]) (Rgb.growWay wr u6.ownBlock 7) [some 16, some 17, some 18, some 19, some 20, some 21, some 22, some 23, some 24, some 25, some 26, some 27, some 28, some 29, some 30, some 31, some 6, some 7] 40 (by kernel_rfl) (by kernel_rfl) (by kernel_rfl) rfl (Rgb.growWay_fair _ _ _) (Rgb.grow_drew _ _) (Rgb.keep_drew _) ?_
      refine' Rgb.op_is _ [] rfl rfl (by kernel_rfl) ?_ ?_
      rotate_left
      · intro wx hb
        refine Rgb.from_nil fun T hT => ?_
        go_wp2
        refine hT _ _ rfl (by first | exact Rgb.Keep.refl _ | exact below_of_dr hw2 | exact hw2 | exact (Below.refl _ _).alloc (Nat.le_refl _) _) ?_
        simp only [Rgb.last, List.getElem?_toArray, List.getElem?_cons_succ, List.getElem?_cons_zero, Option.getD_some]
        rfl
      refine' Rgb.op_is _ [] rfl rfl (by kernel_rfl) ?_ ?_
      rotate_left
      · intro wx hb
        refine Rgb.from_nil fun T hT => ?_
        go_wp2
        refine hT _ _ rfl (by first | exact Rgb.Keep.refl _ | exact below_of_dr hw2 | exact hw2 | exact (Below.refl _ _).alloc (Nat.le_refl _) _) ?_
        simp only [Rgb.last, List.getElem?_toArray, List.getElem?_cons_succ, List.getElem?_cons_zero, Option.getD_some]
        rfl
      refine Rgb.op_is (.slice (some ⟨b2, off2, none⟩) l.length c) [1] rfl rfl (by kernel_rfl) ?_ ?_
      · intro wx hb
        refine Rgb.from_is (some 17) rfl rfl ?_
        refine Rgb.from_nil fun T hT => ?_
        have g1 := Rgb.grow_cell hb cp0 hn4
        go_wp2
        exact hT _ _ rfl (by first | exact Rgb.Keep.refl _ | exact below_of_dr hw2 | exact hw2 | exact (Below.refl _ _).alloc (Nat.le_refl _) _) (by first | rfl | exact congrArg _ (by decide))
      refine' Rgb.op_is _ [] rfl rfl (by kernel_rfl) ?_ ?_
      rotate_left
      · intro wx hb
        refine Rgb.from_nil fun T hT => ?_
        go_wp2
        refine hT _ _ rfl (by first | exact Rgb.Keep.refl _ | exact below_of_dr hw2 | exact hw2 | exact (Below.refl _ _).alloc (Nat.le_refl _) _) ?_
        simp only [Rgb.last, List.getElem?_toArray, List.getElem?_cons_succ, List.getElem?_cons_zero, Option.getD_some]
        rfl
      refine Rgb.op_is (.pointer (some ⟨b2, off2 + i, none⟩)) [2, 3] rfl rfl (by kernel_rfl) ?_ ?_
      · intro wx hb
        refine Rgb.from_is (some 18) rfl rfl ?_
        refine Rgb.from_is (some 19) rfl rfl ?_
        refine Rgb.from_nil fun T hT => ?_
        go_wp2
        exact hT _ _ rfl (by first | exact Rgb.Keep.refl _ | exact below_of_dr hw2 | exact hw2 | exact (Below.refl _ _).alloc (Nat.le_refl _) _) (by first | rfl | exact congrArg _ (by decide))
      refine Rgb.op_is (.int .u64 z) [4] rfl rfl (by kernel_rfl) ?_ ?_
      · intro wx hb
        refine Rgb.from_is (some 20) rfl rfl ?_
        refine Rgb.from_nil fun T hT => ?_
        have g1 := Rgb.grow_cell hb cA hn2
        go_wp2
        exact hT _ _ rfl (by first | exact Rgb.Keep.refl _ | exact below_of_dr hw2 | exact hw2 | exact (Below.refl _ _).alloc (Nat.le_refl _) _) (by first | rfl | exact congrArg _ (by decide))
      refine Rgb.op_till (fun w' u => ∃ g, u = Value.slice (some ⟨g, 0, none⟩) 1 1 ∧ Row1 w' g 24 [.int .u64 z]) [5] rfl ?_ rfl (by kernel_rfl) ?_ ?_
      · exact fun w1 w2 v hk ⟨g, e, h⟩ => ⟨g, e, h.below hk⟩
      · intro wx hb
        refine Rgb.from_is (some 21) rfl rfl ?_
        refine Rgb.from_nil fun T hT => ?_
        go_wp2
        exact hT _ _ rfl (below_alloc _ _) ⟨_, rfl, row1_new wx [_] 24⟩
      refine Rgb.op_turn (fun w' u => Own w' w1.heap.size 24 u ((pick l (s.take k)).map (.int .u64) ++ [.int .u64 z]) ∧ (u.ownBlock = u6.ownBlock ∨ ∃ g, u.ownBlock = some g ∧ wr.heap.size ≤ g)) [0, 6] rfl ?_ rfl (by kernel_rfl) ?_ ?_
      · exact fun w1 w2 v hk h => ⟨h.1.below hk, h.2⟩
      · intro wx hb hb1
        refine Rgb.from_is (some 16) rfl rfl ?_
        refine Rgb.from_till (some 22) rfl rfl fun v22 h22 => ?_
        refine Rgb.from_nil fun T hT => ?_
        obtain ⟨g, rfl, hg⟩ := h22
        refine wpList_push_at elt_u64 _ rfl _ _ rfl w1.heap.size (hX.below hb1) rfl (.int .u64 z) g rfl hg rfl (by omega) (by omega) (Nat.le_trans hw1r hb1.size) ?_
        intro v' w' hown' hgr hbl
        go_wp2
        exact hT _ _ rfl hgr ⟨hown', hbl.imp id fun h => ⟨_, h, hb1.size⟩⟩
      refine' Rgb.op_is _ [] rfl rfl (by kernel_rfl) ?_ ?_
      rotate_left
      · intro wx hb
        refine Rgb.from_nil fun T hT => ?_
        go_wp2
        refine hT _ _ rfl (by first | exact Rgb.Keep.refl _ | exact below_of_dr hw2 | exact hw2 | exact (Below.refl _ _).alloc (Nat.le_refl _) _) ?_
        simp only [Rgb.last, List.getElem?_toArray, List.getElem?_cons_succ, List.getElem?_cons_zero, Option.getD_some]
        rfl
      refine' Rgb.op_is _ [] rfl rfl (by kernel_rfl) ?_ ?_
      rotate_left
      · intro wx hb
        refine Rgb.from_nil fun T hT => ?_
        go_wp2
        refine hT _ _ rfl (by first | exact Rgb.Keep.refl _ | exact below_of_dr hw2 | exact hw2 | exact (Below.refl _ _).alloc (Nat.le_refl _) _) ?_
        simp only [Rgb.last, List.getElem?_toArray, List.getElem?_cons_succ, List.getElem?_cons_zero, Option.getD_some]
        rfl
      refine Rgb.op_is (.slice (some ⟨b3, off3, none⟩) m.length d) [9] rfl rfl (by kernel_rfl) ?_ ?_
      · intro wx hb
        refine Rgb.from_is (some 25) rfl rfl ?_
        refine Rgb.from_nil fun T hT => ?_
        have g1 := Rgb.grow_cell hb cp1 hn4
        go_wp2
        exact hT _ _ rfl (by first | exact Rgb.Keep.refl _ | exact below_of_dr hw2 | exact hw2 | exact (Below.refl _ _).alloc (Nat.le_refl _) _) (by first | rfl | exact congrArg _ (by decide))
      refine' Rgb.op_is _ [] rfl rfl (by kernel_rfl) ?_ ?_
      rotate_left
      · intro wx hb
        refine Rgb.from_nil fun T hT => ?_
        go_wp2
        refine hT _ _ rfl (by first | exact Rgb.Keep.refl _ | exact below_of_dr hw2 | exact hw2 | exact (Below.refl _ _).alloc (Nat.le_refl _) _) ?_
        simp only [Rgb.last, List.getElem?_toArray, List.getElem?_cons_succ, List.getElem?_cons_zero, Option.getD_some]
        rfl
      refine Rgb.op_is (.pointer (some ⟨b3, off3 + i, none⟩)) [10, 11] rfl rfl (by kernel_rfl) ?_ ?_
      · intro wx hb
        refine Rgb.from_is (some 26) rfl rfl ?_
        refine Rgb.from_is (some 27) rfl rfl ?_
        refine Rgb.from_nil fun T hT => ?_
        go_wp2
        exact hT _ _ rfl (by first | exact Rgb.Keep.refl _ | exact below_of_dr hw2 | exact hw2 | exact (Below.refl _ _).alloc (Nat.le_refl _) _) (by first | rfl | exact congrArg _ (by decide))
      refine Rgb.op_is (.int .u64 z') [12] rfl rfl (by kernel_rfl) ?_ ?_
      · intro wx hb
        refine Rgb.from_is (some 28) rfl rfl ?_
        refine Rgb.from_nil fun T hT => ?_
        have g1 := Rgb.grow_cell hb cB hn3
        go_wp2
        exact hT _ _ rfl (by first | exact Rgb.Keep.refl _ | exact below_of_dr hw2 | exact hw2 | exact (Below.refl _ _).alloc (Nat.le_refl _) _) (by first | rfl | exact congrArg _ (by decide))
      refine Rgb.op_of (fun w' u => ∃ g, u = Value.slice (some ⟨g, 0, none⟩) 1 1 ∧ Row1 w' g 24 [.int .u64 z'] ∧ some g ≠ u6.ownBlock) [13] rfl ?_ ?_ rfl (by kernel_rfl) ?_ ?_
      · exact fun w1 w2 v hk ⟨g, e, h, hn⟩ => ⟨g, e, h.below hk, hn⟩
      · exact fun w1 w2 v hk ⟨g, e, h, hn⟩ => ⟨g, e, h.keep (hk.block g h.lt hn), hn⟩
      · intro wx hb
        refine Rgb.from_is (some 29) rfl rfl ?_
        refine Rgb.from_nil fun T hT => ?_
        go_wp2
        exact hT _ _ rfl (below_alloc _ _) ⟨_, rfl, row1_new wx [_] 24, fun e => by have := (hX.block _ e.symm).2; have := hb.size; omega⟩
      refine Rgb.walk_nil [0, 1, 2, 3, 4, 5, 6, 7, 8, 9, 10, 11, 12, 13, 14] (by kernel_rfl) ?_
      intro wx hb
      refine Rgb.from_is (some 16) rfl rfl ?_
      refine Rgb.from_is (some 17) rfl rfl ?_
      refine Rgb.from_is (some 18) rfl rfl ?_
      refine Rgb.from_is (some 19) rfl rfl ?_
      refine Rgb.from_is (some 20) rfl rfl ?_
      refine Rgb.from_is (some 21) rfl rfl ?_
      refine Rgb.from_gone (some 22) rfl rfl fun v22 => ?_
      refine Rgb.from_of (some 23) rfl rfl fun v23 h23 => ?_
      refine Rgb.from_is (some 24) rfl rfl ?_
      refine Rgb.from_is (some 25) rfl rfl ?_
      refine Rgb.from_is (some 26) rfl rfl ?_
      refine Rgb.from_is (some 27) rfl rfl ?_
      refine Rgb.from_is (some 28) rfl rfl ?_
      refine Rgb.from_is (some 29) rfl rfl ?_
      refine Rgb.from_of (some 30) rfl rfl fun v30 h30 => ?_
      refine Rgb.from_nil ?_
      simp only [List.map, Act.put, List.setIfInBounds_toArray, List.set_cons_zero, List.set_cons_succ]
      obtain ⟨g30, rfl, hg30, hne30⟩ := h30
      obtain ⟨h23a, h23b⟩ := h23
      have hYx := hY.keep fun g hg => hb.block g (hY.block g hg).2 fun e => hXY g e.symm hg
      refine wpList_push_at elt_u64 _ rfl _ _ rfl w1.heap.size hYx rfl (.int .u64 z') g30 rfl hg30 rfl (by omega) (by omega) (Nat.le_trans hw1r hb.size) ?_
      intro v' w' hown' hgr hbl2
      have hd : ∀ g, v23.ownBlock = some g → u7.ownBlock ≠ some g := fun g hg e => by
        rcases h23b with h | ⟨g2, h, hge⟩
        · exact hXY g (h ▸ hg) e
        · rw [h] at hg
          have := (hY.block g e).2
          simp only [Option.some.injEq] at hg
          omega
      have hXn := h23a.keep fun g hg => hgr.block g (h23a.block g hg).2 fun e => hd g hg e.symm
      have hdn : ∀ g, v23.ownBlock = some g → v'.ownBlock ≠ some g := fun g hg e => by
        rcases hbl2 with h | h
        · exact hd g hg (h ▸ e)
        · rw [h] at e
          have := (h23a.block g hg).2
          simp only [Option.some.injEq] at e
          omega
      have hbn : Below w1.heap.size w1 w' := (hbl.grown hb hw1r fun g e => (hX.block g e).1).grown hgr (Nat.le_trans hw1r hb.size) fun g e => (hY.block g e).1
      have HN := hid (show Own w' w1.heap.size 24 v23 ((pick l (s.take (k + 1))).map (.int .u64)) ∧ Own w' w1.heap.size 24 v' ((pick m (s.take (k + 1))).map (.int .u64)) ∧ (∀ g, v23.ownBlock = some g → v'.ownBlock ≠ some g) ∧ Below w1.heap.size w1 w' by
        rw [HX1.out, HY1.out, List.map_append, List.map_append]
        exact ⟨hXn, hown', hdn, hbn⟩)
      clear hYx hown' hgr hbl2 hd hXn hdn hbn hg30 hne30 h23a h23b hX hY hXY hb hbl hP
      go_wp2
      go_roundw
      case rel => exact ⟨k + 1, by go_num, by omega, HN⟩
      case measure => simp [intOf]; omega
    · obtain rfl : k = s.length := by omega
      rw [List.take_length] at HI
      obtain ⟨A6, c6, e6, hc6⟩ := HI.out.1.form
      obtain ⟨A7, c7, e7, hc7⟩ := HI.out.2.1.form
      have hpl : (pick l s).length = s.length := by simp [pick]
      have hpm : (pick m s).length = s.length := by simp [pick]
      rw [List.length_map] at e6 e7
      subst e6
      subst e7
      have hP := HP.out.below HI.out.2.2.2
      have hbw := below_next HB0.out HB0.out.size HI.out.2.2.2
      have cp2 := hP.cell (k := 2) rfl
      have HPT := hid (pthrough_c A6 A7 (pick l s) (pick m s) c6 c7 q wr hc6 hc7 (by omega) (by omega) (pick_u64 hu s) (pick_u64 hu' s) hq)
      have HPL := hid hpl
      have HPM := hid hpm
      clear hpl hpm HI hc6 hc7 hP
      go_wp2_with (fail)
      refine HPT.out.mono ?_
      rintro e w5 ⟨v5, rfl, ho5, hb5⟩
      go_wp2
      go_ret2
      exact ⟨v5, rfl, ho5.from_ hbw.size, below_next hbw hbw.size hb5⟩
end Go.Proofs.YtlbhmoiicbhgkaaDoor
end
