/-
  A copy of queries; a query more: the program's, all of it in memory of its own.
-/
import Derived.Test.YtlbhmoiicbhgkaaDoorAdmQ1
import Derived.Test.YtlbhmoiicbhgkaaDoorAdmQ2
import Derived.Test.YtlbhmoiicbhgkaaDoorAdmQ3
import Derived.Test.YtlbhmoiicbhgkaaDoorAdmQ4
import Derived.Test.YtlbhmoiicbhgkaaDoorAdmQ5
import Derived.Test.YtlbhmoiicbhgkaaDoorAdmQ6
import Derived.Test.YtlbhmoiicbhgkaaDoorAdmQ7
import Derived.Test.YtlbhmoiicbhgkaaDoorAdmQ8
import Derived.Test.YtlbhmoiicbhgkaaDoorAdP
namespace Go.Proofs.YtlbhmoiicbhgkaaDoor
open Go Go.RowKit Go.Maps Go.Shelf Go.Proofs

attribute [local go_sem] Oper.semAt_some

theorem own_heap {w : World} {b g : Nat} {e : TypeId} {v : Value} {xs : List Value} (h : Own w b e v xs) (hg : v.ownBlock = some g) : ∃ arr, w.heap[g]? = some (Obj.cells arr e (0, 0)) := by
  rcases h.2 with ⟨rfl, _⟩ | ⟨g', cap, cur, rfl, _, hh, _⟩
  · cases hg
  · simp only [Value.ownBlock, Option.some.injEq] at hg
    subst hg
    exact ⟨cur, hh⟩
/-- queries in a row of the call's own, their entries in rows of their own. -/
def OwnS (w : World) (base : Nat) (v : Value) (l : List Ask) : Prop := ∃ vs : List AskV, w.ownsRow base 41 2 v l.length (vs.flatMap acl) ∧ vs.length = l.length ∧ ∀ (i : Nat) (u : AskV) (a : Ask), vs[i]? = some u → l[i]? = some a → u.id = a.id ∧ Own w base 2 u.v (a.x.map (.int .i64))
section
variable {w w' : World} {base : Nat} {v v' : Value} {l : List Ask}
theorem OwnS.nil (w : World) (base : Nat) : OwnS w base (.slice none 0 0) [] := ⟨[], ⟨rfl, .inl ⟨rfl, rfl⟩⟩, rfl, fun i u a h => by simp at h⟩
theorem OwnS.below (h : OwnS w base v l) (hb : Below w.heap.size w w') : OwnS w' base v l := by
  obtain ⟨vs, h1, h2, h3⟩ := h
  refine ⟨vs, ⟨h1.1, ?_⟩, h2, fun i u a a1 a2 => ⟨(h3 i u a a1 a2).1, (h3 i u a a1 a2).2.below hb⟩⟩
  rcases h1.2 with hn | ⟨g, cap, cur, rfl, hg, hh, rest⟩
  · exact .inl hn
  · exact .inr ⟨g, cap, cur, rfl, hg, (hb.block g (Array.getElem?_eq_some_iff.1 hh).1).trans hh, rest⟩
theorem OwnS.from_ {b : Nat} (h : OwnS w base v l) (hb : b ≤ base) : OwnS w b v l := by
  obtain ⟨vs, h1, h2, h3⟩ := h
  refine ⟨vs, ⟨h1.1, ?_⟩, h2, fun i u a a1 a2 => ⟨(h3 i u a a1 a2).1, (h3 i u a a1 a2).2.from_ hb⟩⟩
  rcases h1.2 with hn | ⟨g, cap, cur, rfl, hg, rest⟩
  · exact .inl hn
  · exact .inr ⟨g, cap, cur, rfl, Nat.le_trans hb hg, rest⟩
theorem OwnS.room (h : OwnS w base v l) : ∃ A c, v = .slice A l.length c ∧ l.length ≤ c := by
  obtain ⟨vs, h1, _⟩ := h
  rcases h1.2 with ⟨rfl, h0⟩ | ⟨g, cap, cur, rfl, hg, hh, hn, _⟩
  · exact ⟨none, 0, by rw [h0], by omega⟩
  · exact ⟨_, cap, rfl, hn⟩
theorem OwnS.toA (h : OwnS w base v l) : OwnA w base v l := by
  obtain ⟨vs, h1, h2, h3⟩ := h
  exact ⟨vs, h1, h2, fun i u a a1 a2 => ⟨(h3 i u a a1 a2).1, (h3 i u a a1 a2).2.rowT⟩⟩
theorem OwnS.block (h : OwnS w base v l) {b : Nat} {arr : Array Value} {e : TypeId} {fz : Nat × Nat} (hb : w.heap[b]? = some (Obj.cells arr e fz)) (hne : e ≠ 41) : v.ownBlock ≠ some b := by
  obtain ⟨vs, h1, _⟩ := h
  rcases h1.2 with ⟨rfl, _⟩ | ⟨g, cap, cur, rfl, _, hh, _⟩
  · intro e1; cases e1
  · intro e1
    simp only [Value.ownBlock, Option.some.injEq] at e1
    subst e1
    rw [hb] at hh
    simp only [Option.some.injEq, Obj.cells.injEq] at hh
    exact hne hh.2.1
end
/-- 'append(out, Asked{..})'. -/
theorem wpList_pushS (w : World) {ops : Array Oper} {rest : List Oper} {o : Oper} {a : Act} {Q : Exit → Act → World → Prop} (hgd : o.guard = none) (s x : Operand)
    (hop : o.op = .call { callee := .builtin .append, args := #[s, x], argTypes := #[34, 34] })
    (base : Nat) {v : Value} {l : List Ask} (hs : a.eval s = v) (hown : OwnS w base v l) {g : Nat} {k : Ask} {u : Value} (hx : a.eval x = .slice (some ⟨g, 0, none⟩) 1 1) (hg : Row1 w g 41 [.int .i64 k.id, u]) (hu : Own w base 2 u (k.x.map (.int .i64))) (hl : l.length ≤ 100000) (hbase : base ≤ w.heap.size)
    (h : ∀ v' w', OwnS w' base v' (l ++ [k]) → w.grownBy w' v.ownBlock → Below base w w' → wpList Tryd.prog ops Q rest (a.put o.dst v') w') : wpList Tryd.prog ops Q (o :: rest) a w := by
  obtain ⟨i0, hi, hz0, hz1, hz2⟩ := info_partsA info_Ask
  have hown0 := hown
  obtain ⟨vs, h1, h2, h3⟩ := hown
  refine wpList_append_own w hgd s x _ hop base 41 i0 (.agg #[.int .i64 0, .slice none 0 0]) 2 32 Tryd.underlying34 hi hz0 hz1 hz2 (by rfl) (by decide) v l.length (vs.flatMap acl) hs h1 ⟨g, 0, none⟩ 1 1 [.int .i64 k.id, u] hx rfl (fun j y hj => by rw [Addr.add_lit, Nat.zero_add]; exact hg.cell hj) (fun y hy => ?_) (by unfold maxLen; omega) (by omega) hbase ?_
  · simp only [List.mem_cons, List.not_mem_nil, or_false] at hy
    rcases hy with rfl | rfl
    · rfl
    · obtain ⟨A, c, rfl, _⟩ := hu.form; rfl
  · intro v' w' o1 o2 _
    have keep : ∀ (y : Value) (xs : List Value), Own w base 2 y xs → Own w' base 2 y xs := fun y xs hy => hy.keep fun g hg => by
      obtain ⟨arr, hh⟩ := own_heap hy hg
      exact o2.block g (hy.block g hg).2 fun e => hown0.block hh (by decide) e.symm
    refine h v' w' ⟨vs ++ [⟨k.id, u⟩], ?_, by simp [h2], fun i y b hy hb => ?_⟩ o2 ((Below.refl _ _).grown o2 hbase fun j e => ?_)
    · rw [List.flatMap_append, List.length_append]
      exact o1
    · rcases Nat.lt_or_ge i l.length with hi | hi
      · rw [List.getElem?_append_left (by omega)] at hy
        rw [List.getElem?_append_left hi] at hb
        obtain ⟨e1, e2⟩ := h3 i y b hy hb
        exact ⟨e1, keep _ _ e2⟩
      · rw [List.getElem?_append_right (by omega)] at hy
        rw [List.getElem?_append_right hi] at hb
        have : i - l.length = 0 := by
          have := (List.getElem?_eq_some_iff.1 hb).1
          simp at this; omega
        rw [h2, this] at hy
        rw [this] at hb
        obtain rfl := Option.some.inj hy
        obtain rfl := Option.some.inj hb
        exact ⟨rfl, keep _ _ hu⟩
    · exact (World.ownsRow.lt h1 j e).1
def OwnTV (B : Nat) (w : World) (v : Value) (l : List Int) : Prop := Own w B 2 v (l.map (.int .i64))
theorem OwnTV.below {B : Nat} {w w' : World} {v : Value} {l : List Int} (h : OwnTV B w v l) (hb : Below w.heap.size w w') : OwnTV B w' v l := Own.below h hb
def AggSV (B : Nat) (w : World) (v : Value) (k : Ask) : Prop := ∃ A c, v = .agg #[.int .i64 k.id, .slice A k.x.length c] ∧ Own w B 2 (.slice A k.x.length c) (k.x.map (.int .i64))
theorem AggSV.below {B : Nat} {w w' : World} {v : Value} {k : Ask} (h : AggSV B w v k) (hb : Below w.heap.size w w') : AggSV B w' v k := by
  obtain ⟨A, c, rfl, hr⟩ := h
  exact ⟨A, c, rfl, hr.below hb⟩
def OneSV (B : Nat) (w : World) (v : Value) (k : Ask) : Prop := ∃ g u, v = .slice (some ⟨g, 0, none⟩) 1 1 ∧ Row1 w g 41 [.int .i64 k.id, u] ∧ Own w B 2 u (k.x.map (.int .i64))
theorem OneSV.below {B : Nat} {w w' : World} {v : Value} {k : Ask} (h : OneSV B w v k) (hb : Below w.heap.size w w') : OneSV B w' v k := by
  obtain ⟨g, u, rfl, hg, hr⟩ := h
  exact ⟨g, u, rfl, hg.below hb, hr.below hb⟩
set_option maxRecDepth 100000 in
set_option maxHeartbeats 2000000 in
theorem acopyS_c (A : Option Addr) (l : List Ask) (c : Nat) (w : World) (hA : Asks w A l) (hl : AskOk l) :
    Calls Tryd.prog 30 #[.slice A l.length c] w fun e w' => ∃ v, e = .returned v ∧ OwnS w' w.heap.size v l ∧ Below w.heap.size w w' := by
  have HA := hid hA
  have HL := hid hl
  have hlf := hl.few
  clear hA hl
  go_enter Tryd.func30, Tryd.ntmps30
  go_wp2
  go_loopw [3, 8] (fun o i wr => ∃ k : Nat, i = .int .i64 (k : Int) ∧ k ≤ l.length ∧ Hid (OwnS wr w.heap.size o (l.take k) ∧ Below w.heap.size w wr)) (fun _ i _ => l.length - (intOf i).toNat)
  case atStart => exact ⟨0, rfl, by omega, hid ⟨OwnS.nil _ _, Below.refl _ _⟩⟩
  case round =>
    obtain ⟨k, rfl, hk, HI⟩ := hrel
    rename_i o wr
    by_cases hlt : k < l.length
    · obtain ⟨a, ha⟩ := get_of_lt hlt
      obtain ⟨b, off, A', c', rfl, ca, cx, hcs, hxl⟩ := (HA.out.below HI.out.2).at_ ha
      have HS := hid (show l.take (k + 1) = l.take k ++ [a] from take_snocR ha)
      have hal := HL.out.len a (List.mem_of_getElem? ha)
      have hbx := below_alloc wr (.cells #[.int .i64 a.id, .slice A' a.x.length c'] 41)
      have hrx := row1_new wr [.int .i64 a.id, .slice A' a.x.length c'] 41
      have hO := HI.out.1.below hbx
      have hbw := below_next HI.out.2 HI.out.2.size hbx
      have hcs2 := hcs.below hbx
      clear ha hcs HI
      go_upto_region 5 with (fail)
      simp only [List.toArray] at hrx hO hbw hbx hcs2
      generalize wr.alloc (.cells #[.int .i64 a.id, .slice A' a.x.length c'] 41) = w2 at *
      obtain ⟨bx, hgx⟩ : ∃ n, wr.heap.size = n := ⟨_, rfl⟩
      rw [hgx] at hrx hbx ⊢
      clear hgx
      refine Rg.wp_region (l := [_, _, _, _, _, _, _, _]) (tail := [_, _]) (Rg.grows _ 10) [some 12, some 13, some 14, some 15, some 16, some 17, some 18, some 19, some 20, some 3] 23 (by kernel_rfl) (by kernel_rfl) (by kernel_rfl) rfl (Rg.grows_fair _ _) (Rg.keep_drew _) (trivial) ?_
      refine' Rg.op_is _ [] rfl rfl (by kernel_rfl) ?_ ?_
      rotate_left
      · intro wx hb
        refine Rg.from_nil fun T hT => ?_
        go_wp2
        refine hT _ _ rfl (by first | exact Rg.Keep.refl _ | exact below_of_dr hw2 | exact hw2 | exact (Below.refl _ _).alloc (Nat.le_refl _) _) ?_
        simp only [Rg.last, List.getElem?_toArray, List.getElem?_cons_succ, List.getElem?_cons_zero, Option.getD_some]
        rfl
      refine' Rg.op_is _ [] rfl rfl (by kernel_rfl) ?_ ?_
      rotate_left
      · intro wx hb
        refine Rg.from_nil fun T hT => ?_
        go_wp2
        refine hT _ _ rfl (by first | exact Rg.Keep.refl _ | exact below_of_dr hw2 | exact hw2 | exact (Below.refl _ _).alloc (Nat.le_refl _) _) ?_
        simp only [Rg.last, List.getElem?_toArray, List.getElem?_cons_succ, List.getElem?_cons_zero, Option.getD_some]
        rfl
      refine Rg.op_is (.int .i64 a.id) [1] rfl rfl (by kernel_rfl) ?_ ?_
      · intro wx hb
        refine Rg.from_is (some 13) rfl rfl ?_
        refine Rg.from_nil fun T hT => ?_
        have c0 := (hrx.below hb).cell (k := 0) rfl
        go_wp2
        exact hT _ _ rfl (by first | exact Rg.Keep.refl _ | exact below_of_dr hw2 | exact hw2 | exact (Below.refl _ _).alloc (Nat.le_refl _) _) (by first | rfl | exact congrArg _ (by decide))
      refine' Rg.op_is _ [] rfl rfl (by kernel_rfl) ?_ ?_
      rotate_left
      · intro wx hb
        refine Rg.from_nil fun T hT => ?_
        go_wp2
        refine hT _ _ rfl (by first | exact Rg.Keep.refl _ | exact below_of_dr hw2 | exact hw2 | exact (Below.refl _ _).alloc (Nat.le_refl _) _) ?_
        simp only [Rg.last, List.getElem?_toArray, List.getElem?_cons_succ, List.getElem?_cons_zero, Option.getD_some]
        rfl
      refine Rg.op_is (.slice A' a.x.length c') [3] rfl rfl (by kernel_rfl) ?_ ?_
      · intro wx hb
        refine Rg.from_is (some 15) rfl rfl ?_
        refine Rg.from_nil fun T hT => ?_
        have c1 := (hrx.below hb).cell (k := 1) rfl
        go_wp2
        exact hT _ _ rfl (by first | exact Rg.Keep.refl _ | exact below_of_dr hw2 | exact hw2 | exact (Below.refl _ _).alloc (Nat.le_refl _) _) (by first | rfl | exact congrArg _ (by decide))
      refine Rg.op_of (fun w' v => OwnTV w.heap.size w' v a.x) [4] rfl ?_ ?_ rfl (by kernel_rfl) ?_ ?_
      · exact fun w1 w2 v hk h => h.below hk
      · exact fun w1 w2 v hk h => h.below hk
      · intro wx hb
        refine Rg.from_is (some 16) rfl rfl ?_
        refine Rg.from_nil fun T hT => ?_
        go_wp2_with (fail)
        refine (clone_c A' a.x c' _ (hcs2.below hb) (by omega)).mono ?_
        rintro e w3 ⟨v, rfl, ho, hw3⟩
        have hgv : OwnTV w.heap.size w3 v a.x := ho.from_ (Nat.le_trans hbw.size hb.size)
        clear ho
        go_wp2
        exact hT _ _ rfl hw3 hgv
      refine Rg.op_of (fun w' v => AggSV w.heap.size w' v a) [2, 5] rfl ?_ ?_ rfl (by kernel_rfl) ?_ ?_
      · exact fun w1 w2 v hk h => h.below hk
      · exact fun w1 w2 v hk h => h.below hk
      · intro wx hb
        refine Rg.from_is (some 14) rfl rfl ?_
        refine Rg.from_of (some 17) rfl rfl fun v17 h17 => ?_
        refine Rg.from_nil fun T hT => ?_
        have hv := h17
        obtain ⟨A9, c9, e9, _⟩ := Own.form h17
        rw [List.length_map] at e9
        subst e9
        go_wp2
        exact hT _ _ rfl (Below.refl _ _) ⟨A9, c9, rfl, hv⟩
      refine Rg.op_of (fun w' v => OneSV w.heap.size w' v a) [6] rfl ?_ ?_ rfl (by kernel_rfl) ?_ ?_
      · exact fun w1 w2 v hk h => h.below hk
      · exact fun w1 w2 v hk h => h.below hk
      · intro wx hb
        refine Rg.from_of (some 18) rfl rfl fun v18 h18 => ?_
        refine Rg.from_nil fun T hT => ?_
        obtain ⟨A9, c9, rfl, hr9⟩ := h18
        go_wp2
        have hbn := below_alloc wx (.cells #[.int .i64 a.id, .slice A9 a.x.length c9] 41)
        exact hT _ _ rfl hbn ⟨_, _, rfl, row1_new wx [.int .i64 a.id, .slice A9 a.x.length c9] _, hr9.below hbn⟩
      refine Rg.walk_nil [0, 1, 2, 3, 4, 5, 6, 7] (by kernel_rfl) ?_
      intro wx hb
      refine Rg.from_is (some 12) rfl rfl ?_
      refine Rg.from_is (some 13) rfl rfl ?_
      refine Rg.from_is (some 14) rfl rfl ?_
      refine Rg.from_is (some 15) rfl rfl ?_
      refine Rg.from_is (some 16) rfl rfl ?_
      refine Rg.from_of (some 17) rfl rfl fun v17 h17 => ?_
      refine Rg.from_of (some 18) rfl rfl fun v18 h18 => ?_
      refine Rg.from_of (some 19) rfl rfl fun v19 h19 => ?_
      refine Rg.from_nil ?_
      simp only [List.map, Act.put, List.setIfInBounds_toArray, List.set_cons_zero, List.set_cons_succ]
      have hO2 := hO.below hb
      obtain ⟨g9, u9, rfl, hg9, hu9⟩ := h19
      have hbw2 := below_next hbw hbw.size hb
      have hlk : (l.take k).length ≤ 100000 := by rw [List.length_take]; omega
      refine wpList_pushS wx rfl _ _ rfl w.heap.size rfl hO2 rfl hg9 hu9 hlk hbw2.size ?_
      intro v' w5 ho5 hg5 hb5
      rw [← HS.out] at ho5
      have HN := hid (And.intro ho5 (hbw2.trans hb5))
      clear ho5 hg5 hb5 hbw2 hO2 hO hg9 hu9 hb h18 h17
      go_wp2
      go_roundw
      case rel => exact ⟨k + 1, by go_num, by omega, HN⟩
      case measure => simp [intOf]; omega
    · obtain rfl : k = l.length := by omega
      rw [List.take_length] at HI
      go_wp2
      go_ret
      exact ⟨_, rfl, HI.out.1, HI.out.2⟩
/-- what is told of a query that is put. -/
def PutS (p : Par) (l : List Ask) (id : Int) (x : List Int) (w : World) (e : Ending) (w' : World) : Prop :=
  ∃ v, e = .returned (.tuple #[v, .int .i64 (queryP p l id x)]) ∧ (queryP p l id x = 0 → OwnS w' w.heap.size v (l ++ [⟨id, x⟩])) ∧ (queryP p l id x ≠ 0 → v = .slice none 0 0) ∧ Below w.heap.size w w'
set_option maxRecDepth 100000 in
set_option maxHeartbeats 2000000 in
theorem aputS_c (p : Par) (hp : p.ok) (A : Option Addr) (l : List Ask) (c : Nat) (id : Int) (A2 : Option Addr) (x : List Int) (c2 : Nat) (w : World) (hA : Asks w A l) (hl : AskOk l) (hA2 : Cells w A2 (x.map (.int .i64))) (hx : x.length ≤ 1000000) (hxu : I64s x) (hTab : Tabs w) [DecidableEq Lit] :
    Calls Tryd.prog 28 #[pval p, .slice A l.length c, .int .i64 id, .slice A2 x.length c2] w (PutS p l id x w) := by
  have hlf := hl.few
  have hb0 := below_alloc w (.cells (pcells p).toArray 33)
  have hP := row1_new w (pcells p) 33
  have hA1 := hA.below hb0
  have hA21 := hA2.below hb0
  have hTab1 := hTab.below hb0
  clear hA hA2 hTab
  go_enter Tryd.func28, Tryd.ntmps28
  go_upto_region 1 with (fail)
  simp only [List.toArray] at hb0 hP hA1 hA21 hTab1
  generalize w.alloc (.cells #[.int .u64 p.P, .int .u64 p.Q, .int .u64 p.G, .int .u64 p.H, .int .i64 p.Nodes, .int .i64 p.N, .int .i64 p.T, .int .i64 p.K, .int .i64 p.D, .int .i64 p.R, .int .i64 p.M, .int .i64 p.X] 33) = w1 at *
  obtain ⟨p0, p1, p2, p3, p4, p5, p6, p7, p8, p9, p10, p11⟩ := par_cells hP
  have HQ := hid (aquery_c p hp A l c id A2 x c2 w1 hA1 hl hA21 hx hxu hTab1)
  have HR := hid (show ∀ e w', PutS p l id x w e w' ↔ ∃ v, e = .returned (.tuple #[v, .int .i64 (queryP p l id x)]) ∧ (queryP p l id x = 0 → OwnS w' w.heap.size v (l ++ [⟨id, x⟩])) ∧ (queryP p l id x ≠ 0 → v = .slice none 0 0) ∧ Below w.heap.size w w' from fun e w' => Iff.rfl)
  generalize queryP p l id x = E at *
  go_wp2_with (fail)
  refine HQ.out.mono ?_
  rintro e w2 ⟨rfl, hb2⟩
  have hbw := below_next hb0 hb0.size hb2
  have hA3 := hA1.below hb2
  have hA23 := hA21.below hb2
  clear HQ hb0 hP hA1 hA21 hTab1 p0 p1 p2 p3 p4 p5 p6 p7 p8 p9 p10 p11 hb2
  by_cases hE : E = 0
  · subst hE
    go_wp2_with (fail)
    refine (acopyS_c A l c w2 hA3 hl).mono ?_
    rintro e w3 ⟨v3, rfl, ho3, hb3⟩
    have hA24 := hA23.below hb3
    obtain ⟨A3, c3, rfl, _⟩ := ho3.toA.asks
    go_wp2_with (fail)
    refine (clone_c A2 x c2 w3 hA24 (by omega)).mono ?_
    rintro e w4 ⟨v4, rfl, ho4, hb4⟩
    have hr4 := ho4.from_ (b := w.heap.size) (Nat.le_trans hbw.size hb3.size)
    have ho5 := ho3.below hb4
    obtain ⟨A4, c4, e4, _⟩ := ho4.form
    rw [List.length_map] at e4
    subst e4
    have hb5 := below_alloc w4 (.cells #[.int .i64 id, .slice A4 x.length c4] 41)
    have hg6 := row1_new w4 [.int .i64 id, .slice A4 x.length c4] 41
    have ho6 := (ho5.below hb5).from_ (b := w.heap.size) (by exact hbw.size)
    have hr6 := hr4.below hb5
    have hb6 := below_next hbw hbw.size (hb3.trans ((hb4.mono hb3.size).trans (hb5.mono (Nat.le_trans hb3.size hb4.size))))
    clear ho3 hb3 ho4 hb4 ho5 hr4 hA24 hA23 hA3 hbw hb5
    simp only [List.toArray] at hg6 ho6 hr6 hb6
    go_wp2_with (at_builtin; refine wpList_pushS _ rfl _ _ rfl w.heap.size rfl ho6 (k := ⟨id, x⟩) rfl hg6 hr6 (by omega) hb6.size ?_; intro v7 w7 ho7 _ hb7)
    go_ret2
    rw [HR.out]
    exact ⟨v7, rfl, fun _ => ho7, fun h => absurd rfl h, hb6.trans hb7⟩
  · have hne : (E != 0) = true := by simpa using hE
    go_wp2
    go_ret2
    rw [HR.out]
    exact ⟨_, rfl, fun h => absurd h hE, fun _ => rfl, hbw⟩
end Go.Proofs.YtlbhmoiicbhgkaaDoor
