/-
  A copy of queries: the document's.
-/
import Derived.Test.YtpdgalclnlbeaaaDoorAdmQ1
import Derived.Test.YtpdgalclnlbeaaaDoorAdmQ2
import Derived.Test.YtpdgalclnlbeaaaDoorAdmQ3
import Derived.Test.YtpdgalclnlbeaaaDoorAdmQ4
import Derived.Test.YtpdgalclnlbeaaaDoorAdmQ5
import Derived.Test.YtpdgalclnlbeaaaDoorAdmQ6
import Derived.Test.YtpdgalclnlbeaaaDoorAdmQ7
import Derived.Test.YtpdgalclnlbeaaaDoorAdmQ8
import Derived.Test.YtpdgalclnlbeaaaDoorAdP
import Derived.Test.YtpdgalclnlbeaaaDoorMoreG
namespace Go.Proofs.YtpdgalclnlbeaaaDoor
open Go Go.RowKit Go.Maps Go.Shelf Go.Proofs

attribute [local go_sem] Oper.semAt_some

/-- what is known while a query is copied. -/
structure CpB (w0 : World) (a : Ask) (g : Rgi.Ghost) (w : World) : Prop where
  b : Below w0.heap.size w0 w
  lit : ∀ v, g 6 = some v → g 12 = none → Own w w0.heap.size 2 v []
  cpy : ∀ v, g 12 = some v → RowTV w v a.x
  agg : ∀ v, g 13 = some v → AggTV w v a
  one : ∀ v, g 14 = some v → OneTV w v a
  o6 : g 6 = none → g 12 = none
  o12 : g 12 = none → g 13 = none
  o13 : g 13 = none → g 14 = none
theorem CpB.start (w0 : World) (a : Ask) : CpB w0 a (fun _ => none) w0.drew :=
  ⟨⟨rfl, rfl, rfl, Nat.le_refl _, fun _ _ => rfl⟩, fun _ h => (by cases h), fun _ h => (by cases h), fun _ h => (by cases h), fun _ h => (by cases h), fun _ => rfl, fun _ => rfl, fun _ => rfl⟩
theorem CpB.new {w0 w : World} {a : Ask} {g : Rgi.Ghost} (h : CpB w0 a g w) (_h6 : g 6 = none) : CpB w0 a (g.upd 6 (.slice (some ⟨w.heap.size, 0, none⟩) 0 0)) (w.alloc (.cells #[] 2)) := by
  have hb := below_alloc w (.cells #[] 2)
  refine ⟨below_next h.b h.b.size hb, fun v hv _ => ?_, fun v hv => (h.cpy v hv).below hb, fun v hv => (h.agg v hv).below hb, fun v hv => (h.one v hv).below hb, fun h => (by cases h), h.o12, h.o13⟩
  obtain rfl : _ = v := Option.some.inj hv
  exact own_zero (row1_new w [] 2) h.b.size
theorem CpB.put {w0 w w' : World} {a : Ask} {g : Rgi.Ghost} (h : CpB w0 a g w) (h12 : g 12 = none) {v v' : Value} (h6 : g 6 = some v) (hw : w.grownBy w' v.ownBlock) (hn : Own w' w0.heap.size 2 v' (a.x.map (.int .i64))) : CpB w0 a (g.upd 12 v') w' := by
  have ho := h.lit v h6 h12
  have h13 := h.o12 h12
  refine ⟨h.b.grown hw h.b.size fun k e => (ho.block k e).1, fun v _ h4 => (by cases h4), fun u hu => ?_, fun u hu => ?_, fun u hu => ?_, fun h4 => ?_, fun h4 => (by cases h4), h.o13⟩
  · obtain rfl : _ = u := Option.some.inj hu
    exact hn.rowT
  · have : g 13 = some u := hu
    rw [h13] at this
    cases this
  · have : g 14 = some u := hu
    rw [h.o13 h13] at this
    cases this
  · have : g 6 = none := h4
    rw [h6] at this
    cases this
theorem CpB.mk' {w0 w : World} {a : Ask} {g : Rgi.Ghost} (h : CpB w0 a g w) (h13 : g 13 = none) {v : Value} (h12 : ∃ u, g 12 = some u) (hv : AggTV w v a) : CpB w0 a (g.upd 13 v) w := by
  refine ⟨h.b, h.lit, h.cpy, fun u hu => ?_, fun u hu => ?_, h.o6, fun h4 => ?_, fun h4 => (by cases h4)⟩
  · obtain rfl : _ = u := Option.some.inj hu
    exact hv
  · have : g 14 = some u := hu
    rw [h.o13 h13] at this
    cases this
  · obtain ⟨u, hu⟩ := h12
    have : g 12 = none := h4
    rw [hu] at this
    cases this
theorem CpB.lay {w0 w : World} {a : Ask} {g : Rgi.Ghost} (h : CpB w0 a g w) (_h14 : g 14 = none) {A : Option Addr} {c : Nat} (h13 : ∃ u, g 13 = some u) (hr : RowT w 2 (.slice A a.x.length c) (a.x.map (.int .i64))) :
    CpB w0 a (g.upd 14 (.slice (some ⟨w.heap.size, 0, none⟩) 1 1)) (w.alloc (.cells #[.int .i64 a.id, .slice A a.x.length c] 32)) := by
  have hb := below_alloc w (.cells #[.int .i64 a.id, .slice A a.x.length c] 32)
  refine ⟨below_next h.b h.b.size hb, fun v hv h4 => (h.lit v hv h4).below hb, fun v hv => (h.cpy v hv).below hb, fun v hv => (h.agg v hv).below hb, fun v hv => ?_, h.o6, h.o12, fun h4 => ?_⟩
  · obtain rfl : _ = v := Option.some.inj hv
    exact ⟨_, _, rfl, row1_new w [.int .i64 a.id, .slice A a.x.length c] _, hr.below hb⟩
  · obtain ⟨u, hu⟩ := h13
    have : g 13 = none := h4
    rw [hu] at this
    cases this
theorem i64_ones (l : List Int) : ∀ u ∈ l.map (Value.int .i64), u.oneCell' = true := by
  intro u hu
  obtain ⟨x, _, rfl⟩ := List.mem_map.1 hu
  rfl
set_option maxRecDepth 100000 in
set_option maxHeartbeats 2000000 in
theorem rcopy21_c (A : Option Addr) (l : List Ask) (c : Nat) (w : World) (hA : Asks w A l) (hl : AskOk l) :
    Calls Tryd.prog 7 #[.slice A l.length c] w fun e w' => ∃ v, e = .returned v ∧ OwnA w' w.heap.size v l ∧ Below w.heap.size w w' := by
  have HA := hid hA
  have HL := hid hl
  have hlf := hl.few
  clear hA hl
  go_enter Tryd.func7, Tryd.ntmps7
  go_wp2
  go_loopw [3, 4] (fun o i wr => ∃ k : Nat, i = .int .i64 (k : Int) ∧ k ≤ l.length ∧ Hid (OwnA wr w.heap.size o (l.take k) ∧ Below w.heap.size w wr)) (fun _ i _ => l.length - (intOf i).toNat)
  case atStart => exact ⟨0, rfl, by omega, hid ⟨OwnA.nil _ _, Below.refl _ _⟩⟩
  case round =>
    obtain ⟨k, rfl, hk, HI⟩ := hrel
    rename_i o wr
    by_cases hlt : k < l.length
    · have hlt' : (k : Int) < (l.length : Int) := by omega
      obtain ⟨a, ha⟩ := get_of_lt hlt
      obtain ⟨b, off, A', c', rfl, ca, cx, hcs, hxl⟩ := (HA.out.below HI.out.2).at_ ha
      have HS := hid (show l.take (k + 1) = l.take k ++ [a] from take_snocR ha)
      have hal := HL.out.len a (List.mem_of_getElem? ha)
      have HC := hid (⟨ca, cx, hcs⟩ : _ ∧ _ ∧ _)
      have hO := HI.out.1
      have hbw := HI.out.2
      have HO := hid (⟨hO, hbw⟩ : _ ∧ _)
      clear ha hcs HI hO hbw ca cx
      go_upto_region 5 with (fail)
      refine Rgi.wp_region (l := [_, _, _, _, _, _, _, _, _, _, _, _, _, _, _]) (tail := [_, _]) (⟨CpB wr a, [6, 12, 13, 14]⟩) [some 11, some 12, some 13, some 14, some 15, some 16, some 17, some 18, some 19, some 20, some 21, some 22, some 23, some 24, some 25, some 26, some 3] 28 rfl (by kernel_rfl) (by kernel_rfl) rfl (CpB.start _ _) ?_
      refine' Rgi.op_is _ [] rfl rfl (by kernel_rfl) ?_ ?_
      rotate_left
      · intro g wx hb
        refine Rgi.from_nil fun T hT => ?_
        go_wp2
        refine hT _ _ rfl hb ?_
        simp only [Rgi.last, List.getElem?_toArray, List.getElem?_cons_succ, List.getElem?_cons_zero, Option.getD_some]
        rfl
      refine' Rgi.op_is _ [] rfl rfl (by kernel_rfl) ?_ ?_
      rotate_left
      · intro g wx hb
        refine Rgi.from_nil fun T hT => ?_
        go_wp2
        refine hT _ _ rfl hb ?_
        simp only [Rgi.last, List.getElem?_toArray, List.getElem?_cons_succ, List.getElem?_cons_zero, Option.getD_some]
        rfl
      refine' Rgi.op_is _ [] rfl rfl (by kernel_rfl) ?_ ?_
      rotate_left
      · intro g wx hb
        refine Rgi.from_nil fun T hT => ?_
        go_wp2
        refine hT _ _ rfl hb ?_
        simp only [Rgi.last, List.getElem?_toArray, List.getElem?_cons_succ, List.getElem?_cons_zero, Option.getD_some]
        rfl
      refine' Rgi.op_is _ [1, 2] rfl rfl (by kernel_rfl) ?_ ?_
      rotate_left
      · intro g wx hb
        refine Rgi.from_is (some 12) rfl rfl ?_
        refine Rgi.from_is (some 13) rfl rfl ?_
        refine Rgi.from_nil fun T hT => ?_
        go_wp2
        refine hT _ _ rfl hb ?_
        simp only [Rgi.last, List.getElem?_toArray, List.getElem?_cons_succ, List.getElem?_cons_zero, Option.getD_some]
        rfl
      refine' Rgi.op_is _ [3] rfl rfl (by kernel_rfl) ?_ ?_
      rotate_left
      · intro g wx hb
        refine Rgi.from_is (some 14) rfl rfl ?_
        refine Rgi.from_nil fun T hT => ?_
        go_wp2
        refine hT _ _ rfl hb ?_
        simp only [Rgi.last, List.getElem?_toArray, List.getElem?_cons_succ, List.getElem?_cons_zero, Option.getD_some]
        rfl
      refine Rgi.op_is (.int .i64 a.id) [4] rfl rfl (by kernel_rfl) ?_ ?_
      · intro g wx hb
        refine Rgi.from_is (some 15) rfl rfl ?_
        refine Rgi.from_nil fun T hT => ?_
        have c0 := ((CpB.b hb).cell (lt_of_cell HC.out.1)).trans HC.out.1
        go_wp2
        exact hT _ _ rfl hb (by first | rfl | exact congrArg _ (by decide))
      refine Rgi.op_sp [] rfl rfl (by kernel_rfl) ?_ ?_
      · intro g wx hb hg
        refine Rgi.from_nil fun T hT => ?_
        go_wp2
        exact hT _ _ rfl (CpB.new hb hg)
      refine' Rgi.op_is _ [] rfl rfl (by kernel_rfl) ?_ ?_
      rotate_left
      · intro g wx hb
        refine Rgi.from_nil fun T hT => ?_
        go_wp2
        refine hT _ _ rfl hb ?_
        simp only [Rgi.last, List.getElem?_toArray, List.getElem?_cons_succ, List.getElem?_cons_zero, Option.getD_some]
        rfl
      refine' Rgi.op_is _ [] rfl rfl (by kernel_rfl) ?_ ?_
      rotate_left
      · intro g wx hb
        refine Rgi.from_nil fun T hT => ?_
        go_wp2
        refine hT _ _ rfl hb ?_
        simp only [Rgi.last, List.getElem?_toArray, List.getElem?_cons_succ, List.getElem?_cons_zero, Option.getD_some]
        rfl
      refine' Rgi.op_is _ [7, 8] rfl rfl (by kernel_rfl) ?_ ?_
      rotate_left
      · intro g wx hb
        refine Rgi.from_is (some 18) rfl rfl ?_
        refine Rgi.from_is (some 19) rfl rfl ?_
        refine Rgi.from_nil fun T hT => ?_
        go_wp2
        refine hT _ _ rfl hb ?_
        simp only [Rgi.last, List.getElem?_toArray, List.getElem?_cons_succ, List.getElem?_cons_zero, Option.getD_some]
        rfl
      refine' Rgi.op_is _ [9] rfl rfl (by kernel_rfl) ?_ ?_
      rotate_left
      · intro g wx hb
        refine Rgi.from_is (some 20) rfl rfl ?_
        refine Rgi.from_nil fun T hT => ?_
        go_wp2
        refine hT _ _ rfl hb ?_
        simp only [Rgi.last, List.getElem?_toArray, List.getElem?_cons_succ, List.getElem?_cons_zero, Option.getD_some]
        rfl
      refine Rgi.op_is (.slice A' a.x.length c') [10] rfl rfl (by kernel_rfl) ?_ ?_
      · intro g wx hb
        refine Rgi.from_is (some 21) rfl rfl ?_
        refine Rgi.from_nil fun T hT => ?_
        have c0 := ((CpB.b hb).cell (lt_of_cell HC.out.2.1)).trans HC.out.2.1
        go_wp2
        exact hT _ _ rfl hb (by first | rfl | exact congrArg _ (by decide))
      refine Rgi.op_sp [6, 11] rfl rfl (by kernel_rfl) ?_ ?_
      · intro g wx hb hg
        refine Rgi.from_sp (some 17) rfl rfl rfl fun v17 h17 => ?_
        refine Rgi.from_is (some 22) rfl rfl ?_
        refine Rgi.from_nil fun T hT => ?_
        have ho := CpB.lit hb _ h17 hg
        at_builtin
        refine wpList_moreG elt_i64 _ rfl _ _ rfl wr.heap.size ho rfl (HC.out.2.2.below (CpB.b hb)) (by rw [List.length_map]; rfl) (i64_ones _) (by simp; omega) (by simp; omega) (CpB.b hb).size ?_
        intro v' w' ho' hw'
        rw [List.nil_append] at ho'
        go_wp2
        exact hT _ _ rfl (CpB.put hb hg h17 hw' ho')
      refine Rgi.op_sp [5, 12] rfl rfl (by kernel_rfl) ?_ ?_
      · intro g wx hb hg
        refine Rgi.from_is (some 16) rfl rfl ?_
        refine Rgi.from_sp (some 23) rfl rfl rfl fun v23 h23 => ?_
        refine Rgi.from_nil fun T hT => ?_
        have hr := CpB.cpy hb _ h23
        obtain ⟨A9, c9, e9, _⟩ := RowT.form hr
        rw [List.length_map] at e9
        subst e9
        go_wp2
        exact hT _ _ rfl (CpB.mk' hb hg ⟨_, h23⟩ ⟨A9, c9, rfl, hr⟩)
      refine Rgi.op_sp [13] rfl rfl (by kernel_rfl) ?_ ?_
      · intro g wx hb hg
        refine Rgi.from_sp (some 24) rfl rfl rfl fun v24 h24 => ?_
        refine Rgi.from_nil fun T hT => ?_
        obtain ⟨A9, c9, e9, hr9⟩ := CpB.agg hb _ h24
        subst e9
        go_wp2
        exact hT _ _ rfl (CpB.lay hb hg ⟨_, h24⟩ hr9)
      refine Rgi.walk_nil [0, 1, 2, 3, 4, 5, 6, 7, 8, 9, 10, 11, 12, 13, 14] (by kernel_rfl) ?_
      intro g wx hb
      refine Rgi.from_is (some 11) rfl rfl ?_
      refine Rgi.from_is (some 12) rfl rfl ?_
      refine Rgi.from_is (some 13) rfl rfl ?_
      refine Rgi.from_is (some 14) rfl rfl ?_
      refine Rgi.from_is (some 15) rfl rfl ?_
      refine Rgi.from_is (some 16) rfl rfl ?_
      refine Rgi.from_sp (some 17) rfl rfl rfl fun v17 h17 => ?_
      refine Rgi.from_is (some 18) rfl rfl ?_
      refine Rgi.from_is (some 19) rfl rfl ?_
      refine Rgi.from_is (some 20) rfl rfl ?_
      refine Rgi.from_is (some 21) rfl rfl ?_
      refine Rgi.from_is (some 22) rfl rfl ?_
      refine Rgi.from_sp (some 23) rfl rfl rfl fun v23 h23 => ?_
      refine Rgi.from_sp (some 24) rfl rfl rfl fun v24 h24 => ?_
      refine Rgi.from_sp (some 25) rfl rfl rfl fun v25 h25 => ?_
      refine Rgi.from_nil ?_
      simp only [List.map, Act.put, List.setIfInBounds_toArray, List.set_cons_zero, List.set_cons_succ]
      have hO2 := HO.out.1.below (CpB.b hb)
      obtain ⟨g9, u9, e9, hg9, hu9⟩ := CpB.one hb _ h25
      subst e9
      have hbw2 := below_next HO.out.2 HO.out.2.size (CpB.b hb)
      have hlk : (l.take k).length ≤ 100000 := by rw [List.length_take]; omega
      go_wp2_with (first | (at_builtin; refine wpList_pushA wx rfl _ _ rfl w.heap.size rfl hO2 rfl hg9 hu9 hlk hbw2.size ?_; intro v' w5 ho5 hg5 hb5) | fail)
      rw [← HS.out] at ho5
      have HN := hid (And.intro ho5 (hbw2.trans hb5))
      clear ho5 hg5 hb5 hbw2 hO2 hg9 hu9 hb h17 h23 h24 h25
      go_wp2
      go_roundw
      case rel => exact ⟨k + 1, by go_num, by omega, HN⟩
      case measure => simp [intOf]; omega
    · obtain rfl : k = l.length := by omega
      rw [List.take_length] at HI
      go_wp2
      go_ret
      exact ⟨_, rfl, HI.out.1, HI.out.2⟩
end Go.Proofs.YtpdgalclnlbeaaaDoor
