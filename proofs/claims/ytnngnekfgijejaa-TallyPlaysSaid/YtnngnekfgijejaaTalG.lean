/-
  A tally's copy.
-/
import Derived.Test.YtnngnekfgijejaaTalE
import Derived.Test.YtnngnekfgijejaaTalS
import Derived.Test.YtnngnekfgijejaaWays
namespace Go.Proofs.Ytnngnekfgijejaa
open Go.RowKit Go.Maps Go.Proofs

set_option maxRecDepth 100000 in
theorem clone_c (b : Nat) (L : List Vt) (w : World) (h : MapAt tM w b L) :
    Calls Try.prog 42 #[.map (some b)] w fun e w' => e = .returned (.map (some w.heap.size)) ∧ MapAt tM w' w.heap.size L ∧ Below w.heap.size w w' := by
  obtain ⟨es, clock, hb⟩ := h.isMap
  have hc := AnyW.maps_Clone cloneV b es clock w hb
  change Calls Try.prog 42 _ _ _ at hc
  refine hc.mono ?_
  rintro e w' ⟨rfl, rfl⟩
  refine ⟨rfl, ?_, below_alloc _ _⟩
  obtain ⟨h1, h2, D, ⟨es', clock', hb', r⟩, h4⟩ := h
  rw [hb] at hb'
  obtain ⟨rfl, rfl⟩ : es = es' ∧ clock = clock' := by simpa using hb'
  exact ⟨h1, h2, D, ⟨es, clock, heap_alloc_new w _, r⟩, h4⟩

theorem tcopy_nil (w : World) :
    Calls Try.prog 21 #[.pointer none] w fun e w' => e = .returned (.pointer none) ∧ w = w' := by
  go_enter Try.func21, Try.ntmps21
  go_wp2
  go_ret
  exact ⟨rfl, rfl⟩

set_option maxRecDepth 100000 in
theorem tcopy_c (g gm : Nat) (n : Int) (L : List Vt) (w : World) (h : Tly w g gm n L) :
    Calls Try.prog 21 #[.pointer (some ⟨g, 0, none⟩)] w fun e w' => ∃ g' gm', e = .returned (.pointer (some ⟨g', 0, none⟩)) ∧ Tly w' g' gm' n L ∧ w.heap.size ≤ g' ∧ w.heap.size ≤ gm' ∧ Below w.heap.size w w' := by
  go_enter Try.func21, Try.ntmps21
  go_wp2
  refine Rgb.wp_region (l := [_, _, _, _, _, _, _, _, _]) (tail := [_, _, _]) (Rgb.grows _ 12) [some 5, some 6, some 7, some 8, some 9, some 10, some 11, some 12, some 13, some 14, some 15, some 2] 16 (by kernel_rfl) (by kernel_rfl) (by kernel_rfl) rfl (Rgb.grows_fair _ _) (Rgb.keep_drew _) (trivial) ?_
  refine' Rgb.op_is _ [] rfl rfl (by kernel_rfl) ?_ ?_
  rotate_left
  · intro wx hb
    refine Rgb.from_nil fun T hT => ?_
    go_wp2
    refine hT _ _ rfl (by first | exact Rgb.Keep.refl _ | exact below_of_dr hw2 | exact hw2 | exact (Below.refl _ _).alloc (Nat.le_refl _) _) ?_
    simp only [Rgb.last, List.getElem?_toArray, List.getElem?_cons_succ, List.getElem?_cons_zero, Option.getD_some]
    rfl
  refine' Rgb.op_is _ [0] rfl rfl (by kernel_rfl) ?_ ?_
  rotate_left
  · intro wx hb
    refine Rgb.from_is (some 5) rfl rfl ?_
    refine Rgb.from_nil fun T hT => ?_
    go_wp2
    refine hT _ _ rfl (by first | exact Rgb.Keep.refl _ | exact below_of_dr hw2 | exact hw2 | exact (Below.refl _ _).alloc (Nat.le_refl _) _) ?_
    simp only [Rgb.last, List.getElem?_toArray, List.getElem?_cons_succ, List.getElem?_cons_zero, Option.getD_some]
    rfl
  refine' Rgb.op_is _ [1] rfl rfl (by kernel_rfl) ?_ ?_
  rotate_left
  · intro wx hb
    refine Rgb.from_is (some 6) rfl rfl ?_
    refine Rgb.from_nil fun T hT => ?_
    go_wp2
    refine hT _ _ rfl (by first | exact Rgb.Keep.refl _ | exact below_of_dr hw2 | exact hw2 | exact (Below.refl _ _).alloc (Nat.le_refl _) _) ?_
    simp only [Rgb.last, List.getElem?_toArray, List.getElem?_cons_succ, List.getElem?_cons_zero, Option.getD_some]
    rfl
  refine Rgb.op_is (.int .i64 n) [2] rfl rfl (by kernel_rfl) ?_ ?_
  · intro wx hb
    refine Rgb.from_is (some 7) rfl rfl ?_
    refine Rgb.from_nil fun T hT => ?_
    have c0 := (h.row.below hb).cell (k := 0) rfl
    go_wp2
    exact hT _ _ rfl (by first | exact Rgb.Keep.refl _ | exact below_of_dr hw2 | exact hw2 | exact (Below.refl _ _).alloc (Nat.le_refl _) _) (by first | rfl | exact congrArg _ (by decide))
  refine' Rgb.op_is _ [] rfl rfl (by kernel_rfl) ?_ ?_
  rotate_left
  · intro wx hb
    refine Rgb.from_nil fun T hT => ?_
    go_wp2
    refine hT _ _ rfl (by first | exact Rgb.Keep.refl _ | exact below_of_dr hw2 | exact hw2 | exact (Below.refl _ _).alloc (Nat.le_refl _) _) ?_
    simp only [Rgb.last, List.getElem?_toArray, List.getElem?_cons_succ, List.getElem?_cons_zero, Option.getD_some]
    rfl
  refine' Rgb.op_is _ [4] rfl rfl (by kernel_rfl) ?_ ?_
  rotate_left
  · intro wx hb
    refine Rgb.from_is (some 9) rfl rfl ?_
    refine Rgb.from_nil fun T hT => ?_
    go_wp2
    refine hT _ _ rfl (by first | exact Rgb.Keep.refl _ | exact below_of_dr hw2 | exact hw2 | exact (Below.refl _ _).alloc (Nat.le_refl _) _) ?_
    simp only [Rgb.last, List.getElem?_toArray, List.getElem?_cons_succ, List.getElem?_cons_zero, Option.getD_some]
    rfl
  refine' Rgb.op_is _ [5] rfl rfl (by kernel_rfl) ?_ ?_
  rotate_left
  · intro wx hb
    refine Rgb.from_is (some 10) rfl rfl ?_
    refine Rgb.from_nil fun T hT => ?_
    go_wp2
    refine hT _ _ rfl (by first | exact Rgb.Keep.refl _ | exact below_of_dr hw2 | exact hw2 | exact (Below.refl _ _).alloc (Nat.le_refl _) _) ?_
    simp only [Rgb.last, List.getElem?_toArray, List.getElem?_cons_succ, List.getElem?_cons_zero, Option.getD_some]
    rfl
  refine Rgb.op_is (.map (some gm)) [6] rfl rfl (by kernel_rfl) ?_ ?_
  · intro wx hb
    refine Rgb.from_is (some 11) rfl rfl ?_
    refine Rgb.from_nil fun T hT => ?_
    have c0 := (h.row.below hb).cell (k := 1) rfl
    go_wp2
    exact hT _ _ rfl (by first | exact Rgb.Keep.refl _ | exact below_of_dr hw2 | exact hw2 | exact (Below.refl _ _).alloc (Nat.le_refl _) _) (by first | rfl | exact congrArg _ (by decide))
  refine Rgb.op_of (fun W v => ∃ b, v = .map (some b) ∧ w.heap.size ≤ b ∧ MapAt tM W b L) [7] rfl ?_ ?_ rfl (by kernel_rfl) ?_ ?_
  · exact fun w1 w2 v hk ⟨b, h1, h2, h3⟩ => ⟨b, h1, h2, h3.below hk⟩
  · exact fun w1 w2 v hk ⟨b, h1, h2, h3⟩ => ⟨b, h1, h2, h3.below hk⟩
  · intro wx hb
    refine Rgb.from_is (some 12) rfl rfl ?_
    refine Rgb.from_nil fun T hT => ?_
    go_wp2_with (go_at_call 42; refine (clone_c gm L _ (h.map.below hb)).mono ?_; rintro e w5 ⟨rfl, hm5, hw5⟩)
    exact hT _ _ rfl hw5 ⟨_, rfl, hb.size, hm5⟩
  refine Rgb.walk_nil [0, 1, 2, 3, 4, 5, 6, 7, 8] (by kernel_rfl) ?_
  intro wx hb
  refine Rgb.from_is (some 5) rfl rfl ?_
  refine Rgb.from_is (some 6) rfl rfl ?_
  refine Rgb.from_is (some 7) rfl rfl ?_
  refine Rgb.from_is (some 8) rfl rfl ?_
  refine Rgb.from_is (some 9) rfl rfl ?_
  refine Rgb.from_is (some 10) rfl rfl ?_
  refine Rgb.from_is (some 11) rfl rfl ?_
  refine Rgb.from_is (some 12) rfl rfl ?_
  refine Rgb.from_of (some 13) rfl rfl fun v13 h13 => ?_
  refine Rgb.from_nil ?_
  simp only [List.map, Act.put, List.setIfInBounds_toArray, List.set_cons_zero, List.set_cons_succ]
  obtain ⟨gm', rfl, hge, hM⟩ := h13
  go_wp2
  go_ret
  refine ⟨wx.heap.size, gm', rfl, ⟨?_, hM.alloc _, h.srt, h.mays, h.n⟩, hb.size, hge, hb.alloc hb.size _⟩
  have := row1_new wx [.int .i64 n, .map (some gm')] 72
  simpa using this
end Go.Proofs.Ytnngnekfgijejaa
