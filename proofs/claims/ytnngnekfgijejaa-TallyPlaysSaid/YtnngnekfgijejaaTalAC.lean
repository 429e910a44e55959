/-
  The document's tally: what Put makes of it.
-/
import Derived.Test.YtnngnekfgijejaaTalAB
namespace Go.Proofs.Ytnngnekfgijejaa
open Go.RowKit Go.Maps Go.Shelf Go.Proofs

theorem tw_at {p : Vt → Bool} : ∀ (L : List Vt) (k : Nat), (∀ u ∈ L.take k, p u = true) → (∀ x, L[k]? = some x → p x = false) → L.takeWhile p = L.take k ∧ L.dropWhile p = L.drop k
  | [], k, _, _ => by simp
  | a :: L, 0, _, h => by
    have := h a rfl
    simp [List.takeWhile_cons, List.dropWhile_cons, this]
  | a :: L, k + 1, h1, h2 => by
    have ha := h1 a (by simp)
    obtain ⟨e1, e2⟩ := tw_at L k (fun u hu => h1 u (by simp [hu])) (fun x hx => h2 x (by simpa using hx))
    simp [List.takeWhile_cons, List.dropWhile_cons, ha, e1, e2]
theorem take_drop_at {L : List Vt} {k : Nat} {u : Vt} (hu : u ∈ L) : u ∈ L.take k ∨ u ∈ L.drop k := by
  rw [← List.take_append_drop k L] at hu
  exact List.mem_append.1 hu
theorem put_new {L : List Vt} {k : Nat} {v : Vt} (hs : Srt L) (h1 : ∀ u ∈ L.take k, ahead u v = true) (h2 : ∀ x, L[k]? = some x → ahead v x = true) : hasV L v = false ∧ ins v L = (L.take k ++ [v]) ++ L.drop k := by
  constructor
  · rw [hasV_no]
    intro u hu he
    rcases take_drop_at (k := k) hu with h | h
    · have := h1 u h
      rw [ahead_iff] at this
      omega
    · by_cases hk : k < L.length
      · have hx := h2 L[k] (List.getElem?_eq_getElem hk)
        rw [List.drop_eq_getElem_cons hk] at h
        rw [ahead_iff] at hx
        rcases List.mem_cons.1 h with rfl | h
        · omega
        · have hp : (L.drop k).Pairwise fun a b => ahead a b = true := hs.sublist (List.drop_sublist k L)
          rw [List.drop_eq_getElem_cons hk] at hp
          have := (List.pairwise_cons.1 hp).1 u h
          rw [ahead_iff] at this
          omega
      · rw [List.drop_of_length_le (by omega)] at h
        cases h
  · obtain ⟨e1, e2⟩ := tw_at (p := (ahead · v)) L k h1 fun x hx => by
      have := h2 x hx
      show ahead x v = false
      rw [← Bool.not_eq_true]
      intro h
      rw [ahead_iff] at this h
      omega
    unfold ins
    rw [e1, e2]
    simp
theorem put_old {L : List Vt} {k : Nat} {v x : Vt} (hx : L[k]? = some x) (h1 : ahead x v = false) (h2 : ahead v x = false) : hasV L v = true := by
  rw [hasV_iff]
  rw [← Bool.not_eq_true, ahead_iff] at h1 h2
  exact ⟨x, List.mem_of_getElem? hx, by omega, by omega, by omega⟩

theorem CellsV.keep2' {w w' : World} {b off B : Nat} {L : List Vt} (h : CellsV w (some ⟨b, off, none⟩) L) (hb : Below B w w') (hB : b < B) : CellsV w' (some ⟨b, off, none⟩) L := by
  rcases h with h | ⟨b1, off1, e, h⟩
  · exact .inl h
  · injection e with e
    injection e with e1 e2
    subst e1 e2
    refine .inr ⟨b, off, rfl, fun i u hu => ?_⟩
    rw [← h i u hu]
    unfold World.cell?
    rw [hb.block b hB]
theorem rest_at {w : World} {b off k : Nat} {L : List Vt} (h : CellsV w (some ⟨b, off, none⟩) L) {j : Nat} {y : Value} (hy : ((L.drop k).flatMap vcl)[j]? = some y) : w.cell? ((⟨b, off + k * 5, none⟩ : Addr).add j) = some y := by
  have hadd : (⟨b, off + k * 5, none⟩ : Addr).add j = ⟨b, off + (k * 5 + j), none⟩ := by unfold Addr.add; split <;> simp_all [Nat.add_assoc]
  rw [hadd]
  have hfm : (L.drop k).flatMap vcl = (L.flatMap vcl).drop (k * 5) := by
    by_cases hk : k ≤ L.length
    · have e : L.flatMap vcl = (L.take k).flatMap vcl ++ (L.drop k).flatMap vcl := by rw [← List.flatMap_append, List.take_append_drop]
      have hl : ((L.take k).flatMap vcl).length = k * 5 := by rw [flatV_len, List.length_take]; omega
      rw [e, ← hl, List.drop_left]
    · rw [List.drop_of_length_le (by omega), List.drop_of_length_le (by rw [flatV_len]; omega)]; rfl
  rw [hfm, List.getElem?_drop] at hy
  rcases h with h | ⟨b1, off1, e, h⟩
  · rw [h] at hy; simp at hy
  · injection e with e
    injection e with e1 e2
    subst e1 e2
    exact h _ _ hy
theorem row_news {w : World} {g : Nat} {e : TypeId} {xs : List Value} (h : Row1 w g e xs) : ∀ j u, xs[j]? = some u → w.cell? ((⟨g, 0, none⟩ : Addr).add j) = some u := by
  intro j u hu
  have hadd : (⟨g, 0, none⟩ : Addr).add j = ⟨g, j, none⟩ := by unfold Addr.add; split <;> simp_all
  rw [hadd]
  exact h.cell hu
set_option maxRecDepth 100000 in
set_option maxHeartbeats 4000000 in
theorem rput_c (g gl : Nat) (n : Int) (L : List Vt) (v : Vt) (w : World) (h : RTly w g gl n L) (hl : L.length ≤ 10000) (hs : Srt L) (hv : v.Ok) (hn : I64 n) :
    Calls Try.prog 26 #[.pointer (some ⟨g, 0, none⟩), vval v] w fun e w' => ∃ gl', e = .returned (.bool (putB n L v)) ∧ RTly w' g gl' n (putL n L v) ∧ (gl' = gl ∨ w.heap.size ≤ gl') ∧ w.grownBy w' (some g) := by
  have hB1 := below_alloc w (.cells (vcl v).toArray 56)
  have hT := h.below hB1
  have hV := row1_new w (vcl v) 56
  have hglt := h.lt
  clear h
  simp only [List.toArray] at hT hV hB1
  go_enter Try.func26, Try.ntmps26
  go_wp2
  generalize w.alloc (.cells #[.int .i64 v.fr, .int .i64 v.rd, .int .u8 v.kd, .int .i64 v.va, .string v.tx] 56) = w1 at *
  cases hm : mayV v n with
  | false =>
    have hP := hid (show putB n L v = false by simp [putB, hm])
    have HM := hid hm
    clear hm
    obtain ⟨A, c, hr, hc, ha, hcap⟩ := hT
    refine Rgb.wp_region (l := [_, _, _, _, _, _]) (tail := [_]) (Rgb.grows _ 7) [some 7, some 8, some 9, some 10, some 11, some 12, some 13] 77 (by kernel_rfl) (by kernel_rfl) (by kernel_rfl) rfl (Rgb.grows_fair _ _) (Rgb.keep_drew _) (trivial) ?_
    refine Rgb.op_is (vval v) [] rfl rfl (by kernel_rfl) ?_ ?_
    · intro wx hb
      refine Rgb.from_nil fun T hT => ?_
      obtain ⟨c0, c1, c2, c3, c4⟩ := (hV.below hb).five
      go_wp2
      exact hT _ _ rfl (by first | exact Rgb.Keep.refl _ | exact below_of_dr hw2 | exact hw2 | exact (Below.refl _ _).alloc (Nat.le_refl _) _) (by first | rfl | exact congrArg _ (by decide))
    refine' Rgb.op_is _ [] rfl rfl (by kernel_rfl) ?_ ?_
    rotate_left
    · intro wx hb
      refine Rgb.from_nil fun T hT => ?_
      go_wp2
      refine hT _ _ rfl (by first | exact Rgb.Keep.refl _ | exact below_of_dr hw2 | exact hw2 | exact (Below.refl _ _).alloc (Nat.le_refl _) _) ?_
      simp only [Rgb.last, List.getElem?_toArray, List.getElem?_cons_succ, List.getElem?_cons_zero, Option.getD_some]
      rfl
    refine' Rgb.op_is _ [1] rfl rfl (by kernel_rfl) ?_ ?_
    rotate_left
    · intro wx hb
      refine Rgb.from_is (some 8) rfl rfl ?_
      refine Rgb.from_nil fun T hT => ?_
      go_wp2
      refine hT _ _ rfl (by first | exact Rgb.Keep.refl _ | exact below_of_dr hw2 | exact hw2 | exact (Below.refl _ _).alloc (Nat.le_refl _) _) ?_
      simp only [Rgb.last, List.getElem?_toArray, List.getElem?_cons_succ, List.getElem?_cons_zero, Option.getD_some]
      rfl
    refine' Rgb.op_is _ [2] rfl rfl (by kernel_rfl) ?_ ?_
    rotate_left
    · intro wx hb
      refine Rgb.from_is (some 9) rfl rfl ?_
      refine Rgb.from_nil fun T hT => ?_
      go_wp2
      refine hT _ _ rfl (by first | exact Rgb.Keep.refl _ | exact below_of_dr hw2 | exact hw2 | exact (Below.refl _ _).alloc (Nat.le_refl _) _) ?_
      simp only [Rgb.last, List.getElem?_toArray, List.getElem?_cons_succ, List.getElem?_cons_zero, Option.getD_some]
      rfl
    refine Rgb.op_is (.int .i64 n) [3] rfl rfl (by kernel_rfl) ?_ ?_
    · intro wx hb
      refine Rgb.from_is (some 10) rfl rfl ?_
      refine Rgb.from_nil fun T hT => ?_
      have c0 := (hr.below hb).cell (k := 0) rfl
      go_wp2
      exact hT _ _ rfl (by first | exact Rgb.Keep.refl _ | exact below_of_dr hw2 | exact hw2 | exact (Below.refl _ _).alloc (Nat.le_refl _) _) (by first | rfl | exact congrArg _ (by decide))
    refine Rgb.op_is (.bool false) [0, 4] rfl rfl (by kernel_rfl) ?_ ?_
    · intro wx hb
      refine Rgb.from_is (some 7) rfl rfl ?_
      refine Rgb.from_is (some 11) rfl rfl ?_
      refine Rgb.from_nil fun T hT => ?_
      go_wp2_with (go_at_call 43; refine (rmay_c v n _ hv hn).mono ?_; rintro e w5 ⟨rfl, hw5⟩; rw [HM.out])
      exact hT _ _ rfl hw5 rfl
    refine Rgb.walk_nil [0, 1, 2, 3, 4, 5] (by kernel_rfl) ?_
    intro wx hb
    refine Rgb.from_is (some 7) rfl rfl ?_
    refine Rgb.from_is (some 8) rfl rfl ?_
    refine Rgb.from_is (some 9) rfl rfl ?_
    refine Rgb.from_is (some 10) rfl rfl ?_
    refine Rgb.from_is (some 11) rfl rfl ?_
    refine Rgb.from_is (some 12) rfl rfl ?_
    refine Rgb.from_nil ?_
    simp only [List.map, Act.put, List.setIfInBounds_toArray, List.set_cons_zero, List.set_cons_succ]
    go_wp2
    go_ret
    have hb2 := below_next hB1 hB1.size hb
    refine ⟨gl, by rw [hP.out]; rfl, ?_, .inl rfl, but_below hb2 _⟩
    rw [putL, hP.out, if_neg (by simp)]
    exact ⟨A, c, hr.below hb, hc.below hb, ha, hcap⟩
  | true =>
    have HM := hid hm
    clear hm
    obtain ⟨A, c, hr, hc, ha, hcap⟩ := hT
    refine Rgb.wp_region (l := [_, _, _, _, _, _]) (tail := [_]) (Rgb.grows _ 7) [some 7, some 8, some 9, some 10, some 11, some 12, some 13] 77 (by kernel_rfl) (by kernel_rfl) (by kernel_rfl) rfl (Rgb.grows_fair _ _) (Rgb.keep_drew _) (trivial) ?_
    refine Rgb.op_is (vval v) [] rfl rfl (by kernel_rfl) ?_ ?_
    · intro wx hb
      refine Rgb.from_nil fun T hT => ?_
      obtain ⟨c0, c1, c2, c3, c4⟩ := (hV.below hb).five
      go_wp2
      exact hT _ _ rfl (by first | exact Rgb.Keep.refl _ | exact below_of_dr hw2 | exact hw2 | exact (Below.refl _ _).alloc (Nat.le_refl _) _) (by first | rfl | exact congrArg _ (by decide))
    refine' Rgb.op_is _ [] rfl rfl (by kernel_rfl) ?_ ?_
    rotate_left
    · intro wx hb
      refine Rgb.from_nil fun T hT => ?_
      go_wp2
      refine hT _ _ rfl (by first | exact Rgb.Keep.refl _ | exact below_of_dr hw2 | exact hw2 | exact (Below.refl _ _).alloc (Nat.le_refl _) _) ?_
      simp only [Rgb.last, List.getElem?_toArray, List.getElem?_cons_succ, List.getElem?_cons_zero, Option.getD_some]
      rfl
    refine' Rgb.op_is _ [1] rfl rfl (by kernel_rfl) ?_ ?_
    rotate_left
    · intro wx hb
      refine Rgb.from_is (some 8) rfl rfl ?_
      refine Rgb.from_nil fun T hT => ?_
      go_wp2
      refine hT _ _ rfl (by first | exact Rgb.Keep.refl _ | exact below_of_dr hw2 | exact hw2 | exact (Below.refl _ _).alloc (Nat.le_refl _) _) ?_
      simp only [Rgb.last, List.getElem?_toArray, List.getElem?_cons_succ, List.getElem?_cons_zero, Option.getD_some]
      rfl
    refine' Rgb.op_is _ [2] rfl rfl (by kernel_rfl) ?_ ?_
    rotate_left
    · intro wx hb
      refine Rgb.from_is (some 9) rfl rfl ?_
      refine Rgb.from_nil fun T hT => ?_
      go_wp2
      refine hT _ _ rfl (by first | exact Rgb.Keep.refl _ | exact below_of_dr hw2 | exact hw2 | exact (Below.refl _ _).alloc (Nat.le_refl _) _) ?_
      simp only [Rgb.last, List.getElem?_toArray, List.getElem?_cons_succ, List.getElem?_cons_zero, Option.getD_some]
      rfl
    refine Rgb.op_is (.int .i64 n) [3] rfl rfl (by kernel_rfl) ?_ ?_
    · intro wx hb
      refine Rgb.from_is (some 10) rfl rfl ?_
      refine Rgb.from_nil fun T hT => ?_
      have c0 := (hr.below hb).cell (k := 0) rfl
      go_wp2
      exact hT _ _ rfl (by first | exact Rgb.Keep.refl _ | exact below_of_dr hw2 | exact hw2 | exact (Below.refl _ _).alloc (Nat.le_refl _) _) (by first | rfl | exact congrArg _ (by decide))
    refine Rgb.op_is (.bool true) [0, 4] rfl rfl (by kernel_rfl) ?_ ?_
    · intro wx hb
      refine Rgb.from_is (some 7) rfl rfl ?_
      refine Rgb.from_is (some 11) rfl rfl ?_
      refine Rgb.from_nil fun T hT => ?_
      go_wp2_with (go_at_call 43; refine (rmay_c v n _ hv hn).mono ?_; rintro e w5 ⟨rfl, hw5⟩; rw [HM.out])
      exact hT _ _ rfl hw5 rfl
    refine Rgb.walk_nil [0, 1, 2, 3, 4, 5] (by kernel_rfl) ?_
    intro wx hb
    refine Rgb.from_is (some 7) rfl rfl ?_
    refine Rgb.from_is (some 8) rfl rfl ?_
    refine Rgb.from_is (some 9) rfl rfl ?_
    refine Rgb.from_is (some 10) rfl rfl ?_
    refine Rgb.from_is (some 11) rfl rfl ?_
    refine Rgb.from_is (some 12) rfl rfl ?_
    refine Rgb.from_nil ?_
    simp only [List.map, Act.put, List.setIfInBounds_toArray, List.set_cons_zero, List.set_cons_succ]
    replace hB1 := below_next hB1 hB1.size hb
    replace hr := hr.below hb
    replace hc := hc.below hb
    replace hV := hV.below hb
    have hw1 : w.heap.size < wx.heap.size := hV.lt
    clear hb
    go_wp2
    generalize wx = w2 at *
    go_loopw [5, 6] (fun o i wr => ∃ k : Nat, i = .int .i64 k ∧ k ≤ L.length ∧ (∀ u ∈ L.take k, ahead u v = true) ∧ OwnV wr w2.heap.size 56 o (L.take k) ∧ Below w2.heap.size w2 wr) (fun _ i _ => L.length - (intOf i).toNat)
    case atStart => exact ⟨0, rfl, by omega, (fun u hu => by simp at hu), OwnV.nil _ _ _, Below.refl _ _⟩
    case round =>
      obtain ⟨k, rfl, hk, hall, hown, hbr⟩ := hrel
      have HALL := hid hall
      clear hall
      by_cases hlt : k < L.length
      · obtain ⟨x, hx⟩ := get_of_lt hlt
        obtain ⟨b0, off0, rfl, hb0lt, -, -, -, -, -⟩ := hc.at_ hx
        have HX := hid hx
        clear hx
        cases e1 : ahead x v with
        | true =>
          have E1 := hid e1
          clear e1
          go_upto_region 5 with (fail)
          refine Rgb.wp_region (l := [_, _, _, _, _, _, _, _, _, _, _, _, _, _, _, _, _]) (tail := [_]) (Rgb.grows _ 18) [some 14, some 15, some 16, some 17, some 18, some 19, some 20, some 21, some 22, some 23, some 24, some 25, some 26, some 27, some 28, some 29, some 30, some 31] 77 (by kernel_rfl) (by kernel_rfl) (by kernel_rfl) rfl (Rgb.grows_fair _ _) (Rgb.keep_drew _) (trivial) ?_
          refine' Rgb.op_is _ [] rfl rfl (by kernel_rfl) ?_ ?_
          rotate_left
          · intro wx hb
            refine Rgb.from_nil fun T hT => ?_
            go_wp2
            refine hT _ _ rfl (by first | exact Rgb.Keep.refl _ | exact below_of_dr hw2 | exact hw2 | exact (Below.refl _ _).alloc (Nat.le_refl _) _) ?_
            simp only [Rgb.last, List.getElem?_toArray, List.getElem?_cons_succ, List.getElem?_cons_zero, Option.getD_some]
            rfl
          refine' Rgb.op_is _ [] rfl rfl (by kernel_rfl) ?_ ?_
          rotate_left
          · intro wx hb
            refine Rgb.from_nil fun T hT => ?_
            go_wp2
            refine hT _ _ rfl (by first | exact Rgb.Keep.refl _ | exact below_of_dr hw2 | exact hw2 | exact (Below.refl _ _).alloc (Nat.le_refl _) _) ?_
            simp only [Rgb.last, List.getElem?_toArray, List.getElem?_cons_succ, List.getElem?_cons_zero, Option.getD_some]
            rfl
          refine' Rgb.op_is _ [1] rfl rfl (by kernel_rfl) ?_ ?_
          rotate_left
          · intro wx hb
            refine Rgb.from_is (some 15) rfl rfl ?_
            refine Rgb.from_nil fun T hT => ?_
            go_wp2
            refine hT _ _ rfl (by first | exact Rgb.Keep.refl _ | exact below_of_dr hw2 | exact hw2 | exact (Below.refl _ _).alloc (Nat.le_refl _) _) ?_
            simp only [Rgb.last, List.getElem?_toArray, List.getElem?_cons_succ, List.getElem?_cons_zero, Option.getD_some]
            rfl
          refine' Rgb.op_is _ [2] rfl rfl (by kernel_rfl) ?_ ?_
          rotate_left
          · intro wx hb
            refine Rgb.from_is (some 16) rfl rfl ?_
            refine Rgb.from_nil fun T hT => ?_
            go_wp2
            refine hT _ _ rfl (by first | exact Rgb.Keep.refl _ | exact below_of_dr hw2 | exact hw2 | exact (Below.refl _ _).alloc (Nat.le_refl _) _) ?_
            simp only [Rgb.last, List.getElem?_toArray, List.getElem?_cons_succ, List.getElem?_cons_zero, Option.getD_some]
            rfl
          refine Rgb.op_is (.slice (some ⟨b0, off0, none⟩) L.length c) [3] rfl rfl (by kernel_rfl) ?_ ?_
          · intro wx hb
            refine Rgb.from_is (some 17) rfl rfl ?_
            refine Rgb.from_nil fun T hT => ?_
            have c1 := ((hr.below hbr).below hb).cell (k := 1) rfl
            go_wp2
            exact hT _ _ rfl (by first | exact Rgb.Keep.refl _ | exact below_of_dr hw2 | exact hw2 | exact (Below.refl _ _).alloc (Nat.le_refl _) _) (by first | rfl | exact congrArg _ (by decide))
          refine' Rgb.op_is _ [4] rfl rfl (by kernel_rfl) ?_ ?_
          rotate_left
          · intro wx hb
            refine Rgb.from_is (some 18) rfl rfl ?_
            refine Rgb.from_nil fun T hT => ?_
            go_wp2
            refine hT _ _ rfl (by first | exact Rgb.Keep.refl _ | exact below_of_dr hw2 | exact hw2 | exact (Below.refl _ _).alloc (Nat.le_refl _) _) ?_
            simp only [Rgb.last, List.getElem?_toArray, List.getElem?_cons_succ, List.getElem?_cons_zero, Option.getD_some]
            rfl
          refine Rgb.op_is (.bool true) [0, 5] rfl rfl (by kernel_rfl) ?_ ?_
          · intro wx hb
            refine Rgb.from_is (some 14) rfl rfl ?_
            refine Rgb.from_is (some 19) rfl rfl ?_
            refine Rgb.from_nil fun T hT => ?_
            go_wp2
            exact hT _ _ rfl (by first | exact Rgb.Keep.refl _ | exact below_of_dr hw2 | exact hw2 | exact (Below.refl _ _).alloc (Nat.le_refl _) _) (by first | rfl | exact congrArg _ (by decide))
          refine Rgb.op_is (.bool true) [6] rfl rfl (by kernel_rfl) ?_ ?_
          · intro wx hb
            refine Rgb.from_is (some 20) rfl rfl ?_
            refine Rgb.from_nil fun T hT => ?_
            go_wp2
            exact hT _ _ rfl (by first | exact Rgb.Keep.refl _ | exact below_of_dr hw2 | exact hw2 | exact (Below.refl _ _).alloc (Nat.le_refl _) _) (by first | rfl | exact congrArg _ (by decide))
          refine' Rgb.op_is _ [] rfl rfl (by kernel_rfl) ?_ ?_
          rotate_left
          · intro wx hb
            refine Rgb.from_nil fun T hT => ?_
            go_wp2
            refine hT _ _ rfl (by first | exact Rgb.Keep.refl _ | exact below_of_dr hw2 | exact hw2 | exact (Below.refl _ _).alloc (Nat.le_refl _) _) ?_
            simp only [Rgb.last, List.getElem?_toArray, List.getElem?_cons_succ, List.getElem?_cons_zero, Option.getD_some]
            rfl
          refine' Rgb.op_is _ [8] rfl rfl (by kernel_rfl) ?_ ?_
          rotate_left
          · intro wx hb
            refine Rgb.from_is (some 22) rfl rfl ?_
            refine Rgb.from_nil fun T hT => ?_
            go_wp2
            refine hT _ _ rfl (by first | exact Rgb.Keep.refl _ | exact below_of_dr hw2 | exact hw2 | exact (Below.refl _ _).alloc (Nat.le_refl _) _) ?_
            simp only [Rgb.last, List.getElem?_toArray, List.getElem?_cons_succ, List.getElem?_cons_zero, Option.getD_some]
            rfl
          refine' Rgb.op_is _ [9] rfl rfl (by kernel_rfl) ?_ ?_
          rotate_left
          · intro wx hb
            refine Rgb.from_is (some 23) rfl rfl ?_
            refine Rgb.from_nil fun T hT => ?_
            go_wp2
            refine hT _ _ rfl (by first | exact Rgb.Keep.refl _ | exact below_of_dr hw2 | exact hw2 | exact (Below.refl _ _).alloc (Nat.le_refl _) _) ?_
            simp only [Rgb.last, List.getElem?_toArray, List.getElem?_cons_succ, List.getElem?_cons_zero, Option.getD_some]
            rfl
          refine Rgb.op_is (.slice (some ⟨b0, off0, none⟩) L.length c) [10] rfl rfl (by kernel_rfl) ?_ ?_
          · intro wx hb
            refine Rgb.from_is (some 24) rfl rfl ?_
            refine Rgb.from_nil fun T hT => ?_
            have c1 := ((hr.below hbr).below hb).cell (k := 1) rfl
            go_wp2
            exact hT _ _ rfl (by first | exact Rgb.Keep.refl _ | exact below_of_dr hw2 | exact hw2 | exact (Below.refl _ _).alloc (Nat.le_refl _) _) (by first | rfl | exact congrArg _ (by decide))
          refine' Rgb.op_is _ [] rfl rfl (by kernel_rfl) ?_ ?_
          rotate_left
          · intro wx hb
            refine Rgb.from_nil fun T hT => ?_
            go_wp2
            refine hT _ _ rfl (by first | exact Rgb.Keep.refl _ | exact below_of_dr hw2 | exact hw2 | exact (Below.refl _ _).alloc (Nat.le_refl _) _) ?_
            simp only [Rgb.last, List.getElem?_toArray, List.getElem?_cons_succ, List.getElem?_cons_zero, Option.getD_some]
            rfl
          refine' Rgb.op_is _ [11, 12] rfl rfl (by kernel_rfl) ?_ ?_
          rotate_left
          · intro wx hb
            refine Rgb.from_is (some 25) rfl rfl ?_
            refine Rgb.from_is (some 26) rfl rfl ?_
            refine Rgb.from_nil fun T hT => ?_
            go_wp2
            refine hT _ _ rfl (by first | exact Rgb.Keep.refl _ | exact below_of_dr hw2 | exact hw2 | exact (Below.refl _ _).alloc (Nat.le_refl _) _) ?_
            simp only [Rgb.last, List.getElem?_toArray, List.getElem?_cons_succ, List.getElem?_cons_zero, Option.getD_some]
            rfl
          refine Rgb.op_is (vval x) [13] rfl rfl (by kernel_rfl) ?_ ?_
          · intro wx hb
            refine Rgb.from_is (some 27) rfl rfl ?_
            refine Rgb.from_nil fun T hT => ?_
            obtain ⟨b, off, he, hbl, d0, d1, d2, d3, d4⟩ := ((hc.below hbr).below hb).at_ HX.out
            injection he with he
            injection he with he1 he2
            subst he1 he2
            go_wp2
            exact hT _ _ rfl (by first | exact Rgb.Keep.refl _ | exact below_of_dr hw2 | exact hw2 | exact (Below.refl _ _).alloc (Nat.le_refl _) _) (by first | rfl | exact congrArg _ (by decide))
          refine Rgb.op_is (vval v) [] rfl rfl (by kernel_rfl) ?_ ?_
          · intro wx hb
            refine Rgb.from_nil fun T hT => ?_
            obtain ⟨c0, c1, c2, c3, c4⟩ := ((hV.below hbr).below hb).five
            go_wp2
            exact hT _ _ rfl (by first | exact Rgb.Keep.refl _ | exact below_of_dr hw2 | exact hw2 | exact (Below.refl _ _).alloc (Nat.le_refl _) _) (by first | rfl | exact congrArg _ (by decide))
          refine Rgb.op_is (.bool true) [14, 15] rfl rfl (by kernel_rfl) ?_ ?_
          · intro wx hb
            refine Rgb.from_is (some 28) rfl rfl ?_
            refine Rgb.from_is (some 29) rfl rfl ?_
            refine Rgb.from_nil fun T hT => ?_
            go_wp2_with (go_at_call 44; refine (rahead_c x v _).mono ?_; rintro e w5 ⟨rfl, hw5⟩; rw [E1.out])
            exact hT _ _ rfl hw5 rfl
          refine Rgb.walk_nil [0, 1, 2, 3, 4, 5, 6, 7, 8, 9, 10, 11, 12, 13, 14, 15, 16] (by kernel_rfl) ?_
          intro wx hb
          refine Rgb.from_is (some 14) rfl rfl ?_
          refine Rgb.from_is (some 15) rfl rfl ?_
          refine Rgb.from_is (some 16) rfl rfl ?_
          refine Rgb.from_is (some 17) rfl rfl ?_
          refine Rgb.from_is (some 18) rfl rfl ?_
          refine Rgb.from_is (some 19) rfl rfl ?_
          refine Rgb.from_is (some 20) rfl rfl ?_
          refine Rgb.from_is (some 21) rfl rfl ?_
          refine Rgb.from_is (some 22) rfl rfl ?_
          refine Rgb.from_is (some 23) rfl rfl ?_
          refine Rgb.from_is (some 24) rfl rfl ?_
          refine Rgb.from_is (some 25) rfl rfl ?_
          refine Rgb.from_is (some 26) rfl rfl ?_
          refine Rgb.from_is (some 27) rfl rfl ?_
          refine Rgb.from_is (some 28) rfl rfl ?_
          refine Rgb.from_is (some 29) rfl rfl ?_
          refine Rgb.from_is (some 30) rfl rfl ?_
          refine Rgb.from_nil ?_
          simp only [List.map, Act.put, List.setIfInBounds_toArray, List.set_cons_zero, List.set_cons_succ]
          have hbx := below_next hbr hbr.size hb
          replace hown := hown.below hb
          clear hb hbr
          generalize wx = w3 at *
          have hHT := hid (show L.take k ++ [x] = L.take (k + 1) by rw [List.take_add_one, HX.out]; rfl)
          have hHL := hid (show (L.take k).length = k by simp; omega)
          have hAL := hid (show ∀ u ∈ L.take (k + 1), ahead u v = true by
            intro u hu
            rw [← hHT.out] at hu
            rcases List.mem_append.1 hu with hu | hu
            · exact HALL.out u hu
            · rw [List.mem_singleton.1 hu]; exact E1.out)
          have hown2 := hown.below (below_alloc w3 (.cells (vcl x).toArray 56))
          have c1 := (hr.below hbx).cell (k := 1) rfl
          have hsz := hbx.size
          obtain ⟨b, off, he, hbl, d0, d1, d2, d3, d4⟩ := (hc.below hbx).at_ HX.out
          injection he with he
          injection he with he1 he2
          subst he1 he2
          obtain ⟨i0, hi, hz0, hz1, hz2⟩ := info_parts info_rvote
          clear hown
          go_wp2_with (at_builtin; refine wpList_append_own _ rfl _ _ 61 rfl w2.heap.size 56 i0 (vval zeroVt) 5 48 Try.underlying61 hi hz0 hz1 hz2 rfl (by decide) _ _ _ rfl hown2 ⟨w3.heap.size, 0, none⟩ 1 1 (vcl x) rfl rfl (news_five w3 x _) (one_five x) (by rw [hHL.out]; unfold maxLen; omega) (by rw [hHL.out]; omega) (by simp; omega) ?_; intro v' w5 hO2 hg2 _)
          go_roundw
          case rel =>
            refine ⟨k + 1, by go_num, by omega, hAL.out, ?_, (hbx.alloc hbx.size _).grown hg2 (by simp; omega) fun k e => (hown2.block k e).1⟩
            rw [← hHT.out]
            unfold OwnV
            rw [List.length_append, List.flatMap_append]
            exact hO2
          case measure => simp [intOf]; omega
        | false =>
          have E1 := hid e1
          clear e1
          go_upto_region 5 with (fail)
          refine Rgb.wp_region (l := [_, _, _, _, _, _, _, _, _, _, _, _, _, _, _, _, _]) (tail := [_]) (Rgb.grows _ 18) [some 14, some 15, some 16, some 17, some 18, some 19, some 20, some 21, some 22, some 23, some 24, some 25, some 26, some 27, some 28, some 29, some 30, some 31] 77 (by kernel_rfl) (by kernel_rfl) (by kernel_rfl) rfl (Rgb.grows_fair _ _) (Rgb.keep_drew _) (trivial) ?_
          refine' Rgb.op_is _ [] rfl rfl (by kernel_rfl) ?_ ?_
          rotate_left
          · intro wx hb
            refine Rgb.from_nil fun T hT => ?_
            go_wp2
            refine hT _ _ rfl (by first | exact Rgb.Keep.refl _ | exact below_of_dr hw2 | exact hw2 | exact (Below.refl _ _).alloc (Nat.le_refl _) _) ?_
            simp only [Rgb.last, List.getElem?_toArray, List.getElem?_cons_succ, List.getElem?_cons_zero, Option.getD_some]
            rfl
          refine' Rgb.op_is _ [] rfl rfl (by kernel_rfl) ?_ ?_
          rotate_left
          · intro wx hb
            refine Rgb.from_nil fun T hT => ?_
            go_wp2
            refine hT _ _ rfl (by first | exact Rgb.Keep.refl _ | exact below_of_dr hw2 | exact hw2 | exact (Below.refl _ _).alloc (Nat.le_refl _) _) ?_
            simp only [Rgb.last, List.getElem?_toArray, List.getElem?_cons_succ, List.getElem?_cons_zero, Option.getD_some]
            rfl
          refine' Rgb.op_is _ [1] rfl rfl (by kernel_rfl) ?_ ?_
          rotate_left
          · intro wx hb
            refine Rgb.from_is (some 15) rfl rfl ?_
            refine Rgb.from_nil fun T hT => ?_
            go_wp2
            refine hT _ _ rfl (by first | exact Rgb.Keep.refl _ | exact below_of_dr hw2 | exact hw2 | exact (Below.refl _ _).alloc (Nat.le_refl _) _) ?_
            simp only [Rgb.last, List.getElem?_toArray, List.getElem?_cons_succ, List.getElem?_cons_zero, Option.getD_some]
            rfl
          refine' Rgb.op_is _ [2] rfl rfl (by kernel_rfl) ?_ ?_
          rotate_left
          · intro wx hb
            refine Rgb.from_is (some 16) rfl rfl ?_
            refine Rgb.from_nil fun T hT => ?_
            go_wp2
            refine hT _ _ rfl (by first | exact Rgb.Keep.refl _ | exact below_of_dr hw2 | exact hw2 | exact (Below.refl _ _).alloc (Nat.le_refl _) _) ?_
            simp only [Rgb.last, List.getElem?_toArray, List.getElem?_cons_succ, List.getElem?_cons_zero, Option.getD_some]
            rfl
          refine Rgb.op_is (.slice (some ⟨b0, off0, none⟩) L.length c) [3] rfl rfl (by kernel_rfl) ?_ ?_
          · intro wx hb
            refine Rgb.from_is (some 17) rfl rfl ?_
            refine Rgb.from_nil fun T hT => ?_
            have c1 := ((hr.below hbr).below hb).cell (k := 1) rfl
            go_wp2
            exact hT _ _ rfl (by first | exact Rgb.Keep.refl _ | exact below_of_dr hw2 | exact hw2 | exact (Below.refl _ _).alloc (Nat.le_refl _) _) (by first | rfl | exact congrArg _ (by decide))
          refine' Rgb.op_is _ [4] rfl rfl (by kernel_rfl) ?_ ?_
          rotate_left
          · intro wx hb
            refine Rgb.from_is (some 18) rfl rfl ?_
            refine Rgb.from_nil fun T hT => ?_
            go_wp2
            refine hT _ _ rfl (by first | exact Rgb.Keep.refl _ | exact below_of_dr hw2 | exact hw2 | exact (Below.refl _ _).alloc (Nat.le_refl _) _) ?_
            simp only [Rgb.last, List.getElem?_toArray, List.getElem?_cons_succ, List.getElem?_cons_zero, Option.getD_some]
            rfl
          refine Rgb.op_is (.bool true) [0, 5] rfl rfl (by kernel_rfl) ?_ ?_
          · intro wx hb
            refine Rgb.from_is (some 14) rfl rfl ?_
            refine Rgb.from_is (some 19) rfl rfl ?_
            refine Rgb.from_nil fun T hT => ?_
            go_wp2
            exact hT _ _ rfl (by first | exact Rgb.Keep.refl _ | exact below_of_dr hw2 | exact hw2 | exact (Below.refl _ _).alloc (Nat.le_refl _) _) (by first | rfl | exact congrArg _ (by decide))
          refine Rgb.op_is (.bool true) [6] rfl rfl (by kernel_rfl) ?_ ?_
          · intro wx hb
            refine Rgb.from_is (some 20) rfl rfl ?_
            refine Rgb.from_nil fun T hT => ?_
            go_wp2
            exact hT _ _ rfl (by first | exact Rgb.Keep.refl _ | exact below_of_dr hw2 | exact hw2 | exact (Below.refl _ _).alloc (Nat.le_refl _) _) (by first | rfl | exact congrArg _ (by decide))
          refine' Rgb.op_is _ [] rfl rfl (by kernel_rfl) ?_ ?_
          rotate_left
          · intro wx hb
            refine Rgb.from_nil fun T hT => ?_
            go_wp2
            refine hT _ _ rfl (by first | exact Rgb.Keep.refl _ | exact below_of_dr hw2 | exact hw2 | exact (Below.refl _ _).alloc (Nat.le_refl _) _) ?_
            simp only [Rgb.last, List.getElem?_toArray, List.getElem?_cons_succ, List.getElem?_cons_zero, Option.getD_some]
            rfl
          refine' Rgb.op_is _ [8] rfl rfl (by kernel_rfl) ?_ ?_
          rotate_left
          · intro wx hb
            refine Rgb.from_is (some 22) rfl rfl ?_
            refine Rgb.from_nil fun T hT => ?_
            go_wp2
            refine hT _ _ rfl (by first | exact Rgb.Keep.refl _ | exact below_of_dr hw2 | exact hw2 | exact (Below.refl _ _).alloc (Nat.le_refl _) _) ?_
            simp only [Rgb.last, List.getElem?_toArray, List.getElem?_cons_succ, List.getElem?_cons_zero, Option.getD_some]
            rfl
          refine' Rgb.op_is _ [9] rfl rfl (by kernel_rfl) ?_ ?_
          rotate_left
          · intro wx hb
            refine Rgb.from_is (some 23) rfl rfl ?_
            refine Rgb.from_nil fun T hT => ?_
            go_wp2
            refine hT _ _ rfl (by first | exact Rgb.Keep.refl _ | exact below_of_dr hw2 | exact hw2 | exact (Below.refl _ _).alloc (Nat.le_refl _) _) ?_
            simp only [Rgb.last, List.getElem?_toArray, List.getElem?_cons_succ, List.getElem?_cons_zero, Option.getD_some]
            rfl
          refine Rgb.op_is (.slice (some ⟨b0, off0, none⟩) L.length c) [10] rfl rfl (by kernel_rfl) ?_ ?_
          · intro wx hb
            refine Rgb.from_is (some 24) rfl rfl ?_
            refine Rgb.from_nil fun T hT => ?_
            have c1 := ((hr.below hbr).below hb).cell (k := 1) rfl
            go_wp2
            exact hT _ _ rfl (by first | exact Rgb.Keep.refl _ | exact below_of_dr hw2 | exact hw2 | exact (Below.refl _ _).alloc (Nat.le_refl _) _) (by first | rfl | exact congrArg _ (by decide))
          refine' Rgb.op_is _ [] rfl rfl (by kernel_rfl) ?_ ?_
          rotate_left
          · intro wx hb
            refine Rgb.from_nil fun T hT => ?_
            go_wp2
            refine hT _ _ rfl (by first | exact Rgb.Keep.refl _ | exact below_of_dr hw2 | exact hw2 | exact (Below.refl _ _).alloc (Nat.le_refl _) _) ?_
            simp only [Rgb.last, List.getElem?_toArray, List.getElem?_cons_succ, List.getElem?_cons_zero, Option.getD_some]
            rfl
          refine' Rgb.op_is _ [11, 12] rfl rfl (by kernel_rfl) ?_ ?_
          rotate_left
          · intro wx hb
            refine Rgb.from_is (some 25) rfl rfl ?_
            refine Rgb.from_is (some 26) rfl rfl ?_
            refine Rgb.from_nil fun T hT => ?_
            go_wp2
            refine hT _ _ rfl (by first | exact Rgb.Keep.refl _ | exact below_of_dr hw2 | exact hw2 | exact (Below.refl _ _).alloc (Nat.le_refl _) _) ?_
            simp only [Rgb.last, List.getElem?_toArray, List.getElem?_cons_succ, List.getElem?_cons_zero, Option.getD_some]
            rfl
          refine Rgb.op_is (vval x) [13] rfl rfl (by kernel_rfl) ?_ ?_
          · intro wx hb
            refine Rgb.from_is (some 27) rfl rfl ?_
            refine Rgb.from_nil fun T hT => ?_
            obtain ⟨b, off, he, hbl, d0, d1, d2, d3, d4⟩ := ((hc.below hbr).below hb).at_ HX.out
            injection he with he
            injection he with he1 he2
            subst he1 he2
            go_wp2
            exact hT _ _ rfl (by first | exact Rgb.Keep.refl _ | exact below_of_dr hw2 | exact hw2 | exact (Below.refl _ _).alloc (Nat.le_refl _) _) (by first | rfl | exact congrArg _ (by decide))
          refine Rgb.op_is (vval v) [] rfl rfl (by kernel_rfl) ?_ ?_
          · intro wx hb
            refine Rgb.from_nil fun T hT => ?_
            obtain ⟨c0, c1, c2, c3, c4⟩ := ((hV.below hbr).below hb).five
            go_wp2
            exact hT _ _ rfl (by first | exact Rgb.Keep.refl _ | exact below_of_dr hw2 | exact hw2 | exact (Below.refl _ _).alloc (Nat.le_refl _) _) (by first | rfl | exact congrArg _ (by decide))
          refine Rgb.op_is (.bool false) [14, 15] rfl rfl (by kernel_rfl) ?_ ?_
          · intro wx hb
            refine Rgb.from_is (some 28) rfl rfl ?_
            refine Rgb.from_is (some 29) rfl rfl ?_
            refine Rgb.from_nil fun T hT => ?_
            go_wp2_with (go_at_call 44; refine (rahead_c x v _).mono ?_; rintro e w5 ⟨rfl, hw5⟩; rw [E1.out])
            exact hT _ _ rfl hw5 rfl
          refine Rgb.walk_nil [0, 1, 2, 3, 4, 5, 6, 7, 8, 9, 10, 11, 12, 13, 14, 15, 16] (by kernel_rfl) ?_
          intro wx hb
          refine Rgb.from_is (some 14) rfl rfl ?_
          refine Rgb.from_is (some 15) rfl rfl ?_
          refine Rgb.from_is (some 16) rfl rfl ?_
          refine Rgb.from_is (some 17) rfl rfl ?_
          refine Rgb.from_is (some 18) rfl rfl ?_
          refine Rgb.from_is (some 19) rfl rfl ?_
          refine Rgb.from_is (some 20) rfl rfl ?_
          refine Rgb.from_is (some 21) rfl rfl ?_
          refine Rgb.from_is (some 22) rfl rfl ?_
          refine Rgb.from_is (some 23) rfl rfl ?_
          refine Rgb.from_is (some 24) rfl rfl ?_
          refine Rgb.from_is (some 25) rfl rfl ?_
          refine Rgb.from_is (some 26) rfl rfl ?_
          refine Rgb.from_is (some 27) rfl rfl ?_
          refine Rgb.from_is (some 28) rfl rfl ?_
          refine Rgb.from_is (some 29) rfl rfl ?_
          refine Rgb.from_is (some 30) rfl rfl ?_
          refine Rgb.from_nil ?_
          simp only [List.map, Act.put, List.setIfInBounds_toArray, List.set_cons_zero, List.set_cons_succ]
          have hbx := below_next hbr hbr.size hb
          replace hown := hown.below hb
          clear hb hbr
          generalize wx = w3 at *
          go_wp2
          cases e2 : ahead v x with
          | false =>
            have E2 := hid e2
            clear e2
            refine Rgb.wp_region (l := [_, _, _, _, _, _, _, _, _, _, _, _, _, _, _, _, _, _]) (tail := [_]) (Rgb.grows _ 19) [some 44, some 45, some 46, some 47, some 48, some 49, some 50, some 51, some 52, some 53, some 54, some 55, some 56, some 57, some 58, some 59, some 60, some 61, some 62] 77 (by kernel_rfl) (by kernel_rfl) (by kernel_rfl) rfl (Rgb.grows_fair _ _) (Rgb.keep_drew _) (trivial) ?_
            refine' Rgb.op_is _ [] rfl rfl (by kernel_rfl) ?_ ?_
            rotate_left
            · intro wx hb
              refine Rgb.from_nil fun T hT => ?_
              go_wp2
              refine hT _ _ rfl (by first | exact Rgb.Keep.refl _ | exact below_of_dr hw2 | exact hw2 | exact (Below.refl _ _).alloc (Nat.le_refl _) _) ?_
              simp only [Rgb.last, List.getElem?_toArray, List.getElem?_cons_succ, List.getElem?_cons_zero, Option.getD_some]
              rfl
            refine' Rgb.op_is _ [] rfl rfl (by kernel_rfl) ?_ ?_
            rotate_left
            · intro wx hb
              refine Rgb.from_nil fun T hT => ?_
              go_wp2
              refine hT _ _ rfl (by first | exact Rgb.Keep.refl _ | exact below_of_dr hw2 | exact hw2 | exact (Below.refl _ _).alloc (Nat.le_refl _) _) ?_
              simp only [Rgb.last, List.getElem?_toArray, List.getElem?_cons_succ, List.getElem?_cons_zero, Option.getD_some]
              rfl
            refine' Rgb.op_is _ [1] rfl rfl (by kernel_rfl) ?_ ?_
            rotate_left
            · intro wx hb
              refine Rgb.from_is (some 45) rfl rfl ?_
              refine Rgb.from_nil fun T hT => ?_
              go_wp2
              refine hT _ _ rfl (by first | exact Rgb.Keep.refl _ | exact below_of_dr hw2 | exact hw2 | exact (Below.refl _ _).alloc (Nat.le_refl _) _) ?_
              simp only [Rgb.last, List.getElem?_toArray, List.getElem?_cons_succ, List.getElem?_cons_zero, Option.getD_some]
              rfl
            refine' Rgb.op_is _ [2] rfl rfl (by kernel_rfl) ?_ ?_
            rotate_left
            · intro wx hb
              refine Rgb.from_is (some 46) rfl rfl ?_
              refine Rgb.from_nil fun T hT => ?_
              go_wp2
              refine hT _ _ rfl (by first | exact Rgb.Keep.refl _ | exact below_of_dr hw2 | exact hw2 | exact (Below.refl _ _).alloc (Nat.le_refl _) _) ?_
              simp only [Rgb.last, List.getElem?_toArray, List.getElem?_cons_succ, List.getElem?_cons_zero, Option.getD_some]
              rfl
            refine Rgb.op_is (.slice (some ⟨b0, off0, none⟩) L.length c) [3] rfl rfl (by kernel_rfl) ?_ ?_
            · intro wx hb
              refine Rgb.from_is (some 47) rfl rfl ?_
              refine Rgb.from_nil fun T hT => ?_
              have c1 := ((hr.below hbx).below hb).cell (k := 1) rfl
              go_wp2
              exact hT _ _ rfl (by first | exact Rgb.Keep.refl _ | exact below_of_dr hw2 | exact hw2 | exact (Below.refl _ _).alloc (Nat.le_refl _) _) (by first | rfl | exact congrArg _ (by decide))
            refine' Rgb.op_is _ [4] rfl rfl (by kernel_rfl) ?_ ?_
            rotate_left
            · intro wx hb
              refine Rgb.from_is (some 48) rfl rfl ?_
              refine Rgb.from_nil fun T hT => ?_
              go_wp2
              refine hT _ _ rfl (by first | exact Rgb.Keep.refl _ | exact below_of_dr hw2 | exact hw2 | exact (Below.refl _ _).alloc (Nat.le_refl _) _) ?_
              simp only [Rgb.last, List.getElem?_toArray, List.getElem?_cons_succ, List.getElem?_cons_zero, Option.getD_some]
              rfl
            refine Rgb.op_is (.bool true) [0, 5] rfl rfl (by kernel_rfl) ?_ ?_
            · intro wx hb
              refine Rgb.from_is (some 44) rfl rfl ?_
              refine Rgb.from_is (some 49) rfl rfl ?_
              refine Rgb.from_nil fun T hT => ?_
              go_wp2
              exact hT _ _ rfl (by first | exact Rgb.Keep.refl _ | exact below_of_dr hw2 | exact hw2 | exact (Below.refl _ _).alloc (Nat.le_refl _) _) (by first | rfl | exact congrArg _ (by decide))
            refine Rgb.op_is (.bool true) [6] rfl rfl (by kernel_rfl) ?_ ?_
            · intro wx hb
              refine Rgb.from_is (some 50) rfl rfl ?_
              refine Rgb.from_nil fun T hT => ?_
              go_wp2
              exact hT _ _ rfl (by first | exact Rgb.Keep.refl _ | exact below_of_dr hw2 | exact hw2 | exact (Below.refl _ _).alloc (Nat.le_refl _) _) (by first | rfl | exact congrArg _ (by decide))
            refine Rgb.op_is (vval v) [] rfl rfl (by kernel_rfl) ?_ ?_
            · intro wx hb
              refine Rgb.from_nil fun T hT => ?_
              obtain ⟨c0, c1, c2, c3, c4⟩ := ((hV.below hbx).below hb).five
              go_wp2
              exact hT _ _ rfl (by first | exact Rgb.Keep.refl _ | exact below_of_dr hw2 | exact hw2 | exact (Below.refl _ _).alloc (Nat.le_refl _) _) (by first | rfl | exact congrArg _ (by decide))
            refine' Rgb.op_is _ [] rfl rfl (by kernel_rfl) ?_ ?_
            rotate_left
            · intro wx hb
              refine Rgb.from_nil fun T hT => ?_
              go_wp2
              refine hT _ _ rfl (by first | exact Rgb.Keep.refl _ | exact below_of_dr hw2 | exact hw2 | exact (Below.refl _ _).alloc (Nat.le_refl _) _) ?_
              simp only [Rgb.last, List.getElem?_toArray, List.getElem?_cons_succ, List.getElem?_cons_zero, Option.getD_some]
              rfl
            refine' Rgb.op_is _ [9] rfl rfl (by kernel_rfl) ?_ ?_
            rotate_left
            · intro wx hb
              refine Rgb.from_is (some 53) rfl rfl ?_
              refine Rgb.from_nil fun T hT => ?_
              go_wp2
              refine hT _ _ rfl (by first | exact Rgb.Keep.refl _ | exact below_of_dr hw2 | exact hw2 | exact (Below.refl _ _).alloc (Nat.le_refl _) _) ?_
              simp only [Rgb.last, List.getElem?_toArray, List.getElem?_cons_succ, List.getElem?_cons_zero, Option.getD_some]
              rfl
            refine' Rgb.op_is _ [10] rfl rfl (by kernel_rfl) ?_ ?_
            rotate_left
            · intro wx hb
              refine Rgb.from_is (some 54) rfl rfl ?_
              refine Rgb.from_nil fun T hT => ?_
              go_wp2
              refine hT _ _ rfl (by first | exact Rgb.Keep.refl _ | exact below_of_dr hw2 | exact hw2 | exact (Below.refl _ _).alloc (Nat.le_refl _) _) ?_
              simp only [Rgb.last, List.getElem?_toArray, List.getElem?_cons_succ, List.getElem?_cons_zero, Option.getD_some]
              rfl
            refine Rgb.op_is (.slice (some ⟨b0, off0, none⟩) L.length c) [11] rfl rfl (by kernel_rfl) ?_ ?_
            · intro wx hb
              refine Rgb.from_is (some 55) rfl rfl ?_
              refine Rgb.from_nil fun T hT => ?_
              have c1 := ((hr.below hbx).below hb).cell (k := 1) rfl
              go_wp2
              exact hT _ _ rfl (by first | exact Rgb.Keep.refl _ | exact below_of_dr hw2 | exact hw2 | exact (Below.refl _ _).alloc (Nat.le_refl _) _) (by first | rfl | exact congrArg _ (by decide))
            refine' Rgb.op_is _ [] rfl rfl (by kernel_rfl) ?_ ?_
            rotate_left
            · intro wx hb
              refine Rgb.from_nil fun T hT => ?_
              go_wp2
              refine hT _ _ rfl (by first | exact Rgb.Keep.refl _ | exact below_of_dr hw2 | exact hw2 | exact (Below.refl _ _).alloc (Nat.le_refl _) _) ?_
              simp only [Rgb.last, List.getElem?_toArray, List.getElem?_cons_succ, List.getElem?_cons_zero, Option.getD_some]
              rfl
            refine' Rgb.op_is _ [12, 13] rfl rfl (by kernel_rfl) ?_ ?_
            rotate_left
            · intro wx hb
              refine Rgb.from_is (some 56) rfl rfl ?_
              refine Rgb.from_is (some 57) rfl rfl ?_
              refine Rgb.from_nil fun T hT => ?_
              go_wp2
              refine hT _ _ rfl (by first | exact Rgb.Keep.refl _ | exact below_of_dr hw2 | exact hw2 | exact (Below.refl _ _).alloc (Nat.le_refl _) _) ?_
              simp only [Rgb.last, List.getElem?_toArray, List.getElem?_cons_succ, List.getElem?_cons_zero, Option.getD_some]
              rfl
            refine Rgb.op_is (vval x) [14] rfl rfl (by kernel_rfl) ?_ ?_
            · intro wx hb
              refine Rgb.from_is (some 58) rfl rfl ?_
              refine Rgb.from_nil fun T hT => ?_
              obtain ⟨b, off, he, hbl, d0, d1, d2, d3, d4⟩ := ((hc.below hbx).below hb).at_ HX.out
              injection he with he
              injection he with he1 he2
              subst he1 he2
              go_wp2
              exact hT _ _ rfl (by first | exact Rgb.Keep.refl _ | exact below_of_dr hw2 | exact hw2 | exact (Below.refl _ _).alloc (Nat.le_refl _) _) (by first | rfl | exact congrArg _ (by decide))
            refine Rgb.op_is (.bool false) [8, 15] rfl rfl (by kernel_rfl) ?_ ?_
            · intro wx hb
              refine Rgb.from_is (some 52) rfl rfl ?_
              refine Rgb.from_is (some 59) rfl rfl ?_
              refine Rgb.from_nil fun T hT => ?_
              go_wp2_with (go_at_call 44; refine (rahead_c v x _).mono ?_; rintro e w5 ⟨rfl, hw5⟩; rw [E2.out])
              exact hT _ _ rfl hw5 rfl
            refine Rgb.op_is (.bool true) [16] rfl rfl (by kernel_rfl) ?_ ?_
            · intro wx hb
              refine Rgb.from_is (some 60) rfl rfl ?_
              refine Rgb.from_nil fun T hT => ?_
              go_wp2
              exact hT _ _ rfl (by first | exact Rgb.Keep.refl _ | exact below_of_dr hw2 | exact hw2 | exact (Below.refl _ _).alloc (Nat.le_refl _) _) (by first | rfl | exact congrArg _ (by decide))
            refine Rgb.walk_nil [0, 1, 2, 3, 4, 5, 6, 7, 8, 9, 10, 11, 12, 13, 14, 15, 16, 17] (by kernel_rfl) ?_
            intro wx hb
            refine Rgb.from_is (some 44) rfl rfl ?_
            refine Rgb.from_is (some 45) rfl rfl ?_
            refine Rgb.from_is (some 46) rfl rfl ?_
            refine Rgb.from_is (some 47) rfl rfl ?_
            refine Rgb.from_is (some 48) rfl rfl ?_
            refine Rgb.from_is (some 49) rfl rfl ?_
            refine Rgb.from_is (some 50) rfl rfl ?_
            refine Rgb.from_is (some 51) rfl rfl ?_
            refine Rgb.from_is (some 52) rfl rfl ?_
            refine Rgb.from_is (some 53) rfl rfl ?_
            refine Rgb.from_is (some 54) rfl rfl ?_
            refine Rgb.from_is (some 55) rfl rfl ?_
            refine Rgb.from_is (some 56) rfl rfl ?_
            refine Rgb.from_is (some 57) rfl rfl ?_
            refine Rgb.from_is (some 58) rfl rfl ?_
            refine Rgb.from_is (some 59) rfl rfl ?_
            refine Rgb.from_is (some 60) rfl rfl ?_
            refine Rgb.from_is (some 61) rfl rfl ?_
            refine Rgb.from_nil ?_
            simp only [List.map, Act.put, List.setIfInBounds_toArray, List.set_cons_zero, List.set_cons_succ]
            replace hbx := below_next hbx hbx.size hb
            replace hown := hown.below hb
            clear hb
            generalize wx = w4 at *
            have hP := hid (show putB n L v = false by rw [putB, put_old HX.out E1.out E2.out]; simp)
            go_wp2
            go_ret
            have hb2 := below_next hB1 hB1.size hbx
            refine ⟨gl, by rw [hP.out]; rfl, ?_, .inl rfl, but_below hb2 _⟩
            rw [putL, hP.out, if_neg (by simp)]
            exact ⟨_, c, hr.below hbx, hc.below hbx, ha, hcap⟩
          | true =>
            have E2 := hid e2
            clear e2
            refine Rgb.wp_region (l := [_, _, _, _, _, _, _, _, _, _, _, _, _, _, _, _, _, _]) (tail := [_]) (Rgb.grows _ 19) [some 44, some 45, some 46, some 47, some 48, some 49, some 50, some 51, some 52, some 53, some 54, some 55, some 56, some 57, some 58, some 59, some 60, some 61, some 62] 77 (by kernel_rfl) (by kernel_rfl) (by kernel_rfl) rfl (Rgb.grows_fair _ _) (Rgb.keep_drew _) (trivial) ?_
            refine' Rgb.op_is _ [] rfl rfl (by kernel_rfl) ?_ ?_
            rotate_left
            · intro wx hb
              refine Rgb.from_nil fun T hT => ?_
              go_wp2
              refine hT _ _ rfl (by first | exact Rgb.Keep.refl _ | exact below_of_dr hw2 | exact hw2 | exact (Below.refl _ _).alloc (Nat.le_refl _) _) ?_
              simp only [Rgb.last, List.getElem?_toArray, List.getElem?_cons_succ, List.getElem?_cons_zero, Option.getD_some]
              rfl
            refine' Rgb.op_is _ [] rfl rfl (by kernel_rfl) ?_ ?_
            rotate_left
            · intro wx hb
              refine Rgb.from_nil fun T hT => ?_
              go_wp2
              refine hT _ _ rfl (by first | exact Rgb.Keep.refl _ | exact below_of_dr hw2 | exact hw2 | exact (Below.refl _ _).alloc (Nat.le_refl _) _) ?_
              simp only [Rgb.last, List.getElem?_toArray, List.getElem?_cons_succ, List.getElem?_cons_zero, Option.getD_some]
              rfl
            refine' Rgb.op_is _ [1] rfl rfl (by kernel_rfl) ?_ ?_
            rotate_left
            · intro wx hb
              refine Rgb.from_is (some 45) rfl rfl ?_
              refine Rgb.from_nil fun T hT => ?_
              go_wp2
              refine hT _ _ rfl (by first | exact Rgb.Keep.refl _ | exact below_of_dr hw2 | exact hw2 | exact (Below.refl _ _).alloc (Nat.le_refl _) _) ?_
              simp only [Rgb.last, List.getElem?_toArray, List.getElem?_cons_succ, List.getElem?_cons_zero, Option.getD_some]
              rfl
            refine' Rgb.op_is _ [2] rfl rfl (by kernel_rfl) ?_ ?_
            rotate_left
            · intro wx hb
              refine Rgb.from_is (some 46) rfl rfl ?_
              refine Rgb.from_nil fun T hT => ?_
              go_wp2
              refine hT _ _ rfl (by first | exact Rgb.Keep.refl _ | exact below_of_dr hw2 | exact hw2 | exact (Below.refl _ _).alloc (Nat.le_refl _) _) ?_
              simp only [Rgb.last, List.getElem?_toArray, List.getElem?_cons_succ, List.getElem?_cons_zero, Option.getD_some]
              rfl
            refine Rgb.op_is (.slice (some ⟨b0, off0, none⟩) L.length c) [3] rfl rfl (by kernel_rfl) ?_ ?_
            · intro wx hb
              refine Rgb.from_is (some 47) rfl rfl ?_
              refine Rgb.from_nil fun T hT => ?_
              have c1 := ((hr.below hbx).below hb).cell (k := 1) rfl
              go_wp2
              exact hT _ _ rfl (by first | exact Rgb.Keep.refl _ | exact below_of_dr hw2 | exact hw2 | exact (Below.refl _ _).alloc (Nat.le_refl _) _) (by first | rfl | exact congrArg _ (by decide))
            refine' Rgb.op_is _ [4] rfl rfl (by kernel_rfl) ?_ ?_
            rotate_left
            · intro wx hb
              refine Rgb.from_is (some 48) rfl rfl ?_
              refine Rgb.from_nil fun T hT => ?_
              go_wp2
              refine hT _ _ rfl (by first | exact Rgb.Keep.refl _ | exact below_of_dr hw2 | exact hw2 | exact (Below.refl _ _).alloc (Nat.le_refl _) _) ?_
              simp only [Rgb.last, List.getElem?_toArray, List.getElem?_cons_succ, List.getElem?_cons_zero, Option.getD_some]
              rfl
            refine Rgb.op_is (.bool true) [0, 5] rfl rfl (by kernel_rfl) ?_ ?_
            · intro wx hb
              refine Rgb.from_is (some 44) rfl rfl ?_
              refine Rgb.from_is (some 49) rfl rfl ?_
              refine Rgb.from_nil fun T hT => ?_
              go_wp2
              exact hT _ _ rfl (by first | exact Rgb.Keep.refl _ | exact below_of_dr hw2 | exact hw2 | exact (Below.refl _ _).alloc (Nat.le_refl _) _) (by first | rfl | exact congrArg _ (by decide))
            refine Rgb.op_is (.bool true) [6] rfl rfl (by kernel_rfl) ?_ ?_
            · intro wx hb
              refine Rgb.from_is (some 50) rfl rfl ?_
              refine Rgb.from_nil fun T hT => ?_
              go_wp2
              exact hT _ _ rfl (by first | exact Rgb.Keep.refl _ | exact below_of_dr hw2 | exact hw2 | exact (Below.refl _ _).alloc (Nat.le_refl _) _) (by first | rfl | exact congrArg _ (by decide))
            refine Rgb.op_is (vval v) [] rfl rfl (by kernel_rfl) ?_ ?_
            · intro wx hb
              refine Rgb.from_nil fun T hT => ?_
              obtain ⟨c0, c1, c2, c3, c4⟩ := ((hV.below hbx).below hb).five
              go_wp2
              exact hT _ _ rfl (by first | exact Rgb.Keep.refl _ | exact below_of_dr hw2 | exact hw2 | exact (Below.refl _ _).alloc (Nat.le_refl _) _) (by first | rfl | exact congrArg _ (by decide))
            refine' Rgb.op_is _ [] rfl rfl (by kernel_rfl) ?_ ?_
            rotate_left
            · intro wx hb
              refine Rgb.from_nil fun T hT => ?_
              go_wp2
              refine hT _ _ rfl (by first | exact Rgb.Keep.refl _ | exact below_of_dr hw2 | exact hw2 | exact (Below.refl _ _).alloc (Nat.le_refl _) _) ?_
              simp only [Rgb.last, List.getElem?_toArray, List.getElem?_cons_succ, List.getElem?_cons_zero, Option.getD_some]
              rfl
            refine' Rgb.op_is _ [9] rfl rfl (by kernel_rfl) ?_ ?_
            rotate_left
            · intro wx hb
              refine Rgb.from_is (some 53) rfl rfl ?_
              refine Rgb.from_nil fun T hT => ?_
              go_wp2
              refine hT _ _ rfl (by first | exact Rgb.Keep.refl _ | exact below_of_dr hw2 | exact hw2 | exact (Below.refl _ _).alloc (Nat.le_refl _) _) ?_
              simp only [Rgb.last, List.getElem?_toArray, List.getElem?_cons_succ, List.getElem?_cons_zero, Option.getD_some]
              rfl
            refine' Rgb.op_is _ [10] rfl rfl (by kernel_rfl) ?_ ?_
            rotate_left
            · intro wx hb
              refine Rgb.from_is (some 54) rfl rfl ?_
              refine Rgb.from_nil fun T hT => ?_
              go_wp2
              refine hT _ _ rfl (by first | exact Rgb.Keep.refl _ | exact below_of_dr hw2 | exact hw2 | exact (Below.refl _ _).alloc (Nat.le_refl _) _) ?_
              simp only [Rgb.last, List.getElem?_toArray, List.getElem?_cons_succ, List.getElem?_cons_zero, Option.getD_some]
              rfl
            refine Rgb.op_is (.slice (some ⟨b0, off0, none⟩) L.length c) [11] rfl rfl (by kernel_rfl) ?_ ?_
            · intro wx hb
              refine Rgb.from_is (some 55) rfl rfl ?_
              refine Rgb.from_nil fun T hT => ?_
              have c1 := ((hr.below hbx).below hb).cell (k := 1) rfl
              go_wp2
              exact hT _ _ rfl (by first | exact Rgb.Keep.refl _ | exact below_of_dr hw2 | exact hw2 | exact (Below.refl _ _).alloc (Nat.le_refl _) _) (by first | rfl | exact congrArg _ (by decide))
            refine' Rgb.op_is _ [] rfl rfl (by kernel_rfl) ?_ ?_
            rotate_left
            · intro wx hb
              refine Rgb.from_nil fun T hT => ?_
              go_wp2
              refine hT _ _ rfl (by first | exact Rgb.Keep.refl _ | exact below_of_dr hw2 | exact hw2 | exact (Below.refl _ _).alloc (Nat.le_refl _) _) ?_
              simp only [Rgb.last, List.getElem?_toArray, List.getElem?_cons_succ, List.getElem?_cons_zero, Option.getD_some]
              rfl
            refine' Rgb.op_is _ [12, 13] rfl rfl (by kernel_rfl) ?_ ?_
            rotate_left
            · intro wx hb
              refine Rgb.from_is (some 56) rfl rfl ?_
              refine Rgb.from_is (some 57) rfl rfl ?_
              refine Rgb.from_nil fun T hT => ?_
              go_wp2
              refine hT _ _ rfl (by first | exact Rgb.Keep.refl _ | exact below_of_dr hw2 | exact hw2 | exact (Below.refl _ _).alloc (Nat.le_refl _) _) ?_
              simp only [Rgb.last, List.getElem?_toArray, List.getElem?_cons_succ, List.getElem?_cons_zero, Option.getD_some]
              rfl
            refine Rgb.op_is (vval x) [14] rfl rfl (by kernel_rfl) ?_ ?_
            · intro wx hb
              refine Rgb.from_is (some 58) rfl rfl ?_
              refine Rgb.from_nil fun T hT => ?_
              obtain ⟨b, off, he, hbl, d0, d1, d2, d3, d4⟩ := ((hc.below hbx).below hb).at_ HX.out
              injection he with he
              injection he with he1 he2
              subst he1 he2
              go_wp2
              exact hT _ _ rfl (by first | exact Rgb.Keep.refl _ | exact below_of_dr hw2 | exact hw2 | exact (Below.refl _ _).alloc (Nat.le_refl _) _) (by first | rfl | exact congrArg _ (by decide))
            refine Rgb.op_is (.bool true) [8, 15] rfl rfl (by kernel_rfl) ?_ ?_
            · intro wx hb
              refine Rgb.from_is (some 52) rfl rfl ?_
              refine Rgb.from_is (some 59) rfl rfl ?_
              refine Rgb.from_nil fun T hT => ?_
              go_wp2_with (go_at_call 44; refine (rahead_c v x _).mono ?_; rintro e w5 ⟨rfl, hw5⟩; rw [E2.out])
              exact hT _ _ rfl hw5 rfl
            refine Rgb.op_is (.bool false) [16] rfl rfl (by kernel_rfl) ?_ ?_
            · intro wx hb
              refine Rgb.from_is (some 60) rfl rfl ?_
              refine Rgb.from_nil fun T hT => ?_
              go_wp2
              exact hT _ _ rfl (by first | exact Rgb.Keep.refl _ | exact below_of_dr hw2 | exact hw2 | exact (Below.refl _ _).alloc (Nat.le_refl _) _) (by first | rfl | exact congrArg _ (by decide))
            refine Rgb.walk_nil [0, 1, 2, 3, 4, 5, 6, 7, 8, 9, 10, 11, 12, 13, 14, 15, 16, 17] (by kernel_rfl) ?_
            intro wx hb
            refine Rgb.from_is (some 44) rfl rfl ?_
            refine Rgb.from_is (some 45) rfl rfl ?_
            refine Rgb.from_is (some 46) rfl rfl ?_
            refine Rgb.from_is (some 47) rfl rfl ?_
            refine Rgb.from_is (some 48) rfl rfl ?_
            refine Rgb.from_is (some 49) rfl rfl ?_
            refine Rgb.from_is (some 50) rfl rfl ?_
            refine Rgb.from_is (some 51) rfl rfl ?_
            refine Rgb.from_is (some 52) rfl rfl ?_
            refine Rgb.from_is (some 53) rfl rfl ?_
            refine Rgb.from_is (some 54) rfl rfl ?_
            refine Rgb.from_is (some 55) rfl rfl ?_
            refine Rgb.from_is (some 56) rfl rfl ?_
            refine Rgb.from_is (some 57) rfl rfl ?_
            refine Rgb.from_is (some 58) rfl rfl ?_
            refine Rgb.from_is (some 59) rfl rfl ?_
            refine Rgb.from_is (some 60) rfl rfl ?_
            refine Rgb.from_is (some 61) rfl rfl ?_
            refine Rgb.from_nil ?_
            simp only [List.map, Act.put, List.setIfInBounds_toArray, List.set_cons_zero, List.set_cons_succ]
            replace hbx := below_next hbx hbx.size hb
            replace hown := hown.below hb
            clear hb
            generalize wx = w4 at *
            go_wp2
            have HN := hid (put_new hs HALL.out (fun y hy => by rw [HX.out] at hy; rw [← Option.some.inj hy]; exact E2.out))
            have hPB := hid (show putB n L v = true by rw [putB, HM.out, HN.out.1]; rfl)
            have hPL := hid (show putL n L v = (L.take k ++ [v]) ++ L.drop k by rw [putL, hPB.out, if_pos rfl]; exact HN.out.2)
            have hsz := hbx.size
            have hHL := hid (show (L.take k).length = k by simp; omega)
            have hHX := hid (show (L.take k ++ [v]).length = k + 1 by simp; omega)
            have hHD := hid (show (L.drop k).length = L.length - k by simp)
            obtain ⟨i0, hi, hz0, hz1, hz2⟩ := info_parts info_rvote
            have hrx := hr.below hbx
            have hVx := hV.below hbx
            have hcx := hc.below hbx
            have hg2 : g < w2.heap.size := hr.lt
            have hb0 : b0 < w2.heap.size := hb0lt
            refine Rgb.wp_region (l := [_, _, _, _, _, _, _, _, _, _, _, _]) (tail := [_, _, _]) (putWay w4 w2.heap.size 56 v u5 (L.take k) (L.drop k)) [some 63, some 64, some 65, some 66, some 67, some 68, some 69, some 70, some 71, some 72, some 73, some 74, some 75, some 76, none] 77 (by kernel_rfl) (by kernel_rfl) (by kernel_rfl) rfl (putWay_fair _ _ _ _ _ _ _) (below_drew' _ _) (hown.drew) ?_
            refine' Rgb.op_is _ [] rfl rfl (by kernel_rfl) ?_ ?_
            rotate_left
            · intro wx hb
              refine Rgb.from_nil fun T hT => ?_
              go_wp2
              refine hT _ _ rfl (by first | exact PutK.refl _ | exact PutK.draw _ _) ?_
              simp only [Rgb.last, List.getElem?_toArray, List.getElem?_cons_succ, List.getElem?_cons_zero, Option.getD_some]
              rfl
            refine Rgb.op_is (u5) [] rfl rfl (by kernel_rfl) ?_ ?_
            · intro wx hb
              refine Rgb.from_nil fun T hT => ?_
              go_wp2
              exact hT _ _ rfl (by first | exact PutK.refl _ | exact PutK.draw _ _) (by first | rfl | exact congrArg _ (by decide))
            refine Rgb.op_is (vval v) [] rfl rfl (by kernel_rfl) ?_ ?_
            · intro wx hb
              refine Rgb.from_nil fun T hT => ?_
              obtain ⟨c0, c1, c2, c3, c4⟩ := (hVx.keep (hb.block w.heap.size hw1)).five
              go_wp2
              exact hT _ _ rfl (by first | exact PutK.refl _ | exact PutK.draw _ _) (by first | rfl | exact congrArg _ (by decide))
            refine Rgb.op_till (fun W u => ∃ b, u = .slice (some ⟨b, 0, none⟩) 1 1 ∧ w2.heap.size ≤ b ∧ Row1 W b 56 (vcl v)) [2] rfl ?_ rfl (by kernel_rfl) ?_ ?_
            · exact fun W W' u hk ⟨b, h1, h2, h3⟩ => ⟨b, h1, h2, hk.r b h2 h3⟩
            · intro wx hb
              refine Rgb.from_is (some 65) rfl rfl ?_
              refine Rgb.from_nil fun T hT => ?_
              have hsx := hb.size
              go_wp2
              exact hT _ _ rfl (PutK.of_below (below_alloc wx _) (by omega)) ⟨wx.heap.size, rfl, by omega, row1_new wx (vcl v) _⟩
            refine Rgb.op_turn (fun W u => OwnV W w2.heap.size 56 u (L.take k ++ [v])) [1, 3] rfl ?_ rfl (by kernel_rfl) ?_ ?_
            · exact fun W W' u hk h => hk.all h
            · intro wx hb hb1
              refine Rgb.from_is (some 64) rfl rfl ?_
              refine Rgb.from_till (some 66) rfl rfl fun v66 h66 => ?_
              refine Rgb.from_nil fun T hT => ?_
              have hsx := hb.size
              obtain ⟨b, rfl, hbb, hRb⟩ := h66
              go_wp2_with (at_builtin; refine wpList_append_own _ rfl _ _ 61 rfl w2.heap.size 56 i0 (vval zeroVt) 5 48 Try.underlying61 hi hz0 hz1 hz2 rfl (by decide) _ _ _ rfl hb1 ⟨b, 0, none⟩ 1 1 (vcl v) rfl rfl (row_news hRb) (one_five v) (by rw [hHL.out]; unfold maxLen; omega) (by rw [hHL.out]; omega) (by omega) ?_; intro v' w5 hO2 hg2 _)
              refine hT _ _ rfl ((Below.refl _ _).grown hg2 (by omega) fun k e => (hb1.block k e).1) ?_
              unfold OwnV
              rw [List.length_append, List.flatMap_append]
              exact hO2
            refine' Rgb.op_is _ [] rfl rfl (by kernel_rfl) ?_ ?_
            rotate_left
            · intro wx hb
              refine Rgb.from_nil fun T hT => ?_
              go_wp2
              refine hT _ _ rfl (by first | exact PutK.refl _ | exact PutK.draw _ _) ?_
              simp only [Rgb.last, List.getElem?_toArray, List.getElem?_cons_succ, List.getElem?_cons_zero, Option.getD_some]
              rfl
            refine' Rgb.op_is _ [5] rfl rfl (by kernel_rfl) ?_ ?_
            rotate_left
            · intro wx hb
              refine Rgb.from_is (some 68) rfl rfl ?_
              refine Rgb.from_nil fun T hT => ?_
              go_wp2
              refine hT _ _ rfl (by first | exact PutK.refl _ | exact PutK.draw _ _) ?_
              simp only [Rgb.last, List.getElem?_toArray, List.getElem?_cons_succ, List.getElem?_cons_zero, Option.getD_some]
              rfl
            refine' Rgb.op_is _ [6] rfl rfl (by kernel_rfl) ?_ ?_
            rotate_left
            · intro wx hb
              refine Rgb.from_is (some 69) rfl rfl ?_
              refine Rgb.from_nil fun T hT => ?_
              go_wp2
              refine hT _ _ rfl (by first | exact PutK.refl _ | exact PutK.draw _ _) ?_
              simp only [Rgb.last, List.getElem?_toArray, List.getElem?_cons_succ, List.getElem?_cons_zero, Option.getD_some]
              rfl
            refine Rgb.op_is (.slice (some ⟨b0, off0, none⟩) L.length c) [7] rfl rfl (by kernel_rfl) ?_ ?_
            · intro wx hb
              refine Rgb.from_is (some 70) rfl rfl ?_
              refine Rgb.from_nil fun T hT => ?_
              have c1 := (hrx.keep (hb.block g hg2)).cell (k := 1) rfl
              go_wp2
              exact hT _ _ rfl (by first | exact PutK.refl _ | exact PutK.draw _ _) (by first | rfl | exact congrArg _ (by decide))
            refine' Rgb.op_is _ [] rfl rfl (by kernel_rfl) ?_ ?_
            rotate_left
            · intro wx hb
              refine Rgb.from_nil fun T hT => ?_
              go_wp2
              refine hT _ _ rfl (by first | exact PutK.refl _ | exact PutK.draw _ _) ?_
              simp only [Rgb.last, List.getElem?_toArray, List.getElem?_cons_succ, List.getElem?_cons_zero, Option.getD_some]
              rfl
            refine Rgb.op_of (Rest w2.heap.size (L.drop k)) [8, 9] rfl ?_ ?_ rfl (by kernel_rfl) ?_ ?_
            · first | exact fun W W' u hk h => Rest.below h hk.b | exact fun W W' u hk h => Rest.below h hk
            · first | exact fun W W' u hk h => Rest.below h hk.b | exact fun W W' u hk h => Rest.below h hk
            · intro wx hb
              refine Rgb.from_is (some 71) rfl rfl ?_
              refine Rgb.from_is (some 72) rfl rfl ?_
              refine Rgb.from_nil fun T hT => ?_
              have hck : ¬ c = k := by omega
              go_wp2
              refine hT _ _ rfl (PutK.refl _) (.inr ⟨⟨b0, off0 + k * 5, none⟩, c - k, by rw [hHD.out]; rfl, .inl hb0, fun j y hy => ?_⟩)
              exact rest_at (hcx.keep2' hb hb0) hy
            refine Rgb.op_after (fun W u => OwnV W w2.heap.size 56 u ((L.take k ++ [v]) ++ L.drop k)) [4, 10] rfl (by kernel_rfl) ?_ rfl (by kernel_rfl) ?_ ?_
            · exact fun W W' u hk h => hk.z u h
            · intro wx hb
              refine Rgb.from_of (some 67) rfl rfl fun v67 h67 => ?_
              refine Rgb.from_of (some 73) rfl rfl fun v73 h73 => ?_
              refine Rgb.from_nil fun T hT => ?_
              have hsx := hb.size
              have h67' := h67
              rcases h73 with ⟨rfl, h0⟩ | ⟨ad, cc, rfl, -, hne⟩
              · go_wp2_with (at_builtin; refine wpList_append_none rfl _ _ 61 rfl w2.heap.size 56 i0 5 Try.underlying61 hi _ _ _ rfl h67' rfl ?_)
                exact hT _ _ rfl (PutK.refl _) (by rw [h0, List.append_nil]; exact h67')
              · go_wp2_with (at_builtin; refine wpList_append_own2 rfl _ _ 61 rfl w2.heap.size 56 i0 (vval zeroVt) 5 48 Try.underlying61 hi hz0 hz1 hz2 rfl (by decide) _ _ _ rfl h67' ad (L.drop k).length cc ((L.drop k).flatMap vcl) rfl (flatV_len _) hne (one_all _) (by rw [hHX.out, hHD.out]; unfold maxLen; omega) (by rw [hHX.out, hHD.out]; omega) (by omega) ?_; intro v' w5 hO2 hg5 hor)
                have hO3 : OwnV w5 w2.heap.size 56 v' ((L.take k ++ [v]) ++ L.drop k) := by
                  unfold OwnV
                  rw [List.length_append, List.flatMap_append]
                  exact hO2
                exact hT _ _ rfl (PutK.grow (by rw [hHX.out]; omega) h67' hO3 hg5 (by omega) hor) hO3
            refine Rgb.walk_nil [0, 1, 2, 3, 4, 5, 6, 7, 8, 9, 10, 11] (by kernel_rfl) ?_
            intro wx hb
            refine Rgb.from_is (some 63) rfl rfl ?_
            refine Rgb.from_is (some 64) rfl rfl ?_
            refine Rgb.from_is (some 65) rfl rfl ?_
            refine Rgb.from_gone (some 66) rfl rfl fun v66 => ?_
            refine Rgb.from_of (some 67) rfl rfl fun v67 h67 => ?_
            refine Rgb.from_is (some 68) rfl rfl ?_
            refine Rgb.from_is (some 69) rfl rfl ?_
            refine Rgb.from_is (some 70) rfl rfl ?_
            refine Rgb.from_is (some 71) rfl rfl ?_
            refine Rgb.from_is (some 72) rfl rfl ?_
            refine Rgb.from_of (some 73) rfl rfl fun v73 h73 => ?_
            refine Rgb.from_of (some 74) rfl rfl fun v74 h74 => ?_
            refine Rgb.from_nil ?_
            simp only [List.map, Act.put, List.setIfInBounds_toArray, List.set_cons_zero, List.set_cons_succ]
            have hbz := hbx.trans hb
            have hG : Below w.heap.size w wx := below_next hB1 hB1.size hbz
            rcases h74.2 with ⟨e, h0⟩ | ⟨g6, cap, cur, rfl, hb6, hg6, hcap6, -⟩
            · simp at h0
            · have hcZ := h74.cellsV
              have hrz := hr.below hbz
              have c1 := hrz.cell (k := 1) rfl
              have f1 := hrz.frozen 1
              have hrS := hrz.set 1 (.slice (some ⟨g6, 0, none⟩) (L.take k ++ [v] ++ L.drop k).length cap)
              have hcS := (h74.far (p := ⟨g, 1, none⟩) (fun g' hg' => by simp only [Value.ownBlock, Option.some.injEq] at hg'; show g' ≠ g; omega) (.slice (some ⟨g6, 0, none⟩) (L.take k ++ [v] ++ L.drop k).length cap)).cellsV
              have hsz2 := hB1.size
              clear h74 hcZ hg6 hrz
              generalize hq : (L.take k ++ [v] ++ L.drop k).length = q at *
              have HQ := hid hq
              clear hq
              go_wp2
              go_ret
              rw [hPL.out, hPB.out]
              exact ⟨g6, rfl, ⟨some ⟨g6, 0, none⟩, cap, by rw [HQ.out]; exact hrS, hcS, .inr rfl, by rw [HQ.out]; exact hcap6⟩, .inr (by omega), ⟨hG.os, hG.tape, hG.output, by simpa using hG.size, fun i hi hne => (Below.heap_setCell wx _ _ i (fun e => hne (congrArg some e))).trans (hG.block i hi)⟩⟩
      · have hkl : L.length ≤ k := by omega
        go_upto_region 5 with (fail)
        refine Rgb.wp_region (l := [_, _, _, _, _, _, _, _, _, _, _, _, _, _, _, _, _]) (tail := [_]) (Rgb.grows _ 18) [some 14, some 15, some 16, some 17, some 18, some 19, some 20, some 21, some 22, some 23, some 24, some 25, some 26, some 27, some 28, some 29, some 30, some 31] 77 (by kernel_rfl) (by kernel_rfl) (by kernel_rfl) rfl (Rgb.grows_fair _ _) (Rgb.keep_drew _) (trivial) ?_
        refine' Rgb.op_is _ [] rfl rfl (by kernel_rfl) ?_ ?_
        rotate_left
        · intro wx hb
          refine Rgb.from_nil fun T hT => ?_
          go_wp2
          refine hT _ _ rfl (by first | exact Rgb.Keep.refl _ | exact below_of_dr hw2 | exact hw2 | exact (Below.refl _ _).alloc (Nat.le_refl _) _) ?_
          simp only [Rgb.last, List.getElem?_toArray, List.getElem?_cons_succ, List.getElem?_cons_zero, Option.getD_some]
          rfl
        refine' Rgb.op_is _ [] rfl rfl (by kernel_rfl) ?_ ?_
        rotate_left
        · intro wx hb
          refine Rgb.from_nil fun T hT => ?_
          go_wp2
          refine hT _ _ rfl (by first | exact Rgb.Keep.refl _ | exact below_of_dr hw2 | exact hw2 | exact (Below.refl _ _).alloc (Nat.le_refl _) _) ?_
          simp only [Rgb.last, List.getElem?_toArray, List.getElem?_cons_succ, List.getElem?_cons_zero, Option.getD_some]
          rfl
        refine' Rgb.op_is _ [1] rfl rfl (by kernel_rfl) ?_ ?_
        rotate_left
        · intro wx hb
          refine Rgb.from_is (some 15) rfl rfl ?_
          refine Rgb.from_nil fun T hT => ?_
          go_wp2
          refine hT _ _ rfl (by first | exact Rgb.Keep.refl _ | exact below_of_dr hw2 | exact hw2 | exact (Below.refl _ _).alloc (Nat.le_refl _) _) ?_
          simp only [Rgb.last, List.getElem?_toArray, List.getElem?_cons_succ, List.getElem?_cons_zero, Option.getD_some]
          rfl
        refine' Rgb.op_is _ [2] rfl rfl (by kernel_rfl) ?_ ?_
        rotate_left
        · intro wx hb
          refine Rgb.from_is (some 16) rfl rfl ?_
          refine Rgb.from_nil fun T hT => ?_
          go_wp2
          refine hT _ _ rfl (by first | exact Rgb.Keep.refl _ | exact below_of_dr hw2 | exact hw2 | exact (Below.refl _ _).alloc (Nat.le_refl _) _) ?_
          simp only [Rgb.last, List.getElem?_toArray, List.getElem?_cons_succ, List.getElem?_cons_zero, Option.getD_some]
          rfl
        refine Rgb.op_is (.slice A L.length c) [3] rfl rfl (by kernel_rfl) ?_ ?_
        · intro wx hb
          refine Rgb.from_is (some 17) rfl rfl ?_
          refine Rgb.from_nil fun T hT => ?_
          have c1 := ((hr.below hbr).below hb).cell (k := 1) rfl
          go_wp2
          exact hT _ _ rfl (by first | exact Rgb.Keep.refl _ | exact below_of_dr hw2 | exact hw2 | exact (Below.refl _ _).alloc (Nat.le_refl _) _) (by first | rfl | exact congrArg _ (by decide))
        refine' Rgb.op_is _ [4] rfl rfl (by kernel_rfl) ?_ ?_
        rotate_left
        · intro wx hb
          refine Rgb.from_is (some 18) rfl rfl ?_
          refine Rgb.from_nil fun T hT => ?_
          go_wp2
          refine hT _ _ rfl (by first | exact Rgb.Keep.refl _ | exact below_of_dr hw2 | exact hw2 | exact (Below.refl _ _).alloc (Nat.le_refl _) _) ?_
          simp only [Rgb.last, List.getElem?_toArray, List.getElem?_cons_succ, List.getElem?_cons_zero, Option.getD_some]
          rfl
        refine Rgb.op_is (.bool false) [0, 5] rfl rfl (by kernel_rfl) ?_ ?_
        · intro wx hb
          refine Rgb.from_is (some 14) rfl rfl ?_
          refine Rgb.from_is (some 19) rfl rfl ?_
          refine Rgb.from_nil fun T hT => ?_
          go_wp2
          exact hT _ _ rfl (by first | exact Rgb.Keep.refl _ | exact below_of_dr hw2 | exact hw2 | exact (Below.refl _ _).alloc (Nat.le_refl _) _) (by first | rfl | exact congrArg _ (by decide))
        refine Rgb.op_is (.bool false) [6] rfl rfl (by kernel_rfl) ?_ ?_
        · intro wx hb
          refine Rgb.from_is (some 20) rfl rfl ?_
          refine Rgb.from_nil fun T hT => ?_
          go_wp2
          exact hT _ _ rfl (by first | exact Rgb.Keep.refl _ | exact below_of_dr hw2 | exact hw2 | exact (Below.refl _ _).alloc (Nat.le_refl _) _) (by first | rfl | exact congrArg _ (by decide))
        refine Rgb.op_skip rfl ?_
        refine Rgb.op_skip rfl ?_
        refine Rgb.op_skip rfl ?_
        refine Rgb.op_skip rfl ?_
        refine Rgb.op_skip rfl ?_
        refine Rgb.op_skip rfl ?_
        refine Rgb.op_skip rfl ?_
        refine Rgb.op_skip rfl ?_
        refine Rgb.op_skip rfl ?_
        refine Rgb.walk_nil [0, 1, 2, 3, 4, 5, 6, 7, 8, 9, 10, 11, 12, 13, 14, 15, 16] (by kernel_rfl) ?_
        intro wx hb
        refine Rgb.from_is (some 14) rfl rfl ?_
        refine Rgb.from_is (some 15) rfl rfl ?_
        refine Rgb.from_is (some 16) rfl rfl ?_
        refine Rgb.from_is (some 17) rfl rfl ?_
        refine Rgb.from_is (some 18) rfl rfl ?_
        refine Rgb.from_is (some 19) rfl rfl ?_
        refine Rgb.from_is (some 20) rfl rfl ?_
        refine Rgb.from_is (some 21) rfl rfl ?_
        refine Rgb.from_is (some 22) rfl rfl ?_
        refine Rgb.from_is (some 23) rfl rfl ?_
        refine Rgb.from_is (some 24) rfl rfl ?_
        refine Rgb.from_is (some 25) rfl rfl ?_
        refine Rgb.from_is (some 26) rfl rfl ?_
        refine Rgb.from_is (some 27) rfl rfl ?_
        refine Rgb.from_is (some 28) rfl rfl ?_
        refine Rgb.from_is (some 29) rfl rfl ?_
        refine Rgb.from_is (some 30) rfl rfl ?_
        refine Rgb.from_nil ?_
        simp only [List.map, Act.put, List.setIfInBounds_toArray, List.set_cons_zero, List.set_cons_succ]
        have hbx := below_next hbr hbr.size hb
        replace hown := hown.below hb
        clear hb hbr
        generalize wx = w3 at *
        go_wp2
        refine Rgb.wp_region (l := [_, _, _, _, _, _, _, _, _, _, _, _, _, _, _, _, _, _]) (tail := [_]) (Rgb.grows _ 19) [some 44, some 45, some 46, some 47, some 48, some 49, some 50, some 51, some 52, some 53, some 54, some 55, some 56, some 57, some 58, some 59, some 60, some 61, some 62] 77 (by kernel_rfl) (by kernel_rfl) (by kernel_rfl) rfl (Rgb.grows_fair _ _) (Rgb.keep_drew _) (trivial) ?_
        refine' Rgb.op_is _ [] rfl rfl (by kernel_rfl) ?_ ?_
        rotate_left
        · intro wx hb
          refine Rgb.from_nil fun T hT => ?_
          go_wp2
          refine hT _ _ rfl (by first | exact Rgb.Keep.refl _ | exact below_of_dr hw2 | exact hw2 | exact (Below.refl _ _).alloc (Nat.le_refl _) _) ?_
          simp only [Rgb.last, List.getElem?_toArray, List.getElem?_cons_succ, List.getElem?_cons_zero, Option.getD_some]
          rfl
        refine' Rgb.op_is _ [] rfl rfl (by kernel_rfl) ?_ ?_
        rotate_left
        · intro wx hb
          refine Rgb.from_nil fun T hT => ?_
          go_wp2
          refine hT _ _ rfl (by first | exact Rgb.Keep.refl _ | exact below_of_dr hw2 | exact hw2 | exact (Below.refl _ _).alloc (Nat.le_refl _) _) ?_
          simp only [Rgb.last, List.getElem?_toArray, List.getElem?_cons_succ, List.getElem?_cons_zero, Option.getD_some]
          rfl
        refine' Rgb.op_is _ [1] rfl rfl (by kernel_rfl) ?_ ?_
        rotate_left
        · intro wx hb
          refine Rgb.from_is (some 45) rfl rfl ?_
          refine Rgb.from_nil fun T hT => ?_
          go_wp2
          refine hT _ _ rfl (by first | exact Rgb.Keep.refl _ | exact below_of_dr hw2 | exact hw2 | exact (Below.refl _ _).alloc (Nat.le_refl _) _) ?_
          simp only [Rgb.last, List.getElem?_toArray, List.getElem?_cons_succ, List.getElem?_cons_zero, Option.getD_some]
          rfl
        refine' Rgb.op_is _ [2] rfl rfl (by kernel_rfl) ?_ ?_
        rotate_left
        · intro wx hb
          refine Rgb.from_is (some 46) rfl rfl ?_
          refine Rgb.from_nil fun T hT => ?_
          go_wp2
          refine hT _ _ rfl (by first | exact Rgb.Keep.refl _ | exact below_of_dr hw2 | exact hw2 | exact (Below.refl _ _).alloc (Nat.le_refl _) _) ?_
          simp only [Rgb.last, List.getElem?_toArray, List.getElem?_cons_succ, List.getElem?_cons_zero, Option.getD_some]
          rfl
        refine Rgb.op_is (.slice A L.length c) [3] rfl rfl (by kernel_rfl) ?_ ?_
        · intro wx hb
          refine Rgb.from_is (some 47) rfl rfl ?_
          refine Rgb.from_nil fun T hT => ?_
          have c1 := ((hr.below hbx).below hb).cell (k := 1) rfl
          go_wp2
          exact hT _ _ rfl (by first | exact Rgb.Keep.refl _ | exact below_of_dr hw2 | exact hw2 | exact (Below.refl _ _).alloc (Nat.le_refl _) _) (by first | rfl | exact congrArg _ (by decide))
        refine' Rgb.op_is _ [4] rfl rfl (by kernel_rfl) ?_ ?_
        rotate_left
        · intro wx hb
          refine Rgb.from_is (some 48) rfl rfl ?_
          refine Rgb.from_nil fun T hT => ?_
          go_wp2
          refine hT _ _ rfl (by first | exact Rgb.Keep.refl _ | exact below_of_dr hw2 | exact hw2 | exact (Below.refl _ _).alloc (Nat.le_refl _) _) ?_
          simp only [Rgb.last, List.getElem?_toArray, List.getElem?_cons_succ, List.getElem?_cons_zero, Option.getD_some]
          rfl
        refine Rgb.op_is (.bool false) [0, 5] rfl rfl (by kernel_rfl) ?_ ?_
        · intro wx hb
          refine Rgb.from_is (some 44) rfl rfl ?_
          refine Rgb.from_is (some 49) rfl rfl ?_
          refine Rgb.from_nil fun T hT => ?_
          go_wp2
          exact hT _ _ rfl (by first | exact Rgb.Keep.refl _ | exact below_of_dr hw2 | exact hw2 | exact (Below.refl _ _).alloc (Nat.le_refl _) _) (by first | rfl | exact congrArg _ (by decide))
        refine Rgb.op_is (.bool false) [6] rfl rfl (by kernel_rfl) ?_ ?_
        · intro wx hb
          refine Rgb.from_is (some 50) rfl rfl ?_
          refine Rgb.from_nil fun T hT => ?_
          go_wp2
          exact hT _ _ rfl (by first | exact Rgb.Keep.refl _ | exact below_of_dr hw2 | exact hw2 | exact (Below.refl _ _).alloc (Nat.le_refl _) _) (by first | rfl | exact congrArg _ (by decide))
        refine Rgb.op_skip rfl ?_
        refine Rgb.op_skip rfl ?_
        refine Rgb.op_skip rfl ?_
        refine Rgb.op_skip rfl ?_
        refine Rgb.op_skip rfl ?_
        refine Rgb.op_skip rfl ?_
        refine Rgb.op_skip rfl ?_
        refine Rgb.op_skip rfl ?_
        refine Rgb.op_skip rfl ?_
        refine Rgb.op_skip rfl ?_
        refine Rgb.walk_nil [0, 1, 2, 3, 4, 5, 6, 7, 8, 9, 10, 11, 12, 13, 14, 15, 16, 17] (by kernel_rfl) ?_
        intro wx hb
        refine Rgb.from_is (some 44) rfl rfl ?_
        refine Rgb.from_is (some 45) rfl rfl ?_
        refine Rgb.from_is (some 46) rfl rfl ?_
        refine Rgb.from_is (some 47) rfl rfl ?_
        refine Rgb.from_is (some 48) rfl rfl ?_
        refine Rgb.from_is (some 49) rfl rfl ?_
        refine Rgb.from_is (some 50) rfl rfl ?_
        refine Rgb.from_is (some 51) rfl rfl ?_
        refine Rgb.from_is (some 52) rfl rfl ?_
        refine Rgb.from_is (some 53) rfl rfl ?_
        refine Rgb.from_is (some 54) rfl rfl ?_
        refine Rgb.from_is (some 55) rfl rfl ?_
        refine Rgb.from_is (some 56) rfl rfl ?_
        refine Rgb.from_is (some 57) rfl rfl ?_
        refine Rgb.from_is (some 58) rfl rfl ?_
        refine Rgb.from_is (some 59) rfl rfl ?_
        refine Rgb.from_is (some 60) rfl rfl ?_
        refine Rgb.from_is (some 61) rfl rfl ?_
        refine Rgb.from_nil ?_
        simp only [List.map, Act.put, List.setIfInBounds_toArray, List.set_cons_zero, List.set_cons_succ]
        replace hbx := below_next hbx hbx.size hb
        replace hown := hown.below hb
        clear hb
        generalize wx = w4 at *
        go_wp2
        have hdr : L.drop k = [] := List.drop_of_length_le hkl
        have HDR := hid hdr
        clear hdr
        have HN := hid (put_new hs HALL.out (fun y hy => by have := (List.getElem?_eq_some_iff.1 hy).1; omega))
        have hPB := hid (show putB n L v = true by rw [putB, HM.out, HN.out.1]; rfl)
        have hPL := hid (show putL n L v = (L.take k ++ [v]) ++ L.drop k by rw [putL, hPB.out, if_pos rfl]; exact HN.out.2)
        have hsz := hbx.size
        have hHL := hid (show (L.take k).length = k by simp; omega)
        have hHX := hid (show (L.take k ++ [v]).length = k + 1 by simp; omega)
        have hHD := hid (show (L.drop k).length = L.length - k by simp)
        obtain ⟨i0, hi, hz0, hz1, hz2⟩ := info_parts info_rvote
        have hrx := hr.below hbx
        have hVx := hV.below hbx
        have hcx := hc.below hbx
        have hg2 : g < w2.heap.size := hr.lt
        refine Rgb.wp_region (l := [_, _, _, _, _, _, _, _, _, _, _, _]) (tail := [_, _, _]) (putWay w4 w2.heap.size 56 v u5 (L.take k) (L.drop k)) [some 63, some 64, some 65, some 66, some 67, some 68, some 69, some 70, some 71, some 72, some 73, some 74, some 75, some 76, none] 77 (by kernel_rfl) (by kernel_rfl) (by kernel_rfl) rfl (putWay_fair _ _ _ _ _ _ _) (below_drew' _ _) (hown.drew) ?_
        refine' Rgb.op_is _ [] rfl rfl (by kernel_rfl) ?_ ?_
        rotate_left
        · intro wx hb
          refine Rgb.from_nil fun T hT => ?_
          go_wp2
          refine hT _ _ rfl (by first | exact PutK.refl _ | exact PutK.draw _ _) ?_
          simp only [Rgb.last, List.getElem?_toArray, List.getElem?_cons_succ, List.getElem?_cons_zero, Option.getD_some]
          rfl
        refine Rgb.op_is (u5) [] rfl rfl (by kernel_rfl) ?_ ?_
        · intro wx hb
          refine Rgb.from_nil fun T hT => ?_
          go_wp2
          exact hT _ _ rfl (by first | exact PutK.refl _ | exact PutK.draw _ _) (by first | rfl | exact congrArg _ (by decide))
        refine Rgb.op_is (vval v) [] rfl rfl (by kernel_rfl) ?_ ?_
        · intro wx hb
          refine Rgb.from_nil fun T hT => ?_
          obtain ⟨c0, c1, c2, c3, c4⟩ := (hVx.keep (hb.block w.heap.size hw1)).five
          go_wp2
          exact hT _ _ rfl (by first | exact PutK.refl _ | exact PutK.draw _ _) (by first | rfl | exact congrArg _ (by decide))
        refine Rgb.op_till (fun W u => ∃ b, u = .slice (some ⟨b, 0, none⟩) 1 1 ∧ w2.heap.size ≤ b ∧ Row1 W b 56 (vcl v)) [2] rfl ?_ rfl (by kernel_rfl) ?_ ?_
        · exact fun W W' u hk ⟨b, h1, h2, h3⟩ => ⟨b, h1, h2, hk.r b h2 h3⟩
        · intro wx hb
          refine Rgb.from_is (some 65) rfl rfl ?_
          refine Rgb.from_nil fun T hT => ?_
          have hsx := hb.size
          go_wp2
          exact hT _ _ rfl (PutK.of_below (below_alloc wx _) (by omega)) ⟨wx.heap.size, rfl, by omega, row1_new wx (vcl v) _⟩
        refine Rgb.op_turn (fun W u => OwnV W w2.heap.size 56 u (L.take k ++ [v])) [1, 3] rfl ?_ rfl (by kernel_rfl) ?_ ?_
        · exact fun W W' u hk h => hk.all h
        · intro wx hb hb1
          refine Rgb.from_is (some 64) rfl rfl ?_
          refine Rgb.from_till (some 66) rfl rfl fun v66 h66 => ?_
          refine Rgb.from_nil fun T hT => ?_
          have hsx := hb.size
          obtain ⟨b, rfl, hbb, hRb⟩ := h66
          go_wp2_with (at_builtin; refine wpList_append_own _ rfl _ _ 61 rfl w2.heap.size 56 i0 (vval zeroVt) 5 48 Try.underlying61 hi hz0 hz1 hz2 rfl (by decide) _ _ _ rfl hb1 ⟨b, 0, none⟩ 1 1 (vcl v) rfl rfl (row_news hRb) (one_five v) (by rw [hHL.out]; unfold maxLen; omega) (by rw [hHL.out]; omega) (by omega) ?_; intro v' w5 hO2 hg2 _)
          refine hT _ _ rfl ((Below.refl _ _).grown hg2 (by omega) fun k e => (hb1.block k e).1) ?_
          unfold OwnV
          rw [List.length_append, List.flatMap_append]
          exact hO2
        refine' Rgb.op_is _ [] rfl rfl (by kernel_rfl) ?_ ?_
        rotate_left
        · intro wx hb
          refine Rgb.from_nil fun T hT => ?_
          go_wp2
          refine hT _ _ rfl (by first | exact PutK.refl _ | exact PutK.draw _ _) ?_
          simp only [Rgb.last, List.getElem?_toArray, List.getElem?_cons_succ, List.getElem?_cons_zero, Option.getD_some]
          rfl
        refine' Rgb.op_is _ [5] rfl rfl (by kernel_rfl) ?_ ?_
        rotate_left
        · intro wx hb
          refine Rgb.from_is (some 68) rfl rfl ?_
          refine Rgb.from_nil fun T hT => ?_
          go_wp2
          refine hT _ _ rfl (by first | exact PutK.refl _ | exact PutK.draw _ _) ?_
          simp only [Rgb.last, List.getElem?_toArray, List.getElem?_cons_succ, List.getElem?_cons_zero, Option.getD_some]
          rfl
        refine' Rgb.op_is _ [6] rfl rfl (by kernel_rfl) ?_ ?_
        rotate_left
        · intro wx hb
          refine Rgb.from_is (some 69) rfl rfl ?_
          refine Rgb.from_nil fun T hT => ?_
          go_wp2
          refine hT _ _ rfl (by first | exact PutK.refl _ | exact PutK.draw _ _) ?_
          simp only [Rgb.last, List.getElem?_toArray, List.getElem?_cons_succ, List.getElem?_cons_zero, Option.getD_some]
          rfl
        refine Rgb.op_is (.slice A L.length c) [7] rfl rfl (by kernel_rfl) ?_ ?_
        · intro wx hb
          refine Rgb.from_is (some 70) rfl rfl ?_
          refine Rgb.from_nil fun T hT => ?_
          have c1 := (hrx.keep (hb.block g hg2)).cell (k := 1) rfl
          go_wp2
          exact hT _ _ rfl (by first | exact PutK.refl _ | exact PutK.draw _ _) (by first | rfl | exact congrArg _ (by decide))
        refine' Rgb.op_is _ [] rfl rfl (by kernel_rfl) ?_ ?_
        rotate_left
        · intro wx hb
          refine Rgb.from_nil fun T hT => ?_
          go_wp2
          refine hT _ _ rfl (by first | exact PutK.refl _ | exact PutK.draw _ _) ?_
          simp only [Rgb.last, List.getElem?_toArray, List.getElem?_cons_succ, List.getElem?_cons_zero, Option.getD_some]
          rfl
        refine Rgb.op_of (Rest w2.heap.size (L.drop k)) [8, 9] rfl ?_ ?_ rfl (by kernel_rfl) ?_ ?_
        · first | exact fun W W' u hk h => Rest.below h hk.b | exact fun W W' u hk h => Rest.below h hk
        · first | exact fun W W' u hk h => Rest.below h hk.b | exact fun W W' u hk h => Rest.below h hk
        · intro wx hb
          refine Rgb.from_is (some 71) rfl rfl ?_
          refine Rgb.from_is (some 72) rfl rfl ?_
          refine Rgb.from_nil fun T hT => ?_
          rcases ha with ⟨rfl, rfl, rfl⟩ | rfl
          · obtain rfl : k = 0 := by simpa using hk
            go_wp2
            exact hT _ _ rfl (PutK.refl _) (.inl ⟨rfl, rfl⟩)
          · by_cases hck : c = k
            · go_wp2
              refine hT _ _ rfl (PutK.refl _) (.inr ⟨⟨gl, 0, none⟩, 0, by rw [HDR.out]; rfl, (.inr HDR.out), fun j y hy => by rw [HDR.out] at hy; simp at hy⟩)
            · go_wp2
              refine hT _ _ rfl (PutK.refl _) (.inr ⟨⟨gl, k * 5, none⟩, c - k, by rw [HDR.out]; rfl, (.inr HDR.out), fun j y hy => by rw [HDR.out] at hy; simp at hy⟩)
        refine Rgb.op_after (fun W u => OwnV W w2.heap.size 56 u ((L.take k ++ [v]) ++ L.drop k)) [4, 10] rfl (by kernel_rfl) ?_ rfl (by kernel_rfl) ?_ ?_
        · exact fun W W' u hk h => hk.z u h
        · intro wx hb
          refine Rgb.from_of (some 67) rfl rfl fun v67 h67 => ?_
          refine Rgb.from_of (some 73) rfl rfl fun v73 h73 => ?_
          refine Rgb.from_nil fun T hT => ?_
          have hsx := hb.size
          have h67' := h67
          rcases h73 with ⟨rfl, h0⟩ | ⟨ad, cc, rfl, -, hne⟩
          · go_wp2_with (at_builtin; refine wpList_append_none rfl _ _ 61 rfl w2.heap.size 56 i0 5 Try.underlying61 hi _ _ _ rfl h67' rfl ?_)
            exact hT _ _ rfl (PutK.refl _) (by rw [h0, List.append_nil]; exact h67')
          · go_wp2_with (at_builtin; refine wpList_append_own2 rfl _ _ 61 rfl w2.heap.size 56 i0 (vval zeroVt) 5 48 Try.underlying61 hi hz0 hz1 hz2 rfl (by decide) _ _ _ rfl h67' ad (L.drop k).length cc ((L.drop k).flatMap vcl) rfl (flatV_len _) hne (one_all _) (by rw [hHX.out, hHD.out]; unfold maxLen; omega) (by rw [hHX.out, hHD.out]; omega) (by omega) ?_; intro v' w5 hO2 hg5 hor)
            have hO3 : OwnV w5 w2.heap.size 56 v' ((L.take k ++ [v]) ++ L.drop k) := by
              unfold OwnV
              rw [List.length_append, List.flatMap_append]
              exact hO2
            exact hT _ _ rfl (PutK.grow (by rw [hHX.out]; omega) h67' hO3 hg5 (by omega) hor) hO3
        refine Rgb.walk_nil [0, 1, 2, 3, 4, 5, 6, 7, 8, 9, 10, 11] (by kernel_rfl) ?_
        intro wx hb
        refine Rgb.from_is (some 63) rfl rfl ?_
        refine Rgb.from_is (some 64) rfl rfl ?_
        refine Rgb.from_is (some 65) rfl rfl ?_
        refine Rgb.from_gone (some 66) rfl rfl fun v66 => ?_
        refine Rgb.from_of (some 67) rfl rfl fun v67 h67 => ?_
        refine Rgb.from_is (some 68) rfl rfl ?_
        refine Rgb.from_is (some 69) rfl rfl ?_
        refine Rgb.from_is (some 70) rfl rfl ?_
        refine Rgb.from_is (some 71) rfl rfl ?_
        refine Rgb.from_is (some 72) rfl rfl ?_
        refine Rgb.from_of (some 73) rfl rfl fun v73 h73 => ?_
        refine Rgb.from_of (some 74) rfl rfl fun v74 h74 => ?_
        refine Rgb.from_nil ?_
        simp only [List.map, Act.put, List.setIfInBounds_toArray, List.set_cons_zero, List.set_cons_succ]
        have hbz := hbx.trans hb
        have hG : Below w.heap.size w wx := below_next hB1 hB1.size hbz
        rcases h74.2 with ⟨e, h0⟩ | ⟨g6, cap, cur, rfl, hb6, hg6, hcap6, -⟩
        · simp at h0
        · have hcZ := h74.cellsV
          have hrz := hr.below hbz
          have c1 := hrz.cell (k := 1) rfl
          have f1 := hrz.frozen 1
          have hrS := hrz.set 1 (.slice (some ⟨g6, 0, none⟩) (L.take k ++ [v] ++ L.drop k).length cap)
          have hcS := (h74.far (p := ⟨g, 1, none⟩) (fun g' hg' => by simp only [Value.ownBlock, Option.some.injEq] at hg'; show g' ≠ g; omega) (.slice (some ⟨g6, 0, none⟩) (L.take k ++ [v] ++ L.drop k).length cap)).cellsV
          have hsz2 := hB1.size
          clear h74 hcZ hg6 hrz
          generalize hq : (L.take k ++ [v] ++ L.drop k).length = q at *
          have HQ := hid hq
          clear hq
          go_wp2
          go_ret
          rw [hPL.out, hPB.out]
          exact ⟨g6, rfl, ⟨some ⟨g6, 0, none⟩, cap, by rw [HQ.out]; exact hrS, hcS, .inr rfl, by rw [HQ.out]; exact hcap6⟩, .inr (by omega), ⟨hG.os, hG.tape, hG.output, by simpa using hG.size, fun i hi hne => (Below.heap_setCell wx _ _ i (fun e => hne (congrArg some e))).trans (hG.block i hi)⟩⟩
end Go.Proofs.Ytnngnekfgijejaa
