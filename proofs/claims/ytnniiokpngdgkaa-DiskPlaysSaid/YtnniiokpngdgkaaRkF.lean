/-
  The sectors that the document's disk uses.
-/
import Derived.Test.YtnniiokpngdgkaaRkE
namespace Go.Proofs.Ytnniiokpngdgkaa
open Go Go.ChangeShapes Go.WideShapes Go.ChangeAt Go.RowKit Go.Maps Go.Shelf Go.Proofs

def keepR (r : Rk) (j : Nat) : Bool := (lastC r.C j).isSome || decide (pad (sOf (lastC r.P j)) ≠ blk)
def usR (r : Rk) (M : Nat) : List Int := ((List.range M).filter (keepR r)).map fun j : Nat => (j : Int)
theorem usR_succ (r : Rk) (k : Nat) : usR r (k + 1) = usR r k ++ if keepR r k then [(k : Int)] else [] := by
  unfold usR
  rw [List.range_succ, List.filter_append, List.map_append]
  cases h : keepR r k <;> simp [h]
theorem usR_len (r : Rk) (k : Nat) : (usR r k).length ≤ k := by
  unfold usR
  rw [List.length_map]
  exact Nat.le_trans (List.length_filter_le _ _) (by simp)
theorem lastC_some {C : List Pt} {x : Int} (h : ∃ p ∈ C, p.at_ = x) : (lastC C x).isSome = true := by
  obtain ⟨p, hp, e⟩ := h
  unfold lastC
  rw [List.find?_isSome]
  exact ⟨p, by simpa using hp, by simpa using e⟩
theorem Sim.uses {d : Dk} {r : Rk} {M : Nat} (h : Sim d r) (hM : ∀ p ∈ r.P ++ r.C, p.at_ + 1 ≤ (M : Int)) {m : Nat} (hd : d.Ok m) : Uses d (usR r M) := by
  refine ⟨?_, fun a => ?_⟩
  · unfold Up usR
    rw [List.pairwise_map]
    exact (List.Pairwise.filter _ List.pairwise_lt_range).imp fun h => by omega
  · have hmem : a ∈ usR r M ↔ ∃ j : Nat, j < M ∧ keepR r j = true ∧ (j : Int) = a := by
      unfold usR
      simp only [List.mem_map, List.mem_filter, List.mem_range]
      constructor
      · rintro ⟨j, ⟨h1, h2⟩, h3⟩; exact ⟨j, h1, h2, h3⟩
      · rintro ⟨j, h1, h2, h3⟩; exact ⟨j, ⟨h1, h2⟩, h3⟩
    rw [hmem]
    have hC : (∃ p ∈ d.C, p.1 = a) ↔ ∃ p ∈ r.C, p.at_ = a := by
      rw [h.C]
      constructor
      · rintro ⟨p, hp, e⟩
        obtain ⟨q, hq, rfl⟩ := List.mem_map.1 hp
        exact ⟨q, hq, e⟩
      · rintro ⟨q, hq, e⟩
        exact ⟨padP q, List.mem_map.2 ⟨q, hq, rfl⟩, e⟩
    have hP : (∃ p ∈ d.P, p.1 = a) ↔ isS a = true ∧ getP d.P a ≠ blk := by
      constructor
      · rintro ⟨p, hp, rfl⟩
        refine ⟨hd.P.at_ p hp, ?_⟩
        unfold getP
        cases hf : d.P.find? fun q => q.1 == p.1 with
        | none => exact absurd (List.find?_eq_none.1 hf p hp) (by simp)
        | some q => exact h.nz q (List.mem_of_find?_eq_some hf)
      · rintro ⟨_, h2⟩
        refine Classical.byContradiction fun hn => h2 (getP_no fun u hu e => hn ⟨u, hu, e⟩)
    rw [hC, hP]
    constructor
    · rintro ⟨j, hj, hk, rfl⟩
      unfold keepR at hk
      rw [Bool.or_eq_true] at hk
      rcases hk with hk | hk
      · obtain ⟨p, hp⟩ := Option.isSome_iff_exists.1 hk
        exact .inr ⟨p, (lastC_mem hp).1, (lastC_mem hp).2⟩
      · have hk' : pad (sOf (lastC r.P j)) ≠ blk := of_decide_eq_true hk
        have his : isS (j : Int) = true := by
          cases hl : lastC r.P j with
          | none => rw [hl] at hk'; exact absurd pad_empty hk'
          | some q => rw [← (lastC_mem hl).2]; exact (h.oP q (lastC_mem hl).1).1
        exact .inl ⟨his, by rw [h.P _ his]; exact hk'⟩
    · have hnat : isS a = true → ∃ j : Nat, (j : Int) = a := fun his => ⟨a.toNat, by have := isS_iff.1 his; omega⟩
      rintro (⟨his, hk⟩ | ⟨p, hp, rfl⟩)
      · obtain ⟨j, rfl⟩ := hnat his
        rw [h.P _ his] at hk
        cases hl : lastC r.P j with
        | none => rw [hl] at hk; exact absurd pad_empty hk
        | some q =>
          have hq := lastC_mem hl
          have := hM q (List.mem_append_left _ hq.1)
          rw [hq.2] at this
          exact ⟨j, by omega, by unfold keepR; rw [Bool.or_eq_true]; exact .inr (decide_eq_true hk), rfl⟩
      · have his := (h.oC p hp).1
        obtain ⟨j, hj⟩ := hnat his
        have := hM p (List.mem_append_right _ hp)
        exact ⟨j, by omega, by unfold keepR; rw [hj, lastC_some ⟨p, hp, rfl⟩]; rfl, hj⟩

set_option maxRecDepth 100000 in
set_option maxHeartbeats 2000000 in
theorem rused_c (g : Nat) (vp vc : Value) (r : Rk) (w : World) (h : RDsk w g vp vc r) (hm : r.len ≤ 800000) (hoC : Fine r.C) (hoP : Fine r.P) [DecidableEq Lit] :
    Calls Try.prog 35 #[.pointer (some ⟨g, 0, none⟩)] w fun e w' => ∃ v M, e = .returned v ∧ OwnI w' w.heap.size v (usR r M) ∧ (∀ p ∈ r.P ++ r.C, p.at_ + 1 ≤ (M : Int)) ∧ Below w.heap.size w w' := by
  obtain ⟨A, c, rfl, hA⟩ := h.P.cellsP
  obtain ⟨A2, c2, rfl, hA2⟩ := h.C.cellsP
  have HH := hid h
  have HAx := hid hA
  have HAy := hid hA2
  have HoC := hid hoC
  have HoP := hid hoP
  have HM := hid (show r.P.length + r.C.length ≤ 800000 from hm)
  clear h hA hA2 hoC hoP hm
  go_enter Try.func35, Try.ntmps35
  go_wp2_with (fail)
  refine Rgd.wp_region (l := [_, _, _, _, _, _, _, _, _, _]) (tail := [_, _]) (Rgd.keep w [] [(0, 0), (0, 0), (0, 0), (0, 0), (0, 0), (0, 0), (0, 0), (0, 0), (0, 0), (0, 0)]) [some 12, some 13, some 14, some 15, some 16, some 17, some 18, some 19, some 20, some 21, some 22, some 4] 72 rfl [[], [], [1], [1, 2], [1, 2, 3], [0, 1, 2, 3, 4], [], [6], [6, 7], [6, 7, 8]] (by kernel_rfl) (by kernel_rfl) (by kernel_rfl) (by kernel_rfl) (by kernel_rfl) rfl (Rgd.keep_fair) (Rgd.keep_start _) ?_
  refine Rgd.op_of (fun _ w2 u => ∃ b, u = .slice (some ⟨b, 0, none⟩) 0 0 ∧ w2.ownsRow w.heap.size 96 2 u 0 []) [] 0 0 rfl rfl ?_ ?_ rfl (by kernel_rfl) ?_ ?_
  · exact fun p w1 w2 v _ hk ⟨b, h1, h2⟩ => ⟨b, h1, ownsRow_below h2 hk⟩
  · exact fun p w1 w2 v h0 h1 => by simp [Rgd.keep] at h1
  · intro p wx hp1 hp2 hb
    obtain rfl : p = 0 := by omega
    refine Rgd.from_nil fun T hT => ?_
    have hb : Below w.heap.size w wx := hb
    go_wp2
    exact hT _ _ rfl (below_alloc _ _) ⟨_, rfl, ownsRow_from (ownR_new wx) hb.size⟩
  refine' Rgd.op_is _ [] 0 0 rfl rfl rfl (by kernel_rfl) ?_ ?_
  rotate_left
  · intro p wx hp1 hp2 hb
    obtain rfl : p = 0 := by omega
    refine Rgd.from_nil fun T hT => ?_
    go_wp2
    refine hT _ _ rfl (by first | exact Rgd.Keep.refl _ | exact below_of_dr hw2 | exact hw2 | exact (Below.refl _ _).alloc (Nat.le_refl _) _) ?_
    simp only [Rgd.last, List.getElem?_toArray, List.getElem?_cons_succ, List.getElem?_cons_zero, Option.getD_some]
    rfl
  refine' Rgd.op_is _ [1] 0 0 rfl rfl rfl (by kernel_rfl) ?_ ?_
  rotate_left
  · intro p wx hp1 hp2 hb
    obtain rfl : p = 0 := by omega
    refine Rgd.from_is (some 13) rfl rfl ?_
    refine Rgd.from_nil fun T hT => ?_
    go_wp2
    refine hT _ _ rfl (by first | exact Rgd.Keep.refl _ | exact below_of_dr hw2 | exact hw2 | exact (Below.refl _ _).alloc (Nat.le_refl _) _) ?_
    simp only [Rgd.last, List.getElem?_toArray, List.getElem?_cons_succ, List.getElem?_cons_zero, Option.getD_some]
    rfl
  refine' Rgd.op_is _ [2] 0 0 rfl rfl rfl (by kernel_rfl) ?_ ?_
  rotate_left
  · intro p wx hp1 hp2 hb
    obtain rfl : p = 0 := by omega
    refine Rgd.from_is (some 14) rfl rfl ?_
    refine Rgd.from_nil fun T hT => ?_
    go_wp2
    refine hT _ _ rfl (by first | exact Rgd.Keep.refl _ | exact below_of_dr hw2 | exact hw2 | exact (Below.refl _ _).alloc (Nat.le_refl _) _) ?_
    simp only [Rgd.last, List.getElem?_toArray, List.getElem?_cons_succ, List.getElem?_cons_zero, Option.getD_some]
    rfl
  refine Rgd.op_is (.slice A r.P.length c) [3] 0 0 rfl rfl rfl (by kernel_rfl) ?_ ?_
  · intro p wx hp1 hp2 hb
    obtain rfl : p = 0 := by omega
    refine Rgd.from_is (some 15) rfl rfl ?_
    refine Rgd.from_nil fun T hT => ?_
    have c0 := (HH.out.below hb).cells.1
    go_wp2
    exact hT _ _ rfl (by first | exact Rgd.Keep.refl _ | exact below_of_dr hw2 | exact hw2 | exact (Below.refl _ _).alloc (Nat.le_refl _) _) (by first | rfl | exact congrArg _ (by decide))
  refine Rgd.op_of (fun _ w2 u => w2.ownsRow w.heap.size 96 2 u r.P.length (r.P.flatMap pcl)) [0, 4] 0 0 rfl rfl ?_ ?_ rfl (by kernel_rfl) ?_ ?_
  · exact fun p w1 w2 v _ hk h => ownsRow_below h hk
  · exact fun p w1 w2 v h0 h1 => by simp [Rgd.keep] at h1
  · intro p wx hp1 hp2 hb
    obtain rfl : p = 0 := by omega
    refine Rgd.from_of (some 12) rfl rfl fun v12 h12 => ?_
    refine Rgd.from_is (some 16) rfl rfl ?_
    refine Rgd.from_nil fun T hT => ?_
    have hb : Below w.heap.size w wx := hb
    have hm := HM.out
    obtain ⟨b, rfl, hrow⟩ := h12
    refine wpList_append_R0 wx rfl _ _ (by rfl) w.heap.size b (by rfl) hrow A r.P c (by rfl) (HAx.out.below hb) (by omega) hb.size ?_
    intro v' w' hown hk
    exact hT _ _ rfl hk hown
  refine' Rgd.op_is _ [] 0 0 rfl rfl rfl (by kernel_rfl) ?_ ?_
  rotate_left
  · intro p wx hp1 hp2 hb
    obtain rfl : p = 0 := by omega
    refine Rgd.from_nil fun T hT => ?_
    go_wp2
    refine hT _ _ rfl (by first | exact Rgd.Keep.refl _ | exact below_of_dr hw2 | exact hw2 | exact (Below.refl _ _).alloc (Nat.le_refl _) _) ?_
    simp only [Rgd.last, List.getElem?_toArray, List.getElem?_cons_succ, List.getElem?_cons_zero, Option.getD_some]
    rfl
  refine' Rgd.op_is _ [6] 0 0 rfl rfl rfl (by kernel_rfl) ?_ ?_
  rotate_left
  · intro p wx hp1 hp2 hb
    obtain rfl : p = 0 := by omega
    refine Rgd.from_is (some 18) rfl rfl ?_
    refine Rgd.from_nil fun T hT => ?_
    go_wp2
    refine hT _ _ rfl (by first | exact Rgd.Keep.refl _ | exact below_of_dr hw2 | exact hw2 | exact (Below.refl _ _).alloc (Nat.le_refl _) _) ?_
    simp only [Rgd.last, List.getElem?_toArray, List.getElem?_cons_succ, List.getElem?_cons_zero, Option.getD_some]
    rfl
  refine' Rgd.op_is _ [7] 0 0 rfl rfl rfl (by kernel_rfl) ?_ ?_
  rotate_left
  · intro p wx hp1 hp2 hb
    obtain rfl : p = 0 := by omega
    refine Rgd.from_is (some 19) rfl rfl ?_
    refine Rgd.from_nil fun T hT => ?_
    go_wp2
    refine hT _ _ rfl (by first | exact Rgd.Keep.refl _ | exact below_of_dr hw2 | exact hw2 | exact (Below.refl _ _).alloc (Nat.le_refl _) _) ?_
    simp only [Rgd.last, List.getElem?_toArray, List.getElem?_cons_succ, List.getElem?_cons_zero, Option.getD_some]
    rfl
  refine Rgd.op_is (.slice A2 r.C.length c2) [8] 0 0 rfl rfl rfl (by kernel_rfl) ?_ ?_
  · intro p wx hp1 hp2 hb
    obtain rfl : p = 0 := by omega
    refine Rgd.from_is (some 20) rfl rfl ?_
    refine Rgd.from_nil fun T hT => ?_
    have c1 := (HH.out.below hb).cells.2.1
    go_wp2
    exact hT _ _ rfl (by first | exact Rgd.Keep.refl _ | exact below_of_dr hw2 | exact hw2 | exact (Below.refl _ _).alloc (Nat.le_refl _) _) (by first | rfl | exact congrArg _ (by decide))
  refine Rgd.walk_nil [0, 1, 2, 3, 4, 5, 6, 7, 8, 9] (by kernel_rfl) ?_
  intro wx hb
  refine Rgd.from_of (some 12) rfl rfl fun v12 h12 => ?_
  refine Rgd.from_is (some 13) rfl rfl ?_
  refine Rgd.from_is (some 14) rfl rfl ?_
  refine Rgd.from_is (some 15) rfl rfl ?_
  refine Rgd.from_is (some 16) rfl rfl ?_
  refine Rgd.from_of (some 17) rfl rfl fun v17 h17 => ?_
  refine Rgd.from_is (some 18) rfl rfl ?_
  refine Rgd.from_is (some 19) rfl rfl ?_
  refine Rgd.from_is (some 20) rfl rfl ?_
  refine Rgd.from_is (some 21) rfl rfl ?_
  refine Rgd.from_nil ?_
  simp only [List.map, Act.put, List.setIfInBounds_toArray, List.set_cons_zero, List.set_cons_succ]
  have hb : Below w.heap.size w wx := hb
  have hm := HM.out
  refine wpList_append_R wx rfl _ _ (by rfl) w.heap.size _ r.P.length _ (by rfl) h17 A2 r.C c2 (by rfl) (HAy.out.below hb) (by omega) hb.size ?_
  intro v4 w4 hown hgr
  have hb4 := hb.grown hgr hb.size fun k e => (World.ownsRow.lt h17 k e).1
  have hown4 : OwnR w4 0 v4 (r.P ++ r.C) := OwnR.of hown (List.length_append).symm (List.flatMap_append).symm
  have hfa : Fine (r.P ++ r.C) := HoP.out.append HoC.out
  have hla : (r.P ++ r.C).length ≤ 800000 := by rw [List.length_append]; exact hm
  obtain ⟨A4, c4, rfl, hA4⟩ := hown4.cellsP
  clear h17 h12 hown hgr hown4 hb
  generalize hall : r.P ++ r.C = all at *
  have HFA := hid hfa
  have HA4 := hid hA4
  clear hfa hA4
  go_wp2
  go_loopw [3, 5] (fun mv i wr => ∃ k M : Nat, i = .int .i64 k ∧ k ≤ all.length ∧ mv = .int .i64 M ∧ M ≤ 65536 ∧ (∀ p ∈ all.take k, p.at_ + 1 ≤ (M : Int)) ∧ w4 = wr) (fun _ i _ => all.length - (intOf i).toNat)
  case atStart => exact ⟨0, 0, rfl, by omega, rfl, by omega, (fun p hp => by simp at hp), rfl⟩
  case round =>
    obtain ⟨k, M, rfl, hk, rfl, hM, hq, rfl⟩ := hrel
    by_cases hlt : k < all.length
    · obtain ⟨x, hx⟩ := get_of_lt hlt
      have hxa := isS_iff.1 (HFA.out x (List.mem_of_getElem? hx)).1
      obtain ⟨b, off, rfl, d0, d1⟩ := cellsP_at HA4.out hx
      obtain ⟨M', hM'⟩ : ∃ M' : Nat, max (M : Int) (x.at_ + 1) = M' := ⟨(max (M : Int) (x.at_ + 1)).toNat, by omega⟩
      have hM2 : M' ≤ 65536 := by omega
      have HQ := hid (show ∀ p ∈ all.take (k + 1), p.at_ + 1 ≤ (M' : Int) from fun p hp => by
        rw [take_snoc hx] at hp
        rcases List.mem_append.1 hp with hp | hp
        · have := hq p hp; omega
        · rw [List.mem_singleton.1 hp]; omega)
      clear hx hq
      go_wp2
      go_roundw
      case rel => exact ⟨k + 1, M', by go_num, by omega, by first | rfl | rw [hM'], hM2, HQ.out, trivial⟩
      case measure => simp [intOf]; omega
    · obtain rfl : k = all.length := by omega
      rw [List.take_length] at hq
      have HMQ := hid hq
      have HD := hid (HH.out.below hb4)
      have HBx := hid (HAx.out.below hb4)
      have HBy := hid (HAy.out.below hb4)
      have hs4 := hb4.size
      clear hq
      go_wp2
      go_loopw [6, 7] (fun v i wr => ∃ k : Nat, i = .int .i64 k ∧ k ≤ M ∧ OwnI wr w4.heap.size v (usR r k) ∧ Below w4.heap.size w4 wr) (fun _ i _ => M - (intOf i).toNat)
      case atStart => exact ⟨0, rfl, by omega, OwnI.nil _ _, Below.refl _ _⟩
      case round =>
        obtain ⟨k, rfl, hk, hU, hbq⟩ := hrel
        by_cases hlt : k < M
        · obtain ⟨c0, c1, -, -, -⟩ := (HD.out.below hbq).cells
          have HU := hid hU
          have hsk := usR_succ r k
          have HLE := hid (usR_len r k)
          have hss := sOf_size HoP.out k
          have HSS := hid hss
          have HIZ := hid (show keepR r k = ((lastC r.C k).isSome || decide (pad (sOf (lastC r.P k)) ≠ blk)) from rfl)
          clear hU
          go_wp2_with (fail)
          refine (rlast_c A2 r.C c2 k wr (HBy.out.below hbq) (by have := HM.out; omega)).mono ?_
          rintro e _ ⟨rfl, rfl⟩
          go_wp2_with (fail)
          refine (rlast_c A r.P c k wr (HBx.out.below hbq) (by have := HM.out; omega)).mono ?_
          rintro e _ ⟨rfl, rfl⟩
          generalize sOf (lastC r.P k) = s at *
          generalize sOf (lastC r.C k) = s2 at *
          cases hcs : (lastC r.C k).isSome with
          | true =>
            rw [HIZ.out, hcs, Bool.true_or, if_pos rfl] at hsk
            have HSK := hid hsk
            clear hsk hss hcs
            go_wp2_with (at_builtin; refine wpList_push elt_int wr rfl _ _ rfl w4.heap.size HU.out.own rfl (.int .i64 k) rfl rfl (by rw [List.length_map]; have := HLE.out; omega) (by rw [List.length_map]; have := HLE.out; omega) hbq.size ?_; intro v' w8 hown8 hk8 hb9)
            have hN : OwnI w8 w4.heap.size v' (usR r (k + 1)) := OwnI.of (by rw [HSK.out, List.map_append]; exact hown8)
            go_roundw
            case rel => exact ⟨k + 1, by go_num, by omega, hN, hbq.trans hb9⟩
            case measure => simp [intOf]; omega
          | false =>
            rw [HIZ.out, hcs, Bool.false_or] at hsk
            by_cases hpb : pad s = blk
            · rw [if_neg (by simpa using hpb), List.append_nil] at hsk
              have HSK := hid hsk
              clear hsk hcs
              go_wp2_with (fail)
              refine (rfull_c s wr hss).mono ?_
              rintro e w6 ⟨rfl, hb6⟩
              rw [hpb]
              go_wp2_with (fail)
              refine (rfull_c ⟨#[]⟩ w6 (by decide)).mono ?_
              rintro e w7 ⟨rfl, hb7⟩
              rw [pad_empty]
              have hb8 := below_next hb6 hb6.size hb7
              have hU8 := HU.out.keep fun g hg => hb8.block g (HU.out.block g hg).2
              have hbq8 := below_next hbq hbq.size hb8
              go_wp2
              go_roundw
              case rel => exact ⟨k + 1, by go_num, by omega, by rw [HSK.out]; exact hU8, hbq8⟩
              case measure => simp [intOf]; omega
            · rw [if_pos (by simpa using hpb)] at hsk
              have HSK := hid hsk
              clear hsk hcs
              go_wp2_with (fail)
              refine (rfull_c s wr hss).mono ?_
              rintro e w6 ⟨rfl, hb6⟩
              go_wp2_with (fail)
              refine (rfull_c ⟨#[]⟩ w6 (by decide)).mono ?_
              rintro e w7 ⟨rfl, hb7⟩
              rw [pad_empty]
              have hne := str_no.2 hpb
              have hb8 := below_next hb6 hb6.size hb7
              have hU8 := HU.out.keep fun g hg => hb8.block g (HU.out.block g hg).2
              have hbq8 := below_next hbq hbq.size hb8
              go_wp2_with (at_builtin; refine wpList_push elt_int w7 rfl _ _ rfl w4.heap.size hU8.own rfl (.int .i64 k) rfl rfl (by rw [List.length_map]; have := HLE.out; omega) (by rw [List.length_map]; have := HLE.out; omega) hbq8.size ?_; intro v' w8 hown8 hk8 hb9)
              have hN : OwnI w8 w4.heap.size v' (usR r (k + 1)) := OwnI.of (by rw [HSK.out, List.map_append]; exact hown8)
              go_roundw
              case rel => exact ⟨k + 1, by go_num, by omega, hN, hbq8.trans hb9⟩
              case measure => simp [intOf]; omega
        · obtain rfl : k = M := by omega
          go_wp2
          go_ret
          exact ⟨_, k, rfl, hU.from_ hs4, by rw [hall]; exact HMQ.out, below_next hb4 hb4.size hbq⟩
end Go.Proofs.Ytnniiokpngdgkaa
