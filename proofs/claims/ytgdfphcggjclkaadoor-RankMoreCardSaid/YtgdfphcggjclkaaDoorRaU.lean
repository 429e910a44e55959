/-
  RankShared, RankTurned, RankMore: what the program does, where the number is a prime.
-/
import Derived.Test.YtgdfphcggjclkaaDoorRaT
import Derived.Test.YtgdfphcggjclkaaDoorRaS
namespace Go.Proofs.YtgdfphcggjclkaaDoor
open Go Go.RowKit Go.Maps Go.Shelf Go.Proofs

/-- the j-th column. -/
def colL (f : List (List Int)) (j : Nat) : List Int := (List.range f.length).map fun i => nth (f.getD i []) j
theorem colL_len (f : List (List Int)) (j : Nat) : (colL f j).length = f.length := by simp [colL]
theorem colL_at {f : List (List Int)} {i : Nat} {l : List Int} (h : f[i]? = some l) (j : Nat) : (colL f j)[i]? = some (l.getD j 0) := by
  have hi := (List.getElem?_eq_some_iff.1 h).1
  unfold colL
  rw [List.getElem?_map, List.getElem?_range hi]
  show some (nth (f.getD i []) j) = _
  rw [List.getD_eq_getElem?_getD (l := f), h]; rfl
theorem turnL_at (f : List (List Int)) {j : Nat} (h : j < wideL f) : (turnL f)[j]? = some (colL f j) := by
  unfold turnL
  rw [List.getElem?_map, List.getElem?_range h]; rfl
theorem turnL_len (f : List (List Int)) : (turnL f).length = wideL f := by simp [turnL]
theorem turnL_u {f : List (List Int)} (h : ∀ l ∈ f, U64s l) : ∀ l ∈ turnL f, U64s l := by
  intro l hl
  obtain ⟨j, _, rfl⟩ := List.mem_map.1 hl
  intro z hz
  obtain ⟨i, hi, rfl⟩ := List.mem_map.1 hz
  have hi2 := List.mem_range.1 hi
  rw [List.getD_eq_getElem?_getD, List.getElem?_eq_getElem hi2]
  exact (h _ (List.getElem_mem hi2)).nth j
def rowsU (W : List (List Int)) : List (List Value) := W.map (·.map (.int .u64))
theorem rowsU_take {W : List (List Int)} {j : Nat} {l : List Int} (h : W[j]? = some l) : rowsU (W.take j) ++ [l.map (.int .u64)] = rowsU (W.take (j + 1)) := by
  unfold rowsU
  rw [take_snocR h]; simp
set_option maxRecDepth 100000 in
set_option maxHeartbeats 1000000 in
theorem turned04_c (A : Option Addr) (f : List (List Int)) (c : Nat) (w : World) (hA : Grid w A f) (hl : f.length ≤ 17592186044415) (hwd : wideL f ≤ 1000000) :
    Calls Tryd.prog 56 #[.slice A f.length c] w fun e w' => ∃ v, e = .returned v ∧ OwnRows w' w.heap.size 22 23 v (rowsU (turnL f)) ∧ Below w.heap.size w w' := by
  have hrw : ∀ w', Below w.heap.size w w' → Calls Tryd.prog 54 #[.slice A f.length c] w' fun e w'' => e = .returned (.int .i64 (wideL f : Int)) ∧ w' = w'' := fun w' hb => wide04_c A f c w' (hA.below hb) (by omega)
  have hat : ∀ j, j < wideL f → (turnL f)[j]? = some (colL f j) := fun j h => turnL_at f h
  have htl := turnL_len f
  obtain ⟨n, hn⟩ : ∃ n, wideL f = n := ⟨_, rfl⟩
  rw [hn] at hrw hat hwd htl
  have HRW := hid hrw
  have HAT := hid (⟨hat, htl⟩ : _ ∧ _)
  clear hrw hat hn htl
  go_enter Tryd.func56, Tryd.ntmps56
  go_wp2
  go_loopw [3, 4, 5, 6, 7] (fun o i _ _ _ wr => ∃ k : Nat, i = .int .i64 k ∧ k ≤ n ∧ OwnRows wr w.heap.size 22 23 o (rowsU ((turnL f).take k)) ∧ Below w.heap.size w wr) (fun _ i _ _ _ _ => n - (intOf i).toNat)
  case atStart => exact ⟨0, rfl, by omega, by simpa [rowsU] using OwnRows.nil w w.heap.size 22 23, Below.refl _ _⟩
  case round =>
    obtain ⟨k, rfl, hk, ⟨vs, hown, hvl, hvr⟩, hb⟩ := hrel
    by_cases hlt : k < n
    · have hz := HAT.out.1 k hlt
      have hvl' : vs.length = k := by rw [hvl]; simp [rowsU]; have := HAT.out.2; omega
      have HV := hid (⟨hz, hvl, hvl', hvr⟩ : _ ∧ _ ∧ _ ∧ _)
      clear hz hvl hvl' hvr
      go_wp2_with (go_at_call 54; refine (HRW.out _ hb).mono ?_; rintro e w2 ⟨rfl, rfl⟩)
      generalize wr = wo at *
      go_loopw [5, 6, 7] (fun o i _ w4 => ∃ i' : Nat, i = .int .i64 i' ∧ i' ≤ f.length ∧ Own w4 wo.heap.size 23 o (((colL f k).take i').map (.int .u64)) ∧ Below wo.heap.size wo w4) (fun _ i _ _ => f.length - (intOf i).toNat)
      case atStart => exact ⟨0, rfl, by omega, by simpa using Own.nil wo wo.heap.size 23, Below.refl _ _⟩
      case round =>
        obtain ⟨i, rfl, hi, hown4, hb4⟩ := hrel
        by_cases hlt2 : i < f.length
        · obtain ⟨l, hxl⟩ := get_of_lt hlt2
          obtain ⟨o1, off, A', c', rfl, hc, hcs, hln⟩ := ((hA.below hb).below hb4).at_ hxl
          have hcj := colL_at hxl k
          have hs : ((colL f k).take i).map (Value.int .u64) ++ [Value.int .u64 (l.getD k 0)] = ((colL f k).take (i + 1)).map (Value.int .u64) := by
            rw [take_snocR hcj]; simp
          have hlen : (((colL f k).take i).map (Value.int .u64)).length = i := by simp [colL_len]; omega
          have HS := hid (⟨hs, hlen⟩ : _ ∧ _)
          clear hs hlen hcj hxl
          by_cases hin : k < l.length
          · obtain ⟨z, hz⟩ := get_of_lt hin
            obtain ⟨o2, off2, rfl, hcz⟩ := hcs.at_map hz
            have hgd : l.getD k 0 = z := by rw [List.getD_eq_getElem?_getD, hz]; rfl
            rw [hgd] at HS
            clear hgd hz
            go_wp2_with (at_builtin; refine wpList_push elt_u64 wr rfl _ _ rfl wo.heap.size hown4 rfl (.int .u64 z) rfl rfl (by rw [HS.out.2]; omega) (by rw [HS.out.2]; omega) hb4.size ?_; intro v' w3 hown5 _ hb5)
            go_roundw
            case rel =>
              rw [HS.out.1] at hown5
              exact ⟨i + 1, by go_num, by omega, hown5, hb4.trans hb5⟩
            case measure => simp [intOf]; omega
          · have hgd : l.getD k 0 = 0 := by rw [List.getD_eq_getElem?_getD, List.getElem?_eq_none (by omega)]; rfl
            rw [hgd] at HS
            clear hgd
            go_wp2_with (at_builtin; refine wpList_push elt_u64 wr rfl _ _ rfl wo.heap.size hown4 rfl (.int .u64 0) rfl rfl (by rw [HS.out.2]; omega) (by rw [HS.out.2]; omega) hb4.size ?_; intro v' w3 hown5 _ hb5)
            go_roundw
            case rel =>
              rw [HS.out.1] at hown5
              exact ⟨i + 1, by go_num, by omega, hown5, hb4.trans hb5⟩
            case measure => simp [intOf]; omega
        · obtain rfl : i = f.length := by omega
          rw [List.take_of_length_le (by rw [colL_len]; exact Nat.le_refl _)] at hown4
          have hrt := hown4.rowT
          have hown5 := hown.below hb4
          have hvr5 : ∀ (j : Nat) u xs, vs[j]? = some u → (rowsU ((turnL f).take k))[j]? = some xs → RowT wr 23 u xs := fun j u xs a b => (HV.out.2.2.2 j u xs a b).below hb4
          have HVR := hid hvr5
          clear hvr5
          obtain ⟨A7, c7, rfl, _⟩ := hown4.form
          rw [List.length_map] at hrt
          clear hown4
          go_wp2_with (at_builtin; refine wpList_push elt_rows wr rfl _ _ rfl w.heap.size hown5 rfl (.slice A7 _ c7) rfl rfl (by rw [HV.out.2.2.1]; omega) (by rw [HV.out.2.2.1]; omega) (by have := hb.size; have := hb4.size; omega) ?_; intro v' w3 hown6 hoth hb6)
          go_roundw
          case rel =>
            have hrows := OwnRows.push (w := wr) (by decide) HV.out.2.1 HVR.out hown5 hrt hown6 hoth
            rw [rowsU_take HV.out.1] at hrows
            exact ⟨k + 1, by go_num, by omega, hrows, (below_next hb hb.size hb4).trans hb6⟩
          case measure => simp [intOf]; omega
    · obtain rfl : k = n := by omega
      go_wp2_with (go_at_call 54; refine (HRW.out _ hb).mono ?_; rintro e w2 ⟨rfl, rfl⟩)
      go_ret
      rw [List.take_of_length_le (by rw [HAT.out.2]; exact Nat.le_refl _)] at hvl hvr
      exact ⟨_, rfl, ⟨vs, hown, hvl, hvr⟩, hb⟩

theorem Few.ok {f : List (List Int)} (h : Few f) (hu : ∀ l ∈ f, U64s l) : RowsOk f := ⟨by have := h.1; omega, fun l hl => by have := h.2 l hl; omega, hu⟩
theorem RowsOk.app {a b : List (List Int)} (ha : RowsOk a) (hb : RowsOk b) (hl : a.length + b.length ≤ 1000) : RowsOk (a ++ b) :=
  ⟨by rw [List.length_append]; omega, fun l hl => by rcases List.mem_append.1 hl with h | h; exact ha.len l h; exact hb.len l h, fun l hl => by rcases List.mem_append.1 hl with h | h; exact ha.u l h; exact hb.u l h⟩
theorem rankV_len (f : List (List Int)) (q : Int) (hp : primeV q = true → Go.Psi.Pr q.toNat) : rankV f q ≤ f.length := by
  cases hv : primeV q with
  | true => exact (rank_bounds hv (hp hv) f).1
  | false => rw [rankV_no hv]; exact Nat.zero_le _
set_option maxRecDepth 100000 in
set_option maxHeartbeats 4000000 in
theorem rankShared_c (A : Option Addr) (a : List (List Int)) (ca : Nat) (B : Option Addr) (b : List (List Int)) (cb : Nat) (C : Option Addr) (c : List (List Int)) (cc : Nat) (q : Int) (w : World)
    (hA : Grid w A a) (la : a.length ≤ 9223372036854775807) (ua : ∀ l ∈ a, U64s l) (hB : Grid w B b) (lb : b.length ≤ 9223372036854775807) (ub : ∀ l ∈ b, U64s l) (hC : Grid w C c) (lc : c.length ≤ 9223372036854775807) (uc : ∀ l ∈ c, U64s l)
    (hq : U64 q) (hT : Tabs w) (hp : primeV q = true → Go.Psi.Pr q.toNat) [DecidableEq Lit] :
    Calls Tryd.prog 13 #[.slice A a.length ca, .slice B b.length cb, .slice C c.length cc, .int .u64 q] w fun e w' => e = .returned (.bool true) ∧ Below w.heap.size w w' := by
  go_enter Tryd.func13, Tryd.ntmps13
  go_wp2_with (fail)
  refine (works_c w hT).mono ?_
  rintro e w1 ⟨rfl, hb1⟩
  go_wp2_with (fail)
  have hr0 := row1_new w1 [.slice A a.length ca, .slice B b.length cb, .slice C c.length cc] 40
  simp only [List.toArray] at hr0
  have hb0 := below_next hb1 hb1.size (below_alloc w1 (.cells #[.slice A a.length ca, .slice B b.length cb, .slice C c.length cc] 40))
  have hG : Grids (w1.alloc (.cells #[.slice A a.length ca, .slice B b.length cb, .slice C c.length cc] 40)) (some ⟨w1.heap.size, 0, none⟩) [a, b, c] := by
    refine ⟨_, hr0.cells, rfl, fun i f hf => ?_⟩
    match i, hf with
    | 0, hf => obtain rfl := Option.some.inj hf; exact ⟨_, _, rfl, hA.below hb0, la⟩
    | 1, hf => obtain rfl := Option.some.inj hf; exact ⟨_, _, rfl, hB.below hb0, lb⟩
    | 2, hf => obtain rfl := Option.some.inj hf; exact ⟨_, _, rfl, hC.below hb0, lc⟩
    | i + 3, hf => simp at hf
  refine (large04_c _ [a, b, c] 3 _ hG (by simp)).mono ?_
  rintro e w2 ⟨⟨bl, rfl, hfew⟩, hd⟩
  have hb2 := below_dr hb0 hd
  clear hr0 hb0 hd hb1 hG
  cases bl with
  | true =>
    clear hfew
    go_wp2_with (fail)
    refine (works_c w2 (hT.below hb2)).mono ?_
    rintro e w3 ⟨rfl, hb3⟩
    go_wp2
    go_ret
    exact ⟨rfl, below_next hb2 hb2.size hb3⟩
  | false =>
    have hf := hfew rfl
    have fa := hf a (by simp)
    have fb := hf b (by simp)
    have fc := hf c (by simp)
    have oa := fa.ok ua
    have ob := fb.ok ub
    have oc := fc.ok uc
    have la' := fa.1
    have lb' := fb.1
    have lc' := fc.1
    clear hfew hf fa fb fc
    go_wp2_with (fail)
    refine (prime04_c q hq (fun h => rank_prime h (hp h)) w2 (hT.below hb2)).mono ?_
    rintro e w3 ⟨rfl, hb⟩
    replace hb2 := below_next hb2 hb2.size hb
    clear hb
    cases hv : primeV q with
    | false =>
      go_wp2_with (fail)
      refine (works_c w3 (hT.below hb2)).mono ?_
      rintro e w4 ⟨rfl, hb3⟩
      go_wp2
      go_ret
      exact ⟨rfl, below_next hb2 hb2.size hb3⟩
    | true =>
      have hlaw := rank_shared hv (hp hv) a b c
      have h1 := rankV_len (a ++ c) q hp
      have h2 := rankV_len (b ++ c) q hp
      have h3 := rankV_len (a ++ (b ++ c)) q hp
      have h4 := rankV_len c q hp
      simp only [List.length_append] at h1 h2 h3
      have HL := hid (⟨hlaw, h1, h2, h3, h4⟩ : _ ∧ _ ∧ _ ∧ _ ∧ _)
      clear hlaw h1 h2 h3 h4 hv
      go_wp2_with (fail)
      refine (both_c A C a c ca cc w3 (hA.below hb2) (hC.below hb2) (by omega) (by omega)).mono ?_
      rintro e w4 ⟨A4, c4, f4, rfl, e4, hg4, hb⟩
      replace hb2 := below_next hb2 hb2.size hb
      clear hb
      go_wp2_with (fail)
      refine (rank_c A4 f4 c4 q w4 hg4 (by rw [e4.out]; exact oa.app oc (by omega)) hq (hT.below hb2)).mono ?_
      rintro e w5 ⟨rfl, hb⟩
      replace hb2 := below_next hb2 hb2.size hb
      clear hb hg4
      go_wp2_with (fail)
      refine (both_c B C b c cb cc w5 (hB.below hb2) (hC.below hb2) (by omega) (by omega)).mono ?_
      rintro e w6 ⟨A6, c6, f6, rfl, e6, hg6, hb⟩
      replace hb2 := below_next hb2 hb2.size hb
      clear hb
      go_wp2_with (fail)
      refine (rank_c A6 f6 c6 q w6 hg6 (by rw [e6.out]; exact ob.app oc (by omega)) hq (hT.below hb2)).mono ?_
      rintro e w7 ⟨rfl, hb⟩
      replace hb2 := below_next hb2 hb2.size hb
      clear hb hg6
      go_wp2_with (fail)
      refine (both_c B C b c cb cc w7 (hB.below hb2) (hC.below hb2) (by omega) (by omega)).mono ?_
      rintro e w8 ⟨A8, c8, f8, rfl, e8, hg8, hb⟩
      replace hb2 := below_next hb2 hb2.size hb
      clear hb
      go_wp2_with (fail)
      refine (both_c A A8 a f8 ca c8 w8 (hA.below hb2) hg8 (by omega) (by rw [e8.out, List.length_append]; omega)).mono ?_
      rintro e w9 ⟨A9, c9, f9, rfl, e9, hg9, hb⟩
      replace hb2 := below_next hb2 hb2.size hb
      clear hb hg8
      go_wp2_with (fail)
      refine (rank_c A9 f9 c9 q w9 hg9 (by rw [e9.out, e8.out]; exact oa.app (ob.app oc (by omega)) (by rw [List.length_append]; omega)) hq (hT.below hb2)).mono ?_
      rintro e w10 ⟨rfl, hb⟩
      replace hb2 := below_next hb2 hb2.size hb
      clear hb hg9
      go_wp2_with (fail)
      refine (rank_c C c cc q w10 (hC.below hb2) oc hq (hT.below hb2)).mono ?_
      rintro e w11 ⟨rfl, hb⟩
      replace hb2 := below_next hb2 hb2.size hb
      clear hb
      obtain ⟨⟨k1, k2, k3⟩, k4, k5, k6, k7⟩ := HL.out
      have j1 : rankV f9 q + rankV c q ≤ rankV f4 q + rankV f6 q := by rw [e9.out, e8.out, e6.out, e4.out]; exact k1
      have j2 : rankV f4 q ≤ rankV f9 q := by rw [e9.out, e8.out, e4.out]; exact k2
      have j3 : rankV f6 q ≤ rankV f9 q := by rw [e9.out, e8.out, e6.out]; exact k3
      have j4 : rankV f4 q ≤ a.length + c.length := by rw [e4.out]; exact k4
      have j5 : rankV f6 q ≤ b.length + c.length := by rw [e6.out]; exact k5
      have j6 : rankV f9 q ≤ a.length + (b.length + c.length) := by rw [e9.out, e8.out]; exact k6
      clear k1 k2 k3 k4 k5 k6
      clear HL e4 e6 e8 e9
      generalize rankV f4 q = x at *
      generalize rankV f6 q = y at *
      generalize rankV f9 q = z at *
      generalize rankV c q = t at *
      have d1 : decide ((z : Int) + (t : Int) ≤ (x : Int) + (y : Int)) = true := decide_eq_true (by omega)
      have d2 : decide ((z : Int) ≥ (x : Int)) = true := decide_eq_true (by omega)
      have d3 : decide ((z : Int) ≥ (y : Int)) = true := decide_eq_true (by omega)
      go_wp2
      go_ret
      exact ⟨rfl, hb2⟩
set_option maxRecDepth 100000 in
set_option maxHeartbeats 4000000 in
theorem rankTurned_c (A : Option Addr) (a : List (List Int)) (ca : Nat) (q : Int) (w : World)
    (hA : Grid w A a) (la : a.length ≤ 9223372036854775807) (ua : ∀ l ∈ a, U64s l)
    (hq : U64 q) (hT : Tabs w) (hp : primeV q = true → Go.Psi.Pr q.toNat) [DecidableEq Lit] :
    Calls Tryd.prog 14 #[.slice A a.length ca, .int .u64 q] w fun e w' => e = .returned (.bool true) ∧ Below w.heap.size w w' := by
  go_enter Tryd.func14, Tryd.ntmps14
  go_wp2_with (fail)
  refine (works_c w hT).mono ?_
  rintro e w1 ⟨rfl, hb1⟩
  go_wp2_with (fail)
  have hr0 := row1_new w1 [.slice A a.length ca] 40
  simp only [List.toArray] at hr0
  have hb0 := below_next hb1 hb1.size (below_alloc w1 (.cells #[.slice A a.length ca] 40))
  have hG : Grids (w1.alloc (.cells #[.slice A a.length ca] 40)) (some ⟨w1.heap.size, 0, none⟩) [a] := by
    refine ⟨_, hr0.cells, rfl, fun i f hf => ?_⟩
    match i, hf with
    | 0, hf => obtain rfl := Option.some.inj hf; exact ⟨_, _, rfl, hA.below hb0, la⟩
    | i + 1, hf => simp at hf
  refine (large04_c _ [a] 1 _ hG (by simp)).mono ?_
  rintro e w2 ⟨⟨bl, rfl, hfew⟩, hd⟩
  have hb2 := below_dr hb0 hd
  clear hr0 hb0 hd hb1 hG
  cases bl with
  | true =>
    clear hfew
    go_wp2_with (fail)
    refine (works_c w2 (hT.below hb2)).mono ?_
    rintro e w3 ⟨rfl, hb3⟩
    go_wp2
    go_ret
    exact ⟨rfl, below_next hb2 hb2.size hb3⟩
  | false =>
    have fa := hfew rfl a (by simp)
    have oa := fa.ok ua
    have hwd : wideL a ≤ 20 := wideL_max fa.2
    have la' := fa.1
    have ot : RowsOk (turnL a) := ⟨by rw [turnL_len]; omega, fun l hl => by obtain ⟨j, _, rfl⟩ := List.mem_map.1 hl; simp; omega, turnL_u ua⟩
    have hlaw : rankV a q = rankV (turnL a) q := by
      cases hv : primeV q with
      | true => exact rank_turned hv (hp hv) a
      | false => rw [rankV_no hv, rankV_no hv]
    have HL := hid hlaw
    clear hfew fa hlaw
    go_wp2_with (fail)
    refine (rank_c A a ca q w2 (hA.below hb2) oa hq (hT.below hb2)).mono ?_
    rintro e w3 ⟨rfl, hb⟩
    replace hb2 := below_next hb2 hb2.size hb
    clear hb
    go_wp2_with (fail)
    refine (turned04_c A a ca w3 (hA.below hb2) (by omega) (by omega)).mono ?_
    rintro e w4 ⟨v, rfl, ho, hb⟩
    replace hb2 := below_next hb2 hb2.size hb
    clear hb
    obtain ⟨A4, c4, rfl, hg⟩ := ownRows_grid ho
    clear ho
    generalize hF : turnL a = F at *
    have HF := hid hF
    clear hF
    go_wp2_with (fail)
    refine (rank_c A4 F c4 q w4 hg ot hq (hT.below hb2)).mono ?_
    rintro e w5 ⟨rfl, hb⟩
    replace hb2 := below_next hb2 hb2.size hb
    clear hb hg
    rw [HL.out]
    go_wp2
    go_ret
    exact ⟨ret_bool (by simp), hb2⟩
theorem grid_one {w : World} {g : Nat} {e : TypeId} {v : Value} {l : List Int} (hO : Row1 w g e [v]) (h : RowV w v l) : Grid w (some ⟨g, 0, none⟩) [l] := grid_head hO h
set_option maxRecDepth 100000 in
set_option maxHeartbeats 8000000 in
theorem rankMore_c (A : Option Addr) (a : List (List Int)) (ca : Nat) (B : Option Addr) (row : List Int) (cb : Nat) (q : Int) (w : World)
    (hA : Grid w A a) (la : a.length ≤ 9223372036854775807) (ua : ∀ l ∈ a, U64s l) (hB : Cells w B (u64v row)) (lb : row.length ≤ 9223372036854775807) (ub : U64s row)
    (hq : U64 q) (hT : Tabs w) (hp : primeV q = true → Go.Psi.Pr q.toNat) [DecidableEq Lit] :
    Calls Tryd.prog 12 #[.slice A a.length ca, .slice B row.length cb, .int .u64 q] w fun e w' => e = .returned (.bool true) ∧ Below w.heap.size w w' := by
  go_enter Tryd.func12, Tryd.ntmps12
  go_wp2_with (fail)
  refine (works_c w hT).mono ?_
  rintro e w1 ⟨rfl, hb1⟩
  have hBu := Bun.nil w1
  go_wp2_with (refine wpList_named hBu rfl ?_; clear hBu; intro wn gn hBu hbn hg; (try rw [hg]); clear hg)
  have hb0 := below_next hb1 hb1.size hBu.b
  have hr0 := hBu.row (i := 0) rfl
  have hr1 := hBu.row (i := 1) rfl
  have hrv : ∀ w', Below w.heap.size w w' → RowV w' (.slice B row.length cb) row := fun w' hb => ⟨B, cb, rfl, hB.below hb, lb⟩
  have hG : Grids wn (some ⟨gn, 0, none⟩) [a, [row]] := by
    refine ⟨_, hr0.cells, rfl, fun i f hf => ?_⟩
    match i, hf with
    | 0, hf => obtain rfl := Option.some.inj hf; exact ⟨_, _, rfl, hA.below hb0, la⟩
    | 1, hf => obtain rfl := Option.some.inj hf; exact ⟨_, _, rfl, grid_head hr1 (hrv _ hb0), by simp⟩
    | i + 2, hf => simp at hf
  refine (large04_c _ [a, [row]] 2 _ hG (by simp)).mono ?_
  rintro e w2 ⟨⟨bl, rfl, hfew⟩, hd⟩
  have hb2 := below_dr hb0 hd
  have HRV := hid hrv
  clear hr0 hr1 hb0 hd hb1 hG hBu hbn hrv
  cases bl with
  | true =>
    clear hfew
    go_wp2_with (fail)
    refine (works_c w2 (hT.below hb2)).mono ?_
    rintro e w3 ⟨rfl, hb3⟩
    go_wp2
    go_ret
    exact ⟨rfl, below_next hb2 hb2.size hb3⟩
  | false =>
    have fa := hfew rfl a (by simp)
    have fr := (hfew rfl [row] (by simp)).2 row (by simp)
    have oa := fa.ok ua
    have hwd : wideL a ≤ 20 := wideL_max fa.2
    have la' := fa.1
    have or1 : RowsOk [row] := ⟨by simp, fun l hl => by rw [List.mem_singleton.1 hl]; omega, fun l hl => by rw [List.mem_singleton.1 hl]; exact ub⟩
    have or2 := oa.app or1 (by simp; omega)
    clear hfew fa or1
    go_wp2_with (fail)
    refine (prime04_c q hq (fun h => rank_prime h (hp h)) w2 (hT.below hb2)).mono ?_
    rintro e w3 ⟨rfl, hb⟩
    replace hb2 := below_next hb2 hb2.size hb
    clear hb
    cases hv : primeV q with
    | false =>
      go_wp2_with (fail)
      refine (works_c w3 (hT.below hb2)).mono ?_
      rintro e w4 ⟨rfl, hb3⟩
      go_wp2
      go_ret
      exact ⟨rfl, below_next hb2 hb2.size hb3⟩
    | true =>
      have hlaw := rank_more hv (hp hv) a row
      have hown : ∀ l ∈ a, hangsV a l q = true := fun l hl => rank_own hv (hp hv) hl
      have hbd := rank_bounds hv (hp hv) a
      have HL := hid (⟨hlaw, hown, hbd⟩ : _ ∧ _ ∧ _)
      clear hlaw hown hbd hv
      go_wp2_with (fail)
      refine (hangs_c A a ca B row cb q w3 (hA.below hb2) oa (hB.below hb2) (by omega) ub hq (hT.below hb2)).mono ?_
      rintro e w4 ⟨rfl, hb⟩
      replace hb2 := below_next hb2 hb2.size hb
      clear hb
      generalize hangsV a row q = hh at *
      have hmore : ∃ m : Nat, m ≤ 1 ∧ (if hh = true then 0 else 1) = m := ⟨_, by split <;> omega, rfl⟩
      obtain ⟨m, hm1, hm⟩ := hmore
      rw [hm] at HL
      have HM := hid hm
      clear hm
      cases hh
      all_goals
        obtain rfl := HM.out
        clear HM
        go_wp2_with (fail)
        refine (rank_c A a ca q w4 (hA.below hb2) oa hq (hT.below hb2)).mono ?_
        rintro e w5 ⟨rfl, hb⟩
        replace hb2 := below_next hb2 hb2.size hb
        clear hb
        generalize hN : rankV a q = n at *
        have hn1 := HL.out.2.2.1
        have hn2 := HL.out.2.2.2
        go_wp2
        go_loopw [9] (fun i wr => ∃ k : Nat, i = .int .i64 k ∧ k ≤ a.length ∧ Below w.heap.size w wr) (fun i _ => a.length - (intOf i).toNat)
        case atStart => exact ⟨0, rfl, by omega, hb2⟩
        case round =>
          obtain ⟨k, rfl, hk, hw⟩ := hrel
          by_cases hlt : k < a.length
          · obtain ⟨l, hx⟩ := get_of_lt hlt
            obtain ⟨b, off, A', c', rfl, hc, hcs, hln⟩ := (hA.below hw).at_ hx
            have hmem := List.mem_of_getElem? hx
            have HX := hid (HL.out.2.1 l hmem)
            have hll := oa.len l hmem
            have hul := oa.u l hmem
            clear hx hmem
            go_wp2_with (fail)
            refine (hangs_c _ a ca A' l c' q wr (hA.below hw) oa hcs hll hul hq (hT.below hw)).mono ?_
            rintro e w6 ⟨rfl, hb⟩
            rw [HX.out]
            go_wp2
            go_roundw
            case rel => exact ⟨k + 1, by go_num, by omega, below_next hw hw.size hb⟩
            case measure => simp [intOf]; omega
          · obtain rfl : k = a.length := by omega
            have hA' := hA
            obtain ⟨va, cva0, lva, rva⟩ := hA'
            have cva := cva0.below hw
            have oca : ∀ u ∈ va, u.oneCell' = true := fun u hu => by
              obtain ⟨i, hi, rfl⟩ := List.getElem_of_mem hu
              obtain ⟨v, hv, A', c', rfl, _⟩ := rva i _ (List.getElem?_eq_getElem (by omega))
              rw [List.getElem?_eq_getElem hi] at hv
              rw [Option.some.inj hv]; rfl
            have HVA := hid (⟨lva, rva, oca⟩ : _ ∧ _ ∧ _)
            clear lva rva oca
            have hr0 := row1_new wr [] 22
            have hb0 := below_next hw hw.size (below_alloc wr (.cells [].toArray 22))
            have ho0 := hr0.own hw.size (by decide)
            simp only [List.toArray, List.length_nil] at hr0 hb0 ho0
            clear hr0
            go_wp2_with (first
              | (go_at_call 54; refine (wide04_c A a ca wr (hA.below hw) (by omega)).mono ?_; rintro e w6 ⟨rfl, rfl⟩)
              | (at_builtin; refine wpList_more elt_rows (wr.alloc (.cells #[] 22)) (by rfl) _ _ rfl w.heap.size ho0 rfl (cva.below (below_alloc wr _)) (by rw [HVA.out.1]; rfl) HVA.out.2.2 (by simp; have := HVA.out.1; omega) (by simp; have := HVA.out.1; omega) hb0.size ?_; intro v1 w7 ho1 hb1; replace hb1 := hb0.trans hb1; clear hb0 ho0)
              | (at_builtin; refine wpList_more elt_rows (w7.alloc (.cells #[.slice B row.length cb] 22)) (by rfl) _ _ rfl w.heap.size (ho1.alloc _) rfl (row1_new w7 [.slice B row.length cb] 22).cells rfl (fun u hu => by rw [List.mem_singleton.1 hu]; rfl) (by simp; have := HVA.out.1; omega) (by simp; have := HVA.out.1; omega) (by simp; have := hb1.size; omega) ?_; intro v2 w8 ho2 hb2'; replace hb2' := (below_next hb1 hb1.size (below_alloc w7 _)).trans hb2'; clear hb1 ho1))
            obtain ⟨A8, c8, rfl, hc8⟩ := ho2.form
            have hlen : ([] ++ va ++ [Value.slice B row.length cb]).length = (a ++ [row]).length := by simp [HVA.out.1]
            have hg8 : Grid w8 A8 (a ++ [row]) := by
              refine ⟨_, hc8, hlen, fun i l hl => ?_⟩
              rw [List.nil_append]
              rcases Nat.lt_or_ge i a.length with h | h
              · rw [List.getElem?_append_left h] at hl
                obtain ⟨v, hv, hr⟩ := HVA.out.2.1 i l hl
                exact ⟨v, by rw [List.getElem?_append_left (by have := HVA.out.1; omega)]; exact hv, hr.below hb2'⟩
              · rw [List.getElem?_append_right h] at hl
                rw [List.getElem?_append_right (by have := HVA.out.1; omega), HVA.out.1]
                cases hi : i - a.length with
                | zero =>
                  rw [hi] at hl
                  obtain rfl := Option.some.inj hl
                  exact ⟨_, rfl, HRV.out _ hb2'⟩
                | succ j => rw [hi] at hl; simp at hl
            rw [hlen]
            clear hlen hc8 ho2
            generalize hF : a ++ [row] = F at *
            have HF := hid hF
            clear hF
            refine (rank_c A8 F c8 q w8 hg8 or2 hq (hT.below hb2')).mono ?_
            rintro e w9 ⟨rfl, hb⟩
            replace hb2' := below_next hb2' hb2'.size hb
            clear hb hg8
            rw [HL.out.1]
            go_wp2
            go_ret
            exact ⟨ret_bool (by simp), hb2'⟩
end Go.Proofs.YtgdfphcggjclkaaDoor
