/-
  Parts of these texts that the statement needs: RaS, RaU, RaV, Region.
-/
import Derived.Test.YtlbhmoiicbhgkaaDoorRnkQ5
import Derived.Test.YtlbhmoiicbhgkaaDoorRnkQ4
import Derived.Orders
import Derived.OwnWalk
import Derived.NoCompiler
import Derived.WalkKit

section
namespace Go.Proofs.YtlbhmoiicbhgkaaDoor
open Go Go.Lin Go.Psi
/-- modulo N ranks are what ranks are. -/
structure FQ (q : Int) (N : Nat) [NeZero N] : Prop where
  eq : q = (N : Int)
  fld : Fld N
  io : InvOf N (iv N)
  it : InvT N (iv N)
theorem fq_of {q : Int} (hv : primeV q = true) (hp : Pr q.toNat) : ∃ (N : Nat) (_ : NeZero N), FQ q N := by
  obtain ⟨h2, hle⟩ := primeV_ge hv
  obtain ⟨N, rfl⟩ := Int.eq_ofNat_of_zero_le (show 0 ≤ q by omega)
  have hN : NeZero N := ⟨by omega⟩
  rw [Int.toNat_natCast] at hp
  have hok := okm_of (show 0 < (N : Int) by omega) hle
  refine ⟨N, hN, rfl, fld_of hp, inv_of hok h2, fun x hx => ?_⟩
  obtain ⟨y, hy⟩ := (fld_of hp).inv _ hx
  have h1 : tf N ((y.val : Int) * x) = tf N 1 := by
    rw [tf_mul, tf_self, tf_one]
    grind
  have h3 : InvIs x N y.val := by
    refine ⟨by omega, by have := y.isLt; omega, ((y.val : Int) * x - 1) / N, ?_⟩
    have h4 := tf_eq.1 h1
    have h5 := Int.emod_emod_of_dvd (y.val * x - 1) (Int.dvd_refl (N : Int))
    have h6 : ((y.val : Int) * x - 1) % N = 0 := by rw [Int.sub_emod, h4, Int.sub_self, Int.zero_emod]
    have h7 := Int.mul_ediv_add_emod ((y.val : Int) * x - 1) N
    rw [h6] at h7
    omega
  show tf N x * tf N (iVal x N) = 1
  rw [iVal_is hok h3, tf_self]
  exact hy
section
variable {q : Int} {N : Nat} [h0 : NeZero N]
theorem FQ.rk (h : FQ q N) (hv : primeV q = true) (f : List (List Int)) : Rk (f.map (vec N)) (rankV f q) := by
  unfold rankV
  rw [if_pos hv]
  obtain ⟨rfl, _, h1, h2⟩ := h
  exact rank_rk h1 h2 f
theorem FQ.hangs (h : FQ q N) (hv : primeV q = true) (f : List (List Int)) (row : List Int) : hangsV f row q = true ↔ Sp (f.map (vec N)) (vec N row) := by
  unfold hangsV
  rw [hv, Bool.true_and]
  obtain ⟨rfl, _, h1, h2⟩ := h
  exact hangs_iff h1 h2 f row
theorem FQ.wide (h : FQ q N) (hv : primeV q = true) (f : List (List Int)) : rankV f q ≤ wideL f := by
  unfold rankV
  rw [if_pos hv]
  obtain ⟨rfl, _, h1, h2⟩ := h
  exact good_len (space_come h1 h2 (wideL_le f)).good
end
theorem rank_prime {q : Int} (hv : primeV q = true) (hp : Pr q.toNat) : rankV [[1]] q = 1 := by
  obtain ⟨N, hN, h⟩ := fq_of hv hp
  have h1 : Rk ([[1]].map (vec N)) 1 := by
    refine Rk.nil.more h.fld fun hs => ?_
    have := hs.nil 0
    unfold vec at this
    rw [show nth [1] 0 = 1 from rfl, tf_one] at this
    exact h.fld.one this
  exact (h.rk hv [[1]]).unique h.fld h1
/-- a row more. -/
theorem rank_more {q : Int} (hv : primeV q = true) (hp : Pr q.toNat) (f : List (List Int)) (row : List Int) : rankV (f ++ [row]) q = rankV f q + if hangsV f row q = true then 0 else 1 := by
  obtain ⟨N, hN, h⟩ := fq_of hv hp
  have hr := h.rk hv (f ++ [row])
  have e : ∀ r, r ∈ (f ++ [row]).map (vec N) ↔ r ∈ vec N row :: f.map (vec N) := fun r => by
    rw [List.map_append, List.mem_append, List.mem_cons]
    simp only [List.map_cons, List.map_nil, List.mem_singleton]
    exact Or.comm
  by_cases hh : hangsV f row q = true
  · rw [if_pos hh]
    exact hr.eq h.fld ((h.rk hv f).same ((h.hangs hv f row).1 hh)) (fun r hr => Sp.mem ((e r).1 hr)) fun r hr => Sp.mem ((e r).2 hr)
  · rw [if_neg hh]
    exact hr.eq h.fld ((h.rk hv f).more h.fld fun hs => hh ((h.hangs hv f row).2 hs)) (fun r hr => Sp.mem ((e r).1 hr)) fun r hr => Sp.mem ((e r).2 hr)
theorem rank_own {q : Int} (hv : primeV q = true) (hp : Pr q.toNat) {f : List (List Int)} {row : List Int} (hm : row ∈ f) : hangsV f row q = true := by
  obtain ⟨N, hN, h⟩ := fq_of hv hp
  exact (h.hangs hv f row).2 (Sp.mem (List.mem_map_of_mem hm))
theorem rank_bounds {q : Int} (hv : primeV q = true) (hp : Pr q.toNat) (f : List (List Int)) : rankV f q ≤ f.length ∧ rankV f q ≤ wideL f := by
  obtain ⟨N, hN, h⟩ := fq_of hv hp
  have := (h.rk hv f).le_len h.fld
  rw [List.length_map] at this
  exact ⟨this, h.wide hv f⟩
/-- shares. -/
theorem rank_shared {q : Int} (hv : primeV q = true) (hp : Pr q.toNat) (a b c : List (List Int)) :
    rankV (a ++ (b ++ c)) q + rankV c q ≤ rankV (a ++ c) q + rankV (b ++ c) q ∧ rankV (a ++ c) q ≤ rankV (a ++ (b ++ c)) q ∧ rankV (b ++ c) q ≤ rankV (a ++ (b ++ c)) q := by
  obtain ⟨N, hN, h⟩ := fq_of hv hp
  have r1 := h.rk hv (a ++ c)
  have r2 := h.rk hv (b ++ c)
  have r3 := h.rk hv (a ++ (b ++ c))
  have r4 := h.rk hv c
  rw [List.map_append] at r1 r2 r3
  have r3' := r3
  rw [List.map_append] at r3'
  refine ⟨Rk.shared h.fld _ _ _ r1 r2 r3' r4, r1.le h.fld r3' fun r hr => Sp.mem ?_, ?_⟩
  · rcases List.mem_append.1 hr with k | k
    · exact List.mem_append_left _ k
    · exact List.mem_append_right _ (List.mem_append_right _ k)
  · exact r2.le h.fld r3' fun r hr => Sp.mem (List.mem_append_right _ hr)
/-- ranks of what hangs on one another. -/
theorem rank_same {q : Int} (hv : primeV q = true) (hp : Pr q.toNat) {a b : List (List Int)} (h1 : ∀ (N : Nat) [NeZero N], Fld N → q = (N : Int) → (∀ r ∈ a, Sp (b.map (vec N)) (vec N r)) ∧ ∀ r ∈ b, Sp (a.map (vec N)) (vec N r)) : rankV a q = rankV b q := by
  obtain ⟨N, hN, h⟩ := fq_of hv hp
  obtain ⟨k1, k2⟩ := h1 N h.fld h.eq
  refine (h.rk hv a).eq h.fld (h.rk hv b) (fun r hr => ?_) fun r hr => ?_
  · obtain ⟨x, hx, rfl⟩ := List.mem_map.1 hr
    exact k1 x hx
  · obtain ⟨x, hx, rfl⟩ := List.mem_map.1 hr
    exact k2 x hx
/-- columns as rows. -/
def turnL (f : List (List Int)) : List (List Int) := (List.range (wideL f)).map fun j => (List.range f.length).map fun i => nth (f.getD i []) j
theorem rank_turned {q : Int} (hv : primeV q = true) (hp : Pr q.toNat) (f : List (List Int)) : rankV f q = rankV (turnL f) q := by
  obtain ⟨N, hN, h⟩ := fq_of hv hp
  have r1 := h.rk hv f
  have r2 := h.rk hv (turnL f)
  have hrow : ∀ i, f.length ≤ i → ∀ j, vec N (f.getD i []) j = 0 := fun i hi j => by
    rw [List.getD_eq_getElem?_getD, List.getElem?_eq_none hi]
    exact vec_ge (Nat.zero_le j)
  have hcol : ∀ i j, wideL f ≤ j → vec N (f.getD i []) j = 0 := fun i j hj => by
    rcases Nat.lt_or_ge i f.length with hi | hi
    · refine vec_ge (Nat.le_trans (wideL_le f _ ?_) hj)
      rw [List.getD_eq_getElem?_getD, List.getElem?_eq_getElem hi]
      exact List.getElem_mem hi
    · exact hrow i hi j
  have e1 : f.map (vec N) = (List.range f.length).map fun i => vec N (f.getD i []) := by
    apply List.ext_getElem (by simp)
    intro i h1 h2
    rw [List.length_map] at h1
    simp [List.getD_eq_getElem?_getD, List.getElem?_eq_getElem h1]
  have e2 : (turnL f).map (vec N) = (List.range (wideL f)).map fun j i => vec N (f.getD i []) j := by
    unfold turnL
    rw [List.map_map]
    refine List.map_congr_left fun j _ => funext fun i => ?_
    show tf N (nth ((List.range f.length).map fun i => nth (f.getD i []) j) i) = tf N (nth (f.getD i []) j)
    congr 1
    rcases Nat.lt_or_ge i f.length with hi | hi
    · rw [nth_lt (by simpa using hi)]
      simp
    · rw [nth_ge (by simpa using hi), List.getD_eq_getElem?_getD, List.getElem?_eq_none hi]
      exact (nth_ge (Nat.zero_le j)).symm
  rw [e1] at r1
  rw [e2] at r2
  have a1 := Rk.turned h.fld (fun i j hi => hrow i hi j) r1 r2
  have a2 := Rk.turned h.fld (M := fun j i => vec N (f.getD i []) j) (fun j i hj => hcol i j hj) r2 r1
  omega
end Go.Proofs.YtlbhmoiicbhgkaaDoor
end

section
namespace Go.Proofs.YtlbhmoiicbhgkaaDoor
open Go Go.RowKit Go.Maps Go.Shelf Go.Proofs
/-- the j-th column. -/
def colL (f : List (List Int)) (j : Nat) : List Int := (List.range f.length).map fun i => nth (f.getD i []) j
theorem colL_len (f : List (List Int)) (j : Nat) : (colL f j).length = f.length := by simp [colL]
theorem colL_at {f : List (List Int)} {i : Nat} {l : List Int} (h : f[i]? = some l) (j : Nat) : (colL f j)[i]? = some (l.getD j 0) := by
  have hi := (List.getElem?_eq_some_iff.1 h).1
  unfold colL
  rw [List.getElem?_map, List.getElem?_range hi]
  show some (nth (f.getD i []) j) = _
  rw [List.getD_eq_getElem?_getD (l := f), h]; rfl
theorem turnL_at (f : List (List Int)) {j : Nat} (h : j < wideL f) : (turnL f)[j]? = some (colL f j) := by
  unfold turnL
  rw [List.getElem?_map, List.getElem?_range h]; rfl
theorem turnL_len (f : List (List Int)) : (turnL f).length = wideL f := by simp [turnL]
theorem turnL_u {f : List (List Int)} (h : ∀ l ∈ f, U64s l) : ∀ l ∈ turnL f, U64s l := by
  intro l hl
  obtain ⟨j, _, rfl⟩ := List.mem_map.1 hl
  intro z hz
  obtain ⟨i, hi, rfl⟩ := List.mem_map.1 hz
  have hi2 := List.mem_range.1 hi
  rw [List.getD_eq_getElem?_getD, List.getElem?_eq_getElem hi2]
  exact (h _ (List.getElem_mem hi2)).nth j
def rowsU (W : List (List Int)) : List (List Value) := W.map (·.map (.int .u64))
theorem rowsU_take {W : List (List Int)} {j : Nat} {l : List Int} (h : W[j]? = some l) : rowsU (W.take j) ++ [l.map (.int .u64)] = rowsU (W.take (j + 1)) := by
  unfold rowsU
  rw [take_snocR h]; simp
set_option maxRecDepth 100000 in
set_option maxHeartbeats 1000000 in
theorem turned04_c (A : Option Addr) (f : List (List Int)) (c : Nat) (w : World) (hA : Grid w A f) (hl : f.length ≤ 17592186044415) (hwd : wideL f ≤ 1000000) :
    Calls Tryd.prog 47 #[.slice A f.length c] w fun e w' => ∃ v, e = .returned v ∧ OwnRows w' w.heap.size 23 24 v (rowsU (turnL f)) ∧ Below w.heap.size w w' := by
  have hrw : ∀ w', Below w.heap.size w w' → Calls Tryd.prog 40 #[.slice A f.length c] w' fun e w'' => e = .returned (.int .i64 (wideL f : Int)) ∧ w' = w'' := fun w' hb => wide04_c A f c w' (hA.below hb) (by omega)
  have hat : ∀ j, j < wideL f → (turnL f)[j]? = some (colL f j) := fun j h => turnL_at f h
  have htl := turnL_len f
  obtain ⟨n, hn⟩ : ∃ n, wideL f = n := ⟨_, rfl⟩
  rw [hn] at hrw hat hwd htl
  have HRW := hid hrw
  have HAT := hid (⟨hat, htl⟩ : _ ∧ _)
  clear hrw hat hn htl
  go_enter Tryd.func47, Tryd.ntmps47
  go_wp2
  go_loopw [3, 4, 5, 6, 7] (fun o i _ _ _ wr => ∃ k : Nat, i = .int .i64 k ∧ k ≤ n ∧ OwnRows wr w.heap.size 23 24 o (rowsU ((turnL f).take k)) ∧ Below w.heap.size w wr) (fun _ i _ _ _ _ => n - (intOf i).toNat)
  case atStart => exact ⟨0, rfl, by omega, by simpa [rowsU] using OwnRows.nil w w.heap.size 23 24, Below.refl _ _⟩
  case round =>
    obtain ⟨k, rfl, hk, ⟨vs, hown, hvl, hvr⟩, hb⟩ := hrel
    by_cases hlt : k < n
    · have hz := HAT.out.1 k hlt
      have hvl' : vs.length = k := by rw [hvl]; simp [rowsU]; have := HAT.out.2; omega
      have HV := hid (⟨hz, hvl, hvl', hvr⟩ : _ ∧ _ ∧ _ ∧ _)
      clear hz hvl hvl' hvr
      go_wp2_with (go_at_call 40; refine (HRW.out _ hb).mono ?_; rintro e w2 ⟨rfl, rfl⟩)
      generalize wr = wo at *
      go_loopw [5, 6, 7] (fun o i _ w4 => ∃ i' : Nat, i = .int .i64 i' ∧ i' ≤ f.length ∧ Own w4 wo.heap.size 24 o (((colL f k).take i').map (.int .u64)) ∧ Below wo.heap.size wo w4) (fun _ i _ _ => f.length - (intOf i).toNat)
      case atStart => exact ⟨0, rfl, by omega, by simpa using Own.nil wo wo.heap.size 24, Below.refl _ _⟩
      case round =>
        obtain ⟨i, rfl, hi, hown4, hb4⟩ := hrel
        by_cases hlt2 : i < f.length
        · obtain ⟨l, hxl⟩ := get_of_lt hlt2
          obtain ⟨o1, off, A', c', rfl, hc, hcs, hln⟩ := ((hA.below hb).below hb4).at_ hxl
          have hcj := colL_at hxl k
          have hs : ((colL f k).take i).map (Value.int .u64) ++ [Value.int .u64 (l.getD k 0)] = ((colL f k).take (i + 1)).map (Value.int .u64) := by
            rw [take_snocR hcj]; simp
          have hlen : (((colL f k).take i).map (Value.int .u64)).length = i := by simp [colL_len]; omega
          have HS := hid (⟨hs, hlen⟩ : _ ∧ _)
          clear hs hlen hcj hxl
          by_cases hin : k < l.length
          · obtain ⟨z, hz⟩ := get_of_lt hin
            obtain ⟨o2, off2, rfl, hcz⟩ := hcs.at_map hz
            have hgd : l.getD k 0 = z := by rw [List.getD_eq_getElem?_getD, hz]; rfl
            rw [hgd] at HS
            clear hgd hz
            go_wp2_with (at_builtin; refine wpList_push elt_u64 wr rfl _ _ rfl wo.heap.size hown4 rfl (.int .u64 z) rfl rfl (by rw [HS.out.2]; omega) (by rw [HS.out.2]; omega) hb4.size ?_; intro v' w3 hown5 _ hb5)
            go_roundw
            case rel =>
              rw [HS.out.1] at hown5
              exact ⟨i + 1, by go_num, by omega, hown5, hb4.trans hb5⟩
            case measure => simp [intOf]; omega
          · have hgd : l.getD k 0 = 0 := by rw [List.getD_eq_getElem?_getD, List.getElem?_eq_none (by omega)]; rfl
            rw [hgd] at HS
            clear hgd
            go_wp2_with (at_builtin; refine wpList_push elt_u64 wr rfl _ _ rfl wo.heap.size hown4 rfl (.int .u64 0) rfl rfl (by rw [HS.out.2]; omega) (by rw [HS.out.2]; omega) hb4.size ?_; intro v' w3 hown5 _ hb5)
            go_roundw
            case rel =>
              rw [HS.out.1] at hown5
              exact ⟨i + 1, by go_num, by omega, hown5, hb4.trans hb5⟩
            case measure => simp [intOf]; omega
        · obtain rfl : i = f.length := by omega
          rw [List.take_of_length_le (by rw [colL_len]; exact Nat.le_refl _)] at hown4
          have hrt := hown4.rowT
          have hown5 := hown.below hb4
          have hvr5 : ∀ (j : Nat) u xs, vs[j]? = some u → (rowsU ((turnL f).take k))[j]? = some xs → RowT wr 24 u xs := fun j u xs a b => (HV.out.2.2.2 j u xs a b).below hb4
          have HVR := hid hvr5
          clear hvr5
          obtain ⟨A7, c7, rfl, _⟩ := hown4.form
          rw [List.length_map] at hrt
          clear hown4
          go_wp2_with (at_builtin; refine wpList_push elt_rows wr rfl _ _ rfl w.heap.size hown5 rfl (.slice A7 _ c7) rfl rfl (by rw [HV.out.2.2.1]; omega) (by rw [HV.out.2.2.1]; omega) (by have := hb.size; have := hb4.size; omega) ?_; intro v' w3 hown6 hoth hb6)
          go_roundw
          case rel =>
            have hrows := OwnRows.push (w := wr) (by decide) HV.out.2.1 HVR.out hown5 hrt hown6 hoth
            rw [rowsU_take HV.out.1] at hrows
            exact ⟨k + 1, by go_num, by omega, hrows, (below_next hb hb.size hb4).trans hb6⟩
          case measure => simp [intOf]; omega
    · obtain rfl : k = n := by omega
      go_wp2_with (go_at_call 40; refine (HRW.out _ hb).mono ?_; rintro e w2 ⟨rfl, rfl⟩)
      go_ret
      rw [List.take_of_length_le (by rw [HAT.out.2]; exact Nat.le_refl _)] at hvl hvr
      exact ⟨_, rfl, ⟨vs, hown, hvl, hvr⟩, hb⟩
theorem Few.ok {f : List (List Int)} (h : Few f) (hu : ∀ l ∈ f, U64s l) : RowsOk f := ⟨by have := h.1; omega, fun l hl => by have := h.2 l hl; omega, hu⟩
theorem RowsOk.app {a b : List (List Int)} (ha : RowsOk a) (hb : RowsOk b) (hl : a.length + b.length ≤ 1000) : RowsOk (a ++ b) :=
  ⟨by rw [List.length_append]; omega, fun l hl => by rcases List.mem_append.1 hl with h | h; exact ha.len l h; exact hb.len l h, fun l hl => by rcases List.mem_append.1 hl with h | h; exact ha.u l h; exact hb.u l h⟩
theorem rankV_len (f : List (List Int)) (q : Int) (hp : primeV q = true → Go.Psi.Pr q.toNat) : rankV f q ≤ f.length := by
  cases hv : primeV q with
  | true => exact (rank_bounds hv (hp hv) f).1
  | false => rw [rankV_no hv]; exact Nat.zero_le _
theorem grid_one {w : World} {g : Nat} {e : TypeId} {v : Value} {l : List Int} (hO : Row1 w g e [v]) (h : RowV w v l) : Grid w (some ⟨g, 0, none⟩) [l] := grid_head hO h
end Go.Proofs.YtlbhmoiicbhgkaaDoor
end

section
namespace Go.Proofs.YtlbhmoiicbhgkaaDoor
open Go Go.RowKit Go.Lin Go.Psi
theorem nth_getD (l : List Int) (j : Nat) : nth l j = l.getD j 0 := by
  rw [List.getD_eq_getElem?_getD]; rfl
theorem rank_set {q : Int} (hv : primeV q = true) (hp : Pr q.toNat) {a : List (List Int)} {i : Nat} {r r' : List Int} (hr : a[i]? = some r)
    (h : ∀ (N : Nat) [NeZero N], Fld N → q = (N : Int) → Sp ((a.set i r').map (vec N)) (vec N r) ∧ Sp (a.map (vec N)) (vec N r')) : rankV (a.set i r') q = rankV a q := by
  refine rank_same hv hp fun N _ hF hq => ?_
  obtain ⟨h1, h2⟩ := h N hF hq
  refine ⟨fun s hs => ?_, fun s hs => ?_⟩
  · rcases List.mem_or_eq_of_mem_set hs with h | rfl
    · exact Sp.mem (List.mem_map_of_mem h)
    · exact h2
  · obtain ⟨j, hj, e⟩ := List.getElem_of_mem hs
    by_cases hij : i = j
    · subst hij
      rw [List.getElem?_eq_getElem hj, e] at hr
      obtain rfl := Option.some.inj hr
      exact h1
    · refine Sp.mem (List.mem_map_of_mem (List.mem_of_getElem? (i := j) ?_))
      rw [List.getElem?_set_ne hij, List.getElem?_eq_getElem hj, e]
theorem rank_rev {q : Int} (hv : primeV q = true) (hp : Pr q.toNat) (a : List (List Int)) : rankV a.reverse q = rankV a q :=
  rank_same hv hp fun _ _ _ _ => ⟨fun _ hs => Sp.mem (List.mem_map_of_mem (List.mem_reverse.1 hs)), fun _ hs => Sp.mem (List.mem_map_of_mem (List.mem_reverse.2 hs))⟩
/-- a row times a number: while it is made. -/
def tmsMid (l : List Int) (x q : Int) (m : Nat) : List Int := (List.range l.length).map fun j => if j < m then mMul (l.getD j 0) x q else l.getD j 0
/-- a row and another's multiple: while it is made. -/
def addMid (l o : List Int) (x q : Int) (m : Nat) : List Int := (List.range (max l.length m)).map fun j => if j < m then mAdd (l.getD j 0) (mMul (o.getD j 0) x q) q else l.getD j 0
theorem tmsMid_len (l : List Int) (x q : Int) (m : Nat) : (tmsMid l x q m).length = l.length := by simp [tmsMid]
theorem tmsMid_zero (l : List Int) (x q : Int) : tmsMid l x q 0 = l := by
  apply List.ext_getElem (by simp [tmsMid])
  intro j h1 h2
  simp [tmsMid, h2]
theorem tmsMid_at {l : List Int} {x q : Int} {m : Nat} (h : m < l.length) : (tmsMid l x q m)[m]? = some (l.getD m 0) := by
  unfold tmsMid
  rw [List.getElem?_map, List.getElem?_range h, Option.map_some, if_neg (by omega)]
theorem tmsMid_set (l : List Int) (x q : Int) (m : Nat) : (tmsMid l x q m).set m (mMul (l.getD m 0) x q) = tmsMid l x q (m + 1) := by
  apply List.ext_getElem (by simp [tmsMid])
  intro j h1 h2
  rw [List.getElem_set]
  simp only [tmsMid, List.getElem_map, List.getElem_range]
  by_cases e : m = j
  · subst e
    rw [if_pos rfl, if_pos (by omega)]
  · rw [if_neg e]
    by_cases h3 : j < m
    · rw [if_pos h3, if_pos (by omega)]
    · rw [if_neg h3, if_neg (by omega)]
theorem getD_u64R {l : List Int} (h : U64s l) (j : Nat) : U64 (l.getD j 0) := by
  rw [List.getD_eq_getElem?_getD]
  cases hj : l[j]? with
  | none => exact ⟨by decide, by decide⟩
  | some z => exact h z (List.mem_of_getElem? hj)
theorem tmsMid_u64 {l : List Int} (h : U64s l) (x q : Int) (m : Nat) : U64s (tmsMid l x q m) := by
  intro z hz
  obtain ⟨j, _, rfl⟩ := List.mem_map.1 hz
  split
  · exact mMul_u64 ..
  · exact getD_u64R h j
theorem addMid_len (l o : List Int) (x q : Int) (m : Nat) : (addMid l o x q m).length = max l.length m := by simp [addMid]
theorem addMid_zero (l o : List Int) (x q : Int) : addMid l o x q 0 = l := by
  apply List.ext_getElem (by simp [addMid])
  intro j h1 h2
  simp [addMid, h2]
/-- a 0 more, where the row is too short. -/
theorem addMid_more {l o : List Int} {x q : Int} {m : Nat} (h : l.length ≤ m) : (addMid l o x q m ++ [0]).set m (mAdd (l.getD m 0) (mMul (o.getD m 0) x q) q) = addMid l o x q (m + 1) := by
  have hl : max l.length m = m := by omega
  have hl2 : max l.length (m + 1) = m + 1 := by omega
  apply List.ext_getElem (by rw [List.length_set, List.length_append, addMid_len, addMid_len, hl, hl2]; rfl)
  intro j h1 h2
  rw [addMid_len, hl2] at h2
  rw [List.getElem_set]
  by_cases e : m = j
  · subst e
    rw [if_pos rfl]
    simp only [addMid, List.getElem_map, List.getElem_range]
    rw [if_pos (by omega)]
  · rw [if_neg e, List.getElem_append_left (by rw [addMid_len]; omega)]
    simp only [addMid, List.getElem_map, List.getElem_range]
    rw [if_pos (by omega), if_pos (by omega)]
theorem addMid_set {l o : List Int} {x q : Int} {m : Nat} (h : m < l.length) : (addMid l o x q m).set m (mAdd (l.getD m 0) (mMul (o.getD m 0) x q) q) = addMid l o x q (m + 1) := by
  apply List.ext_getElem (by rw [List.length_set, addMid_len, addMid_len]; omega)
  intro j h1 h2
  rw [List.getElem_set]
  simp only [addMid, List.getElem_map, List.getElem_range]
  by_cases e : m = j
  · subst e
    rw [if_pos rfl, if_pos (by omega)]
  · rw [if_neg e]
    by_cases h3 : j < m
    · rw [if_pos h3, if_pos (by omega)]
    · rw [if_neg h3, if_neg (by omega)]
theorem addMid_at {l o : List Int} {x q : Int} {m : Nat} (h : m < l.length) : (addMid l o x q m)[m]? = some (l.getD m 0) := by
  unfold addMid
  rw [List.getElem?_map, List.getElem?_range (by omega), Option.map_some, if_neg (by omega)]
theorem addMid_u64 {l : List Int} (h : U64s l) (o : List Int) (x q : Int) (m : Nat) : U64s (addMid l o x q m) := by
  intro z hz
  obtain ⟨j, _, rfl⟩ := List.mem_map.1 hz
  split
  · exact mAdd_u64 ..
  · exact getD_u64R h j
theorem vec_tms {N : Nat} [NeZero N] (hq : okm (N : Int) = true) (l : List Int) (x : Int) (j : Nat) : vec N (tmsMid l x N l.length) j = vec N l j * tf N x := by
  rcases Nat.lt_or_ge j l.length with h | h
  · unfold vec
    have e : nth (tmsMid l x N l.length) j = mMul (l.getD j 0) x N := by
      rw [nth_lt (by rw [tmsMid_len]; exact h)]
      simp only [tmsMid, List.getElem_map, List.getElem_range]
      rw [if_pos h]
    rw [e, mMul_ok hq, tf_mod, tf_mul, nth_getD]
  · rw [vec_ge (by rw [tmsMid_len]; exact h), vec_ge h, Fin.zero_mul]
theorem vec_add {N : Nat} [NeZero N] (hq : okm (N : Int) = true) (l o : List Int) (x : Int) (j : Nat) : vec N (addMid l o x N o.length) j = vec N l j + vec N o j * tf N x := by
  rcases Nat.lt_or_ge j (max l.length o.length) with h | h
  · unfold vec
    have e : nth (addMid l o x N o.length) j = if j < o.length then mAdd (l.getD j 0) (mMul (o.getD j 0) x N) N else l.getD j 0 := by
      rw [nth_lt (by rw [addMid_len]; exact h)]
      simp only [addMid, List.getElem_map, List.getElem_range]
    rw [e]
    split
    · rw [mAdd_ok hq, mMul_ok hq, tf_mod, tf_add, tf_mod, tf_mul, nth_getD, nth_getD]
    · rename_i hj
      rw [nth_ge (l := o) (by omega), tf_zero, Fin.zero_mul, Fin.add_zero, nth_getD]
  · rw [vec_ge (by rw [addMid_len]; exact h), vec_ge (l := l) (by omega), vec_ge (l := o) (by omega), Fin.zero_mul, Fin.add_zero]
theorem rank_times {q : Int} (hv : primeV q = true) (hp : Pr q.toNat) {a : List (List Int)} {i : Nat} {r : List Int} (hr : a[i]? = some r) {x : Int} (hx : x % q ≠ 0) : rankV (a.set i (tmsMid r x q r.length)) q = rankV a q := by
  have hok := (okm_prime hv).1
  refine rank_set hv hp hr fun N _ hF e => ?_
  subst e
  have hi := (List.getElem?_eq_some_iff.1 hr).1
  obtain ⟨y, hy⟩ := hF.inv (tf N x) fun e => hx (tf_iff_zero.1 e)
  constructor
  · refine Sp.add y (r := vec N (tmsMid r x N r.length)) (List.mem_map_of_mem (List.mem_set hi _)) Sp.zero fun j => ?_
    rw [vec_tms hok]
    grind
  · refine Sp.add (tf N x) (r := vec N r) (List.mem_map_of_mem (List.mem_of_getElem? hr)) Sp.zero fun j => ?_
    rw [vec_tms hok]
    grind
theorem rank_added {q : Int} (hv : primeV q = true) (hp : Pr q.toNat) {a : List (List Int)} {i k : Nat} {r o : List Int} (hr : a[k]? = some r) (ho : a[i]? = some o) (hik : k ≠ i) (x : Int) : rankV (a.set k (addMid r o x q o.length)) q = rankV a q := by
  have hok := (okm_prime hv).1
  refine rank_set hv hp hr fun N _ hF e => ?_
  subst e
  have hk := (List.getElem?_eq_some_iff.1 hr).1
  constructor
  · have h1 : Sp ((a.set k (addMid r o x N o.length)).map (vec N)) (vec N o) := by
      refine Sp.mem (List.mem_map_of_mem (List.mem_of_getElem? (i := i) ?_))
      rw [List.getElem?_set_ne hik]; exact ho
    refine h1.comb (-(tf N x)) (Sp.mem (List.mem_map_of_mem (List.mem_set hk _))) fun j => ?_
    rw [vec_add hok]
    grind
  · refine Sp.comb (tf N x) (Sp.mem (List.mem_map_of_mem (List.mem_of_getElem? ho))) (Sp.mem (List.mem_map_of_mem (List.mem_of_getElem? hr))) fun j => ?_
    rw [vec_add hok]
    grind
structure Rwo (base : Nat) (V : Value) (vs : List Value) (f : List (List Int)) (w : World) : Prop where
  O : Own w base 23 V vs
  len : vs.length = f.length
  R : ∀ (i : Nat) v l, vs[i]? = some v → f[i]? = some l → Own w base 24 v (l.map (.int .u64))
  A : ∀ (i j : Nat) v v' g, i ≠ j → vs[i]? = some v → vs[j]? = some v' → v.ownBlock = some g → v'.ownBlock ≠ some g
section
variable {base : Nat} {V : Value} {vs : List Value} {f : List (List Int)} {w w' : World}
theorem Rwo.nil (w : World) (base : Nat) : Rwo base (.slice none 0 0) [] [] w := ⟨Own.nil _ _ _, rfl, fun i v l h => by simp at h, fun i j v v' g _ h => by simp at h⟩
theorem Rwo.block (h : Rwo base V vs f w) {i : Nat} {v : Value} (hv : vs[i]? = some v) {g : Nat} (hg : v.ownBlock = some g) : base ≤ g ∧ g < w.heap.size ∧ V.ownBlock ≠ some g := by
  have hi : i < f.length := by rw [← h.len]; exact (List.getElem?_eq_some_iff.1 hv).1
  have ho := h.R i v f[i] hv (List.getElem?_eq_getElem hi)
  refine ⟨(ho.block g hg).1, (ho.block g hg).2, fun e => ?_⟩
  rcases ho.2 with ⟨rfl, _⟩ | ⟨g1, cap, cur, rfl, _, h1, _⟩
  · cases hg
  · rcases h.O.2 with ⟨h2, _⟩ | ⟨g2, cap2, cur2, h2, _, h3, _⟩
    · rw [h2] at e; cases e
    · rw [h2] at e
      simp only [Value.ownBlock, Option.some.injEq] at hg e
      subst hg e
      rw [h1] at h3
      simp only [Option.some.injEq, Obj.cells.injEq] at h3
      exact absurd h3.2.1 (by decide)
theorem Rwo.below (h : Rwo base V vs f w) (hb : Below w.heap.size w w') : Rwo base V vs f w' := ⟨h.O.below hb, h.len, fun i v l hv hl => (h.R i v l hv hl).below hb, h.A⟩
theorem Rwo.ownRows (h : Rwo base V vs f w) : OwnRows w base 23 24 V (f.map (·.map (.int .u64))) := by
  refine ⟨vs, h.O, by rw [h.len, List.length_map], fun j u xs hu hx => ?_⟩
  rw [List.getElem?_map] at hx
  cases hfj : f[j]? with
  | none => rw [hfj] at hx; cases hx
  | some l =>
    rw [hfj] at hx
    obtain rfl := Option.some.inj hx
    exact (h.R j u l hu hfj).rowT
/-- one more row: w1, where the row was made; w2, where it was put behind the others. -/
theorem Rwo.push {w1 w2 : World} {u V' : Value} {l : List Int} (h : Rwo base V vs f w) (hb : Below w.heap.size w w1) (hbase : base ≤ w.heap.size) (hu : Own w1 w.heap.size 24 u (l.map (.int .u64))) (hO : Own w2 base 23 V' (vs ++ [u])) (hk : ∀ k, k < w1.heap.size → some k ≠ V.ownBlock → w2.heap[k]? = w1.heap[k]?) : Rwo base V' (vs ++ [u]) (f ++ [l]) w2 := by
  have hV : ∀ g, V.ownBlock = some g → g < w.heap.size := fun g hg => (h.O.block g hg).2
  refine ⟨hO, by simp [h.len], fun i v m hv hm => ?_, fun i j v v' g hij hv hv' hg => ?_⟩
  · rcases Nat.lt_or_ge i vs.length with hi | hi
    · rw [List.getElem?_append_left hi] at hv
      rw [List.getElem?_append_left (by rw [← h.len]; exact hi)] at hm
      refine ((h.R i v m hv hm).below hb).keep fun g hg => ?_
      obtain ⟨_, h2, h3⟩ := h.block hv hg
      exact hk g (Nat.lt_of_lt_of_le h2 hb.size) fun e => h3 e.symm
    · rw [List.getElem?_append_right hi] at hv
      rw [List.getElem?_append_right (by rw [← h.len]; exact hi), ← h.len] at hm
      cases hj : i - vs.length with
      | zero =>
        rw [hj] at hv hm
        obtain rfl := Option.some.inj hv
        obtain rfl := Option.some.inj hm
        refine (hu.from_ hbase).keep fun g hg => ?_
        have := hu.block g hg
        exact hk g this.2 fun e => by have := hV g e.symm; omega
      | succ n => rw [hj] at hv; simp at hv
  · have key : ∀ (i : Nat) v, (vs ++ [u])[i]? = some v → v.ownBlock = some g → (i < vs.length ∧ vs[i]? = some v ∧ g < w.heap.size) ∨ (i = vs.length ∧ w.heap.size ≤ g) := by
      intro i v hv hg
      rcases Nat.lt_or_ge i vs.length with hi | hi
      · rw [List.getElem?_append_left hi] at hv
        exact .inl ⟨hi, hv, (h.block hv hg).2.1⟩
      · rw [List.getElem?_append_right hi] at hv
        cases hj : i - vs.length with
        | zero =>
          rw [hj] at hv
          obtain rfl := Option.some.inj hv
          exact .inr ⟨by omega, (hu.block g hg).1⟩
        | succ n => rw [hj] at hv; simp at hv
    intro hg'
    rcases key i v hv hg with ⟨a1, a2, a3⟩ | ⟨a1, a2⟩ <;> rcases key j v' hv' hg' with ⟨b1, b2, b3⟩ | ⟨b1, b2⟩
    · exact h.A i j v v' g hij a2 b2 hg hg'
    · omega
    · omega
    · omega
/-- a cell of a row is written. -/
theorem Rwo.put {i j : Nat} {l : List Int} {g n c : Nat} {z : Int} (h : Rwo base V vs f w) (hv : vs[i]? = some (.slice (some ⟨g, 0, none⟩) n c)) (hl : f[i]? = some l) (hj : j < l.length) : Rwo base V vs (f.set i (l.set j z)) (w.setCell ⟨g, j, none⟩ (.int .u64 z)) := by
  have hi := (List.getElem?_eq_some_iff.1 hl).1
  obtain ⟨g1, cap, e, _, _, _, _, hset⟩ := (h.R i _ l hv hl).row (by rw [List.length_map]; omega)
  simp only [Value.slice.injEq, Option.some.injEq, Addr.mk.injEq, and_true, List.length_map] at e
  obtain ⟨rfl, rfl, rfl⟩ := e
  have hVg : V.ownBlock ≠ some g := (h.block hv rfl).2.2
  have far : ∀ {e : TypeId} {u : Value} {ys : List Value}, Own w base e u ys → u.ownBlock ≠ some g → Own (w.setCell ⟨g, j, none⟩ (.int .u64 z)) base e u ys := fun h9 hne => h9.keep fun g' hgu => Below.heap_setCell w ⟨g, j, none⟩ _ g' (fun e => hne (by rw [hgu, e]))
  refine ⟨far h.O hVg, by rw [List.length_set, h.len], fun k v m hv' hm => ?_, h.A⟩
  rw [List.getElem?_set] at hm
  by_cases hki : i = k
  · subst hki
    rw [if_pos rfl, if_pos hi] at hm
    obtain rfl := Option.some.inj hm
    rw [hv] at hv'
    obtain rfl := Option.some.inj hv'
    have := hset w rfl j (.int .u64 z) (by rw [List.length_map]; exact hj)
    rw [← List.map_set] at this
    exact this
  · rw [if_neg hki] at hm
    exact far (h.R k v m hv' hm) (h.A i k _ v g hki hv hv' rfl)
/-- a row grew, and is laid back. -/
theorem Rwo.grow {i : Nat} {v v' : Value} {l l' : List Int} {w1 : World} {go cap : Nat} (h : Rwo base V vs f w) (hV : V = .slice (some ⟨go, 0, none⟩) vs.length cap) (hv : vs[i]? = some v) (_ : f[i]? = some l) (hg : w.grownBy w1 v.ownBlock) (hown : Own w1 base 24 v' (l'.map (.int .u64))) (hb : v'.ownBlock = v.ownBlock ∨ ∃ g, v'.ownBlock = some g ∧ w.heap.size ≤ g) :
    Rwo base V (vs.set i v') (f.set i l') (w1.setCell ⟨go, i, none⟩ v') := by
  have hi := (List.getElem?_eq_some_iff.1 hv).1
  have hO1 : Own w1 base 23 V vs := h.O.keep fun g hgV => hg.block g (h.O.block g hgV).2 fun e => (h.block hv e.symm).2.2 hgV
  obtain ⟨g1, cap1, e, _, _, _, _, hset⟩ := hO1.row (by omega)
  have hgo : V.ownBlock = some go := by rw [hV]; rfl
  rw [hV] at e
  simp only [Value.slice.injEq, Option.some.injEq, Addr.mk.injEq, and_true, true_and] at e
  obtain ⟨rfl, rfl⟩ := e
  have hnew : ∀ g, v'.ownBlock = some g → v.ownBlock = some g ∨ w.heap.size ≤ g := fun g hgv => by
    rcases hb with h1 | ⟨g2, h1, h2⟩
    · exact .inl (h1 ▸ hgv)
    · rw [h1] at hgv
      obtain rfl := Option.some.inj hgv
      exact .inr h2
  have hgos : go < w.heap.size := (h.O.block go hgo).2
  have far : ∀ {u : Value} {ys : List Value}, Own w1 base 24 u ys → u.ownBlock ≠ some go → Own (w1.setCell ⟨go, i, none⟩ v') base 24 u ys := fun h9 hne => h9.keep fun g hgu => Below.heap_setCell w1 ⟨go, i, none⟩ v' g (fun e => hne (by rw [hgu, e]))
  refine ⟨hset w1 rfl i v' hi, by simp [h.len], fun j u m hu hm => ?_, fun j k u u' g hjk hu hu' hgu => ?_⟩
  · rw [List.getElem?_set] at hu hm
    by_cases hji : i = j
    · subst hji
      rw [if_pos rfl, if_pos hi] at hu
      rw [if_pos rfl, if_pos (by rw [← h.len]; exact hi)] at hm
      obtain rfl := Option.some.inj hu
      obtain rfl := Option.some.inj hm
      refine far hown fun e => ?_
      rcases hnew go e with h2 | h2
      · exact (h.block hv h2).2.2 hgo
      · omega
    · rw [if_neg hji] at hu hm
      refine far ((h.R j u m hu hm).keep fun g hgu => hg.block g (h.block hu hgu).2.1 fun e => ?_) fun e => (h.block hu e).2.2 hgo
      exact h.A j i u v g (Ne.symm hji) hu hv hgu e.symm
  · rw [List.getElem?_set] at hu hu'
    intro hgu'
    by_cases hji : i = j
    · subst hji
      rw [if_pos rfl, if_pos hi] at hu
      rw [if_neg hjk] at hu'
      obtain rfl := Option.some.inj hu
      have h1 := (h.block hu' hgu').2.1
      rcases hnew g hgu with h2 | h2
      · exact h.A i k v u' g hjk hv hu' h2 hgu'
      · omega
    · rw [if_neg hji] at hu
      have h1 := (h.block hu hgu).2.1
      by_cases hki : i = k
      · subst hki
        rw [if_pos rfl, if_pos hi] at hu'
        obtain rfl := Option.some.inj hu'
        rcases hnew g hgu' with h2 | h2
        · exact h.A i j v u g hji hv hu h2 hgu
        · omega
      · rw [if_neg hki] at hu'
        exact h.A j k u u' g hjk hu hu' hgu hgu'
end
/-- the outer row, and what is read in it. -/
theorem Rwo.form {base : Nat} {V : Value} {vs : List Value} {f : List (List Int)} {w : World} (h : Rwo base V vs f w) (hf : 0 < f.length) : ∃ go cap, V = .slice (some ⟨go, 0, none⟩) f.length cap ∧ base ≤ go ∧ go < w.heap.size ∧
    (∀ k u, vs[k]? = some u → w.cell? ⟨go, k, none⟩ = some u) ∧ (∀ k, w.frozen? ⟨go, k, none⟩ = false) ∧ Grid w (some ⟨go, 0, none⟩) f := by
  obtain ⟨go, cap, e, h1, h2, h3, h4, _⟩ := h.O.row (by rw [h.len]; exact hf)
  obtain ⟨A5, c5, e5, hg⟩ := ownRows_grid h.ownRows
  rw [h.len] at e
  rw [e] at e5
  simp only [Value.slice.injEq, true_and] at e5
  obtain ⟨rfl, rfl⟩ := e5
  exact ⟨go, cap, e, h1, h2, h3, h4, hg⟩
theorem Rwo.rowAt {base : Nat} {V : Value} {vs : List Value} {f : List (List Int)} {w : World} (h : Rwo base V vs f w) {i : Nat} {l : List Int} (hl : f[i]? = some l) : ∃ v Ai ci, vs[i]? = some v ∧ v = .slice Ai l.length ci ∧ Cells w Ai (u64v l) ∧ Own w base 24 v (u64v l) := by
  have hi := (List.getElem?_eq_some_iff.1 hl).1
  obtain ⟨v, hv⟩ := get_of_lt (l := vs) (k := i) (by rw [h.len]; exact hi)
  have ho := h.R i v l hv hl
  obtain ⟨A, c, e, hc⟩ := ho.form
  rw [List.length_map] at e
  exact ⟨v, A, c, hv, e, hc, ho⟩
theorem Rwo.rowIn {base : Nat} {V : Value} {vs : List Value} {f : List (List Int)} {w : World} (h : Rwo base V vs f w) {i : Nat} {l : List Int} (hl : f[i]? = some l) (hne : 0 < l.length) : ∃ g c, vs[i]? = some (.slice (some ⟨g, 0, none⟩) l.length c) ∧ base ≤ g ∧
    (∀ k z, l[k]? = some z → w.cell? ⟨g, k, none⟩ = some (.int .u64 z)) ∧ ∀ k, w.frozen? ⟨g, k, none⟩ = false := by
  have hi := (List.getElem?_eq_some_iff.1 hl).1
  obtain ⟨v, hv⟩ := get_of_lt (l := vs) (k := i) (by rw [h.len]; exact hi)
  obtain ⟨g, c, e, h1, _, h3, h4, _⟩ := (h.R i v l hv hl).row (by rw [List.length_map]; exact hne)
  rw [List.length_map] at e
  exact ⟨g, c, by rw [hv, e], h1, fun k z hz => h3 k _ (by rw [List.getElem?_map, hz]; rfl), h4⟩
theorem set_same {α : Type} {f : List α} {i : Nat} {l : α} (h : f[i]? = some l) : f.set i l = f := by
  obtain ⟨hi, rfl⟩ := List.getElem?_eq_some_iff.1 h
  exact List.set_getElem_self hi
theorem idx_mod (i : Int) {n : Nat} (h0 : 0 < n) (h : n ≤ 1000) : ∃ m : Nat, m < n ∧ wrap64 ((IntKind.u64.wrap i).tmod n) = (m : Int) := by
  have h1 : (0 : Int) ≤ IntKind.u64.wrap i := by simp [IntKind.wrap, IntKind.bits, IntKind.signed]; omega
  have h2 := Int.emod_nonneg (IntKind.u64.wrap i) (show (n : Int) ≠ 0 by omega)
  have h3 := Int.emod_lt_of_pos (IntKind.u64.wrap i) (show (0 : Int) < n by omega)
  refine ⟨((IntKind.u64.wrap i) % n).toNat, by omega, ?_⟩
  rw [Int.tmod_eq_emod_of_nonneg h1, IntWalk.wrap64_in _ ⟨by omega, by omega⟩]
  omega
theorem rows_set {f : List (List Int)} (hf : ∀ l ∈ f, l.length ≤ 20 ∧ U64s l) {i : Nat} {l : List Int} (h1 : l.length ≤ 20) (h2 : U64s l) : ∀ s ∈ f.set i l, s.length ≤ 20 ∧ U64s s := by
  intro s hs
  rcases List.mem_or_eq_of_mem_set hs with h | rfl
  · exact hf s h
  · exact ⟨h1, h2⟩
theorem rows_ok {f : List (List Int)} (hl : f.length ≤ 20) (hf : ∀ l ∈ f, l.length ≤ 20 ∧ U64s l) : RowsOk f := ⟨by omega, fun l h => by have := (hf l h).1; omega, fun l h => (hf l h).2⟩
/-- 'append(v, u)': u lies in a block of its own. -/
theorem wpList_push_own {P : Program} {t e : TypeId} {z : Value} {bytes : Nat} (E : Elt P t e z bytes) (wr : World) {ops : Array Oper} {rest : List Oper} {o : Oper} {a : Act} {Q : Exit → Act → World → Prop}
    (hg : o.guard = none) (s x : Operand) (hop : o.op = .call { callee := .builtin .append, args := #[s, x], argTypes := #[t, t] })
    (base : Nat) {v : Value} {xs : List Value} (hown : Own wr base e v xs) (hs : a.eval s = v) (u : Value) (g : Nat) (hx : a.eval x = .slice (some ⟨g, 0, none⟩) 1 1) (hu : Row1 wr g e [u]) (h1 : u.oneCell' = true)
    (hb : (xs.length + 1) * bytes ≤ 140737488355328) (hm : xs.length + 1 ≤ 9223372036854775807) (hbase : base ≤ wr.heap.size)
    (hK : ∀ v' w', Own w' base e v' (xs ++ [u]) → wr.grownBy w' v.ownBlock → (v'.ownBlock = v.ownBlock ∨ v'.ownBlock = some wr.heap.size) → wpList P ops Q rest (a.put o.dst v') w') :
    wpList P ops Q (o :: rest) a wr := by
  obtain ⟨i, hi, hz, hsz, hby⟩ := E.info
  refine wpList_append_own_at (P := P) wr hg s x t hop base e i z 1 bytes E.under hi hz hsz hby E.one (by decide) v xs.length xs hs hown ⟨g, 0, none⟩ 1 1 [u] hx rfl (fun j u' hj => ?_) (by simpa using h1) (by unfold maxLen; omega) hb hbase ?_
  · have hadd : (⟨g, 0, none⟩ : Addr).add j = ⟨g, 0 + j, none⟩ := by unfold Addr.add; split <;> simp_all
    rw [hadd, Nat.zero_add]
    exact hu.cell hj
  · intro v' w' h2 h3 _ h5
    refine hK v' w' ?_ h3 h5
    unfold Own; rw [List.length_append]; exact h2
/-- what lies in a row. -/
theorem Rwo.at_ {base : Nat} {V : Value} {vs : List Value} {f : List (List Int)} {w : World} (h : Rwo base V vs f w) {i : Nat} {l : List Int} {g n c : Nat} (hv : vs[i]? = some (.slice (some ⟨g, 0, none⟩) n c)) (hl : f[i]? = some l) (hne : 0 < l.length) : base ≤ g ∧
    (∀ k z, l[k]? = some z → w.cell? ⟨g, k, none⟩ = some (.int .u64 z)) ∧ ∀ k, w.frozen? ⟨g, k, none⟩ = false := by
  obtain ⟨g2, c2, h1, h2, h3, h4⟩ := h.rowIn hl hne
  rw [hv] at h1
  simp only [Option.some.injEq, Value.slice.injEq, Addr.mk.injEq, and_true] at h1
  obtain ⟨rfl, _, _⟩ := h1
  exact ⟨h2, h3, h4⟩
/-- the outer row, behind a row's growing. -/
theorem Rwo.outer {i : Nat} {base : Nat} {V : Value} {vs : List Value} {f : List (List Int)} {w : World} {v : Value} {w1 : World} {go cap n : Nat} (h : Rwo base V vs f w) (hV : V = .slice (some ⟨go, 0, none⟩) n cap) (hv : vs[i]? = some v) (hg : w.grownBy w1 v.ownBlock) :
    w1.cell? ⟨go, i, none⟩ = some v ∧ w1.frozen? ⟨go, i, none⟩ = false ∧ base ≤ go ∧ go < w1.heap.size := by
  have hi := (List.getElem?_eq_some_iff.1 hv).1
  have hO1 : Own w1 base 23 V vs := h.O.keep fun g hgV => hg.block g (h.O.block g hgV).2 fun e => (h.block hv e.symm).2.2 hgV
  obtain ⟨g1, cap1, e, h1, h2, h3, h4, _⟩ := hO1.row (by omega)
  rw [hV] at e
  simp only [Value.slice.injEq, Option.some.injEq, Addr.mk.injEq, and_true] at e
  obtain ⟨rfl, _, _⟩ := e
  exact ⟨h3 i v hv, h4 i, h1, h2⟩
end Go.Proofs.YtlbhmoiicbhgkaaDoor
end

section
namespace Go.Rg
/-- what is known of what an operation left: the very value; or a property that later worlds keep. -/
inductive Know
  | is (v : Value)
  | of (r : World → Value → Prop)
  | till (r : World → Value → Prop)
/-- 'pre': the one operation that turns memory has not come up yet. -/
def Know.holds (pre : Bool) : Know → World → Value → Prop
  | .is v, _, u => u = v
  | .of r, w, u => r w u
  | .till r, w, u => pre = true → r w u
/-- the newest lies first. -/
def look (Rs : List Know) (i : Nat) : Know := if i < Rs.length then Rs.getD (Rs.length - 1 - i) (.of fun _ _ => True) else .of fun _ _ => True
theorem look_cons (Rs : List Know) (k : Know) (i : Nat) (h : i < Rs.length) : look (k :: Rs) i = look Rs i := by
  unfold look
  rw [if_pos (by simp; omega), if_pos h]
  have : (k :: Rs).length - 1 - i = (Rs.length - 1 - i) + 1 := by simp; omega
  rw [this]; rfl
theorem look_new (Rs : List Know) (k : Know) : look (k :: Rs) Rs.length = k := by
  unfold look
  rw [if_pos (by simp)]
  simp
def predsOf (o : Oper) : List Nat := ((o.after.toList.filter fun e => Region.binds .any e).map (·.on)).eraseDups
theorem mem_preds {o : Oper} {i : Nat} : i ∈ predsOf o ↔ ∃ e ∈ o.after, Region.binds .any e = true ∧ e.on = i := by
  unfold predsOf
  rw [List.mem_eraseDups, List.mem_map]
  constructor
  · rintro ⟨e, he, rfl⟩
    rw [List.mem_filter] at he
    exact ⟨e, Array.mem_toList_iff.1 he.1, he.2, rfl⟩
  · rintro ⟨e, he, hb, rfl⟩
    exact ⟨e, List.mem_filter.2 ⟨Array.mem_toList_iff.2 he, hb⟩, rfl⟩
/-- l: some of those that o waits for, with all whose values it reads. -/
def fits (ds : List (Option Tmp)) (o : Oper) (l : List Nat) : Bool :=
  l.all (predsOf o).contains && (predsOf o).all fun i => l.contains i || match ds.getD i none with | some d => !(o.op.operands.any fun x => match x with | .tmp t => t == d | _ => false) | none => true
theorem fits_spec {ds : List (Option Tmp)} {o : Oper} {l : List Nat} (h : fits ds o l = true) : (∀ i ∈ l, i ∈ predsOf o) ∧ ∀ i ∈ predsOf o, ∀ d, ds.getD i none = some d → Operand.tmp d ∈ o.op.operands → i ∈ l := by
  simp only [fits, Bool.and_eq_true, List.all_eq_true, Bool.or_eq_true, List.contains_iff_mem] at h
  refine ⟨h.1, fun i hi d hd ho => ?_⟩
  rcases h.2 i hi with h | h
  · exact h
  · rw [hd] at h
    simp only [Bool.not_eq_true'] at h
    have : (o.op.operands.any fun x => match x with | .tmp t => t == d | _ => false) = true := Array.any_eq_true'.2 ⟨_, ho, by simp⟩
    rw [h] at this; cases this
def boolOf : Value → Option Bool
  | .bool b => some b
  | _ => none
def says (lk : Nat → Know) (o : Oper) : Option Bool :=
  match o.guard with
  | none => some true
  | some (g, want) => match lk g with
    | .is v => some (boolOf v == some want)
    | _ => none
def last (a : Act) : Option Tmp → Value
  | some d => (a.tmps[d]?).getD undef
  | none => undef
def from_ (ds : List (Option Tmp)) (lk : Nat → Know) (pre : Bool) (w : World) : List Nat → Act → (Act → Prop) → Prop
  | [], a, G => G a
  | i :: l, a, G => match lk i with
    | .is v => from_ ds lk pre w l (a.put (ds.getD i none) v) G
    | .of r => ∀ v, r w v → from_ ds lk pre w l (a.put (ds.getD i none) v) G
    | .till r => ∀ v, (pre = true → r w v) → from_ ds lk pre w l (a.put (ds.getD i none) v) G
def putAll (ds : List (Option Tmp)) (f : Nat → Value) : List Nat → Act → Act
  | [], a => a
  | i :: l, a => putAll ds f l (a.put (ds.getD i none) (f i))
section
variable {ds : List (Option Tmp)} {lk : Nat → Know} {pre : Bool} {w : World} {f : Nat → Value} {G : Act → Prop}
theorem from_congr {lk' : Nat → Know} : ∀ {l : List Nat} {a : Act}, (∀ i ∈ l, lk i = lk' i) → from_ ds lk pre w l a G → from_ ds lk' pre w l a G
  | [], _, _, h => h
  | i :: l, a, he, h => by
    have h1 := he i (List.mem_cons_self ..)
    have h2 := fun j hj => he j (List.mem_cons_of_mem _ hj)
    unfold from_ at h ⊢
    rw [← h1]
    cases hk : lk i with
    | is v => rw [hk] at h; exact from_congr h2 h
    | of r => rw [hk] at h; exact fun v hv => from_congr h2 (h v hv)
    | till r => rw [hk] at h; exact fun v hv => from_congr h2 (h v hv)
theorem from_at : ∀ {l : List Nat} {a : Act}, from_ ds lk pre w l a G → (∀ i ∈ l, (lk i).holds pre w (f i)) → G (putAll ds f l a)
  | [], _, h, _ => h
  | i :: l, a, h, hf => by
    have h1 := hf i (List.mem_cons_self ..)
    have h2 := fun j hj => hf j (List.mem_cons_of_mem _ hj)
    unfold from_ at h
    unfold putAll
    cases hk : lk i with
    | is v =>
      rw [hk] at h h1
      simp only [Know.holds] at h1
      rw [h1]
      exact from_at h h2
    | of r =>
      rw [hk] at h h1
      exact from_at (h _ h1) h2
    | till r =>
      rw [hk] at h h1
      exact from_at (h _ h1) h2
theorem from_mono {G' : Act → Prop} (hg : ∀ a, G a → G' a) : ∀ {l : List Nat} {a : Act}, from_ ds lk pre w l a G → from_ ds lk pre w l a G'
  | [], _, h => hg _ h
  | i :: l, a, h => by
    unfold from_ at h ⊢
    cases hk : lk i with
    | is v => rw [hk] at h; exact from_mono hg h
    | of r => rw [hk] at h; exact fun v hv => from_mono hg (h v hv)
    | till r => rw [hk] at h; exact fun v hv => from_mono hg (h v hv)
theorem put_size (a : Act) (d : Option Tmp) (v : Value) : (a.put d v).tmps.size = a.tmps.size := by cases d <;> simp [Act.put]
theorem put_defers' (a : Act) (d : Option Tmp) (v : Value) : (a.put d v).defers = a.defers := by cases d <;> simp [Act.put]
theorem put_at_ne (a : Act) {d : Option Tmp} (v : Value) {t : Tmp} (h : d ≠ some t) : (a.put d v).tmps[t]? = a.tmps[t]? := by
  cases d with
  | none => rfl
  | some d => exact Array.getElem?_setIfInBounds_ne fun e => h (congrArg _ e)
theorem put_at_same (a : Act) (v : Value) {t : Tmp} (h : t < a.tmps.size) : (a.put (some t) v).tmps[t]? = some v := by
  simp [Act.put, h]
theorem putAll_size : ∀ (l : List Nat) (a : Act), (putAll ds f l a).tmps.size = a.tmps.size
  | [], _ => rfl
  | _ :: l, _ => (putAll_size l _).trans (put_size ..)
theorem putAll_defers : ∀ (l : List Nat) (a : Act), (putAll ds f l a).defers = a.defers
  | [], _ => rfl
  | _ :: l, _ => (putAll_defers l _).trans (put_defers' ..)
theorem putAll_ne {t : Tmp} : ∀ (l : List Nat) (a : Act), (∀ i ∈ l, ds.getD i none ≠ some t) → (putAll ds f l a).tmps[t]? = a.tmps[t]?
  | [], _, _ => rfl
  | i :: l, a, h => (putAll_ne l _ fun j hj => h j (List.mem_cons_of_mem _ hj)).trans (put_at_ne a _ (h i (List.mem_cons_self ..)))
theorem putAll_at {t : Tmp} {i : Nat} : ∀ (l : List Nat) (a : Act), t < a.tmps.size → i ∈ l → ds.getD i none = some t → (∀ j ∈ l, ds.getD j none = some t → j = i) → (putAll ds f l a).tmps[t]? = some (f i)
  | [], _, _, h, _, _ => by cases h
  | j :: l, a, hs, hi, hd, hu => by
    by_cases hin : i ∈ l
    · exact putAll_at l _ (by rw [put_size]; exact hs) hin hd fun k hk => hu k (List.mem_cons_of_mem _ hk)
    · obtain rfl : i = j := by
        rcases List.mem_cons.1 hi with h | h
        · exact h
        · exact absurd h hin
      refine (putAll_ne l _ fun k hk he => hin ?_).trans ?_
      · obtain rfl := hu k (List.mem_cons_of_mem _ hk) he
        exact hk
      · rw [hd]; exact put_at_same _ _ hs
end
/-- what the region's operations do to memory, and what stays: 'K': all but one; 'M': that one, number 's'; 'B': stays throughout; 'B1': till that one comes up. -/
structure Way where
  K : World → World → Prop
  M : World → World → Prop
  B : World → Prop
  B1 : World → Prop
  s : Nat
structure Way.Fair (Y : Way) : Prop where
  bk : ∀ w w', Y.B w → Y.K w w' → Y.B w'
  bm : ∀ w w', Y.B w → Y.M w w' → Y.B w'
  b1 : ∀ w w', Y.B1 w → Y.K w w' → Y.B1 w'
def Know.stays (Y : Way) (j : Nat) : Know → Prop
  | .is _ => True
  | .of r => (∀ w w' v, Y.K w w' → r w v → r w' v) ∧ (j ≠ Y.s → ∀ w w' v, Y.M w w' → r w v → r w' v)
  | .till r => j ≠ Y.s ∧ ∀ w w' v, Y.K w w' → r w v → r w' v
section
variable (P : Program) (Y : Way) (ds : List (Option Tmp)) (a0 : Act) (Q : Act → World → Prop)
def opGoal (lk : Nat → Know) (j : Nat) (o : Oper) (l : List Nat) (k : Know) : Prop :=
  ∀ w, Y.B w → (j = Y.s → Y.B1 w) → from_ ds lk (j == Y.s) w l a0 fun a => ∀ T : Exit → Act → World → Prop,
    (∀ a' w', a'.defers = a.defers → (if j = Y.s then Y.M w w' else Y.K w w') → k.holds true w' (last a' o.dst) → T .normal a' w') → wpList P #[] T [{ o with guard := none }] a w
def Good (lk : Nat → Know) (j : Nat) (o : Oper) (k : Know) : Prop :=
  k.stays Y j ∧ ((says lk o = some true ∧ ∃ l, fits ds o l = true ∧ opGoal P Y ds a0 lk j o l k) ∨ (says lk o = some false ∧ k = .is undef))
/-- all that are left, in the text's order. -/
def walk : List Oper → List Know → Prop
  | [], Rs => ∀ w, Y.B w → from_ ds (look Rs) (decide (Rs.length ≤ Y.s)) w (List.range Rs.length) a0 fun a => Q a w
  | o :: rest, Rs => ∃ k : Know, Good P Y ds a0 (look Rs) Rs.length o k ∧ walk rest (k :: Rs)
end
/-- what is looked at once, closed. -/
def sane (ops : Array Oper) (ds : List (Option Tmp)) (size n : Nat) : Bool :=
  Region.noSelect ops && ds.length == ops.size &&
  (List.range ops.size).all fun j => match ops[j]? with
    | none => true
    | some o =>
      ds.getD j none == o.dst && (predsOf o).all (· < j) && (match o.dst with | some d => decide (d < size) | none => true) &&
      (match o.guard with | none => true | some (g, _) => (predsOf o).contains g && (ds.getD g none).isSome) &&
      (List.range n).all fun i => decide (n ≤ j) || match ds.getD i none with
        | none => true
        | some d => (i == j || o.dst != some d) && (!(o.looksAt ops).contains d || (predsOf o).contains i)
/-- from number n on each waits, at last, for all ahead of it. -/
def closes (ops : Array Oper) (n : Nat) : Bool :=
  (List.range ops.size).all fun j => decide (j < n) || match ops[j]? with
    | none => true
    | some o => o.guard.isNone && (List.range j).all fun i => (List.range (j + 1)).any fun i' => decide (i < i') && match ops[i']? with
      | none => false
      | some o' => (predsOf o').contains i
section
variable {P : Program} {Y : Way} {ds : List (Option Tmp)} {a0 : Act} {Q : Act → World → Prop} {ops : Array Oper}
structure Sane (ops : Array Oper) (ds : List (Option Tmp)) (size n : Nat) : Prop where
  nosel : ∀ (j : Nat) (o : Oper) cs b, ops[j]? = some o → o.op ≠ .select cs b
  len : ds.length = ops.size
  dst : ∀ {j : Nat} {o : Oper}, ops[j]? = some o → ds.getD j none = o.dst
  before : ∀ {j : Nat} {o : Oper}, ops[j]? = some o → ∀ i ∈ predsOf o, i < j
  small : ∀ {j : Nat} {o : Oper}, ops[j]? = some o → ∀ d, o.dst = some d → d < size
  guard : ∀ {j : Nat} {o : Oper}, ops[j]? = some o → ∀ g b, o.guard = some (g, b) → g ∈ predsOf o ∧ (ds.getD g none).isSome
  one : ∀ {j : Nat} {o : Oper}, ops[j]? = some o → j < n → ∀ i d, i < n → ds.getD i none = some d → o.dst = some d → i = j
  looks : ∀ {j : Nat} {o : Oper}, ops[j]? = some o → j < n → ∀ i d, i < n → ds.getD i none = some d → d ∈ o.looksAt ops → i ∈ predsOf o
theorem sane_spec {size n : Nat} (h : sane ops ds size n = true) : Sane ops ds size n := by
  simp only [sane, Bool.and_eq_true, List.all_eq_true, List.mem_range, beq_iff_eq] at h
  obtain ⟨⟨h1, h2⟩, h3⟩ := h
  have key := fun (j : Nat) (o : Oper) (hj : ops[j]? = some o) => by
    have := h3 j (Array.getElem?_eq_some_iff.1 hj).1
    simp only [hj, Bool.and_eq_true, beq_iff_eq, List.all_eq_true, decide_eq_true_eq, List.mem_range, Bool.or_eq_true] at this
    exact this
  refine ⟨Region.noSelect_spec h1, h2, fun hj => (key _ _ hj).1.1.1.1, fun hj => (key _ _ hj).1.1.1.2, fun hj d hd => ?_, fun hj g b hg => ?_, fun hj hjn i d hi hd ho => ?_, fun hj hjn i d hi hd ho => ?_⟩
  · have := (key _ _ hj).1.1.2; rw [hd] at this; simpa using this
  · have := (key _ _ hj).1.2; rw [hg] at this; simpa using this
  · have := ((key _ _ hj).2 i hi).resolve_left (by omega); rw [hd] at this; simp only [Bool.and_eq_true, Bool.or_eq_true, beq_iff_eq, bne_iff_ne, ne_eq] at this
    rcases this.1 with h | h
    · exact h
    · exact absurd ho h
  · have := ((key _ _ hj).2 i hi).resolve_left (by omega); rw [hd] at this
    simp only [Bool.and_eq_true, Bool.or_eq_true, Bool.not_eq_true', List.contains_iff_mem] at this
    rcases this.2 with h | h
    · exact absurd (List.contains_iff_mem.2 ho) (by rw [h]; simp)
    · exact h
theorem closes_spec {n : Nat} (h : closes ops n = true) : ∀ j o, n ≤ j → ops[j]? = some o → o.guard = none ∧ ∀ i, i < j → ∃ i' o', i < i' ∧ i' ≤ j ∧ ops[i']? = some o' ∧ i ∈ predsOf o' := by
  intro j o hj ho
  simp only [closes, List.all_eq_true, List.mem_range, Bool.or_eq_true, decide_eq_true_eq] at h
  have h1 := (h j (Array.getElem?_eq_some_iff.1 ho).1).resolve_left (by omega)
  simp only [ho, Bool.and_eq_true, List.all_eq_true, List.mem_range, List.any_eq_true, decide_eq_true_eq] at h1
  refine ⟨by simpa using h1.1, fun i hi => ?_⟩
  obtain ⟨i', h2, h3, h4⟩ := h1.2 i hi
  cases h5 : ops[i']? with
  | none => rw [h5] at h4; simp at h4
  | some o' =>
    rw [h5] at h4
    exact ⟨i', o', h3, by omega, h5, List.contains_iff_mem.1 h4⟩
theorem good_congr {lk lk' : Nat → Know} {j : Nat} {o : Oper} {k : Know} (hp : ∀ i ∈ predsOf o, lk i = lk' i) (hg : ∀ g b, o.guard = some (g, b) → g ∈ predsOf o) (h : Good P Y ds a0 lk j o k) : Good P Y ds a0 lk' j o k := by
  have hs : says lk o = says lk' o := by
    unfold says
    cases hgu : o.guard with
    | none => rfl
    | some gb => obtain ⟨g, b⟩ := gb; simp only [hp g (hg g b hgu)]
  refine ⟨h.1, ?_⟩
  rcases h.2 with ⟨h1, l, hl, h2⟩ | ⟨h1, h2⟩
  · exact .inl ⟨hs ▸ h1, _, hl, fun w hw hw1 => from_congr (fun i hi => hp i ((fits_spec hl).1 i hi)) (h2 w hw hw1)⟩
  · exact .inr ⟨hs ▸ h1, h2⟩
theorem extract : ∀ (rest : List Oper) (Rs : List Know), (∀ j o, rest[j]? = some o → (∀ i ∈ predsOf o, i < Rs.length + j) ∧ ∀ g b, o.guard = some (g, b) → g ∈ predsOf o) → walk P Y ds a0 Q rest Rs →
    ∃ F : Nat → Know, (∀ i, i < Rs.length → F i = look Rs i) ∧ (∀ j o, rest[j]? = some o → Good P Y ds a0 F (Rs.length + j) o (F (Rs.length + j))) ∧ ∀ w, Y.B w → from_ ds F (decide (Rs.length + rest.length ≤ Y.s)) w (List.range (Rs.length + rest.length)) a0 fun a => Q a w
  | [], Rs, _, h => ⟨look Rs, fun _ _ => rfl, fun j o h => by simp at h, h⟩
  | o :: rest, Rs, hb, ⟨k, hg, h⟩ => by
    obtain ⟨F, h1, h2, h3⟩ := extract rest (k :: Rs) (fun j o' ho => by
      have := hb (j + 1) o' (by simpa using ho)
      exact ⟨fun i hi => by have := this.1 i hi; simp; omega, this.2⟩) h
    have hF : ∀ i, i < Rs.length → F i = look Rs i := fun i hi => (h1 i (by simp; omega)).trans (look_cons _ _ _ hi)
    refine ⟨F, hF, fun j o' ho => ?_, ?_⟩
    · cases j with
      | zero =>
        simp only [List.getElem?_cons_zero, Option.some.injEq] at ho
        subst ho
        have hbo := hb 0 o rfl
        rw [Nat.add_zero, h1 Rs.length (by simp), look_new]
        exact good_congr (fun i hi => (hF i (by have := hbo.1 i hi; omega)).symm) hbo.2 hg
      | succ j =>
        have := h2 j o' (by simpa using ho)
        have e : (k :: Rs).length + j = Rs.length + (j + 1) := by simp; omega
        rwa [e] at this
    · have e : (k :: Rs).length + rest.length = Rs.length + (o :: rest).length := by simp; omega
      rwa [e] at h3
structure Inv (n : Nat) (ops : Array Oper) (ds : List (Option Tmp)) (Y : Way) (a0 : Act) (F : Nat → Know) (listed : Array Bool) (a : Act) (w : World) : Prop where
  base : Y.B w
  base1 : listed.getD Y.s false = false → Y.B1 w
  defers : a.defers = a0.defers
  size : a.tmps.size = a0.tmps.size
  unlisted : ∀ j, n ≤ j → listed.getD j false = false
  down : ∀ j o, ops[j]? = some o → listed.getD j false = true → ∀ i ∈ predsOf o, listed.getD i false = true
  other : ∀ t, (∀ i, i < n → ds.getD i none = some t → listed.getD i false = false) → a.tmps[t]? = a0.tmps[t]?
  some_ : ∃ f : Nat → Value, ∀ i, i < n → listed.getD i false = true → (F i).holds (!listed.getD Y.s false) w (f i) ∧ ∀ d, ds.getD i none = some d → a.tmps[d]? = some (f i)
theorem count_lt (l : List Nat) (p q : Nat → Bool) (i : Nat) (hi : i ∈ l) (hp : p i = true) (hq : q i = false) (hle : ∀ j, q j = true → p j = true) : l.countP q < l.countP p := by
  induction l with
  | nil => cases hi
  | cons a l ih =>
    have hmono : l.countP q ≤ l.countP p := List.countP_mono_left fun j _ h => hle j h
    rw [List.countP_cons, List.countP_cons]
    rcases List.mem_cons.1 hi with rfl | hi
    · rw [hp, hq]; simp; omega
    · have := ih hi
      cases hqa : q a with
      | false => simp; split <;> omega
      | true => rw [hle a hqa]; simp; omega
theorem getD_set_same {listed : Array Bool} {j : Nat} {b : Bool} (h : j < listed.size) : (listed.setIfInBounds j true).getD j b = true := by simp [h]
/-- the tail: one behind the other. -/
theorem wp_tail {Q' : Exit → Act → World → Prop} {n : Nat} (S : Sane ops ds a0.tmps.size n) (hL : ∀ j o, n ≤ j → ops[j]? = some o → o.guard = none ∧ ∀ i, i < j → ∃ i' o', i < i' ∧ i' ≤ j ∧ ops[i']? = some o' ∧ i ∈ predsOf o') :
    ∀ (tail : List Oper) (m fuel : Nat) (listed : Array Bool) (a : Act) (w : World), n ≤ m → m + tail.length = ops.size → (∀ i, tail[i]? = ops[m + i]?) → tail.length ≤ fuel → (∀ i, i < ops.size → listed.getD i false = decide (i < m)) → listed.size = ops.size →
      wpList P #[] Q' (tail.map fun o => { o with guard := none }) a w → wpAny P .any ops Q' fuel listed a w
  | [], m, fuel, listed, a, w, hm, hlen, ht, hf, hl, hls, h => by
    refine wpAny_done ?_ h fuel
    rw [List.eq_nil_iff_forall_not_mem]
    intro i hi
    obtain ⟨h0, oi, hoi, _⟩ := mem_ready.1 hi
    have his := (Array.getElem?_eq_some_iff.1 hoi).1
    have h2 := hl i his
    simp only [List.length_nil] at hlen
    have h3 : i < listed.size := by omega
    have h4 : i < m := by omega
    simp [h3] at h0 h2
    rw [h0] at h2; simp [h4] at h2
  | o :: tail, m, fuel, listed, a, w, hm, hlen, ht, hf, hl, hls, h => by
    simp only [List.length_cons] at hlen hf
    have ho : ops[m]? = some o := by simpa using (ht 0).symm
    have hms : m < ops.size := by omega
    obtain ⟨fuel, rfl⟩ : ∃ k, fuel = k + 1 := ⟨fuel - 1, by omega⟩
    have hlm : ∀ i, i < m → listed.getD i false = true := fun i hi => by rw [hl i (by omega)]; simpa using hi
    have hready : m ∈ Region.ready .any ops listed := mem_ready.2 ⟨by
      have := hl m hms
      have h3 : m < listed.size := by omega
      simp [h3] at this ⊢; exact this, o, ho, fun e he hb => hlm _ (S.before ho _ (mem_preds.2 ⟨e, he, hb, rfl⟩))⟩
    refine ⟨fun h0 => absurd hready (by rw [h0]; simp), fun j hj => ?_⟩
    obtain ⟨hun, oj, hoj, hall⟩ := mem_ready.1 hj
    have hjs := (Array.getElem?_eq_some_iff.1 hoj).1
    have hjm : j = m := by
      have h2 := hl j hjs
      have h3 : j < listed.size := by omega
      have hge : m ≤ j := by
        rcases Nat.lt_or_ge j m with h4 | h4
        · have h5 := hlm j h4
          simp [h3] at hun h5; rw [hun] at h5; cases h5
        · exact h4
      rcases Nat.lt_or_ge m j with h4 | h4
      · -- m < j ready: then all ahead of it are listed: m too
        exfalso
        -- the successor of j - 1 ..: it is j itself, as i' in (j-1, j]
        have key : ∀ i, m ≤ i → i < j → False ∨ listed.getD i false = true := by
          intro i hi hij
          obtain ⟨i', o', h5, h6, h7, h8⟩ := (hL j oj (by omega) hoj).2 (j - 1) (by omega)
          obtain rfl : i' = j := by omega
          rw [hoj] at h7
          obtain rfl := Option.some.inj h7
          obtain ⟨e, he, hb, heq⟩ := mem_preds.1 h8
          have h9 := hall e he hb
          rw [heq, hl _ (by omega)] at h9
          simp at h9; omega
        rcases key m (Nat.le_refl _) h4 with h5 | h5
        · exact h5
        · rw [hl m hms] at h5; simp at h5
      · omega
    subst hjm
    rw [ho] at hoj
    obtain rfl := Option.some.inj hoj
    have hg := (hL j o hm ho).1
    unfold wpOp
    simp only [ho]
    have hw : Region.wanted o (yielded ops a.tmps) = true := by unfold Region.wanted; rw [hg]
    rw [if_pos hw]
    simp only [List.map_cons, wpList, Region.wanted, if_true] at h
    rcases h with h | h
    · refine .inl (Oper.wp_mono (fun a' w' h' => ?_) h)
      refine wp_tail S hL tail (j + 1) fuel _ a' w' (by omega) (by omega) (fun i => by have := ht (i + 1); simpa [Nat.add_assoc, Nat.add_comm 1 i] using this) (by omega) (fun i hi => ?_) (by simp [hls]) h'
      by_cases hij : j = i
      · subst hij
        rw [getD_set_same (by omega)]; simp
      · rw [getD_set_ne false hij, hl i hi]
        by_cases h1 : i < j
        · simp [h1]; omega
        · simp [h1]; omega
    · exact .inr h
theorem wp_any {F : Nat → Know} {n : Nat} {Q' : Exit → Act → World → Prop} (S : Sane ops ds a0.tmps.size n) (HY : Y.Fair) (hn : n ≤ ops.size)
    (hG : ∀ j o, j < n → ops[j]? = some o → Good P Y ds a0 F j o (F j))
    (hL : ∀ j o, n ≤ j → ops[j]? = some o → o.guard = none ∧ ∀ i, i < j → ∃ i' o', i < i' ∧ i' ≤ j ∧ ops[i']? = some o' ∧ i ∈ predsOf o')
    (hQ : ∀ w, Y.B w → from_ ds F (decide (n ≤ Y.s)) w (List.range n) a0 fun a => Q a w) 
    (tail : List Oper) (htl : n + tail.length = ops.size) (ht : ∀ i, tail[i]? = ops[n + i]?) (hQ' : ∀ a w, Q a w → wpList P #[] Q' (tail.map fun o => { o with guard := none }) a w) :
    ∀ (fuel : Nat) (listed : Array Bool) (a : Act) (w : World), listed.size = ops.size → (List.range ops.size).countP (fun i => !listed.getD i true) ≤ fuel → Inv n ops ds Y a0 F listed a w → wpAny P .any ops Q' fuel listed a w := by
  have full : ∀ (listed : Array Bool) (a : Act) (w : World), Inv n ops ds Y a0 F listed a w → (∀ i, i < n → listed.getD i false = true) → Q a w := by
    intro listed a w I all
    obtain ⟨f, hf⟩ := I.some_
    have hpre : (!listed.getD Y.s false) = decide (n ≤ Y.s) := by
      rcases Nat.lt_or_ge Y.s n with h | h
      · rw [all _ h]; simp; omega
      · rw [I.unlisted _ h]; simp; omega
    have h := from_at (f := f) (hQ w I.base) fun i hi => by
      have := (hf i (List.mem_range.1 hi) (all _ (List.mem_range.1 hi))).1
      rwa [hpre] at this
    have hea : putAll ds f (List.range n) a0 = a := by
      have ht : (putAll ds f (List.range n) a0).tmps = a.tmps := by
        apply Array.ext_getElem?
        intro t
        by_cases hex : ∃ i, i < n ∧ ds.getD i none = some t
        · obtain ⟨i, hi, hd⟩ := hex
          have ho : ops[i]? = some (ops[i]'(by omega)) := Array.getElem?_eq_getElem (by omega)
          have hod := S.dst ho
          rw [((hf i hi (all _ hi)).2 t hd)]
          refine putAll_at _ _ (S.small ho t (hod ▸ hd)) (List.mem_range.2 hi) hd fun j hj hdj => S.one ho hi j t (by have := List.mem_range.1 hj; omega) hdj (hod ▸ hd)
        · rw [putAll_ne _ _ fun i hi hd => hex ⟨i, List.mem_range.1 hi, hd⟩, I.other t fun i hi hd => absurd ⟨i, hi, hd⟩ hex]
      have hd := (putAll_defers (ds := ds) (f := f) (List.range n) a0).trans I.defers.symm
      generalize putAll ds f (List.range n) a0 = b at *
      cases a; cases b
      simp only at ht hd
      rw [ht, hd]
    rw [← hea]
    exact h
  -- all of the first n are listed: the tail
  have toTail : ∀ (fuel : Nat) (listed : Array Bool) (a : Act) (w : World), listed.size = ops.size → (List.range ops.size).countP (fun i => !listed.getD i true) ≤ fuel → Inv n ops ds Y a0 F listed a w → (∀ i, i < n → listed.getD i false = true) → wpAny P .any ops Q' fuel listed a w := by
    intro fuel listed a w hls hc I all
    have hl : ∀ i, i < ops.size → listed.getD i false = decide (i < n) := fun i hi => by
      rcases Nat.lt_or_ge i n with h | h
      · rw [all i h]; simp [h]
      · rw [I.unlisted i h]; simp; omega
    refine wp_tail S hL tail n fuel listed a w (Nat.le_refl _) htl ht ?_ hl hls (hQ' a w (full listed a w I all))
    -- as many are left as the tail is long
    have hcount : ∀ k, k ≤ ops.size → (List.range k).countP (fun i => !listed.getD i true) = k - n := by
      intro k
      induction k with
      | zero => intro _; simp
      | succ k ih =>
        intro hk
        rw [List.range_succ, List.countP_append, ih (by omega)]
        have h1 := hl k (by omega)
        have h2 : k < listed.size := by omega
        simp [h2] at h1
        rcases Nat.lt_or_ge k n with h | h
        · simp [h2, h1, h]; omega
        · have : ¬ k < n := by omega
          simp [h2, h1, this]; omega
    have := hcount ops.size (Nat.le_refl _)
    omega
  have stuck : ∀ (listed : Array Bool) (a : Act) (w : World), listed.size = ops.size → Inv n ops ds Y a0 F listed a w → Region.ready .any ops listed = [] → ∀ m j, j < m → j < ops.size → listed.getD j false = true := by
    intro listed a w hls I hr m
    induction m with
    | zero => intro j hj; omega
    | succ m ih =>
      intro j hj hjs
      have ho : ops[j]? = some ops[j] := Array.getElem?_eq_getElem hjs
      cases hl : listed.getD j true with
      | true =>
        have : j < listed.size := by omega
        simp [this] at hl ⊢; exact hl
      | false =>
        have : j ∈ Region.ready .any ops listed := mem_ready.2 ⟨hl, _, ho, fun e he hb => by
          have hlt := S.before ho e.on (mem_preds.2 ⟨e, he, hb, rfl⟩)
          exact ih e.on (by omega) (by omega)⟩
        rw [hr] at this; cases this
  intro fuel
  induction fuel with
  | zero =>
    intro listed a w hls hc I
    have hr : Region.ready .any ops listed = [] := by
      rw [List.eq_nil_iff_forall_not_mem]
      intro j hj
      obtain ⟨h0, o, ho, _⟩ := mem_ready.1 hj
      have := List.countP_eq_zero.1 (Nat.le_zero.1 hc) j (List.mem_range.2 (Array.getElem?_eq_some_iff.1 ho).1)
      rw [h0] at this; simp at this
    have all := stuck listed a w hls I hr
    exact toTail 0 listed a w hls hc I fun i hi => all _ i (Nat.lt_succ_self i) (by omega)
  | succ fuel ih =>
    intro listed a w hls hc I
    by_cases hfull : ∀ i, i < n → listed.getD i false = true
    case pos => exact toTail (fuel + 1) listed a w hls hc I hfull
    case neg =>
    refine ⟨fun hr => absurd (fun i hi => stuck listed a w hls I hr _ i (Nat.lt_succ_self i) (by omega)) hfull, fun j hj => ?_⟩
    obtain ⟨hun, o, ho, hall⟩ := mem_ready.1 hj
    have hjs : j < ops.size := (Array.getElem?_eq_some_iff.1 ho).1
    have hpl : ∀ i ∈ predsOf o, listed.getD i false = true := fun i hi => by
      obtain ⟨e, he, hb, rfl⟩ := mem_preds.1 hi
      exact hall e he hb
    have hjn : j < n := by
      rcases Nat.lt_or_ge j n with h | h
      · exact h
      · exfalso
        -- all ahead of it are listed
        have all : ∀ d i, i < j → j - i ≤ d → listed.getD i false = true := by
          intro d
          induction d with
          | zero => intro i hi hd; omega
          | succ d ihd =>
            intro i hi hd
            obtain ⟨i', o', h1, h2, h3, h4⟩ := (hL j o h ho).2 i hi
            rcases Nat.lt_or_ge i' j with h5 | h5
            · exact I.down i' o' h3 (ihd i' h5 (by omega)) i h4
            · obtain rfl : i' = j := by omega
              rw [ho] at h3
              obtain rfl := Option.some.inj h3
              exact hpl i h4
        exact hfull fun i hi => all _ i (by omega) (Nat.le_refl _)
    have hcount : (List.range ops.size).countP (fun i => !(listed.setIfInBounds j true).getD i true) ≤ fuel := by
      have := count_lt (List.range ops.size) (fun i => !listed.getD i true) (fun i => !(listed.setIfInBounds j true).getD i true) j (List.mem_range.2 hjs) (by rw [hun]; rfl) (by
        have : j < listed.size := by omega
        simp [this]) fun k hk => by
          by_cases hkj : j = k
          · subst hkj
            have : j < listed.size := by omega
            simp [this] at hk
          · rw [getD_set_ne true hkj] at hk; exact hk
      omega
    have hod := S.dst ho
    obtain ⟨f, hf⟩ := I.some_
    have hps : ∀ i ∈ predsOf o, i < n := fun i hi => by have := S.before ho i hi; omega
    have hjl : j < listed.size := by omega
    have hjun : listed.getD j false = false := by simp [hjl] at hun ⊢; exact hun
    have hGj := hG j o hjn ho
    -- whatever it leaves: the next state is one of ours
    have next : ∀ w' a' v, ((if j = Y.s then Y.M w w' else Y.K w w') ∨ w' = w) → (F j).holds true w' v → a' = a.put o.dst v → Inv n ops ds Y a0 F (listed.setIfInBounds j true) a' w' := by
      intro w' a' v hw' hv ha
      subst ha
      refine ⟨?_, fun hs => ?_, (put_defers' ..).trans I.defers, (put_size ..).trans I.size, fun k hk => ?_, fun k ok hok hk i hi => ?_, fun t ht => ?_, fun i => if i = j then v else f i, fun i hi hl => ?_⟩
      · rcases hw' with h | rfl
        · split at h
          · exact HY.bm _ _ I.base h
          · exact HY.bk _ _ I.base h
        · exact I.base
      · have hjs' : j ≠ Y.s := by
          rintro rfl
          rw [getD_set_same hjl] at hs; cases hs
        rw [getD_set_ne false hjs'] at hs
        rcases hw' with h | rfl
        · rw [if_neg hjs'] at h
          exact HY.b1 _ _ (I.base1 hs) h
        · exact I.base1 hs
      · rw [getD_set_ne false (by omega)]; exact I.unlisted k hk
      · by_cases hkj : j = k
        · subst hkj
          rw [ho] at hok
          obtain rfl := Option.some.inj hok
          exact getD_set_true (hpl i hi)
        · rw [getD_set_ne false hkj] at hk
          exact getD_set_true (I.down k ok hok hk i hi)
      · rw [put_at_ne, I.other]
        · intro i hi hd
          have h1 := ht i hi hd
          by_cases hij : j = i
          · subst hij
            rw [getD_set_same hjl] at h1; cases h1
          · rw [getD_set_ne false hij] at h1; exact h1
        · intro hd
          have h1 := ht j hjn (hod.trans hd)
          rw [getD_set_same hjl] at h1; cases h1
      · by_cases hij : i = j
        · subst hij
          simp only [if_true]
          refine ⟨?_, fun d hd => ?_⟩
          · cases hk : F i with
            | is u => rw [hk] at hv; exact hv
            | of r => rw [hk] at hv; exact hv
            | till r => rw [hk] at hv; exact fun _ => hv rfl
          · rw [hod] at hd
            rw [hd]
            exact put_at_same _ _ (by rw [I.size]; exact S.small ho d hd)
        · simp only [if_neg hij]
          rw [getD_set_ne false (Ne.symm hij)] at hl
          have h1 := hf i hi hl
          refine ⟨?_, fun d hd => ?_⟩
          · have hst := (hG i _ hi (Array.getElem?_eq_getElem (by omega))).1
            have h2 := h1.1
            cases hk : F i with
            | is u => rw [hk] at h2; exact h2
            | of r =>
              rw [hk] at h2 hst
              rcases hw' with h | rfl
              · split at h
                · exact hst.2 (by omega) _ _ _ h h2
                · exact hst.1 _ _ _ h h2
              · exact h2
            | till r =>
              rw [hk] at h2 hst
              intro hpre
              have hjs' : j ≠ Y.s := by
                rintro rfl
                rw [getD_set_same hjl] at hpre; cases hpre
              rw [getD_set_ne false hjs'] at hpre
              rcases hw' with h | rfl
              · rw [if_neg hjs'] at h
                exact hst.2 _ _ _ h (h2 hpre)
              · exact h2 hpre
          · rw [put_at_ne, h1.2 d hd]
            intro hd'
            exact hij (S.one ho hjn i d (by omega) hd hd')
    have goOn : ∀ w' a' v, ((if j = Y.s then Y.M w w' else Y.K w w') ∨ w' = w) → (F j).holds true w' v → a' = a.put o.dst v → wpAny P .any ops Q' fuel (listed.setIfInBounds j true) a' w' := fun w' a' v h1 h2 h3 =>
      ih _ _ _ (by simp [hls]) hcount (next w' a' v h1 h2 h3)
    -- what the guard says
    have hwant : ∀ b, says F o = some b → Region.wanted o (yielded ops a.tmps) = b := by
      intro b hb
      unfold says at hb
      unfold Region.wanted
      cases hgu : o.guard with
      | none => simp only [hgu] at hb; simpa using hb
      | some gw =>
        obtain ⟨g, want⟩ := gw
        obtain ⟨hgp, hgd⟩ := S.guard ho g want hgu
        simp only [hgu] at hb ⊢
        obtain ⟨d, hd⟩ := Option.isSome_iff_exists.1 hgd
        have hg1 := hf g (hps g hgp) (hpl g hgp)
        have hgs : g < ops.size := by have := hps g hgp; omega
        have hog : ops[g]? = some (ops[g]'hgs) := Array.getElem?_eq_getElem hgs
        have hgd' := S.dst hog
        cases hkn : F g with
        | of r => rw [hkn] at hb; simp at hb
        | till r => rw [hkn] at hb; simp at hb
        | is v =>
          rw [hkn] at hb hg1
          simp only [Know.holds] at hg1
          have hy : yielded ops a.tmps g = boolOf v := by
            unfold yielded
            rw [hog]
            simp only [Option.bind_some]
            rw [← hgd', hd]
            simp only [Option.bind_some]
            rw [hg1.2 d hd, hg1.1]
            cases v <;> rfl
          rw [hy]
          simpa using hb
    unfold wpOp
    simp only [ho]
    rcases hGj.2 with ⟨hs, l, hl, hop⟩ | ⟨hs, hk⟩
    · obtain ⟨hl1, hl2⟩ := fits_spec hl
      rw [if_pos (hwant _ hs)]
      have hb1 : j = Y.s → Y.B1 w := fun h => I.base1 (h ▸ hjun)
      -- the frame that it is shown in
      have hc := from_at (f := f) (hop w I.base hb1) fun i hi => by
        have h1 := (hf i (hps i (hl1 i hi)) (hpl i (hl1 i hi))).1
        cases hk : F i with
        | is u => rw [hk] at h1; exact h1
        | of r => rw [hk] at h1; exact h1
        | till r =>
          rw [hk] at h1
          intro hpre
          have : j = Y.s := by simpa using hpre
          exact h1 (by rw [← this, hjun]; rfl)
      obtain ⟨c, hcdef⟩ : ∃ c, putAll ds f l a0 = c := ⟨_, rfl⟩
      have hcsize : c.tmps.size = a0.tmps.size := by rw [← hcdef]; exact putAll_size _ _
      have agree : ∀ t, Operand.tmp t ∈ o.op.operands → a.tmps[t]? = c.tmps[t]? := by
        intro t ht
        have htl : t ∈ o.looksAt ops := List.mem_append_left _ (List.mem_filterMap.2 ⟨.tmp t, by simpa using ht, rfl⟩)
        rw [← hcdef]
        by_cases hex : ∃ i, i < n ∧ ds.getD i none = some t
        · obtain ⟨i, hi, hd⟩ := hex
          have hoi : ops[i]? = some (ops[i]'(by omega)) := Array.getElem?_eq_getElem (by omega)
          have hip := S.looks ho hjn i t (by omega) hd htl
          rw [(hf i hi (hpl i hip)).2 t hd]
          exact (putAll_at _ _ (S.small hoi t (S.dst hoi ▸ hd)) (hl2 i hip t hd ht) hd fun k hk hdk => S.one hoi hi k t (by have := hps k (hl1 k hk); omega) hdk (S.dst hoi ▸ hd)).symm
        · rw [putAll_ne _ _ fun i hi hd => hex ⟨i, hps i (hl1 i hi), hd⟩, I.other t fun i hi hd => absurd ⟨i, hi, hd⟩ hex]
      have heval : ∀ x ∈ o.op.operands, a.eval x = c.eval x := by
        intro x hx
        cases x with
        | tmp t =>
          have := agree t hx
          simp only [Act.eval, Array.getD_eq_getD_getElem?]
          rw [this]
        | _ => rfl
      have hexec : execOp a.eval o = execOp c.eval o := execOp_congr o (fun cs b => S.nosel j o cs b ho) heval
      rw [hcdef] at hc
      have hcl := hc (fun e a' w' => e = .normal ∧ a'.defers = c.defers ∧ (if j = Y.s then Y.M w w' else Y.K w w') ∧ (F j).holds true w' (last a' o.dst)) fun a' w' h1 h2 h3 => ⟨rfl, h1, h2, h3⟩
      simp only [wpList, Region.wanted, if_true] at hcl
      rcases hcl with hcl | ⟨_, hout⟩
      · refine .inl ?_
        have hlast : ∀ v, last (c.put o.dst v) o.dst = v ∨ (o.dst = none ∧ last (c.put o.dst v) o.dst = undef) := by
          intro v
          cases hd : o.dst with
          | none => exact .inr ⟨rfl, rfl⟩
          | some d =>
            refine .inl ?_
            change ((c.put (some d) v).tmps[d]?).getD undef = v
            rw [put_at_same _ _ (by rw [hcsize]; exact S.small ho d hd)]
            rfl
        have fin : ∀ v w', (if j = Y.s then Y.M w w' else Y.K w w') → (F j).holds true w' (last (c.put o.dst v) o.dst) → wpAny P .any ops Q' fuel (listed.setIfInBounds j true) (a.put o.dst v) w' := by
          intro v w' h1 h2
          rcases hlast v with h | ⟨hn, h⟩
          · rw [h] at h2
            exact goOn w' _ v (.inl h1) h2 rfl
          · rw [h] at h2
            refine goOn w' _ undef (.inl h1) h2 ?_
            rw [hn]; rfl
        unfold Oper.wp at hcl ⊢
        rw [hexec]
        have hx2 : execOp c.eval { o with guard := none } = execOp c.eval o := rfl
        rw [hx2] at hcl
        generalize (execOp c.eval o).run P w = r at hcl ⊢
        cases r with
        | halt x w' => cases x <;> simp [Oper.upon] at hcl
        | ok n w' =>
          cases n
          case value v => exact fin v w' hcl.2.2.1 hcl.2.2.2
          case skip => exact fin undef w' hcl.2.2.1 hcl.2.2.2
          case defer d =>
            have h1 := hcl.2.1
            rw [put_defers'] at h1
            have := congrArg List.length h1
            simp at this
          case row row args => exact Rows.mono hcl fun v w'' h => fin v w'' h.2.2.1 h.2.2.2
          case enter fn args =>
            refine Calls.mono hcl fun e w'' h => ?_
            cases e with
            | returned v => exact fin v w'' h.2.2.1 h.2.2.2
            | panicked ch => simp at h
            | outgrown => obtain ⟨_, _, h, _⟩ := h; cases h
          all_goals exact hcl.elim
      · obtain ⟨_, _, h, _⟩ := hout
        cases h
    · rw [if_neg (by rw [hwant _ hs]; simp)]
      exact goOn w _ undef (.inr rfl) (by rw [hk]; rfl) rfl
/-- **THE LAW**: at a region that draws its order: the first ones in whatever order, the tail behind them. -/
theorem wp_region {id : Nat} {Q' : Exit → Act → World → Prop} {l tail : List Oper} {a : Act} {w : World} (Y : Way) (ds : List (Option Tmp)) (size : Nat) (hm : P.follows .mixedOrders = true) (hs : sane (l ++ tail).toArray ds size l.length = true) (hc : closes (l ++ tail).toArray l.length = true) (hz : a.tmps.size = size)
    (HY : Y.Fair) (hB : Y.B w.drew) (hB1 : Y.B1 w.drew) (h : walk P Y ds a (fun a w => wpList P #[] Q' (tail.map fun o => { o with guard := none }) a w) l []) : (Code.region id (l ++ tail).toArray true).wp P Q' a w := by
  subst hz
  have S := sane_spec hs
  have hpre : ∀ (j : Nat) (o : Oper), l[j]? = some o → (l ++ tail).toArray[j]? = some o := fun j o hj => by
    have := (List.getElem?_eq_some_iff.1 hj).1
    simpa [List.getElem?_append_left this] using hj
  obtain ⟨F, _, h2, h3⟩ := extract l [] (fun j o hj => ⟨fun i hi => by
    have := S.before (hpre j o hj) i hi
    simpa using this, fun g b hg => (S.guard (hpre j o hj) g b hg).1⟩) h
  have hsz : (l ++ tail).toArray.size = l.length + tail.length := by simp
  refine wp_region_any hm (wp_any (Q := fun a w => wpList P #[] Q' (tail.map fun o => { o with guard := none }) a w) (F := F) (a0 := a) (n := l.length) S HY (by omega) (fun j o hj ho => ?_) (closes_spec hc) (fun w' hw' => ?_) tail hsz.symm (fun i => ?_) (fun _ _ h => h) _ _ _ _ (by simp) ?_ ⟨hB, fun _ => hB1, rfl, rfl, fun j _ => ?_, fun j o _ hl => ?_, fun _ _ => rfl, fun _ => undef, fun i hi hl => ?_⟩)
  · have h4 : l[j]? = some l[j] := List.getElem?_eq_getElem hj
    have h5 := hpre j _ h4
    rw [h5] at ho
    obtain rfl := Option.some.inj ho
    have := h2 j _ h4
    simpa using this
  · have := h3 w' hw'
    simpa using this
  · rw [List.getElem?_toArray, List.getElem?_append_right (by omega), Nat.add_sub_cancel_left]
  · have := List.countP_le_length (p := fun i => !(Array.replicate (l ++ tail).toArray.size false).getD i true) (l := List.range (l ++ tail).toArray.size)
    simpa using this
  · by_cases hj : j < (l ++ tail).toArray.size
    · simp at hj; simp [hj]
    · simp at hj; simp [show ¬ j < l.length + tail.length by omega]
  · by_cases hj : j < (l ++ tail).toArray.size
    · simp at hj; simp [hj] at hl
    · simp at hj; simp [show ¬ j < l.length + tail.length by omega] at hl
  · have : i < l.length + tail.length := by omega
    simp [this] at hl
end
section
variable {P : Program} {Y : Way} {ds : List (Option Tmp)} {a0 : Act} {Q : Act → World → Prop} {Rs : List Know} {rest : List Oper}
section
variable {dst : Option Tmp} {op : Op} {type : TypeId} {pos : String} {after : Array Edge} {guard : Option (Nat × Bool)}
theorem op_is (v : Value) (l : List Nat) (hj : (Rs.length == Y.s) = false) (hs : says (look Rs) ⟨dst, op, type, pos, after, guard⟩ = some true) (hl : fits ds ⟨dst, op, type, pos, after, guard⟩ l = true)
    (h : ∀ w, Y.B w → from_ ds (look Rs) false w l a0 fun a => ∀ T : Exit → Act → World → Prop, (∀ a' w', a'.defers = a.defers → Y.K w w' → last a' dst = v → T .normal a' w') → wpList P #[] T [⟨dst, op, type, pos, #[], none⟩] a w)
    (hr : walk P Y ds a0 Q rest (.is v :: Rs)) : walk P Y ds a0 Q (⟨dst, op, type, pos, after, guard⟩ :: rest) Rs := by
  refine ⟨.is v, ⟨trivial, .inl ⟨hs, l, hl, fun w hw _ => ?_⟩⟩, hr⟩
  have hne : Rs.length ≠ Y.s := by simpa using hj
  simp only [hj, if_neg hne]
  exact h w hw
theorem op_of (r : World → Value → Prop) (l : List Nat) (hj : (Rs.length == Y.s) = false) (hk : ∀ w w' v, Y.K w w' → r w v → r w' v) (hm : ∀ w w' v, Y.M w w' → r w v → r w' v) (hs : says (look Rs) ⟨dst, op, type, pos, after, guard⟩ = some true) (hl : fits ds ⟨dst, op, type, pos, after, guard⟩ l = true)
    (h : ∀ w, Y.B w → from_ ds (look Rs) false w l a0 fun a => ∀ T : Exit → Act → World → Prop, (∀ a' w', a'.defers = a.defers → Y.K w w' → r w' (last a' dst) → T .normal a' w') → wpList P #[] T [⟨dst, op, type, pos, #[], none⟩] a w)
    (hr : walk P Y ds a0 Q rest (.of r :: Rs)) : walk P Y ds a0 Q (⟨dst, op, type, pos, after, guard⟩ :: rest) Rs := by
  refine ⟨.of r, ⟨⟨hk, fun _ => hm⟩, .inl ⟨hs, l, hl, fun w hw _ => ?_⟩⟩, hr⟩
  have hne : Rs.length ≠ Y.s := by simpa using hj
  simp only [hj, if_neg hne]
  exact h w hw
end
theorem from_is {lk : Nat → Know} {pre : Bool} {w : World} {i : Nat} {l : List Nat} {a : Act} {G : Act → Prop} {v : Value} (d : Option Tmp) (hk : lk i = .is v) (hd : ds.getD i none = d) (h : from_ ds lk pre w l (a.put d v) G) : from_ ds lk pre w (i :: l) a G := by
  subst hd
  unfold from_
  rw [hk]
  exact h
theorem from_of {lk : Nat → Know} {pre : Bool} {w : World} {i : Nat} {l : List Nat} {a : Act} {G : Act → Prop} {r : World → Value → Prop} (d : Option Tmp) (hk : lk i = .of r) (hd : ds.getD i none = d) (h : ∀ v, r w v → from_ ds lk pre w l (a.put d v) G) : from_ ds lk pre w (i :: l) a G := by
  subst hd
  unfold from_
  rw [hk]
  exact h
theorem from_nil {lk : Nat → Know} {pre : Bool} {w : World} {a : Act} {G : Act → Prop} (h : G a) : from_ ds lk pre w [] a G := h
theorem walk_nil (l : List Nat) (hl : List.range Rs.length = l) (h : ∀ w, Y.B w → from_ ds (look Rs) (decide (Rs.length ≤ Y.s)) w l a0 fun a => Q a w) : walk P Y ds a0 Q [] Rs := by
  subst hl; exact h
end
/-- memory grows, and what there was stays. -/
def Keep (w w' : World) : Prop := Go.RowKit.Below w.heap.size w w'
theorem Keep.refl (w : World) : Keep w w := Go.RowKit.Below.refl _ w
theorem Keep.trans {a b c : World} (h : Keep a b) (k : Keep b c) : Keep a c := Go.RowKit.Below.trans h (Go.RowKit.Below.mono k h.size)
theorem keep_drew (w : World) : Keep w w.drew := ⟨rfl, rfl, rfl, Nat.le_refl _, fun _ _ => rfl⟩
/-- the plain way: memory grows. -/
def grows (w0 : World) (n : Nat) : Way := ⟨Keep, Keep, Keep w0, fun _ => True, n⟩
theorem grows_fair (w0 : World) (n : Nat) : (grows w0 n).Fair := ⟨fun _ _ h k => h.trans k, fun _ _ h k => h.trans k, fun _ _ _ _ => trivial⟩
end Go.Rg
end
