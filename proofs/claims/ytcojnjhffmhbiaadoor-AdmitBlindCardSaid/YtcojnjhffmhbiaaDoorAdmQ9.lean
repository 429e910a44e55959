/-
  Parts of these texts that the statement needs: RaS.
-/
import Derived.Test.YtcojnjhffmhbiaaDoorAdmQ8
import Derived.Test.YtcojnjhffmhbiaaDoorAdmQ4

section
namespace Go.Proofs.YtcojnjhffmhbiaaDoor
open Go Go.Lin Go.Psi
/-- modulo N ranks are what ranks are. -/
structure FQ (q : Int) (N : Nat) [NeZero N] : Prop where
  eq : q = (N : Int)
  fld : Fld N
  io : InvOf N (iv N)
  it : InvT N (iv N)
theorem fq_of {q : Int} (hv : primeV q = true) (hp : Pr q.toNat) : ∃ (N : Nat) (_ : NeZero N), FQ q N := by
  obtain ⟨h2, hle⟩ := primeV_ge hv
  obtain ⟨N, rfl⟩ := Int.eq_ofNat_of_zero_le (show 0 ≤ q by omega)
  have hN : NeZero N := ⟨by omega⟩
  rw [Int.toNat_natCast] at hp
  have hok := okm_of (show 0 < (N : Int) by omega) hle
  refine ⟨N, hN, rfl, fld_of hp, inv_of hok h2, fun x hx => ?_⟩
  obtain ⟨y, hy⟩ := (fld_of hp).inv _ hx
  have h1 : tf N ((y.val : Int) * x) = tf N 1 := by
    rw [tf_mul, tf_self, tf_one]
    grind
  have h3 : InvIs x N y.val := by
    refine ⟨by omega, by have := y.isLt; omega, ((y.val : Int) * x - 1) / N, ?_⟩
    have h4 := tf_eq.1 h1
    have h5 := Int.emod_emod_of_dvd (y.val * x - 1) (Int.dvd_refl (N : Int))
    have h6 : ((y.val : Int) * x - 1) % N = 0 := by rw [Int.sub_emod, h4, Int.sub_self, Int.zero_emod]
    have h7 := Int.mul_ediv_add_emod ((y.val : Int) * x - 1) N
    rw [h6] at h7
    omega
  show tf N x * tf N (iVal x N) = 1
  rw [iVal_is hok h3, tf_self]
  exact hy
section
variable {q : Int} {N : Nat} [h0 : NeZero N]
theorem FQ.rk (h : FQ q N) (hv : primeV q = true) (f : List (List Int)) : Rk (f.map (vec N)) (rankV f q) := by
  unfold rankV
  rw [if_pos hv]
  obtain ⟨rfl, _, h1, h2⟩ := h
  exact rank_rk h1 h2 f
theorem FQ.hangs (h : FQ q N) (hv : primeV q = true) (f : List (List Int)) (row : List Int) : hangsV f row q = true ↔ Sp (f.map (vec N)) (vec N row) := by
  unfold hangsV
  rw [hv, Bool.true_and]
  obtain ⟨rfl, _, h1, h2⟩ := h
  exact hangs_iff h1 h2 f row
theorem FQ.wide (h : FQ q N) (hv : primeV q = true) (f : List (List Int)) : rankV f q ≤ wideL f := by
  unfold rankV
  rw [if_pos hv]
  obtain ⟨rfl, _, h1, h2⟩ := h
  exact good_len (space_come h1 h2 (wideL_le f)).good
end
theorem rank_prime {q : Int} (hv : primeV q = true) (hp : Pr q.toNat) : rankV [[1]] q = 1 := by
  obtain ⟨N, hN, h⟩ := fq_of hv hp
  have h1 : Rk ([[1]].map (vec N)) 1 := by
    refine Rk.nil.more h.fld fun hs => ?_
    have := hs.nil 0
    unfold vec at this
    rw [show nth [1] 0 = 1 from rfl, tf_one] at this
    exact h.fld.one this
  exact (h.rk hv [[1]]).unique h.fld h1
/-- a row more. -/
theorem rank_more {q : Int} (hv : primeV q = true) (hp : Pr q.toNat) (f : List (List Int)) (row : List Int) : rankV (f ++ [row]) q = rankV f q + if hangsV f row q = true then 0 else 1 := by
  obtain ⟨N, hN, h⟩ := fq_of hv hp
  have hr := h.rk hv (f ++ [row])
  have e : ∀ r, r ∈ (f ++ [row]).map (vec N) ↔ r ∈ vec N row :: f.map (vec N) := fun r => by
    rw [List.map_append, List.mem_append, List.mem_cons]
    simp only [List.map_cons, List.map_nil, List.mem_singleton]
    exact Or.comm
  by_cases hh : hangsV f row q = true
  · rw [if_pos hh]
    exact hr.eq h.fld ((h.rk hv f).same ((h.hangs hv f row).1 hh)) (fun r hr => Sp.mem ((e r).1 hr)) fun r hr => Sp.mem ((e r).2 hr)
  · rw [if_neg hh]
    exact hr.eq h.fld ((h.rk hv f).more h.fld fun hs => hh ((h.hangs hv f row).2 hs)) (fun r hr => Sp.mem ((e r).1 hr)) fun r hr => Sp.mem ((e r).2 hr)
theorem rank_own {q : Int} (hv : primeV q = true) (hp : Pr q.toNat) {f : List (List Int)} {row : List Int} (hm : row ∈ f) : hangsV f row q = true := by
  obtain ⟨N, hN, h⟩ := fq_of hv hp
  exact (h.hangs hv f row).2 (Sp.mem (List.mem_map_of_mem hm))
theorem rank_bounds {q : Int} (hv : primeV q = true) (hp : Pr q.toNat) (f : List (List Int)) : rankV f q ≤ f.length ∧ rankV f q ≤ wideL f := by
  obtain ⟨N, hN, h⟩ := fq_of hv hp
  have := (h.rk hv f).le_len h.fld
  rw [List.length_map] at this
  exact ⟨this, h.wide hv f⟩
/-- shares. -/
theorem rank_shared {q : Int} (hv : primeV q = true) (hp : Pr q.toNat) (a b c : List (List Int)) :
    rankV (a ++ (b ++ c)) q + rankV c q ≤ rankV (a ++ c) q + rankV (b ++ c) q ∧ rankV (a ++ c) q ≤ rankV (a ++ (b ++ c)) q ∧ rankV (b ++ c) q ≤ rankV (a ++ (b ++ c)) q := by
  obtain ⟨N, hN, h⟩ := fq_of hv hp
  have r1 := h.rk hv (a ++ c)
  have r2 := h.rk hv (b ++ c)
  have r3 := h.rk hv (a ++ (b ++ c))
  have r4 := h.rk hv c
  rw [List.map_append] at r1 r2 r3
  have r3' := r3
  rw [List.map_append] at r3'
  refine ⟨Rk.shared h.fld _ _ _ r1 r2 r3' r4, r1.le h.fld r3' fun r hr => Sp.mem ?_, ?_⟩
  · rcases List.mem_append.1 hr with k | k
    · exact List.mem_append_left _ k
    · exact List.mem_append_right _ (List.mem_append_right _ k)
  · exact r2.le h.fld r3' fun r hr => Sp.mem (List.mem_append_right _ hr)
/-- ranks of what hangs on one another. -/
theorem rank_same {q : Int} (hv : primeV q = true) (hp : Pr q.toNat) {a b : List (List Int)} (h1 : ∀ (N : Nat) [NeZero N], Fld N → q = (N : Int) → (∀ r ∈ a, Sp (b.map (vec N)) (vec N r)) ∧ ∀ r ∈ b, Sp (a.map (vec N)) (vec N r)) : rankV a q = rankV b q := by
  obtain ⟨N, hN, h⟩ := fq_of hv hp
  obtain ⟨k1, k2⟩ := h1 N h.fld h.eq
  refine (h.rk hv a).eq h.fld (h.rk hv b) (fun r hr => ?_) fun r hr => ?_
  · obtain ⟨x, hx, rfl⟩ := List.mem_map.1 hr
    exact k1 x hx
  · obtain ⟨x, hx, rfl⟩ := List.mem_map.1 hr
    exact k2 x hx
/-- columns as rows. -/
def turnL (f : List (List Int)) : List (List Int) := (List.range (wideL f)).map fun j => (List.range f.length).map fun i => nth (f.getD i []) j
theorem rank_turned {q : Int} (hv : primeV q = true) (hp : Pr q.toNat) (f : List (List Int)) : rankV f q = rankV (turnL f) q := by
  obtain ⟨N, hN, h⟩ := fq_of hv hp
  have r1 := h.rk hv f
  have r2 := h.rk hv (turnL f)
  have hrow : ∀ i, f.length ≤ i → ∀ j, vec N (f.getD i []) j = 0 := fun i hi j => by
    rw [List.getD_eq_getElem?_getD, List.getElem?_eq_none hi]
    exact vec_ge (Nat.zero_le j)
  have hcol : ∀ i j, wideL f ≤ j → vec N (f.getD i []) j = 0 := fun i j hj => by
    rcases Nat.lt_or_ge i f.length with hi | hi
    · refine vec_ge (Nat.le_trans (wideL_le f _ ?_) hj)
      rw [List.getD_eq_getElem?_getD, List.getElem?_eq_getElem hi]
      exact List.getElem_mem hi
    · exact hrow i hi j
  have e1 : f.map (vec N) = (List.range f.length).map fun i => vec N (f.getD i []) := by
    apply List.ext_getElem (by simp)
    intro i h1 h2
    rw [List.length_map] at h1
    simp [List.getD_eq_getElem?_getD, List.getElem?_eq_getElem h1]
  have e2 : (turnL f).map (vec N) = (List.range (wideL f)).map fun j i => vec N (f.getD i []) j := by
    unfold turnL
    rw [List.map_map]
    refine List.map_congr_left fun j _ => funext fun i => ?_
    show tf N (nth ((List.range f.length).map fun i => nth (f.getD i []) j) i) = tf N (nth (f.getD i []) j)
    congr 1
    rcases Nat.lt_or_ge i f.length with hi | hi
    · rw [nth_lt (by simpa using hi)]
      simp
    · rw [nth_ge (by simpa using hi), List.getD_eq_getElem?_getD, List.getElem?_eq_none hi]
      exact (nth_ge (Nat.zero_le j)).symm
  rw [e1] at r1
  rw [e2] at r2
  have a1 := Rk.turned h.fld (fun i j hi => hrow i hi j) r1 r2
  have a2 := Rk.turned h.fld (M := fun j i => vec N (f.getD i []) j) (fun j i hj => hcol i j hj) r2 r1
  omega
end Go.Proofs.YtcojnjhffmhbiaaDoor
end
