/-
  Parts of these texts that the statement needs: RaQ, RaS, RaU, RegionI, RaX, Lits.
-/
import Derived.Test.YtpdgalclnlbeaaaDoorAdmQ2
import Derived.Test.YtpdgalclnlbeaaaDoorAdmQ7
import Derived.Test.YtpdgalclnlbeaaaDoorPsA
import Derived.Test.YtpdgalclnlbeaaaDoorAdmQ4
import Derived.Orders
import Derived.OwnWalk
import Derived.NoCompiler
import Derived.WalkKit
import Derived.Test.YtpdgalclnlbeaaaDoorAdmQ5
import Derived.Test.YtpdgalclnlbeaaaDoorAdmQ1

section
namespace Go.Proofs.YtpdgalclnlbeaaaDoor
open Go.Lin Go.Psi
/-- a whole number modulo N. -/
def tf (N : Nat) [h : NeZero N] (x : Int) : Fin N := ⟨(x % N).toNat, by
  have h0 : N ≠ 0 := h.out
  have h1 := Int.emod_nonneg x (b := (N : Int)) (by omega)
  have h2 := Int.emod_lt_of_pos x (b := (N : Int)) (by omega)
  omega⟩
section
variable {N : Nat} [h0 : NeZero N]
theorem tf_val (x : Int) : ((tf N x).val : Int) = x % N := by
  have h : N ≠ 0 := h0.out
  have h1 := Int.emod_nonneg x (b := (N : Int)) (by omega)
  show ((x % N).toNat : Int) = x % N
  omega
theorem tf_eq {x y : Int} : tf N x = tf N y ↔ x % N = y % N := by
  constructor
  · intro h
    rw [← tf_val, ← tf_val, h]
  · intro h
    apply Fin.ext
    have h1 := tf_val (N := N) x
    have h2 := tf_val (N := N) y
    omega
theorem tf_mod (x : Int) : tf N (x % N) = tf N x := tf_eq.2 (Int.emod_emod _ _)
theorem tf_add (x y : Int) : tf N (x + y) = tf N x + tf N y := by
  apply Fin.ext
  have h1 : (((tf N x + tf N y : Fin N)).val : Int) = (x + y) % N := by
    rw [Fin.val_add, Int.natCast_emod, Int.natCast_add, tf_val, tf_val, ← Int.add_emod]
  have h2 := tf_val (N := N) (x + y)
  omega
theorem tf_mul (x y : Int) : tf N (x * y) = tf N x * tf N y := by
  apply Fin.ext
  have h1 : (((tf N x * tf N y : Fin N)).val : Int) = (x * y) % N := by
    rw [Fin.val_mul, Int.natCast_emod, Int.natCast_mul, tf_val, tf_val, ← Int.mul_emod]
  have h2 := tf_val (N := N) (x * y)
  omega
theorem tf_zero : tf N 0 = 0 := by
  apply Fin.ext
  have := tf_val (N := N) 0
  rw [Int.zero_emod] at this
  have h : ((0 : Fin N)).val = 0 := rfl
  omega
theorem tf_sub (x y : Int) : tf N (x - y) = tf N x - tf N y := by
  have h := tf_add (N := N) (x - y) y
  rw [Int.sub_add_cancel] at h
  grind
theorem tf_one : tf N 1 = 1 := by
  apply Fin.ext
  have h1 := tf_val (N := N) 1
  have h2 : ((1 : Fin N)).val = 1 % N := rfl
  have h3 : ((1 % N : Nat) : Int) = 1 % (N : Int) := by rw [Int.natCast_emod]; rfl
  omega
theorem tf_iff_zero {x : Int} : tf N x = 0 ↔ x % N = 0 := by
  rw [← tf_zero, tf_eq, Int.zero_emod]
theorem tf_self (a : Fin N) : tf N (a.val : Int) = a := by
  apply Fin.ext
  have h1 := tf_val (N := N) (a.val : Int)
  rw [Int.emod_eq_of_lt (by omega) (by have := a.isLt; omega)] at h1
  omega
theorem cg_tf {x y : Int} (h : Cg N x y) : tf N x = tf N y := by
  obtain ⟨k, hk⟩ := h
  rw [tf_eq, show x = y + N * k by omega, Int.add_mul_emod_self_left]
/-- a prime has inverses. -/
theorem fld_of {p : Nat} [NeZero p] (hp : Pr p) : Fld p := ⟨fun h => by
    have h1 := congrArg Fin.val h
    have h2 : ((1 : Fin p)).val = 1 % p := rfl
    have h3 : ((0 : Fin p)).val = 0 := rfl
    have := hp.1
    rw [h2, h3, Nat.mod_eq_of_lt (by omega)] at h1
    omega, fun x hx => by
    have hv : x.val ≠ 0 := fun h => hx (Fin.ext h)
    by_cases h2 : p = 2
    · subst h2
      refine ⟨1, Fin.ext ?_⟩
      have h1 : x.val = 1 := by have := x.isLt; omega
      have h3 : ((x * 1 : Fin 2)).val = x.val * 1 % 2 := rfl
      rw [h3, h1]; rfl
    · have hf := fermat hp (hp.odd h2) (a := x.val) (Pr.not_dvd_lt (by omega) x.isLt)
      have hp2 := hp.1
      refine ⟨tf p ((x.val : Int) ^ (p - 2)), ?_⟩
      have h4 := cg_tf hf
      rw [show p - 1 = (p - 2) + 1 by omega, Int.pow_succ, tf_mul, tf_self, tf_one] at h4
      grind⟩
/-- a row as a vector. -/
def vec (N : Nat) [NeZero N] (l : List Int) : V N := fun j => tf N (nth l j)
theorem vec_ge {l : List Int} {j : Nat} (h : l.length ≤ j) : vec N l j = 0 := by unfold vec; rw [nth_ge h, tf_zero]
theorem vec_red (W : Nat) (row : List Int) (j : Nat) : vec N (redL W N row) j = vec N row j := by
  unfold vec redL
  by_cases h : j < max W row.length
  · rw [tabL_at h, tf_mod]
  · rw [nth_ge (by rw [tabL_len]; omega), nth_ge (l := row) (by omega)]
theorem vec_less (row other : List Int) (t : Int) (h : other.length ≤ row.length) (j : Nat) : vec N (lessL N row other t) j = vec N row j - vec N other j * tf N t := by
  unfold vec
  rw [lessL_at]
  by_cases h1 : j < row.length ∧ j < other.length
  · rw [if_pos h1, tf_mod, tf_sub, tf_mul]
  · rw [if_neg h1, nth_ge (l := other) (by omega), tf_zero]
    grind
theorem vec_times (o : List Int) (b : Int) (j : Nat) : vec N (timesL N o b) j = tf N b * vec N o j := by
  unfold vec timesL
  by_cases h : j < o.length
  · rw [tabL_at h, tf_mod, tf_mul]; grind
  · rw [nth_ge (by rw [tabL_len]; omega), nth_ge (l := o) (by omega), tf_zero]
    grind
/-- rows with their places. -/
def sb (N : Nat) [NeZero N] (S : List En) : List (Nat × V N) := S.map fun p => (p.at_, vec N p.row)
theorem sb_mem {S : List En} {p : En} (h : p ∈ S) : (p.at_, vec N p.row) ∈ sb N S := List.mem_map.2 ⟨p, h, rfl⟩
theorem fold_vec {W : Nat} (j : Nat) : ∀ (l : List En) (o : List Int), Ech (sb N l) → (∀ p ∈ l, p.row.length = W) → W ≤ o.length →
    vec N (l.foldl (stepL N) o) j = vec N o j - ((sb N l).map fun e => vec N o e.1 * e.2 j).sum
  | [], o, _, _, _ => by
    show vec N o j = vec N o j - 0
    grind
  | p :: l, o, hE, hl, hW => by
    have hs : ∀ i, vec N (stepL N o p) i = vec N o i - vec N p.row i * vec N o p.at_ := fun i =>
      vec_less o p.row _ (by rw [hl p List.mem_cons_self]; exact hW) i
    have ih := fold_vec j l (stepL N o p) hE.tail (fun x hx => hl x (List.mem_cons_of_mem _ hx)) (by rw [stepL_len]; exact hW)
    rw [List.foldl_cons, ih, hs j]
    show _ = vec N o j - ((p.at_, vec N p.row) :: sb N l |>.map fun e => vec N o e.1 * e.2 j).sum
    rw [List.map_cons, List.sum_cons]
    have ho := (List.pairwise_cons.1 hE.off).1
    have : (sb N l).map (fun e => vec N (stepL N o p) e.1 * e.2 j) = (sb N l).map fun e => vec N o e.1 * e.2 j := by
      refine List.map_congr_left fun e he => ?_
      have h1 : vec N p.row e.1 = 0 := (ho e he).1
      rw [hs e.1, h1]
      grind
    rw [this]
    grind
theorem left_red {W : Nat} {S : List En} (hE : Ech (sb N S)) (hl : ∀ p ∈ S, p.row.length = W) (row : List Int) (j : Nat) : vec N (leftL N W S row) j = red (sb N S) (vec N row) j := by
  unfold leftL
  rw [fold_vec j S (redL W N row) hE hl (by unfold redL; rw [tabL_len]; omega), vec_red]
  unfold red
  congr 1
  congr 1
  exact List.map_congr_left fun e _ => by rw [vec_red]
theorem first_none {o : List Int} (h : firstL o = none) (j : Nat) : nth o j = 0 := by
  by_cases hj : j < o.length
  · unfold firstL at h
    rw [List.findIdx?_eq_none_iff] at h
    have := h (o[j]) (List.getElem_mem hj)
    rw [nth_lt hj]
    simpa using this
  · exact nth_ge (by omega)
theorem first_least {o : List Int} {k : Nat} (h : firstL o = some k) {j : Nat} (hj : j < k) : nth o j = 0 := by
  unfold firstL at h
  rw [List.findIdx?_eq_some_iff_getElem] at h
  obtain ⟨h1, _, h3⟩ := h
  have := h3 j hj
  rw [nth_lt (by omega)]
  simpa using this
theorem red_tf {o : List Int} (h : RedL N o) {j : Nat} : vec N o j = 0 ↔ nth o j = 0 := by
  unfold vec
  rw [tf_iff_zero, Int.emod_eq_of_lt (h j).1 (h j).2]
/-- an inverse of what is not 0. -/
def InvT (N : Nat) [NeZero N] (inv : Int → Int) : Prop := ∀ x, tf N x ≠ 0 → tf N x * tf N (inv x) = 1
/-- rows R come to S. -/
structure Come (N : Nat) [NeZero N] (W : Nat) (R : List (V N)) (S : List En) : Prop where
  good : GoodS N W S
  bas : Bas R (sb N S)
  low : ∀ p ∈ S, ∀ j, j < p.at_ → vec N p.row j = 0
theorem Come.nil (W : Nat) : Come N W [] [] := ⟨.nil _ _, ⟨.nil, fun e h => (by cases h), fun r h => (by cases h)⟩, fun p h => (by cases h)⟩
theorem Come.put {inv : Int → Int} (hI : InvOf N inv) (hT : InvT N inv) {W : Nat} {R : List (V N)} {S : List En} (h : Come N W R S) {row : List Int} (hr : row.length ≤ W) : Come N W (vec N row :: R) (putL N inv W S row) := by
  have h00 : N ≠ 0 := h0.out
  have hg := put_good (q := (N : Int)) (by omega) hI h.good hr
  have hleft := left_red h.bas.ech (fun p hp => h.good.len p hp) row
  have hred := leftL_red (q := (N : Int)) (by omega) W S row
  have hat := fun e (he : e ∈ sb N S) => red_at h.bas.ech (vec N row) he
  have hlen : (leftL N W S row).length = W := by rw [leftL_len]; omega
  refine ⟨hg, ?_, ?_⟩
  · unfold putL
    generalize leftL N W S row = o at *
    cases hf : firstL o with
    | none =>
      have hsp : Sp ((sb N S).map (·.2)) (vec N row) := red_sp _ _ fun j => by
        rw [← hleft]
        exact (red_tf hred).2 (first_none hf j)
      exact ⟨h.bas.ech, fun e he => (h.bas.sub e he).mono fun r hr => List.mem_cons_of_mem _ hr, fun r hr => by
        rcases List.mem_cons.1 hr with rfl | hr
        · exact hsp
        · exact h.bas.all r hr⟩
    | some k =>
      simp only
      obtain ⟨hk1, hk2⟩ := firstL_some hf
      have hk3 : vec N o k ≠ 0 := fun e => hk2 ((red_tf hred).1 e)
      have hy : red (sb N S) (vec N row) k * tf N (inv (nth o k)) = 1 := by rw [← hleft]; exact hT _ hk3
      have hne : ∀ p ∈ S, p.at_ ≠ k := fun p hp e => by
        have h1 := hat _ (sb_mem hp)
        simp only [e] at h1
        rw [← hleft] at h1
        exact hk3 h1
      have hfil : (S.map fun p => (⟨p.at_, lessL N p.row (timesL N o (inv (nth o k))) (nth p.row k)⟩ : En)).filter (fun p => decide (p.at_ ≠ k)) = S.map fun p => (⟨p.at_, lessL N p.row (timesL N o (inv (nth o k))) (nth p.row k)⟩ : En) := by
        refine List.filter_eq_self.2 fun x hx => ?_
        obtain ⟨p, hp, rfl⟩ := List.mem_map.1 hx
        exact decide_eq_true (hne p hp)
      rw [hfil]
      have hb := h.bas.snoc hy
      have e : sb N (⟨k, timesL N o (inv (nth o k))⟩ :: S.map fun p => (⟨p.at_, lessL N p.row (timesL N o (inv (nth o k))) (nth p.row k)⟩ : En))
          = (k, fun j => tf N (inv (nth o k)) * red (sb N S) (vec N row) j) :: (sb N S).map fun e => (e.1, fun j => e.2 j - e.2 k * (tf N (inv (nth o k)) * red (sb N S) (vec N row) j)) := by
        unfold sb
        rw [List.map_cons, List.map_map, List.map_map]
        refine List.cons_eq_cons.2 ⟨?_, List.map_congr_left fun p hp => ?_⟩
        · refine Prod.ext rfl (funext fun j => ?_)
          show vec N (timesL N o _) j = _
          rw [vec_times, hleft]
          rfl
        · refine Prod.ext rfl (funext fun j => ?_)
          show vec N (lessL N p.row (timesL N o _) _) j = vec N p.row j - vec N p.row k * _
          rw [vec_less _ _ _ (by unfold timesL; rw [tabL_len, hlen, h.good.len p hp]; exact Nat.le_refl _), vec_times, hleft]
          show _ - _ * vec N p.row k = _
          unfold sb
          grind
      rw [e]
      exact hb
  · unfold putL
    generalize leftL N W S row = o at *
    cases hf : firstL o with
    | none => exact h.low
    | some k =>
      simp only
      obtain ⟨hk1, hk2⟩ := firstL_some hf
      have hz : ∀ j, j < k → vec N (timesL N o (inv (nth o k))) j = 0 := fun j hj => by
        rw [vec_times]
        have : vec N o j = 0 := (red_tf hred).2 (first_least hf hj)
        rw [this]; grind
      intro x hx j hj
      rcases List.mem_cons.1 hx with rfl | hx
      · exact hz j hj
      · obtain ⟨p, hp, rfl⟩ := List.mem_map.1 (List.mem_filter.1 hx).1
        show vec N (lessL N p.row (timesL N o _) _) j = 0
        rw [vec_less _ _ _ (by unfold timesL; rw [tabL_len, hlen, h.good.len p hp]; exact Nat.le_refl _)]
        have h1 := h.low p hp j hj
        rw [h1]
        rcases Nat.lt_or_ge j k with h2 | h2
        · rw [hz j h2]; grind
        · have h3 : tf N (nth p.row k) = 0 := h.low p hp k (by have : j < p.at_ := hj; omega)
          rw [h3]; grind
theorem Come.all {inv : Int → Int} (hI : InvOf N inv) (hT : InvT N inv) {W : Nat} : ∀ (rows : List (List Int)) {R : List (V N)} {S : List En}, Come N W R S → (∀ r ∈ rows, r.length ≤ W) →
    Come N W ((rows.map (vec N)).reverse ++ R) (rows.foldl (putL N inv W) S)
  | [], _, _, h, _ => h
  | r :: rows, R, S, h, hl => by
    rw [List.foldl_cons, List.map_cons, List.reverse_cons, List.append_assoc]
    exact Come.all hI hT rows (h.put hI hT (hl r List.mem_cons_self)) fun x hx => hl x (List.mem_cons_of_mem _ hx)
theorem Bas.congr {R R' : List (V N)} {L : List (Nat × V N)} (h : Bas R L) (hs : ∀ r ∈ R, r ∈ R') (hs' : ∀ r ∈ R', r ∈ R) : Bas R' L :=
  ⟨h.ech, fun e he => (h.sub e he).mono hs, fun r hr => h.all r (hs' r hr)⟩
/-- the rows of a space are a basis. -/
theorem space_come {inv : Int → Int} (hI : InvOf N inv) (hT : InvT N inv) {W : Nat} {rows : List (List Int)} (hl : ∀ r ∈ rows, r.length ≤ W) : Come N W (rows.map (vec N)) (spaceL N inv W rows) := by
  obtain ⟨h1, h2, h3⟩ := Come.all hI hT rows (Come.nil W) hl
  refine ⟨h1, Bas.congr h2 (fun r hr => ?_) (fun r hr => ?_), h3⟩
  · rw [List.append_nil] at hr
    exact List.mem_reverse.1 hr
  · rw [List.append_nil]
    exact List.mem_reverse.2 hr
theorem rank_rk {inv : Int → Int} (hI : InvOf N inv) (hT : InvT N inv) (rows : List (List Int)) : Rk (rows.map (vec N)) (rankL N inv rows) :=
  ⟨_, (space_come hI hT (wideL_le rows)).bas, by unfold sb rankL; rw [List.length_map]⟩
theorem hangs_iff {inv : Int → Int} (hI : InvOf N inv) (hT : InvT N inv) (rows : List (List Int)) (row : List Int) : hangsL N inv rows row = true ↔ Sp (rows.map (vec N)) (vec N row) := by
  have h00 : N ≠ 0 := h0.out
  have hc := space_come hI hT (wideL_le rows)
  unfold hangsL
  generalize spaceL N inv (wideL rows) rows = S at *
  have hleft := left_red hc.bas.ech (fun p hp => hc.good.len p hp) row
  have hred := leftL_red (q := (N : Int)) (by omega) (wideL rows) S row
  have hat := fun e (he : e ∈ sb N S) => red_at hc.bas.ech (vec N row) he
  generalize leftL N (wideL rows) S row = o at *
  rw [← hc.bas.sp]
  cases hf : firstL o with
  | none => exact ⟨fun _ => red_sp _ _ fun j => by rw [← hleft]; exact (red_tf hred).2 (first_none hf j), fun _ => rfl⟩
  | some k =>
    refine ⟨fun h => (by cases h), fun h => ?_⟩
    exfalso
    obtain ⟨_, hk2⟩ := firstL_some hf
    apply hk2
    rw [← red_tf hred, hleft]
    refine hc.bas.ech.zero (v := red (sb N S) (vec N row)) ?_ hat k
    refine Sp.comb (-1) (sum_sp (vec N row) (sb N S)) h fun j => ?_
    unfold red
    grind
end
end Go.Proofs.YtpdgalclnlbeaaaDoor
end

section
namespace Go.Proofs.YtpdgalclnlbeaaaDoor
open Go Go.Lin Go.Psi
/-- modulo N ranks are what ranks are. -/
structure FQ (q : Int) (N : Nat) [NeZero N] : Prop where
  eq : q = (N : Int)
  fld : Fld N
  io : InvOf N (iv N)
  it : InvT N (iv N)
theorem fq_of {q : Int} (hv : primeV q = true) (hp : Pr q.toNat) : ∃ (N : Nat) (_ : NeZero N), FQ q N := by
  obtain ⟨h2, hle⟩ := primeV_ge hv
  obtain ⟨N, rfl⟩ := Int.eq_ofNat_of_zero_le (show 0 ≤ q by omega)
  have hN : NeZero N := ⟨by omega⟩
  rw [Int.toNat_natCast] at hp
  have hok := okm_of (show 0 < (N : Int) by omega) hle
  refine ⟨N, hN, rfl, fld_of hp, inv_of hok h2, fun x hx => ?_⟩
  obtain ⟨y, hy⟩ := (fld_of hp).inv _ hx
  have h1 : tf N ((y.val : Int) * x) = tf N 1 := by
    rw [tf_mul, tf_self, tf_one]
    grind
  have h3 : InvIs x N y.val := by
    refine ⟨by omega, by have := y.isLt; omega, ((y.val : Int) * x - 1) / N, ?_⟩
    have h4 := tf_eq.1 h1
    have h5 := Int.emod_emod_of_dvd (y.val * x - 1) (Int.dvd_refl (N : Int))
    have h6 : ((y.val : Int) * x - 1) % N = 0 := by rw [Int.sub_emod, h4, Int.sub_self, Int.zero_emod]
    have h7 := Int.mul_ediv_add_emod ((y.val : Int) * x - 1) N
    rw [h6] at h7
    omega
  show tf N x * tf N (iVal x N) = 1
  rw [iVal_is hok h3, tf_self]
  exact hy
section
variable {q : Int} {N : Nat} [h0 : NeZero N]
theorem FQ.rk (h : FQ q N) (hv : primeV q = true) (f : List (List Int)) : Rk (f.map (vec N)) (rankV f q) := by
  unfold rankV
  rw [if_pos hv]
  obtain ⟨rfl, _, h1, h2⟩ := h
  exact rank_rk h1 h2 f
theorem FQ.hangs (h : FQ q N) (hv : primeV q = true) (f : List (List Int)) (row : List Int) : hangsV f row q = true ↔ Sp (f.map (vec N)) (vec N row) := by
  unfold hangsV
  rw [hv, Bool.true_and]
  obtain ⟨rfl, _, h1, h2⟩ := h
  exact hangs_iff h1 h2 f row
theorem FQ.wide (h : FQ q N) (hv : primeV q = true) (f : List (List Int)) : rankV f q ≤ wideL f := by
  unfold rankV
  rw [if_pos hv]
  obtain ⟨rfl, _, h1, h2⟩ := h
  exact good_len (space_come h1 h2 (wideL_le f)).good
end
theorem rank_prime {q : Int} (hv : primeV q = true) (hp : Pr q.toNat) : rankV [[1]] q = 1 := by
  obtain ⟨N, hN, h⟩ := fq_of hv hp
  have h1 : Rk ([[1]].map (vec N)) 1 := by
    refine Rk.nil.more h.fld fun hs => ?_
    have := hs.nil 0
    unfold vec at this
    rw [show nth [1] 0 = 1 from rfl, tf_one] at this
    exact h.fld.one this
  exact (h.rk hv [[1]]).unique h.fld h1
/-- a row more. -/
theorem rank_more {q : Int} (hv : primeV q = true) (hp : Pr q.toNat) (f : List (List Int)) (row : List Int) : rankV (f ++ [row]) q = rankV f q + if hangsV f row q = true then 0 else 1 := by
  obtain ⟨N, hN, h⟩ := fq_of hv hp
  have hr := h.rk hv (f ++ [row])
  have e : ∀ r, r ∈ (f ++ [row]).map (vec N) ↔ r ∈ vec N row :: f.map (vec N) := fun r => by
    rw [List.map_append, List.mem_append, List.mem_cons]
    simp only [List.map_cons, List.map_nil, List.mem_singleton]
    exact Or.comm
  by_cases hh : hangsV f row q = true
  · rw [if_pos hh]
    exact hr.eq h.fld ((h.rk hv f).same ((h.hangs hv f row).1 hh)) (fun r hr => Sp.mem ((e r).1 hr)) fun r hr => Sp.mem ((e r).2 hr)
  · rw [if_neg hh]
    exact hr.eq h.fld ((h.rk hv f).more h.fld fun hs => hh ((h.hangs hv f row).2 hs)) (fun r hr => Sp.mem ((e r).1 hr)) fun r hr => Sp.mem ((e r).2 hr)
theorem rank_own {q : Int} (hv : primeV q = true) (hp : Pr q.toNat) {f : List (List Int)} {row : List Int} (hm : row ∈ f) : hangsV f row q = true := by
  obtain ⟨N, hN, h⟩ := fq_of hv hp
  exact (h.hangs hv f row).2 (Sp.mem (List.mem_map_of_mem hm))
theorem rank_bounds {q : Int} (hv : primeV q = true) (hp : Pr q.toNat) (f : List (List Int)) : rankV f q ≤ f.length ∧ rankV f q ≤ wideL f := by
  obtain ⟨N, hN, h⟩ := fq_of hv hp
  have := (h.rk hv f).le_len h.fld
  rw [List.length_map] at this
  exact ⟨this, h.wide hv f⟩
/-- shares. -/
theorem rank_shared {q : Int} (hv : primeV q = true) (hp : Pr q.toNat) (a b c : List (List Int)) :
    rankV (a ++ (b ++ c)) q + rankV c q ≤ rankV (a ++ c) q + rankV (b ++ c) q ∧ rankV (a ++ c) q ≤ rankV (a ++ (b ++ c)) q ∧ rankV (b ++ c) q ≤ rankV (a ++ (b ++ c)) q := by
  obtain ⟨N, hN, h⟩ := fq_of hv hp
  have r1 := h.rk hv (a ++ c)
  have r2 := h.rk hv (b ++ c)
  have r3 := h.rk hv (a ++ (b ++ c))
  have r4 := h.rk hv c
  rw [List.map_append] at r1 r2 r3
  have r3' := r3
  rw [List.map_append] at r3'
  refine ⟨Rk.shared h.fld _ _ _ r1 r2 r3' r4, r1.le h.fld r3' fun r hr => Sp.mem ?_, ?_⟩
  · rcases List.mem_append.1 hr with k | k
    · exact List.mem_append_left _ k
    · exact List.mem_append_right _ (List.mem_append_right _ k)
  · exact r2.le h.fld r3' fun r hr => Sp.mem (List.mem_append_right _ hr)
/-- ranks of what hangs on one another. -/
theorem rank_same {q : Int} (hv : primeV q = true) (hp : Pr q.toNat) {a b : List (List Int)} (h1 : ∀ (N : Nat) [NeZero N], Fld N → q = (N : Int) → (∀ r ∈ a, Sp (b.map (vec N)) (vec N r)) ∧ ∀ r ∈ b, Sp (a.map (vec N)) (vec N r)) : rankV a q = rankV b q := by
  obtain ⟨N, hN, h⟩ := fq_of hv hp
  obtain ⟨k1, k2⟩ := h1 N h.fld h.eq
  refine (h.rk hv a).eq h.fld (h.rk hv b) (fun r hr => ?_) fun r hr => ?_
  · obtain ⟨x, hx, rfl⟩ := List.mem_map.1 hr
    exact k1 x hx
  · obtain ⟨x, hx, rfl⟩ := List.mem_map.1 hr
    exact k2 x hx
/-- columns as rows. -/
def turnL (f : List (List Int)) : List (List Int) := (List.range (wideL f)).map fun j => (List.range f.length).map fun i => nth (f.getD i []) j
theorem rank_turned {q : Int} (hv : primeV q = true) (hp : Pr q.toNat) (f : List (List Int)) : rankV f q = rankV (turnL f) q := by
  obtain ⟨N, hN, h⟩ := fq_of hv hp
  have r1 := h.rk hv f
  have r2 := h.rk hv (turnL f)
  have hrow : ∀ i, f.length ≤ i → ∀ j, vec N (f.getD i []) j = 0 := fun i hi j => by
    rw [List.getD_eq_getElem?_getD, List.getElem?_eq_none hi]
    exact vec_ge (Nat.zero_le j)
  have hcol : ∀ i j, wideL f ≤ j → vec N (f.getD i []) j = 0 := fun i j hj => by
    rcases Nat.lt_or_ge i f.length with hi | hi
    · refine vec_ge (Nat.le_trans (wideL_le f _ ?_) hj)
      rw [List.getD_eq_getElem?_getD, List.getElem?_eq_getElem hi]
      exact List.getElem_mem hi
    · exact hrow i hi j
  have e1 : f.map (vec N) = (List.range f.length).map fun i => vec N (f.getD i []) := by
    apply List.ext_getElem (by simp)
    intro i h1 h2
    rw [List.length_map] at h1
    simp [List.getD_eq_getElem?_getD, List.getElem?_eq_getElem h1]
  have e2 : (turnL f).map (vec N) = (List.range (wideL f)).map fun j i => vec N (f.getD i []) j := by
    unfold turnL
    rw [List.map_map]
    refine List.map_congr_left fun j _ => funext fun i => ?_
    show tf N (nth ((List.range f.length).map fun i => nth (f.getD i []) j) i) = tf N (nth (f.getD i []) j)
    congr 1
    rcases Nat.lt_or_ge i f.length with hi | hi
    · rw [nth_lt (by simpa using hi)]
      simp
    · rw [nth_ge (by simpa using hi), List.getD_eq_getElem?_getD, List.getElem?_eq_none hi]
      exact (nth_ge (Nat.zero_le j)).symm
  rw [e1] at r1
  rw [e2] at r2
  have a1 := Rk.turned h.fld (fun i j hi => hrow i hi j) r1 r2
  have a2 := Rk.turned h.fld (M := fun j i => vec N (f.getD i []) j) (fun j i hj => hcol i j hj) r2 r1
  omega
end Go.Proofs.YtpdgalclnlbeaaaDoor
end

section
namespace Go.Proofs.YtpdgalclnlbeaaaDoor
open Go Go.RowKit Go.Maps Go.Shelf Go.Proofs
theorem Few.ok {f : List (List Int)} (h : Few f) (hu : ∀ l ∈ f, U64s l) : RowsOk f := ⟨by have := h.1; omega, fun l hl => by have := h.2 l hl; omega, hu⟩
theorem RowsOk.app {a b : List (List Int)} (ha : RowsOk a) (hb : RowsOk b) (hl : a.length + b.length ≤ 1000) : RowsOk (a ++ b) :=
  ⟨by rw [List.length_append]; omega, fun l hl => by rcases List.mem_append.1 hl with h | h; exact ha.len l h; exact hb.len l h, fun l hl => by rcases List.mem_append.1 hl with h | h; exact ha.u l h; exact hb.u l h⟩
end Go.Proofs.YtpdgalclnlbeaaaDoor
end

section
namespace Go.Rgi
/-- what is known of what an operation left: the very value; or what the invariant says of it. -/
inductive Know
  | is (v : Value)
  | sp
def Know.holds : Know → Value → Prop
  | .is v, u => u = v
  | .sp, _ => True
/-- what the operations of 'S' left, as far as they have come up. -/
abbrev Ghost := Nat → Option Value
def Ghost.upd (g : Ghost) (j : Nat) (v : Value) : Ghost := fun i => if i = j then some v else g i
/-- the newest lies first. -/
def look (Rs : List Know) (i : Nat) : Know := if i < Rs.length then Rs.getD (Rs.length - 1 - i) .sp else .sp
theorem look_cons (Rs : List Know) (k : Know) (i : Nat) (h : i < Rs.length) : look (k :: Rs) i = look Rs i := by
  unfold look
  rw [if_pos (by simp; omega), if_pos h]
  have : (k :: Rs).length - 1 - i = (Rs.length - 1 - i) + 1 := by simp; omega
  rw [this]; rfl
theorem look_new (Rs : List Know) (k : Know) : look (k :: Rs) Rs.length = k := by
  unfold look
  rw [if_pos (by simp)]
  simp
def predsOf (o : Oper) : List Nat := ((o.after.toList.filter fun e => Region.binds .any e).map (·.on)).eraseDups
theorem mem_preds {o : Oper} {i : Nat} : i ∈ predsOf o ↔ ∃ e ∈ o.after, Region.binds .any e = true ∧ e.on = i := by
  unfold predsOf
  rw [List.mem_eraseDups, List.mem_map]
  constructor
  · rintro ⟨e, he, rfl⟩
    rw [List.mem_filter] at he
    exact ⟨e, Array.mem_toList_iff.1 he.1, he.2, rfl⟩
  · rintro ⟨e, he, hb, rfl⟩
    exact ⟨e, List.mem_filter.2 ⟨Array.mem_toList_iff.2 he, hb⟩, rfl⟩
/-- l: some of those that o waits for, with all whose values it reads. -/
def fits (ds : List (Option Tmp)) (o : Oper) (l : List Nat) : Bool :=
  l.all (predsOf o).contains && (predsOf o).all fun i => l.contains i || match ds.getD i none with | some d => !(o.op.operands.any fun x => match x with | .tmp t => t == d | _ => false) | none => true
theorem fits_spec {ds : List (Option Tmp)} {o : Oper} {l : List Nat} (h : fits ds o l = true) : (∀ i ∈ l, i ∈ predsOf o) ∧ ∀ i ∈ predsOf o, ∀ d, ds.getD i none = some d → Operand.tmp d ∈ o.op.operands → i ∈ l := by
  simp only [fits, Bool.and_eq_true, List.all_eq_true, Bool.or_eq_true, List.contains_iff_mem] at h
  refine ⟨h.1, fun i hi d hd ho => ?_⟩
  rcases h.2 i hi with h | h
  · exact h
  · rw [hd] at h
    simp only [Bool.not_eq_true'] at h
    have : (o.op.operands.any fun x => match x with | .tmp t => t == d | _ => false) = true := Array.any_eq_true'.2 ⟨_, ho, by simp⟩
    rw [h] at this; cases this
def boolOf : Value → Option Bool
  | .bool b => some b
  | _ => none
def says (lk : Nat → Know) (o : Oper) : Option Bool :=
  match o.guard with
  | none => some true
  | some (g, want) => match lk g with
    | .is v => some (boolOf v == some want)
    | _ => none
def last (a : Act) : Option Tmp → Value
  | some d => (a.tmps[d]?).getD undef
  | none => undef
def from_ (ds : List (Option Tmp)) (lk : Nat → Know) (S : List Nat) (g : Ghost) : List Nat → Act → (Act → Prop) → Prop
  | [], a, G => G a
  | i :: l, a, G => match lk i with
    | .is v => from_ ds lk S g l (a.put (ds.getD i none) v) G
    | .sp => ∀ v, (S.contains i = true → g i = some v) → from_ ds lk S g l (a.put (ds.getD i none) v) G
def putAll (ds : List (Option Tmp)) (f : Nat → Value) : List Nat → Act → Act
  | [], a => a
  | i :: l, a => putAll ds f l (a.put (ds.getD i none) (f i))
section
variable {ds : List (Option Tmp)} {lk : Nat → Know} {S : List Nat} {g : Ghost} {f : Nat → Value} {G : Act → Prop}
theorem from_congr {lk' : Nat → Know} : ∀ {l : List Nat} {a : Act}, (∀ i ∈ l, lk i = lk' i) → from_ ds lk S g l a G → from_ ds lk' S g l a G
  | [], _, _, h => h
  | i :: l, a, he, h => by
    have h1 := he i (List.mem_cons_self ..)
    have h2 := fun j hj => he j (List.mem_cons_of_mem _ hj)
    unfold from_ at h ⊢
    rw [← h1]
    cases hk : lk i with
    | is v => rw [hk] at h; exact from_congr h2 h
    | sp => rw [hk] at h; exact fun v hv => from_congr h2 (h v hv)
theorem from_at : ∀ {l : List Nat} {a : Act}, from_ ds lk S g l a G → (∀ i ∈ l, (lk i).holds (f i) ∧ (S.contains i = true → g i = some (f i))) → G (putAll ds f l a)
  | [], _, h, _ => h
  | i :: l, a, h, hf => by
    have h1 := hf i (List.mem_cons_self ..)
    have h2 := fun j hj => hf j (List.mem_cons_of_mem _ hj)
    unfold from_ at h
    unfold putAll
    cases hk : lk i with
    | is v =>
      rw [hk] at h h1
      have h3 : f i = v := h1.1
      rw [h3]
      exact from_at h h2
    | sp =>
      rw [hk] at h
      exact from_at (h _ h1.2) h2
theorem from_mono {G' : Act → Prop} (hg : ∀ a, G a → G' a) : ∀ {l : List Nat} {a : Act}, from_ ds lk S g l a G → from_ ds lk S g l a G'
  | [], _, h => hg _ h
  | i :: l, a, h => by
    unfold from_ at h ⊢
    cases hk : lk i with
    | is v => rw [hk] at h; exact from_mono hg h
    | sp => rw [hk] at h; exact fun v hv => from_mono hg (h v hv)
theorem put_size (a : Act) (d : Option Tmp) (v : Value) : (a.put d v).tmps.size = a.tmps.size := by cases d <;> simp [Act.put]
theorem put_defers' (a : Act) (d : Option Tmp) (v : Value) : (a.put d v).defers = a.defers := by cases d <;> simp [Act.put]
theorem put_at_ne (a : Act) {d : Option Tmp} (v : Value) {t : Tmp} (h : d ≠ some t) : (a.put d v).tmps[t]? = a.tmps[t]? := by
  cases d with
  | none => rfl
  | some d => exact Array.getElem?_setIfInBounds_ne fun e => h (congrArg _ e)
theorem put_at_same (a : Act) (v : Value) {t : Tmp} (h : t < a.tmps.size) : (a.put (some t) v).tmps[t]? = some v := by
  simp [Act.put, h]
theorem putAll_size : ∀ (l : List Nat) (a : Act), (putAll ds f l a).tmps.size = a.tmps.size
  | [], _ => rfl
  | _ :: l, _ => (putAll_size l _).trans (put_size ..)
theorem putAll_defers : ∀ (l : List Nat) (a : Act), (putAll ds f l a).defers = a.defers
  | [], _ => rfl
  | _ :: l, _ => (putAll_defers l _).trans (put_defers' ..)
theorem putAll_ne {t : Tmp} : ∀ (l : List Nat) (a : Act), (∀ i ∈ l, ds.getD i none ≠ some t) → (putAll ds f l a).tmps[t]? = a.tmps[t]?
  | [], _, _ => rfl
  | i :: l, a, h => (putAll_ne l _ fun j hj => h j (List.mem_cons_of_mem _ hj)).trans (put_at_ne a _ (h i (List.mem_cons_self ..)))
theorem putAll_at {t : Tmp} {i : Nat} : ∀ (l : List Nat) (a : Act), t < a.tmps.size → i ∈ l → ds.getD i none = some t → (∀ j ∈ l, ds.getD j none = some t → j = i) → (putAll ds f l a).tmps[t]? = some (f i)
  | [], _, _, h, _, _ => by cases h
  | j :: l, a, hs, hi, hd, hu => by
    by_cases hin : i ∈ l
    · exact putAll_at l _ (by rw [put_size]; exact hs) hin hd fun k hk => hu k (List.mem_cons_of_mem _ hk)
    · obtain rfl : i = j := by
        rcases List.mem_cons.1 hi with h | h
        · exact h
        · exact absurd h hin
      refine (putAll_ne l _ fun k hk he => hin ?_).trans ?_
      · obtain rfl := hu k (List.mem_cons_of_mem _ hk) he
        exact hk
      · rw [hd]; exact put_at_same _ _ hs
end
/-- 'B': the invariant, by what the operations of 'S' have left. -/
structure Way where
  B : Ghost → World → Prop
  S : List Nat
/-- what is known when operation j has come up. -/
def Way.next (Y : Way) (g : Ghost) (j : Nat) (v : Value) : Ghost := if Y.S.contains j = true then g.upd j v else g
section
variable (P : Program) (Y : Way) (ds : List (Option Tmp)) (a0 : Act) (Q : Act → World → Prop)
def opGoal (lk : Nat → Know) (j : Nat) (o : Oper) (l : List Nat) (k : Know) : Prop :=
  ∀ g w, Y.B g w → g j = none → from_ ds lk Y.S g l a0 fun a => ∀ T : Exit → Act → World → Prop,
    (∀ a' w', a'.defers = a.defers → Y.B (Y.next g j (last a' o.dst)) w' → k.holds (last a' o.dst) → T .normal a' w') → wpList P #[] T [{ o with guard := none }] a w
def Good (lk : Nat → Know) (j : Nat) (o : Oper) (k : Know) : Prop :=
  (says lk o = some true ∧ ∃ l, fits ds o l = true ∧ opGoal P Y ds a0 lk j o l k) ∨ (says lk o = some false ∧ k = .is undef ∧ Y.S.contains j = false)
/-- all that are left, in the text's order. -/
def walk : List Oper → List Know → Prop
  | [], Rs => ∀ g w, Y.B g w → from_ ds (look Rs) Y.S g (List.range Rs.length) a0 fun a => Q a w
  | o :: rest, Rs => ∃ k : Know, Good P Y ds a0 (look Rs) Rs.length o k ∧ walk rest (k :: Rs)
end
/-- what is looked at once, closed. -/
def sane (ops : Array Oper) (ds : List (Option Tmp)) (size n : Nat) : Bool :=
  Region.noSelect ops && ds.length == ops.size &&
  (List.range ops.size).all fun j => match ops[j]? with
    | none => true
    | some o =>
      ds.getD j none == o.dst && (predsOf o).all (· < j) && (match o.dst with | some d => decide (d < size) | none => true) &&
      (match o.guard with | none => true | some (g, _) => (predsOf o).contains g && (ds.getD g none).isSome) &&
      (List.range n).all fun i => decide (n ≤ j) || match ds.getD i none with
        | none => true
        | some d => (i == j || o.dst != some d) && (!(o.looksAt ops).contains d || (predsOf o).contains i)
/-- from number n on each waits, at last, for all ahead of it. -/
def closes (ops : Array Oper) (n : Nat) : Bool :=
  (List.range ops.size).all fun j => decide (j < n) || match ops[j]? with
    | none => true
    | some o => o.guard.isNone && (List.range j).all fun i => (List.range (j + 1)).any fun i' => decide (i < i') && match ops[i']? with
      | none => false
      | some o' => (predsOf o').contains i
section
variable {P : Program} {Y : Way} {ds : List (Option Tmp)} {a0 : Act} {Q : Act → World → Prop} {ops : Array Oper}
structure Sane (ops : Array Oper) (ds : List (Option Tmp)) (size n : Nat) : Prop where
  nosel : ∀ (j : Nat) (o : Oper) cs b, ops[j]? = some o → o.op ≠ .select cs b
  len : ds.length = ops.size
  dst : ∀ {j : Nat} {o : Oper}, ops[j]? = some o → ds.getD j none = o.dst
  before : ∀ {j : Nat} {o : Oper}, ops[j]? = some o → ∀ i ∈ predsOf o, i < j
  small : ∀ {j : Nat} {o : Oper}, ops[j]? = some o → ∀ d, o.dst = some d → d < size
  guard : ∀ {j : Nat} {o : Oper}, ops[j]? = some o → ∀ g b, o.guard = some (g, b) → g ∈ predsOf o ∧ (ds.getD g none).isSome
  one : ∀ {j : Nat} {o : Oper}, ops[j]? = some o → j < n → ∀ i d, i < n → ds.getD i none = some d → o.dst = some d → i = j
  looks : ∀ {j : Nat} {o : Oper}, ops[j]? = some o → j < n → ∀ i d, i < n → ds.getD i none = some d → d ∈ o.looksAt ops → i ∈ predsOf o
theorem sane_spec {size n : Nat} (h : sane ops ds size n = true) : Sane ops ds size n := by
  simp only [sane, Bool.and_eq_true, List.all_eq_true, List.mem_range, beq_iff_eq] at h
  obtain ⟨⟨h1, h2⟩, h3⟩ := h
  have key := fun (j : Nat) (o : Oper) (hj : ops[j]? = some o) => by
    have := h3 j (Array.getElem?_eq_some_iff.1 hj).1
    simp only [hj, Bool.and_eq_true, beq_iff_eq, List.all_eq_true, decide_eq_true_eq, List.mem_range, Bool.or_eq_true] at this
    exact this
  refine ⟨Region.noSelect_spec h1, h2, fun hj => (key _ _ hj).1.1.1.1, fun hj => (key _ _ hj).1.1.1.2, fun hj d hd => ?_, fun hj g b hg => ?_, fun hj hjn i d hi hd ho => ?_, fun hj hjn i d hi hd ho => ?_⟩
  · have := (key _ _ hj).1.1.2; rw [hd] at this; simpa using this
  · have := (key _ _ hj).1.2; rw [hg] at this; simpa using this
  · have := ((key _ _ hj).2 i hi).resolve_left (by omega); rw [hd] at this; simp only [Bool.and_eq_true, Bool.or_eq_true, beq_iff_eq, bne_iff_ne, ne_eq] at this
    rcases this.1 with h | h
    · exact h
    · exact absurd ho h
  · have := ((key _ _ hj).2 i hi).resolve_left (by omega); rw [hd] at this
    simp only [Bool.and_eq_true, Bool.or_eq_true, Bool.not_eq_true', List.contains_iff_mem] at this
    rcases this.2 with h | h
    · exact absurd (List.contains_iff_mem.2 ho) (by rw [h]; simp)
    · exact h
theorem closes_spec {n : Nat} (h : closes ops n = true) : ∀ j o, n ≤ j → ops[j]? = some o → o.guard = none ∧ ∀ i, i < j → ∃ i' o', i < i' ∧ i' ≤ j ∧ ops[i']? = some o' ∧ i ∈ predsOf o' := by
  intro j o hj ho
  simp only [closes, List.all_eq_true, List.mem_range, Bool.or_eq_true, decide_eq_true_eq] at h
  have h1 := (h j (Array.getElem?_eq_some_iff.1 ho).1).resolve_left (by omega)
  simp only [ho, Bool.and_eq_true, List.all_eq_true, List.mem_range, List.any_eq_true, decide_eq_true_eq] at h1
  refine ⟨by simpa using h1.1, fun i hi => ?_⟩
  obtain ⟨i', h2, h3, h4⟩ := h1.2 i hi
  cases h5 : ops[i']? with
  | none => rw [h5] at h4; simp at h4
  | some o' =>
    rw [h5] at h4
    exact ⟨i', o', h3, by omega, h5, List.contains_iff_mem.1 h4⟩
theorem good_congr {lk lk' : Nat → Know} {j : Nat} {o : Oper} {k : Know} (hp : ∀ i ∈ predsOf o, lk i = lk' i) (hg : ∀ g b, o.guard = some (g, b) → g ∈ predsOf o) (h : Good P Y ds a0 lk j o k) : Good P Y ds a0 lk' j o k := by
  have hs : says lk o = says lk' o := by
    unfold says
    cases hgu : o.guard with
    | none => rfl
    | some gb => obtain ⟨g, b⟩ := gb; simp only [hp g (hg g b hgu)]
  rcases h with ⟨h1, l, hl, h2⟩ | ⟨h1, h2⟩
  · exact .inl ⟨hs ▸ h1, _, hl, fun g w hw hw1 => from_congr (fun i hi => hp i ((fits_spec hl).1 i hi)) (h2 g w hw hw1)⟩
  · exact .inr ⟨hs ▸ h1, h2⟩
theorem extract : ∀ (rest : List Oper) (Rs : List Know), (∀ j o, rest[j]? = some o → (∀ i ∈ predsOf o, i < Rs.length + j) ∧ ∀ g b, o.guard = some (g, b) → g ∈ predsOf o) → walk P Y ds a0 Q rest Rs →
    ∃ F : Nat → Know, (∀ i, i < Rs.length → F i = look Rs i) ∧ (∀ j o, rest[j]? = some o → Good P Y ds a0 F (Rs.length + j) o (F (Rs.length + j))) ∧ ∀ g w, Y.B g w → from_ ds F Y.S g (List.range (Rs.length + rest.length)) a0 fun a => Q a w
  | [], Rs, _, h => ⟨look Rs, fun _ _ => rfl, fun j o h => by simp at h, h⟩
  | o :: rest, Rs, hb, ⟨k, hg, h⟩ => by
    obtain ⟨F, h1, h2, h3⟩ := extract rest (k :: Rs) (fun j o' ho => by
      have := hb (j + 1) o' (by simpa using ho)
      exact ⟨fun i hi => by have := this.1 i hi; simp; omega, this.2⟩) h
    have hF : ∀ i, i < Rs.length → F i = look Rs i := fun i hi => (h1 i (by simp; omega)).trans (look_cons _ _ _ hi)
    refine ⟨F, hF, fun j o' ho => ?_, ?_⟩
    · cases j with
      | zero =>
        simp only [List.getElem?_cons_zero, Option.some.injEq] at ho
        subst ho
        have hbo := hb 0 o rfl
        rw [Nat.add_zero, h1 Rs.length (by simp), look_new]
        exact good_congr (fun i hi => (hF i (by have := hbo.1 i hi; omega)).symm) hbo.2 hg
      | succ j =>
        have := h2 j o' (by simpa using ho)
        have e : (k :: Rs).length + j = Rs.length + (j + 1) := by simp; omega
        rwa [e] at this
    · have e : (k :: Rs).length + rest.length = Rs.length + (o :: rest).length := by simp; omega
      rwa [e] at h3
/-- what has come up, as the invariant sees it. -/
def seen (S : List Nat) (listed : Array Bool) (f : Nat → Value) : Ghost := fun i => if S.contains i = true ∧ listed.getD i false = true then some (f i) else none
structure Inv (n : Nat) (ops : Array Oper) (ds : List (Option Tmp)) (Y : Way) (a0 : Act) (F : Nat → Know) (listed : Array Bool) (a : Act) (w : World) : Prop where
  defers : a.defers = a0.defers
  size : a.tmps.size = a0.tmps.size
  unlisted : ∀ j, n ≤ j → listed.getD j false = false
  down : ∀ j o, ops[j]? = some o → listed.getD j false = true → ∀ i ∈ predsOf o, listed.getD i false = true
  other : ∀ t, (∀ i, i < n → ds.getD i none = some t → listed.getD i false = false) → a.tmps[t]? = a0.tmps[t]?
  some_ : ∃ f : Nat → Value, Y.B (seen Y.S listed f) w ∧ ∀ i, i < n → listed.getD i false = true → (F i).holds (f i) ∧ ∀ d, ds.getD i none = some d → a.tmps[d]? = some (f i)
theorem count_lt (l : List Nat) (p q : Nat → Bool) (i : Nat) (hi : i ∈ l) (hp : p i = true) (hq : q i = false) (hle : ∀ j, q j = true → p j = true) : l.countP q < l.countP p := by
  induction l with
  | nil => cases hi
  | cons a l ih =>
    have hmono : l.countP q ≤ l.countP p := List.countP_mono_left fun j _ h => hle j h
    rw [List.countP_cons, List.countP_cons]
    rcases List.mem_cons.1 hi with rfl | hi
    · rw [hp, hq]; simp; omega
    · have := ih hi
      cases hqa : q a with
      | false => simp; split <;> omega
      | true => rw [hle a hqa]; simp; omega
theorem getD_set_same {listed : Array Bool} {j : Nat} {b : Bool} (h : j < listed.size) : (listed.setIfInBounds j true).getD j b = true := by simp [h]
/-- the tail: one behind the other. -/
theorem wp_tail {Q' : Exit → Act → World → Prop} {n : Nat} (S : Sane ops ds a0.tmps.size n) (hL : ∀ j o, n ≤ j → ops[j]? = some o → o.guard = none ∧ ∀ i, i < j → ∃ i' o', i < i' ∧ i' ≤ j ∧ ops[i']? = some o' ∧ i ∈ predsOf o') :
    ∀ (tail : List Oper) (m fuel : Nat) (listed : Array Bool) (a : Act) (w : World), n ≤ m → m + tail.length = ops.size → (∀ i, tail[i]? = ops[m + i]?) → tail.length ≤ fuel → (∀ i, i < ops.size → listed.getD i false = decide (i < m)) → listed.size = ops.size →
      wpList P #[] Q' (tail.map fun o => { o with guard := none }) a w → wpAny P .any ops Q' fuel listed a w
  | [], m, fuel, listed, a, w, hm, hlen, ht, hf, hl, hls, h => by
    refine wpAny_done ?_ h fuel
    rw [List.eq_nil_iff_forall_not_mem]
    intro i hi
    obtain ⟨h0, oi, hoi, _⟩ := mem_ready.1 hi
    have his := (Array.getElem?_eq_some_iff.1 hoi).1
    have h2 := hl i his
    simp only [List.length_nil] at hlen
    have h3 : i < listed.size := by omega
    have h4 : i < m := by omega
    simp [h3] at h0 h2
    rw [h0] at h2; simp [h4] at h2
  | o :: tail, m, fuel, listed, a, w, hm, hlen, ht, hf, hl, hls, h => by
    simp only [List.length_cons] at hlen hf
    have ho : ops[m]? = some o := by simpa using (ht 0).symm
    have hms : m < ops.size := by omega
    obtain ⟨fuel, rfl⟩ : ∃ k, fuel = k + 1 := ⟨fuel - 1, by omega⟩
    have hlm : ∀ i, i < m → listed.getD i false = true := fun i hi => by rw [hl i (by omega)]; simpa using hi
    have hready : m ∈ Region.ready .any ops listed := mem_ready.2 ⟨by
      have := hl m hms
      have h3 : m < listed.size := by omega
      simp [h3] at this ⊢; exact this, o, ho, fun e he hb => hlm _ (S.before ho _ (mem_preds.2 ⟨e, he, hb, rfl⟩))⟩
    refine ⟨fun h0 => absurd hready (by rw [h0]; simp), fun j hj => ?_⟩
    obtain ⟨hun, oj, hoj, hall⟩ := mem_ready.1 hj
    have hjs := (Array.getElem?_eq_some_iff.1 hoj).1
    have hjm : j = m := by
      have h2 := hl j hjs
      have h3 : j < listed.size := by omega
      have hge : m ≤ j := by
        rcases Nat.lt_or_ge j m with h4 | h4
        · have h5 := hlm j h4
          simp [h3] at hun h5; rw [hun] at h5; cases h5
        · exact h4
      rcases Nat.lt_or_ge m j with h4 | h4
      · -- m < j ready: then all ahead of it are listed: m too
        exfalso
        -- the successor of j - 1 ..: it is j itself, as i' in (j-1, j]
        have key : ∀ i, m ≤ i → i < j → False ∨ listed.getD i false = true := by
          intro i hi hij
          obtain ⟨i', o', h5, h6, h7, h8⟩ := (hL j oj (by omega) hoj).2 (j - 1) (by omega)
          obtain rfl : i' = j := by omega
          rw [hoj] at h7
          obtain rfl := Option.some.inj h7
          obtain ⟨e, he, hb, heq⟩ := mem_preds.1 h8
          have h9 := hall e he hb
          rw [heq, hl _ (by omega)] at h9
          simp at h9; omega
        rcases key m (Nat.le_refl _) h4 with h5 | h5
        · exact h5
        · rw [hl m hms] at h5; simp at h5
      · omega
    subst hjm
    rw [ho] at hoj
    obtain rfl := Option.some.inj hoj
    have hg := (hL j o hm ho).1
    unfold wpOp
    simp only [ho]
    have hw : Region.wanted o (yielded ops a.tmps) = true := by unfold Region.wanted; rw [hg]
    rw [if_pos hw]
    simp only [List.map_cons, wpList, Region.wanted, if_true] at h
    rcases h with h | h
    · refine .inl (Oper.wp_mono (fun a' w' h' => ?_) h)
      refine wp_tail S hL tail (j + 1) fuel _ a' w' (by omega) (by omega) (fun i => by have := ht (i + 1); simpa [Nat.add_assoc, Nat.add_comm 1 i] using this) (by omega) (fun i hi => ?_) (by simp [hls]) h'
      by_cases hij : j = i
      · subst hij
        rw [getD_set_same (by omega)]; simp
      · rw [getD_set_ne false hij, hl i hi]
        by_cases h1 : i < j
        · simp [h1]; omega
        · simp [h1]; omega
    · exact .inr h
theorem wp_any {F : Nat → Know} {n : Nat} {Q' : Exit → Act → World → Prop} (S : Sane ops ds a0.tmps.size n) (hn : n ≤ ops.size)
    (hG : ∀ j o, j < n → ops[j]? = some o → Good P Y ds a0 F j o (F j))
    (hL : ∀ j o, n ≤ j → ops[j]? = some o → o.guard = none ∧ ∀ i, i < j → ∃ i' o', i < i' ∧ i' ≤ j ∧ ops[i']? = some o' ∧ i ∈ predsOf o')
    (hQ : ∀ g w, Y.B g w → from_ ds F Y.S g (List.range n) a0 fun a => Q a w) 
    (tail : List Oper) (htl : n + tail.length = ops.size) (ht : ∀ i, tail[i]? = ops[n + i]?) (hQ' : ∀ a w, Q a w → wpList P #[] Q' (tail.map fun o => { o with guard := none }) a w) :
    ∀ (fuel : Nat) (listed : Array Bool) (a : Act) (w : World), listed.size = ops.size → (List.range ops.size).countP (fun i => !listed.getD i true) ≤ fuel → Inv n ops ds Y a0 F listed a w → wpAny P .any ops Q' fuel listed a w := by
  have full : ∀ (listed : Array Bool) (a : Act) (w : World), Inv n ops ds Y a0 F listed a w → (∀ i, i < n → listed.getD i false = true) → Q a w := by
    intro listed a w I all
    obtain ⟨f, hB, hf⟩ := I.some_
    have h := from_at (f := f) (hQ _ w hB) fun i hi => ⟨(hf i (List.mem_range.1 hi) (all _ (List.mem_range.1 hi))).1, fun hs => by
      unfold seen
      rw [if_pos ⟨hs, all _ (List.mem_range.1 hi)⟩]⟩
    have hea : putAll ds f (List.range n) a0 = a := by
      have ht : (putAll ds f (List.range n) a0).tmps = a.tmps := by
        apply Array.ext_getElem?
        intro t
        by_cases hex : ∃ i, i < n ∧ ds.getD i none = some t
        · obtain ⟨i, hi, hd⟩ := hex
          have ho : ops[i]? = some (ops[i]'(by omega)) := Array.getElem?_eq_getElem (by omega)
          have hod := S.dst ho
          rw [((hf i hi (all _ hi)).2 t hd)]
          refine putAll_at _ _ (S.small ho t (hod ▸ hd)) (List.mem_range.2 hi) hd fun j hj hdj => S.one ho hi j t (by have := List.mem_range.1 hj; omega) hdj (hod ▸ hd)
        · rw [putAll_ne _ _ fun i hi hd => hex ⟨i, List.mem_range.1 hi, hd⟩, I.other t fun i hi hd => absurd ⟨i, hi, hd⟩ hex]
      have hd := (putAll_defers (ds := ds) (f := f) (List.range n) a0).trans I.defers.symm
      generalize putAll ds f (List.range n) a0 = b at *
      cases a; cases b
      simp only at ht hd
      rw [ht, hd]
    rw [← hea]
    exact h
  -- all of the first n are listed: the tail
  have toTail : ∀ (fuel : Nat) (listed : Array Bool) (a : Act) (w : World), listed.size = ops.size → (List.range ops.size).countP (fun i => !listed.getD i true) ≤ fuel → Inv n ops ds Y a0 F listed a w → (∀ i, i < n → listed.getD i false = true) → wpAny P .any ops Q' fuel listed a w := by
    intro fuel listed a w hls hc I all
    have hl : ∀ i, i < ops.size → listed.getD i false = decide (i < n) := fun i hi => by
      rcases Nat.lt_or_ge i n with h | h
      · rw [all i h]; simp [h]
      · rw [I.unlisted i h]; simp; omega
    refine wp_tail S hL tail n fuel listed a w (Nat.le_refl _) htl ht ?_ hl hls (hQ' a w (full listed a w I all))
    -- as many are left as the tail is long
    have hcount : ∀ k, k ≤ ops.size → (List.range k).countP (fun i => !listed.getD i true) = k - n := by
      intro k
      induction k with
      | zero => intro _; simp
      | succ k ih =>
        intro hk
        rw [List.range_succ, List.countP_append, ih (by omega)]
        have h1 := hl k (by omega)
        have h2 : k < listed.size := by omega
        simp [h2] at h1
        rcases Nat.lt_or_ge k n with h | h
        · simp [h2, h1, h]; omega
        · have : ¬ k < n := by omega
          simp [h2, h1, this]; omega
    have := hcount ops.size (Nat.le_refl _)
    omega
  have stuck : ∀ (listed : Array Bool) (a : Act) (w : World), listed.size = ops.size → Inv n ops ds Y a0 F listed a w → Region.ready .any ops listed = [] → ∀ m j, j < m → j < ops.size → listed.getD j false = true := by
    intro listed a w hls I hr m
    induction m with
    | zero => intro j hj; omega
    | succ m ih =>
      intro j hj hjs
      have ho : ops[j]? = some ops[j] := Array.getElem?_eq_getElem hjs
      cases hl : listed.getD j true with
      | true =>
        have : j < listed.size := by omega
        simp [this] at hl ⊢; exact hl
      | false =>
        have : j ∈ Region.ready .any ops listed := mem_ready.2 ⟨hl, _, ho, fun e he hb => by
          have hlt := S.before ho e.on (mem_preds.2 ⟨e, he, hb, rfl⟩)
          exact ih e.on (by omega) (by omega)⟩
        rw [hr] at this; cases this
  intro fuel
  induction fuel with
  | zero =>
    intro listed a w hls hc I
    have hr : Region.ready .any ops listed = [] := by
      rw [List.eq_nil_iff_forall_not_mem]
      intro j hj
      obtain ⟨h0, o, ho, _⟩ := mem_ready.1 hj
      have := List.countP_eq_zero.1 (Nat.le_zero.1 hc) j (List.mem_range.2 (Array.getElem?_eq_some_iff.1 ho).1)
      rw [h0] at this; simp at this
    have all := stuck listed a w hls I hr
    exact toTail 0 listed a w hls hc I fun i hi => all _ i (Nat.lt_succ_self i) (by omega)
  | succ fuel ih =>
    intro listed a w hls hc I
    by_cases hfull : ∀ i, i < n → listed.getD i false = true
    case pos => exact toTail (fuel + 1) listed a w hls hc I hfull
    case neg =>
    refine ⟨fun hr => absurd (fun i hi => stuck listed a w hls I hr _ i (Nat.lt_succ_self i) (by omega)) hfull, fun j hj => ?_⟩
    obtain ⟨hun, o, ho, hall⟩ := mem_ready.1 hj
    have hjs : j < ops.size := (Array.getElem?_eq_some_iff.1 ho).1
    have hpl : ∀ i ∈ predsOf o, listed.getD i false = true := fun i hi => by
      obtain ⟨e, he, hb, rfl⟩ := mem_preds.1 hi
      exact hall e he hb
    have hjn : j < n := by
      rcases Nat.lt_or_ge j n with h | h
      · exact h
      · exfalso
        -- all ahead of it are listed
        have all : ∀ d i, i < j → j - i ≤ d → listed.getD i false = true := by
          intro d
          induction d with
          | zero => intro i hi hd; omega
          | succ d ihd =>
            intro i hi hd
            obtain ⟨i', o', h1, h2, h3, h4⟩ := (hL j o h ho).2 i hi
            rcases Nat.lt_or_ge i' j with h5 | h5
            · exact I.down i' o' h3 (ihd i' h5 (by omega)) i h4
            · obtain rfl : i' = j := by omega
              rw [ho] at h3
              obtain rfl := Option.some.inj h3
              exact hpl i h4
        exact hfull fun i hi => all _ i (by omega) (Nat.le_refl _)
    have hcount : (List.range ops.size).countP (fun i => !(listed.setIfInBounds j true).getD i true) ≤ fuel := by
      have := count_lt (List.range ops.size) (fun i => !listed.getD i true) (fun i => !(listed.setIfInBounds j true).getD i true) j (List.mem_range.2 hjs) (by rw [hun]; rfl) (by
        have : j < listed.size := by omega
        simp [this]) fun k hk => by
          by_cases hkj : j = k
          · subst hkj
            have : j < listed.size := by omega
            simp [this] at hk
          · rw [getD_set_ne true hkj] at hk; exact hk
      omega
    have hod := S.dst ho
    obtain ⟨f, hB, hf⟩ := I.some_
    have hps : ∀ i ∈ predsOf o, i < n := fun i hi => by have := S.before ho i hi; omega
    have hjl : j < listed.size := by omega
    have hjun : listed.getD j false = false := by simp [hjl] at hun ⊢; exact hun
    have hGj := hG j o hjn ho
    -- whatever it leaves: the next state is one of ours
    have next : ∀ w' a' v, Y.B (Y.next (seen Y.S listed f) j v) w' → (F j).holds v → a' = a.put o.dst v → Inv n ops ds Y a0 F (listed.setIfInBounds j true) a' w' := by
      intro w' a' v hw' hv ha
      subst ha
      refine ⟨(put_defers' ..).trans I.defers, (put_size ..).trans I.size, fun k hk => ?_, fun k ok hok hk i hi => ?_, fun t ht => ?_, fun i => if i = j then v else f i, ?_, fun i hi hl => ?_⟩
      · rw [getD_set_ne false (by omega)]; exact I.unlisted k hk
      · by_cases hkj : j = k
        · subst hkj
          rw [ho] at hok
          obtain rfl := Option.some.inj hok
          exact getD_set_true (hpl i hi)
        · rw [getD_set_ne false hkj] at hk
          exact getD_set_true (I.down k ok hok hk i hi)
      · rw [put_at_ne, I.other]
        · intro i hi hd
          have h1 := ht i hi hd
          by_cases hij : j = i
          · subst hij
            rw [getD_set_same hjl] at h1; cases h1
          · rw [getD_set_ne false hij] at h1; exact h1
        · intro hd
          have h1 := ht j hjn (hod.trans hd)
          rw [getD_set_same hjl] at h1; cases h1
      · have e : seen Y.S (listed.setIfInBounds j true) (fun i => if i = j then v else f i) = Y.next (seen Y.S listed f) j v := by
          funext i
          by_cases hij : i = j
          · subst hij
            by_cases hS : Y.S.contains i = true
            · have e1 : seen Y.S (listed.setIfInBounds i true) (fun k => if k = i then v else f k) i = some v := by
                unfold seen
                rw [if_pos ⟨hS, getD_set_same hjl⟩]
                simp
              have e2 : Y.next (seen Y.S listed f) i v i = some v := by
                unfold Way.next
                rw [if_pos hS]
                unfold Ghost.upd
                rw [if_pos rfl]
              exact e1.trans e2.symm
            · have e1 : seen Y.S (listed.setIfInBounds i true) (fun k => if k = i then v else f k) i = none := by
                unfold seen
                rw [if_neg fun h => hS h.1]
              have e2 : Y.next (seen Y.S listed f) i v i = none := by
                unfold Way.next
                rw [if_neg hS]
                unfold seen
                rw [if_neg fun h => hS h.1]
              exact e1.trans e2.symm
          · have e1 : seen Y.S (listed.setIfInBounds j true) (fun k => if k = j then v else f k) i = seen Y.S listed f i := by
              unfold seen
              simp only [getD_set_ne false (Ne.symm hij), if_neg hij]
            have e2 : Y.next (seen Y.S listed f) j v i = seen Y.S listed f i := by
              unfold Way.next
              split
              · unfold Ghost.upd
                rw [if_neg hij]
              · rfl
            exact e1.trans e2.symm
        rw [e]
        exact hw'
      · by_cases hij : i = j
        · subst hij
          simp only [if_true]
          refine ⟨hv, fun d hd => ?_⟩
          rw [hod] at hd
          rw [hd]
          exact put_at_same _ _ (by rw [I.size]; exact S.small ho d hd)
        · simp only [if_neg hij]
          rw [getD_set_ne false (Ne.symm hij)] at hl
          have h1 := hf i hi hl
          refine ⟨h1.1, fun d hd => ?_⟩
          rw [put_at_ne, h1.2 d hd]
          intro hd'
          exact hij (S.one ho hjn i d (by omega) hd hd')
    have goOn : ∀ w' a' v, Y.B (Y.next (seen Y.S listed f) j v) w' → (F j).holds v → a' = a.put o.dst v → wpAny P .any ops Q' fuel (listed.setIfInBounds j true) a' w' := fun w' a' v h1 h2 h3 =>
      ih _ _ _ (by simp [hls]) hcount (next w' a' v h1 h2 h3)
    -- what the guard says
    have hwant : ∀ b, says F o = some b → Region.wanted o (yielded ops a.tmps) = b := by
      intro b hb
      unfold says at hb
      unfold Region.wanted
      cases hgu : o.guard with
      | none => simp only [hgu] at hb; simpa using hb
      | some gw =>
        obtain ⟨g, want⟩ := gw
        obtain ⟨hgp, hgd⟩ := S.guard ho g want hgu
        simp only [hgu] at hb ⊢
        obtain ⟨d, hd⟩ := Option.isSome_iff_exists.1 hgd
        have hg1 := hf g (hps g hgp) (hpl g hgp)
        have hgs : g < ops.size := by have := hps g hgp; omega
        have hog : ops[g]? = some (ops[g]'hgs) := Array.getElem?_eq_getElem hgs
        have hgd' := S.dst hog
        cases hkn : F g with
        | sp => rw [hkn] at hb; simp at hb
        | is v =>
          rw [hkn] at hb hg1
          simp only [Know.holds] at hg1
          have hy : yielded ops a.tmps g = boolOf v := by
            unfold yielded
            rw [hog]
            simp only [Option.bind_some]
            rw [← hgd', hd]
            simp only [Option.bind_some]
            rw [hg1.2 d hd, hg1.1]
            cases v <;> rfl
          rw [hy]
          simpa using hb
    unfold wpOp
    simp only [ho]
    rcases hGj with ⟨hs, l, hl, hop⟩ | ⟨hs, hk, hk2⟩
    · obtain ⟨hl1, hl2⟩ := fits_spec hl
      rw [if_pos (hwant _ hs)]
      have hc := from_at (f := f) (hop _ w hB (by unfold seen; rw [if_neg]; rw [hjun]; simp)) fun i hi => ⟨(hf i (hps i (hl1 i hi)) (hpl i (hl1 i hi))).1, fun hs => by
        unfold seen
        rw [if_pos ⟨hs, hpl i (hl1 i hi)⟩]⟩
      obtain ⟨c, hcdef⟩ : ∃ c, putAll ds f l a0 = c := ⟨_, rfl⟩
      have hcsize : c.tmps.size = a0.tmps.size := by rw [← hcdef]; exact putAll_size _ _
      have agree : ∀ t, Operand.tmp t ∈ o.op.operands → a.tmps[t]? = c.tmps[t]? := by
        intro t ht
        have htl : t ∈ o.looksAt ops := List.mem_append_left _ (List.mem_filterMap.2 ⟨.tmp t, by simpa using ht, rfl⟩)
        rw [← hcdef]
        by_cases hex : ∃ i, i < n ∧ ds.getD i none = some t
        · obtain ⟨i, hi, hd⟩ := hex
          have hoi : ops[i]? = some (ops[i]'(by omega)) := Array.getElem?_eq_getElem (by omega)
          have hip := S.looks ho hjn i t (by omega) hd htl
          rw [(hf i hi (hpl i hip)).2 t hd]
          exact (putAll_at _ _ (S.small hoi t (S.dst hoi ▸ hd)) (hl2 i hip t hd ht) hd fun k hk hdk => S.one hoi hi k t (by have := hps k (hl1 k hk); omega) hdk (S.dst hoi ▸ hd)).symm
        · rw [putAll_ne _ _ fun i hi hd => hex ⟨i, hps i (hl1 i hi), hd⟩, I.other t fun i hi hd => absurd ⟨i, hi, hd⟩ hex]
      have heval : ∀ x ∈ o.op.operands, a.eval x = c.eval x := by
        intro x hx
        cases x with
        | tmp t =>
          have := agree t hx
          simp only [Act.eval, Array.getD_eq_getD_getElem?]
          rw [this]
        | _ => rfl
      have hexec : execOp a.eval o = execOp c.eval o := execOp_congr o (fun cs b => S.nosel j o cs b ho) heval
      rw [hcdef] at hc
      have hcl := hc (fun e a' w' => e = .normal ∧ a'.defers = c.defers ∧ Y.B (Y.next (seen Y.S listed f) j (last a' o.dst)) w' ∧ (F j).holds (last a' o.dst)) fun a' w' h1 h2 h3 => ⟨rfl, h1, h2, h3⟩
      simp only [wpList, Region.wanted, if_true] at hcl
      rcases hcl with hcl | ⟨_, hout⟩
      · refine .inl ?_
        have hlast : ∀ v, last (c.put o.dst v) o.dst = v ∨ (o.dst = none ∧ last (c.put o.dst v) o.dst = undef) := by
          intro v
          cases hd : o.dst with
          | none => exact .inr ⟨rfl, rfl⟩
          | some d =>
            refine .inl ?_
            change ((c.put (some d) v).tmps[d]?).getD undef = v
            rw [put_at_same _ _ (by rw [hcsize]; exact S.small ho d hd)]
            rfl
        have fin : ∀ v w', Y.B (Y.next (seen Y.S listed f) j (last (c.put o.dst v) o.dst)) w' → (F j).holds (last (c.put o.dst v) o.dst) → wpAny P .any ops Q' fuel (listed.setIfInBounds j true) (a.put o.dst v) w' := by
          intro v w' h1 h2
          rcases hlast v with h | ⟨hn, h⟩
          · rw [h] at h1 h2
            exact goOn w' _ v h1 h2 rfl
          · rw [h] at h1 h2
            refine goOn w' _ undef h1 h2 ?_
            rw [hn]; rfl
        unfold Oper.wp at hcl ⊢
        rw [hexec]
        have hx2 : execOp c.eval { o with guard := none } = execOp c.eval o := rfl
        rw [hx2] at hcl
        generalize (execOp c.eval o).run P w = r at hcl ⊢
        cases r with
        | halt x w' => cases x <;> simp [Oper.upon] at hcl
        | ok n w' =>
          cases n
          case value v => exact fin v w' hcl.2.2.1 hcl.2.2.2
          case skip => exact fin undef w' hcl.2.2.1 hcl.2.2.2
          case defer d =>
            have h1 := hcl.2.1
            rw [put_defers'] at h1
            have := congrArg List.length h1
            simp at this
          case row row args => exact Rows.mono hcl fun v w'' h => fin v w'' h.2.2.1 h.2.2.2
          case enter fn args =>
            refine Calls.mono hcl fun e w'' h => ?_
            cases e with
            | returned v => exact fin v w'' h.2.2.1 h.2.2.2
            | panicked ch => simp at h
            | outgrown => obtain ⟨_, _, h, _⟩ := h; cases h
          all_goals exact hcl.elim
      · obtain ⟨_, _, h, _⟩ := hout
        cases h
    · rw [if_neg (by rw [hwant _ hs]; simp)]
      exact goOn w _ undef (by unfold Way.next; rw [hk2]; exact hB) (by rw [hk]; rfl) rfl
/-- the first ones in whatever order, the tail behind them. -/
theorem any_region {Q' : Exit → Act → World → Prop} {l tail : List Oper} {a : Act} {w : World} (Y : Way) (ds : List (Option Tmp)) (size : Nat) (hs : sane (l ++ tail).toArray ds size l.length = true) (hc : closes (l ++ tail).toArray l.length = true) (hz : a.tmps.size = size)
    (hB : Y.B (fun _ => none) w.drew) (h : walk P Y ds a (fun a w => wpList P #[] Q' (tail.map fun o => { o with guard := none }) a w) l []) : wpAny P .any (l ++ tail).toArray Q' (l ++ tail).toArray.size (Array.replicate (l ++ tail).toArray.size false) a { w with drawn := w.drawn + 1 } := by
  subst hz
  have S := sane_spec hs
  have hpre : ∀ (j : Nat) (o : Oper), l[j]? = some o → (l ++ tail).toArray[j]? = some o := fun j o hj => by
    have := (List.getElem?_eq_some_iff.1 hj).1
    simpa [List.getElem?_append_left this] using hj
  obtain ⟨F, _, h2, h3⟩ := extract l [] (fun j o hj => ⟨fun i hi => by
    have := S.before (hpre j o hj) i hi
    simpa using this, fun g b hg => (S.guard (hpre j o hj) g b hg).1⟩) h
  have hsz : (l ++ tail).toArray.size = l.length + tail.length := by simp
  refine (wp_any (Y := Y) (Q := fun a w => wpList P #[] Q' (tail.map fun o => { o with guard := none }) a w) (F := F) (a0 := a) (n := l.length) S (by omega) (fun j o hj ho => ?_) (closes_spec hc) (fun g w' hw' => ?_) tail hsz.symm (fun i => ?_) (fun _ _ h => h) _ _ _ _ (by simp) ?_ ⟨rfl, rfl, fun j _ => ?_, fun j o _ hl => ?_, fun _ _ => rfl, fun _ => undef, ?_, fun i hi hl => ?_⟩)
  · have h4 : l[j]? = some l[j] := List.getElem?_eq_getElem hj
    have h5 := hpre j _ h4
    rw [h5] at ho
    obtain rfl := Option.some.inj ho
    have := h2 j _ h4
    simpa using this
  · have := h3 g w' hw'
    simpa using this
  · rw [List.getElem?_toArray, List.getElem?_append_right (by omega), Nat.add_sub_cancel_left]
  · have := List.countP_le_length (p := fun i => !(Array.replicate (l ++ tail).toArray.size false).getD i true) (l := List.range (l ++ tail).toArray.size)
    simpa using this
  · by_cases hj : j < (l ++ tail).toArray.size
    · simp at hj; simp [hj]
    · simp at hj; simp [show ¬ j < l.length + tail.length by omega]
  · by_cases hj : j < (l ++ tail).toArray.size
    · simp at hj; simp [hj] at hl
    · simp at hj; simp [show ¬ j < l.length + tail.length by omega] at hl
  · have e : seen Y.S (Array.replicate (l ++ tail).toArray.size false) (fun _ => undef) = fun _ => none := by
      funext i
      unfold seen
      rw [if_neg]
      intro h
      have h1 := h.2
      rw [Array.getD_eq_getD_getElem?] at h1
      by_cases hi : i < (l ++ tail).toArray.size
      · rw [Array.getElem?_eq_getElem (by simpa using hi)] at h1; simp at h1
      · rw [Array.getElem?_eq_none (by simpa using hi)] at h1; simp at h1
    rw [e]
    exact hB
  · have : i < l.length + tail.length := by omega
    simp [this] at hl
/-- **THE LAW**: at a region that draws its order: the first ones in whatever order, the tail behind them. -/
theorem wp_region {id : Nat} {Q' : Exit → Act → World → Prop} {l tail : List Oper} {a : Act} {w : World} (Y : Way) (ds : List (Option Tmp)) (size : Nat) (hm : P.follows .mixedOrders = true) (hs : sane (l ++ tail).toArray ds size l.length = true) (hc : closes (l ++ tail).toArray l.length = true) (hz : a.tmps.size = size)
    (hB : Y.B (fun _ => none) w.drew) (h : walk P Y ds a (fun a w => wpList P #[] Q' (tail.map fun o => { o with guard := none }) a w) l []) : (Code.region id (l ++ tail).toArray true).wp P Q' a w := by
  exact wp_region_any hm (any_region Y ds size hs hc hz hB h)
end
section
variable {P : Program} {Y : Way} {ds : List (Option Tmp)} {a0 : Act} {Q : Act → World → Prop} {Rs : List Know} {rest : List Oper}
theorem op_skip {o : Oper} (hs : says (look Rs) o = some false) (hj : Y.S.contains Rs.length = false) (h : walk P Y ds a0 Q rest (.is undef :: Rs)) : walk P Y ds a0 Q (o :: rest) Rs :=
  ⟨.is undef, .inr ⟨hs, rfl, hj⟩, h⟩
section
variable {dst : Option Tmp} {op : Op} {type : TypeId} {pos : String} {after : Array Edge} {guard : Option (Nat × Bool)}
theorem op_is (v : Value) (l : List Nat) (hj : Y.S.contains Rs.length = false) (hs : says (look Rs) ⟨dst, op, type, pos, after, guard⟩ = some true) (hl : fits ds ⟨dst, op, type, pos, after, guard⟩ l = true)
    (h : ∀ g w, Y.B g w → from_ ds (look Rs) Y.S g l a0 fun a => ∀ T : Exit → Act → World → Prop, (∀ a' w', a'.defers = a.defers → Y.B g w' → last a' dst = v → T .normal a' w') → wpList P #[] T [⟨dst, op, type, pos, #[], none⟩] a w)
    (hr : walk P Y ds a0 Q rest (.is v :: Rs)) : walk P Y ds a0 Q (⟨dst, op, type, pos, after, guard⟩ :: rest) Rs := by
  refine ⟨.is v, .inl ⟨hs, l, hl, fun g w hw _ => ?_⟩, hr⟩
  have e : ∀ u, Y.next g Rs.length u = g := fun u => by unfold Way.next; rw [hj]; simp
  simp only [e]
  exact h g w hw
/-- one that the invariant tells of. -/
theorem op_sp (l : List Nat) (hj : Y.S.contains Rs.length = true) (hs : says (look Rs) ⟨dst, op, type, pos, after, guard⟩ = some true) (hl : fits ds ⟨dst, op, type, pos, after, guard⟩ l = true)
    (h : ∀ g w, Y.B g w → g Rs.length = none → from_ ds (look Rs) Y.S g l a0 fun a => ∀ T : Exit → Act → World → Prop, (∀ a' w', a'.defers = a.defers → Y.B (g.upd Rs.length (last a' dst)) w' → T .normal a' w') → wpList P #[] T [⟨dst, op, type, pos, #[], none⟩] a w)
    (hr : walk P Y ds a0 Q rest (.sp :: Rs)) : walk P Y ds a0 Q (⟨dst, op, type, pos, after, guard⟩ :: rest) Rs := by
  refine ⟨.sp, .inl ⟨hs, l, hl, fun g w hw hg => ?_⟩, hr⟩
  have e : ∀ u, Y.next g Rs.length u = g.upd Rs.length u := fun u => by unfold Way.next; rw [hj]; simp
  simp only [e]
  exact from_mono (fun a h T hT => h T fun a' w' h1 h2 => hT a' w' h1 h2 trivial) (h g w hw hg)
end
theorem from_is {lk : Nat → Know} {S : List Nat} {g : Ghost} {i : Nat} {l : List Nat} {a : Act} {G : Act → Prop} {v : Value} (d : Option Tmp) (hk : lk i = .is v) (hd : ds.getD i none = d) (h : from_ ds lk S g l (a.put d v) G) : from_ ds lk S g (i :: l) a G := by
  subst hd
  unfold from_
  rw [hk]
  exact h
theorem from_sp {lk : Nat → Know} {S : List Nat} {g : Ghost} {i : Nat} {l : List Nat} {a : Act} {G : Act → Prop} (d : Option Tmp) (hk : lk i = .sp) (hd : ds.getD i none = d) (hS : S.contains i = true) (h : ∀ v, g i = some v → from_ ds lk S g l (a.put d v) G) : from_ ds lk S g (i :: l) a G := by
  subst hd
  unfold from_
  rw [hk]
  exact fun v hv => h v (hv hS)
theorem from_nil {lk : Nat → Know} {S : List Nat} {g : Ghost} {a : Act} {G : Act → Prop} (h : G a) : from_ ds lk S g [] a G := h
theorem walk_nil (l : List Nat) (hl : List.range Rs.length = l) (h : ∀ g w, Y.B g w → from_ ds (look Rs) Y.S g l a0 fun a => Q a w) : walk P Y ds a0 Q [] Rs := by
  subst hl; exact h
end
/-- memory grows, and what there was stays. -/
def Keep (w w' : World) : Prop := Go.RowKit.Below w.heap.size w w'
theorem Keep.refl (w : World) : Keep w w := Go.RowKit.Below.refl _ w
theorem Keep.trans {a b c : World} (h : Keep a b) (k : Keep b c) : Keep a c := Go.RowKit.Below.trans h (Go.RowKit.Below.mono k h.size)
theorem keep_drew (w : World) : Keep w w.drew := ⟨rfl, rfl, rfl, Nat.le_refl _, fun _ _ => rfl⟩
end Go.Rgi
end

section
namespace Go.Proofs.YtpdgalclnlbeaaaDoor
open Go Go.Lin Go.Psi
section
variable {N : Nat} [h0 : NeZero N]
/-- a sum of the first n. -/
def fsum (N : Nat) [NeZero N] : Nat → (Nat → Fin N) → Fin N
  | 0, _ => 0
  | n + 1, g => fsum N n g + g n
theorem fsum_congr {g h : Nat → Fin N} : ∀ {n : Nat}, (∀ j, j < n → g j = h j) → fsum N n g = fsum N n h
  | 0, _ => rfl
  | n + 1, e => by
    unfold fsum
    rw [fsum_congr fun j hj => e j (by omega), e n (by omega)]
theorem fsum_comb (c : Fin N) (g h : Nat → Fin N) : ∀ n : Nat, fsum N n (fun j => c * g j + h j) = c * fsum N n g + fsum N n h
  | 0 => by unfold fsum; grind
  | n + 1 => by
    unfold fsum
    rw [fsum_comb c g h n]
    grind
theorem fsum_zero {g : Nat → Fin N} : ∀ {n : Nat}, (∀ j, j < n → g j = 0) → fsum N n g = 0
  | 0, _ => rfl
  | n + 1, e => by
    unfold fsum
    rw [fsum_zero fun j hj => e j (by omega), e n (by omega)]
    grind
theorem fsum_one {g : Nat → Fin N} {k : Nat} : ∀ {n : Nat}, k < n → (∀ j, j < n → j ≠ k → g j = 0) → fsum N n g = g k
  | 0, h, _ => by omega
  | n + 1, h, e => by
    unfold fsum
    by_cases hk : k = n
    · subst hk
      rw [fsum_zero fun j hj => e j (by omega) (by omega)]
      grind
    · rw [fsum_one (k := k) (by omega) fun j hj hne => e j (by omega) hne, e n (by omega) (by omega)]
      grind
theorem fsum_more {g : Nat → Fin N} {m : Nat} : ∀ {n : Nat}, m ≤ n → (∀ j, m ≤ j → g j = 0) → fsum N n g = fsum N m g
  | 0, h, _ => by
    obtain rfl : m = 0 := by omega
    rfl
  | n + 1, h, e => by
    by_cases hm : m = n + 1
    · rw [hm]
    · show fsum N n g + g n = fsum N m g
      rw [fsum_more (by omega) e, e n (by omega)]
      grind
/-- what holds of rows, and goes along, holds of all that hangs on them. -/
theorem Sp.lin {R : List (V N)} {P : V N → Prop} (hz : ∀ v : V N, (∀ j, v j = 0) → P v) (ha : ∀ (c : Fin N) (r u w : V N), P r → P u → (∀ j, w j = c * r j + u j) → P w) (hr : ∀ r ∈ R, P r) {v : V N} (h : Sp R v) : P v := by
  induction h with
  | zero => exact hz _ fun j => rfl
  | add c hm _ e ih => exact ha c _ _ _ (hr _ hm) ih e
/-- y solves a row whose right stands at W. -/
def Sol (W : Nat) (y : Nat → Fin N) (v : V N) : Prop := v W = fsum N W fun j => v j * y j
theorem Sol.sp {W : Nat} {y : Nat → Fin N} {R : List (V N)} (hr : ∀ r ∈ R, Sol W y r) {v : V N} (h : Sp R v) : Sol W y v := by
  refine Sp.lin (fun v hv => ?_) (fun c r u w h1 h2 e => ?_) hr h
  · unfold Sol
    rw [hv W, fsum_zero fun j _ => by rw [hv j]; grind]
  · unfold Sol at h1 h2 ⊢
    rw [e W, h1, h2, ← fsum_comb]
    exact fsum_congr fun j _ => by rw [e j]; grind
/-- the columns' sums. -/
theorem sp_range {M : Nat → V N} : ∀ {W : Nat} {v : V N}, Sp ((List.range W).map M) v ↔ ∃ y : Nat → Fin N, ∀ i, v i = fsum N W fun j => M j i * y j
  | 0, v => by
    constructor
    · intro h
      exact ⟨fun _ => 0, fun i => h.nil i⟩
    · rintro ⟨y, h⟩
      have e : v = fun _ => 0 := funext fun i => h i
      rw [e]
      exact Sp.zero
  | W + 1, v => by
    have e : ∀ r, r ∈ (List.range (W + 1)).map M ↔ r ∈ M W :: (List.range W).map M := fun r => by
      rw [List.range_succ, List.map_append, List.mem_append, List.mem_cons]
      simp only [List.map_cons, List.map_nil, List.mem_singleton]
      exact Or.comm
    constructor
    · intro h
      obtain ⟨c, u, hu, hv⟩ := (Sp.mono (fun r hr => (e r).1 hr) h).split
      obtain ⟨y, hy⟩ := sp_range.1 hu
      refine ⟨fun j => if j = W then c else y j, fun i => ?_⟩
      rw [hv i, hy i]
      show c * M W i + _ = fsum N W (fun j => M j i * if j = W then c else y j) + M W i * (if W = W then c else y W)
      rw [if_pos rfl, fsum_congr (g := fun j => M j i * y j) (h := fun j => M j i * if j = W then c else y j) fun j hj => by rw [if_neg (by omega)]]
      grind
    · rintro ⟨y, h⟩
      have h1 : Sp ((List.range W).map M) fun i => fsum N W fun j => M j i * y j := sp_range.2 ⟨y, fun i => rfl⟩
      refine Sp.mono (fun r hr => (e r).2 hr) (Sp.comb (y W) (Sp.mem List.mem_cons_self) (h1.mono fun r hr => List.mem_cons_of_mem _ hr) fun i => ?_)
      rw [h i]
      show fsum N W _ + _ = _
      grind
end
/-- a row's product with a row. -/
def dotN (N : Nat) [NeZero N] (W : Nat) (row y : List Int) : Fin N := fsum N W fun j => vec N row j * vec N y j
theorem vec_withR {N : Nat} [NeZero N] {W : Nat} {row : List Int} (h : row.length ≤ W) (x : Int) (j : Nat) : vec N (withR W row x) j = if j = W then tf N x else vec N row j := by
  unfold vec withR
  by_cases hj : j < W + 1
  · rw [tabL_at hj]
    by_cases e : j = W
    · rw [if_pos e, if_pos e]
    · rw [if_neg e, if_neg e]
  · rw [nth_ge (by rw [tabL_len]; omega), if_neg (by omega), nth_ge (l := row) (by omega)]
theorem allR_at {W : Nat} {f : List (List Int)} {right : List Int} {i : Nat} (h : i < f.length) : withR W (f.getD i []) (nth right i) ∈ allR W f right f.length := by
  unfold allR
  exact List.mem_map.2 ⟨i, List.mem_range.2 h, rfl⟩
theorem wide_getD (f : List (List Int)) (i : Nat) : (f.getD i []).length ≤ wideL f := by
  rw [List.getD_eq_getElem?_getD]
  cases h : f[i]? with
  | none => exact Nat.zero_le _
  | some r => exact wideL_le f r (List.mem_of_getElem? h)
theorem wideL_most {k : Nat} {f : List (List Int)} (h : ∀ r ∈ f, r.length ≤ k) : wideL f ≤ k := by
  have key : ∀ (l : List (List Int)) (m : Nat), m ≤ k → (∀ r ∈ l, r.length ≤ k) → l.foldl (fun m r => max m r.length) m ≤ k := by
    intro l
    induction l with
    | nil => intro m hm _; exact hm
    | cons r l ih =>
      intro m hm hr
      exact ih _ (by have := hr r (by simp); show max m r.length ≤ k; omega) fun x hx => hr x (by simp [hx])
  exact key f 0 (Nat.zero_le _) h
/-- **What 'Solve' tells.** -/
theorem solve_law {q : Int} (hv : primeV q = true) (hp : Pr q.toNat) (f : List (List Int)) (right : List Int) (hr : right.length ≤ f.length) {N : Nat} [NeZero N] (hF : FQ q N) :
    (solveV f right q = ([], 5) ∧ ∀ y : Nat → Fin N, ¬ ∀ i, i < f.length → tf N (nth right i) = fsum N (wideL f) fun j => vec N (f.getD i []) j * y j) ∨
    ∃ out : List Int, solveV f right q = (out, 0) ∧ out.length = wideL f ∧ U64s out ∧ ∀ i, i < f.length → tf N (nth right i) = dotN N (wideL f) (f.getD i []) out := by
  obtain ⟨rfl, hfl, hio, hit⟩ := hF
  have hW := wideL_le (allR (wideL f) f right f.length)
  have hC := space_come (N := N) hio hit hW
  have hall : ∀ i, i < f.length → vec N (withR (wideL f) (f.getD i []) (nth right i)) ∈ (allR (wideL f) f right f.length).map (vec N) := fun i hi => List.mem_map_of_mem (allR_at hi)
  have hS : solveS f right N = spaceL N (iv N) (wideL (allR (wideL f) f right f.length)) (allR (wideL f) f right f.length) := rfl
  rw [← hS] at hC
  have hsol : ∀ (y : Nat → Fin N) (i : Nat), (tf N (nth right i) = fsum N (wideL f) fun j => vec N (f.getD i []) j * y j) ↔ Sol (wideL f) y (vec N (withR (wideL f) (f.getD i []) (nth right i))) := fun y i => by
    unfold Sol
    rw [vec_withR (wide_getD f i), if_pos rfl, fsum_congr (g := fun j => vec N (withR (wideL f) (f.getD i []) (nth right i)) j * y j) (h := fun j => vec N (f.getD i []) j * y j) fun j hj => by
      rw [vec_withR (wide_getD f i), if_neg (by omega)]]
  unfold solveV
  rw [if_pos ⟨hv, hr⟩]
  generalize solveS f right N = S at *
  by_cases hbad : ∃ p ∈ S, p.at_ = wideL f
  · left
    rw [if_pos hbad]
    refine ⟨rfl, fun y hy => ?_⟩
    obtain ⟨p, hp1, hp2⟩ := hbad
    have h1 : Sol (wideL f) y (vec N p.row) := by
      refine Sol.sp (R := (allR (wideL f) f right f.length).map (vec N)) (fun r hr => ?_) (hC.bas.sub _ (sb_mem hp1))
      obtain ⟨z, hz, rfl⟩ := List.mem_map.1 hr
      unfold allR at hz
      obtain ⟨i, hi, rfl⟩ := List.mem_map.1 hz
      exact (hsol y i).1 (hy i (List.mem_range.1 hi))
    have h2 := hC.bas.ech.one _ (sb_mem hp1)
    unfold Sol at h1
    rw [fsum_zero fun j hj => by rw [hC.low p hp1 j (by omega)]; grind] at h1
    simp only [hp2] at h2
    rw [h1] at h2
    exact hfl.one h2.symm
  · right
    rw [if_neg hbad]
    refine ⟨_, rfl, tabL_len .., fun z hz => ?_, fun i hi => ?_⟩
    · obtain ⟨h2, hle⟩ := primeV_ge hv
      unfold tabL at hz
      obtain ⟨j, _, rfl⟩ := List.mem_map.1 hz
      by_cases he : ∃ p ∈ S, p.at_ = j
      · obtain ⟨p, hp1, rfl⟩ := he
        rw [valAt_of hC.good.nd hp1]
        have := hC.good.red p hp1 (wideL f)
        exact ⟨this.1, by omega⟩
      · rw [valAt_no fun p hp1 e => he ⟨p, hp1, e⟩]
        exact ⟨by decide, by decide⟩
    · have hbas : ∀ e ∈ S, Sol (wideL f) (fun j => vec N (tabL (wideL f) (valAt S (wideL f))) j) (vec N e.row) := by
        intro p hp1
        have hone := hC.bas.ech.one _ (sb_mem hp1)
        simp only at hone
        have hlt : p.at_ < wideL f := by
          refine Decidable.byContradiction fun hn => ?_
          have h3 : vec N p.row p.at_ = 0 := by
            refine Sp.at_zero (hC.bas.sub _ (sb_mem hp1)) fun r hr => ?_
            obtain ⟨z, hz, rfl⟩ := List.mem_map.1 hr
            unfold allR at hz
            obtain ⟨i, _, rfl⟩ := List.mem_map.1 hz
            have h4 : p.at_ ≠ wideL f := fun e => hbad ⟨p, hp1, e⟩
            rw [vec_withR (wide_getD f i), if_neg h4, vec_ge (by have := wide_getD f i; omega)]
          rw [hone] at h3
          exact hfl.one h3
        unfold Sol
        rw [fsum_one (k := p.at_) hlt fun j hj hne => ?_]
        · rw [hone, Fin.one_mul]
          show _ = tf N (nth (tabL (wideL f) (valAt S (wideL f))) p.at_)
          rw [tabL_at hlt, valAt_of hC.good.nd hp1]
          rfl
        · by_cases he : ∃ p' ∈ S, p'.at_ = j
          · obtain ⟨p', hp2, rfl⟩ := he
            have h5 : vec N p.row p'.at_ = 0 := by
              rcases hC.good.piv p' hp2 with hz | ⟨_, hz⟩
              · have h6 := hC.bas.ech.one _ (sb_mem hp2)
                simp only at h6
                exfalso
                have h7 : vec N p'.row p'.at_ = 0 := by
                  show tf N (nth p'.row p'.at_) = 0
                  rw [hz, tf_zero]
                rw [h6] at h7
                exact hfl.one h7
              · show tf N (nth p.row p'.at_) = 0
                rw [hz p hp1 (Ne.symm hne), tf_zero]
            rw [h5]; grind
          · have h5 : vec N (tabL (wideL f) (valAt S (wideL f))) j = 0 := by
              show tf N (nth _ j) = 0
              rw [tabL_at hj, valAt_no fun p' hp2 e => he ⟨p', hp2, e⟩, tf_zero]
            show _ * vec N (tabL (wideL f) (valAt S (wideL f))) j = 0
            rw [h5]; grind
      have h1 := Sol.sp (R := (sb N S).map (·.2)) (fun r hr => by
        obtain ⟨e, he, rfl⟩ := List.mem_map.1 hr
        obtain ⟨p, hp1, rfl⟩ := List.mem_map.1 he
        exact hbas p hp1) (hC.bas.all _ (hall i hi))
      exact (hsol _ i).2 h1
/-- the statement's product of two rows. -/
def dotK (a b : List Int) (q : Int) : Nat → Int
  | 0 => 0
  | k + 1 => mAdd (dotK a b q k) (mMul (nth a k) (nth b k) q) q
def dotL (a b : List Int) (q : Int) : Int := dotK a b q (min a.length b.length)
theorem dotK_u64 (a b : List Int) (q : Int) : ∀ k, U64 (dotK a b q k)
  | 0 => ⟨Int.le_refl 0, by show (0 : Int) < _; decide⟩
  | k + 1 => mAdd_u64 _ _ _
theorem dotK_red {a b : List Int} {q : Int} (hq : okm q = true) : ∀ k, dotK a b q k % q = dotK a b q k
  | 0 => by unfold dotK; simp
  | k + 1 => by
    unfold dotK
    rw [mAdd_ok hq, Int.emod_emod_of_dvd _ (Int.dvd_refl q)]
theorem dotK_tf {N : Nat} [NeZero N] (hq : okm (N : Int) = true) (a b : List Int) : ∀ k, tf N (dotK a b N k) = fsum N k fun j => vec N a j * vec N b j
  | 0 => tf_zero
  | k + 1 => by
    unfold dotK fsum
    rw [mAdd_ok hq, mMul_ok hq, tf_mod, tf_add, tf_mod, tf_mul, dotK_tf hq a b k]
    rfl
theorem dotL_tf {N : Nat} [NeZero N] (hq : okm (N : Int) = true) {W : Nat} {a b : List Int} (h : a.length ≤ W) : tf N (dotL a b N) = dotN N W a b := by
  unfold dotL dotN
  rw [dotK_tf hq]
  exact (fsum_more (by omega) fun j hj => by
    rcases Nat.lt_or_ge j a.length with h1 | h1
    · rw [vec_ge (l := b) (by omega)]; grind
    · rw [vec_ge (l := a) h1]; grind).symm
/-- the right as a column. -/
def rtCol (right : List Int) (n : Nat) : List Int := right ++ List.replicate (n - right.length) 0
theorem rtCol_nth (right : List Int) (n i : Nat) : nth (rtCol right n) i = nth right i := by
  unfold rtCol nth
  simp only [List.getD_eq_getElem?_getD]
  rcases Nat.lt_or_ge i right.length with h | h
  · rw [List.getElem?_append_left h]
  · rw [List.getElem?_append_right h, List.getElem?_eq_none h, List.getElem?_replicate]
    split <;> rfl
theorem turn_vec {N : Nat} [NeZero N] (f : List (List Int)) (j i : Nat) : vec N ((List.range f.length).map fun i => nth (f.getD i []) j) i = if i < f.length then vec N (f.getD i []) j else 0 := by
  unfold vec
  by_cases h : i < f.length
  · rw [if_pos h]
    unfold nth
    rw [List.getD_eq_getElem?_getD, List.getElem?_map, List.getElem?_range h]
    rfl
  · rw [if_neg h, nth_ge (by simp; omega), tf_zero]
theorem col_hangs {q : Int} (hv : primeV q = true) (f : List (List Int)) (right : List Int) (hr : right.length ≤ f.length) {N : Nat} [NeZero N] (hF : FQ q N) :
    hangsV (turnL f) (rtCol right f.length) q = true ↔ ∃ y : Nat → Fin N, ∀ i, i < f.length → tf N (nth right i) = fsum N (wideL f) fun j => vec N (f.getD i []) j * y j := by
  rw [hF.hangs hv]
  unfold turnL
  rw [List.map_map]
  show Sp ((List.range (wideL f)).map fun j => vec N ((List.range f.length).map fun i => nth (f.getD i []) j)) _ ↔ _
  rw [sp_range]
  constructor
  · rintro ⟨y, h⟩
    refine ⟨y, fun i hi => ?_⟩
    have h1 := h i
    unfold vec at h1
    rw [rtCol_nth] at h1
    rw [h1]
    exact fsum_congr fun j _ => by
      have := turn_vec (N := N) f j i
      rw [if_pos hi] at this
      unfold vec at this ⊢
      rw [this]
  · rintro ⟨y, h⟩
    refine ⟨y, fun i => ?_⟩
    have e : ∀ j, vec N ((List.range f.length).map fun i => nth (f.getD i []) j) i * y j = (if i < f.length then vec N (f.getD i []) j else 0) * y j := fun j => by rw [turn_vec]
    rw [fsum_congr fun j _ => e j]
    unfold vec
    rw [rtCol_nth]
    by_cases hi : i < f.length
    · rw [h i hi]
      exact fsum_congr fun j _ => by rw [if_pos hi]; rfl
    · rw [nth_ge (l := right) (by omega), tf_zero, fsum_zero fun j _ => by rw [if_neg hi]; grind]
theorem getD_of {f : List (List Int)} {i : Nat} {r : List Int} (h : f[i]? = some r) : f.getD i [] = r ∧ i < f.length := by
  obtain ⟨h1, h2⟩ := List.getElem?_eq_some_iff.1 h
  exact ⟨by rw [List.getD_eq_getElem?_getD, h]; rfl, h1⟩
/-- **What is told solves the equations; there is a solution just if the right hangs on the columns.** -/
theorem solved_law {q : Int} (hv : primeV q = true) (hp : Pr q.toNat) (f : List (List Int)) (right : List Int) (hr : right.length ≤ f.length) :
    (solveV f right q = ([], 5) ∧ hangsV (turnL f) (rtCol right f.length) q = false) ∨
    ∃ out : List Int, solveV f right q = (out, 0) ∧ hangsV (turnL f) (rtCol right f.length) q = true ∧ out.length = wideL f ∧ U64s out ∧ ∀ (i : Nat) r, f[i]? = some r → dotL r out q = nth right i % q := by
  obtain ⟨N, hN, hF⟩ := fq_of hv hp
  have hok := (okm_prime hv).1
  have hc := col_hangs hv f right hr hF
  rcases solve_law hv hp f right hr hF with ⟨h1, h2⟩ | ⟨out, h1, h2, h3, h4⟩
  · refine .inl ⟨h1, ?_⟩
    cases hh : hangsV (turnL f) (rtCol right f.length) q with
    | false => rfl
    | true =>
      obtain ⟨y, hy⟩ := hc.1 hh
      exact absurd hy (h2 y)
  · refine .inr ⟨out, h1, hc.2 ⟨vec N out, h4⟩, h2, h3, fun i r hi => ?_⟩
    obtain ⟨e, hl⟩ := getD_of hi
    have h5 := h4 i hl
    obtain ⟨rfl, _, _, _⟩ := hF
    have hw := wide_getD f i
    rw [e] at h5 hw
    rw [← dotL_tf hok hw] at h5
    have h6 := tf_eq.1 h5
    rw [h6]
    unfold dotL
    exact (dotK_red hok _).symm
/-- **What comes of any unknowns has a solution.** -/
theorem come_law {q : Int} (hv : primeV q = true) (hp : Pr q.toNat) (f : List (List Int)) (x : List Int) :
    ∃ out : List Int, solveV f (f.map fun r => dotL r x q) q = (out, 0) ∧ out.length = wideL f ∧ U64s out ∧ ∀ (i : Nat) r, f[i]? = some r → dotL r out q = dotL r x q := by
  obtain ⟨N, hN, hF⟩ := fq_of hv hp
  have hok := (okm_prime hv).1
  have hn : ∀ i, i < f.length → nth (f.map fun r => dotL r x q) i = dotL (f.getD i []) x q := fun i hi => by
    unfold nth
    rw [List.getD_eq_getElem?_getD, List.getElem?_map, List.getD_eq_getElem?_getD, List.getElem?_eq_getElem hi]; rfl
  rcases solve_law hv hp f (f.map fun r => dotL r x q) (by rw [List.length_map]; exact Nat.le_refl _) hF with ⟨_, h2⟩ | ⟨out, h1, h2, h3, h4⟩
  · exfalso
    obtain ⟨rfl, _, _, _⟩ := hF
    refine h2 (vec N x) fun i hi => ?_
    rw [hn i hi, dotL_tf hok (wide_getD f i)]
    rfl
  · refine ⟨out, h1, h2, h3, fun i r hi => ?_⟩
    obtain ⟨e, hl⟩ := getD_of hi
    have h5 := h4 i hl
    rw [hn i hl, e] at h5
    obtain ⟨rfl, _, _, _⟩ := hF
    have hw := wide_getD f i
    rw [e] at hw
    rw [← dotL_tf hok hw] at h5
    have h6 := tf_eq.1 h5
    unfold dotL at h6 ⊢
    rw [dotK_red hok, dotK_red hok] at h6
    exact h6.symm
end Go.Proofs.YtpdgalclnlbeaaaDoor
end

section
namespace Go.Proofs.YtpdgalclnlbeaaaDoor
open Go Go.RowKit
/-- 'L j': the row that operation j makes. -/
structure LitsB (w0 : World) (L : Nat → Option (TypeId × List Value)) (g : Rgi.Ghost) (w : World) : Prop where
  b : Below w0.heap.size w0 w
  row : ∀ (j : Nat) (e : TypeId) (xs : List Value), L j = some (e, xs) → ∀ v, g j = some v → ∃ a : Nat, v = .slice (some ⟨a, 0, none⟩) xs.length xs.length ∧ Row1 w a e xs ∧ w0.heap.size ≤ a
  ne : ∀ (j j' : Nat) (x x' : TypeId × List Value), j ≠ j' → L j = some x → L j' = some x' → ∀ v v', g j = some v → g j' = some v' → v.ownBlock ≠ v'.ownBlock
theorem LitsB.start (w0 : World) (L : Nat → Option (TypeId × List Value)) : LitsB w0 L (fun _ => none) w0.drew :=
  ⟨⟨rfl, rfl, rfl, Nat.le_refl _, fun _ _ => rfl⟩, fun _ _ _ _ _ h => (by cases h), fun _ _ _ _ _ _ _ _ _ h => (by cases h)⟩
theorem LitsB.keep {w0 w w' : World} {L : Nat → Option (TypeId × List Value)} {g : Rgi.Ghost} (h : LitsB w0 L g w) (hb : Below w.heap.size w w') : LitsB w0 L g w' :=
  ⟨below_next h.b h.b.size hb, fun j e xs hj v hv => by
    obtain ⟨a, h1, h2, h3⟩ := h.row j e xs hj v hv
    exact ⟨a, h1, h2.below hb, h3⟩, h.ne⟩
theorem LitsB.made {w0 w w' : World} {L : Nat → Option (TypeId × List Value)} {g : Rgi.Ghost} (h : LitsB w0 L g w) {j : Nat} {e : TypeId} {xs : List Value} (hj : L j = some (e, xs)) (hr : Row1 w' w.heap.size e xs) (hb : Below w.heap.size w w') :
    LitsB w0 L (g.upd j (.slice (some ⟨w.heap.size, 0, none⟩) xs.length xs.length)) w' := by
  have h' := h.keep hb
  have hlt : ∀ (i : Nat) (x : TypeId × List Value), L i = some x → ∀ v, g i = some v → ∃ a, v.ownBlock = some a ∧ a < w.heap.size := fun i x hi v hv => by
    obtain ⟨a, rfl, h2, _⟩ := h.row i x.1 x.2 hi v hv
    exact ⟨a, rfl, h2.lt⟩
  refine ⟨h'.b, fun i e' xs' hi v hv => ?_, fun i i' x x' hne hi hi' v v' hv hv' => ?_⟩
  · unfold Rgi.Ghost.upd at hv
    split at hv
    · rename_i he
      subst he
      rw [hj] at hi
      obtain ⟨rfl, rfl⟩ : e = e' ∧ xs = xs' := by simpa using hi
      obtain rfl := Option.some.inj hv
      exact ⟨_, rfl, hr, h.b.size⟩
    · exact h'.row i e' xs' hi v hv
  · unfold Rgi.Ghost.upd at hv hv'
    split at hv
    · rename_i he
      subst he
      rw [if_neg (Ne.symm hne)] at hv'
      obtain rfl := Option.some.inj hv
      obtain ⟨a, h1, h2⟩ := hlt i' x' hi' v' hv'
      rw [h1]
      intro he
      have : w.heap.size = a := Option.some.inj he
      omega
    · split at hv'
      · obtain rfl := Option.some.inj hv'
        obtain ⟨a, h1, h2⟩ := hlt i x hi v hv
        rw [h1]
        intro he
        have : a = w.heap.size := Option.some.inj he
        omega
      · exact h.ne i i' x x' hne hi hi' v v' hv hv'
theorem LitsB.new {w0 w : World} {L : Nat → Option (TypeId × List Value)} {g : Rgi.Ghost} (h : LitsB w0 L g w) {j : Nat} {e : TypeId} {xs : List Value} (hj : L j = some (e, xs)) :
    LitsB w0 L (g.upd j (.slice (some ⟨w.heap.size, 0, none⟩) xs.length xs.length)) (w.alloc (.cells xs.toArray e)) := h.made hj (row1_new w xs e) (below_alloc w _)
theorem LitsB.skip {w0 w : World} {L : Nat → Option (TypeId × List Value)} {g : Rgi.Ghost} (h : LitsB w0 L g w) {j : Nat} (hj : L j = none) (u : Value) : LitsB w0 L (g.upd j u) w := by
  have hs : ∀ (i : Nat) (x : TypeId × List Value), L i = some x → g.upd j u i = g i := fun i x hi => by
    unfold Rgi.Ghost.upd
    rw [if_neg]
    rintro rfl
    rw [hj] at hi
    cases hi
  refine ⟨h.b, fun i e xs hi v hv => h.row i e xs hi v ?_, fun i i' x x' hne hi hi' v v' hv hv' => h.ne i i' x x' hne hi hi' v v' ?_ ?_⟩
  · rw [← hs i _ hi]; exact hv
  · rw [← hs i _ hi]; exact hv
  · rw [← hs i' _ hi']; exact hv'
end Go.Proofs.YtpdgalclnlbeaaaDoor
end
