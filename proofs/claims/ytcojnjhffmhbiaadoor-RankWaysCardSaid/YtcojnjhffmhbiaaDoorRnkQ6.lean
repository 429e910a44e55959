/-
  Parts of these texts that the statement needs: RaQ, RaS, RaU, RaV.
-/
import Derived.Test.YtcojnjhffmhbiaaDoorRnkQ2
import Derived.Test.YtcojnjhffmhbiaaDoorRnkQ5
import Derived.Test.YtcojnjhffmhbiaaDoorPsA
import Derived.Test.YtcojnjhffmhbiaaDoorRnkQ4

section
namespace Go.Proofs.YtcojnjhffmhbiaaDoor
open Go.Lin Go.Psi
/-- a whole number modulo N. -/
def tf (N : Nat) [h : NeZero N] (x : Int) : Fin N := ⟨(x % N).toNat, by
  have h0 : N ≠ 0 := h.out
  have h1 := Int.emod_nonneg x (b := (N : Int)) (by omega)
  have h2 := Int.emod_lt_of_pos x (b := (N : Int)) (by omega)
  omega⟩
section
variable {N : Nat} [h0 : NeZero N]
theorem tf_val (x : Int) : ((tf N x).val : Int) = x % N := by
  have h : N ≠ 0 := h0.out
  have h1 := Int.emod_nonneg x (b := (N : Int)) (by omega)
  show ((x % N).toNat : Int) = x % N
  omega
theorem tf_eq {x y : Int} : tf N x = tf N y ↔ x % N = y % N := by
  constructor
  · intro h
    rw [← tf_val, ← tf_val, h]
  · intro h
    apply Fin.ext
    have h1 := tf_val (N := N) x
    have h2 := tf_val (N := N) y
    omega
theorem tf_mod (x : Int) : tf N (x % N) = tf N x := tf_eq.2 (Int.emod_emod _ _)
theorem tf_add (x y : Int) : tf N (x + y) = tf N x + tf N y := by
  apply Fin.ext
  have h1 : (((tf N x + tf N y : Fin N)).val : Int) = (x + y) % N := by
    rw [Fin.val_add, Int.natCast_emod, Int.natCast_add, tf_val, tf_val, ← Int.add_emod]
  have h2 := tf_val (N := N) (x + y)
  omega
theorem tf_mul (x y : Int) : tf N (x * y) = tf N x * tf N y := by
  apply Fin.ext
  have h1 : (((tf N x * tf N y : Fin N)).val : Int) = (x * y) % N := by
    rw [Fin.val_mul, Int.natCast_emod, Int.natCast_mul, tf_val, tf_val, ← Int.mul_emod]
  have h2 := tf_val (N := N) (x * y)
  omega
theorem tf_zero : tf N 0 = 0 := by
  apply Fin.ext
  have := tf_val (N := N) 0
  rw [Int.zero_emod] at this
  have h : ((0 : Fin N)).val = 0 := rfl
  omega
theorem tf_sub (x y : Int) : tf N (x - y) = tf N x - tf N y := by
  have h := tf_add (N := N) (x - y) y
  rw [Int.sub_add_cancel] at h
  grind
theorem tf_one : tf N 1 = 1 := by
  apply Fin.ext
  have h1 := tf_val (N := N) 1
  have h2 : ((1 : Fin N)).val = 1 % N := rfl
  have h3 : ((1 % N : Nat) : Int) = 1 % (N : Int) := by rw [Int.natCast_emod]; rfl
  omega
theorem tf_iff_zero {x : Int} : tf N x = 0 ↔ x % N = 0 := by
  rw [← tf_zero, tf_eq, Int.zero_emod]
theorem tf_self (a : Fin N) : tf N (a.val : Int) = a := by
  apply Fin.ext
  have h1 := tf_val (N := N) (a.val : Int)
  rw [Int.emod_eq_of_lt (by omega) (by have := a.isLt; omega)] at h1
  omega
theorem cg_tf {x y : Int} (h : Cg N x y) : tf N x = tf N y := by
  obtain ⟨k, hk⟩ := h
  rw [tf_eq, show x = y + N * k by omega, Int.add_mul_emod_self_left]
/-- a prime has inverses. -/
theorem fld_of {p : Nat} [NeZero p] (hp : Pr p) : Fld p := ⟨fun h => by
    have h1 := congrArg Fin.val h
    have h2 : ((1 : Fin p)).val = 1 % p := rfl
    have h3 : ((0 : Fin p)).val = 0 := rfl
    have := hp.1
    rw [h2, h3, Nat.mod_eq_of_lt (by omega)] at h1
    omega, fun x hx => by
    have hv : x.val ≠ 0 := fun h => hx (Fin.ext h)
    by_cases h2 : p = 2
    · subst h2
      refine ⟨1, Fin.ext ?_⟩
      have h1 : x.val = 1 := by have := x.isLt; omega
      have h3 : ((x * 1 : Fin 2)).val = x.val * 1 % 2 := rfl
      rw [h3, h1]; rfl
    · have hf := fermat hp (hp.odd h2) (a := x.val) (Pr.not_dvd_lt (by omega) x.isLt)
      have hp2 := hp.1
      refine ⟨tf p ((x.val : Int) ^ (p - 2)), ?_⟩
      have h4 := cg_tf hf
      rw [show p - 1 = (p - 2) + 1 by omega, Int.pow_succ, tf_mul, tf_self, tf_one] at h4
      grind⟩
/-- a row as a vector. -/
def vec (N : Nat) [NeZero N] (l : List Int) : V N := fun j => tf N (nth l j)
theorem vec_ge {l : List Int} {j : Nat} (h : l.length ≤ j) : vec N l j = 0 := by unfold vec; rw [nth_ge h, tf_zero]
theorem vec_red (W : Nat) (row : List Int) (j : Nat) : vec N (redL W N row) j = vec N row j := by
  unfold vec redL
  by_cases h : j < max W row.length
  · rw [tabL_at h, tf_mod]
  · rw [nth_ge (by rw [tabL_len]; omega), nth_ge (l := row) (by omega)]
theorem vec_less (row other : List Int) (t : Int) (h : other.length ≤ row.length) (j : Nat) : vec N (lessL N row other t) j = vec N row j - vec N other j * tf N t := by
  unfold vec
  rw [lessL_at]
  by_cases h1 : j < row.length ∧ j < other.length
  · rw [if_pos h1, tf_mod, tf_sub, tf_mul]
  · rw [if_neg h1, nth_ge (l := other) (by omega), tf_zero]
    grind
theorem vec_times (o : List Int) (b : Int) (j : Nat) : vec N (timesL N o b) j = tf N b * vec N o j := by
  unfold vec timesL
  by_cases h : j < o.length
  · rw [tabL_at h, tf_mod, tf_mul]; grind
  · rw [nth_ge (by rw [tabL_len]; omega), nth_ge (l := o) (by omega), tf_zero]
    grind
/-- rows with their places. -/
def sb (N : Nat) [NeZero N] (S : List En) : List (Nat × V N) := S.map fun p => (p.at_, vec N p.row)
theorem sb_mem {S : List En} {p : En} (h : p ∈ S) : (p.at_, vec N p.row) ∈ sb N S := List.mem_map.2 ⟨p, h, rfl⟩
theorem fold_vec {W : Nat} (j : Nat) : ∀ (l : List En) (o : List Int), Ech (sb N l) → (∀ p ∈ l, p.row.length = W) → W ≤ o.length →
    vec N (l.foldl (stepL N) o) j = vec N o j - ((sb N l).map fun e => vec N o e.1 * e.2 j).sum
  | [], o, _, _, _ => by
    show vec N o j = vec N o j - 0
    grind
  | p :: l, o, hE, hl, hW => by
    have hs : ∀ i, vec N (stepL N o p) i = vec N o i - vec N p.row i * vec N o p.at_ := fun i =>
      vec_less o p.row _ (by rw [hl p List.mem_cons_self]; exact hW) i
    have ih := fold_vec j l (stepL N o p) hE.tail (fun x hx => hl x (List.mem_cons_of_mem _ hx)) (by rw [stepL_len]; exact hW)
    rw [List.foldl_cons, ih, hs j]
    show _ = vec N o j - ((p.at_, vec N p.row) :: sb N l |>.map fun e => vec N o e.1 * e.2 j).sum
    rw [List.map_cons, List.sum_cons]
    have ho := (List.pairwise_cons.1 hE.off).1
    have : (sb N l).map (fun e => vec N (stepL N o p) e.1 * e.2 j) = (sb N l).map fun e => vec N o e.1 * e.2 j := by
      refine List.map_congr_left fun e he => ?_
      have h1 : vec N p.row e.1 = 0 := (ho e he).1
      rw [hs e.1, h1]
      grind
    rw [this]
    grind
theorem left_red {W : Nat} {S : List En} (hE : Ech (sb N S)) (hl : ∀ p ∈ S, p.row.length = W) (row : List Int) (j : Nat) : vec N (leftL N W S row) j = red (sb N S) (vec N row) j := by
  unfold leftL
  rw [fold_vec j S (redL W N row) hE hl (by unfold redL; rw [tabL_len]; omega), vec_red]
  unfold red
  congr 1
  congr 1
  exact List.map_congr_left fun e _ => by rw [vec_red]
theorem first_none {o : List Int} (h : firstL o = none) (j : Nat) : nth o j = 0 := by
  by_cases hj : j < o.length
  · unfold firstL at h
    rw [List.findIdx?_eq_none_iff] at h
    have := h (o[j]) (List.getElem_mem hj)
    rw [nth_lt hj]
    simpa using this
  · exact nth_ge (by omega)
theorem first_least {o : List Int} {k : Nat} (h : firstL o = some k) {j : Nat} (hj : j < k) : nth o j = 0 := by
  unfold firstL at h
  rw [List.findIdx?_eq_some_iff_getElem] at h
  obtain ⟨h1, _, h3⟩ := h
  have := h3 j hj
  rw [nth_lt (by omega)]
  simpa using this
theorem red_tf {o : List Int} (h : RedL N o) {j : Nat} : vec N o j = 0 ↔ nth o j = 0 := by
  unfold vec
  rw [tf_iff_zero, Int.emod_eq_of_lt (h j).1 (h j).2]
/-- an inverse of what is not 0. -/
def InvT (N : Nat) [NeZero N] (inv : Int → Int) : Prop := ∀ x, tf N x ≠ 0 → tf N x * tf N (inv x) = 1
/-- rows R come to S. -/
structure Come (N : Nat) [NeZero N] (W : Nat) (R : List (V N)) (S : List En) : Prop where
  good : GoodS N W S
  bas : Bas R (sb N S)
  low : ∀ p ∈ S, ∀ j, j < p.at_ → vec N p.row j = 0
theorem Come.nil (W : Nat) : Come N W [] [] := ⟨.nil _ _, ⟨.nil, fun e h => (by cases h), fun r h => (by cases h)⟩, fun p h => (by cases h)⟩
theorem Come.put {inv : Int → Int} (hI : InvOf N inv) (hT : InvT N inv) {W : Nat} {R : List (V N)} {S : List En} (h : Come N W R S) {row : List Int} (hr : row.length ≤ W) : Come N W (vec N row :: R) (putL N inv W S row) := by
  have h00 : N ≠ 0 := h0.out
  have hg := put_good (q := (N : Int)) (by omega) hI h.good hr
  have hleft := left_red h.bas.ech (fun p hp => h.good.len p hp) row
  have hred := leftL_red (q := (N : Int)) (by omega) W S row
  have hat := fun e (he : e ∈ sb N S) => red_at h.bas.ech (vec N row) he
  have hlen : (leftL N W S row).length = W := by rw [leftL_len]; omega
  refine ⟨hg, ?_, ?_⟩
  · unfold putL
    generalize leftL N W S row = o at *
    cases hf : firstL o with
    | none =>
      have hsp : Sp ((sb N S).map (·.2)) (vec N row) := red_sp _ _ fun j => by
        rw [← hleft]
        exact (red_tf hred).2 (first_none hf j)
      exact ⟨h.bas.ech, fun e he => (h.bas.sub e he).mono fun r hr => List.mem_cons_of_mem _ hr, fun r hr => by
        rcases List.mem_cons.1 hr with rfl | hr
        · exact hsp
        · exact h.bas.all r hr⟩
    | some k =>
      simp only
      obtain ⟨hk1, hk2⟩ := firstL_some hf
      have hk3 : vec N o k ≠ 0 := fun e => hk2 ((red_tf hred).1 e)
      have hy : red (sb N S) (vec N row) k * tf N (inv (nth o k)) = 1 := by rw [← hleft]; exact hT _ hk3
      have hne : ∀ p ∈ S, p.at_ ≠ k := fun p hp e => by
        have h1 := hat _ (sb_mem hp)
        simp only [e] at h1
        rw [← hleft] at h1
        exact hk3 h1
      have hfil : (S.map fun p => (⟨p.at_, lessL N p.row (timesL N o (inv (nth o k))) (nth p.row k)⟩ : En)).filter (fun p => decide (p.at_ ≠ k)) = S.map fun p => (⟨p.at_, lessL N p.row (timesL N o (inv (nth o k))) (nth p.row k)⟩ : En) := by
        refine List.filter_eq_self.2 fun x hx => ?_
        obtain ⟨p, hp, rfl⟩ := List.mem_map.1 hx
        exact decide_eq_true (hne p hp)
      rw [hfil]
      have hb := h.bas.snoc hy
      have e : sb N (⟨k, timesL N o (inv (nth o k))⟩ :: S.map fun p => (⟨p.at_, lessL N p.row (timesL N o (inv (nth o k))) (nth p.row k)⟩ : En))
          = (k, fun j => tf N (inv (nth o k)) * red (sb N S) (vec N row) j) :: (sb N S).map fun e => (e.1, fun j => e.2 j - e.2 k * (tf N (inv (nth o k)) * red (sb N S) (vec N row) j)) := by
        unfold sb
        rw [List.map_cons, List.map_map, List.map_map]
        refine List.cons_eq_cons.2 ⟨?_, List.map_congr_left fun p hp => ?_⟩
        · refine Prod.ext rfl (funext fun j => ?_)
          show vec N (timesL N o _) j = _
          rw [vec_times, hleft]
          rfl
        · refine Prod.ext rfl (funext fun j => ?_)
          show vec N (lessL N p.row (timesL N o _) _) j = vec N p.row j - vec N p.row k * _
          rw [vec_less _ _ _ (by unfold timesL; rw [tabL_len, hlen, h.good.len p hp]; exact Nat.le_refl _), vec_times, hleft]
          show _ - _ * vec N p.row k = _
          unfold sb
          grind
      rw [e]
      exact hb
  · unfold putL
    generalize leftL N W S row = o at *
    cases hf : firstL o with
    | none => exact h.low
    | some k =>
      simp only
      obtain ⟨hk1, hk2⟩ := firstL_some hf
      have hz : ∀ j, j < k → vec N (timesL N o (inv (nth o k))) j = 0 := fun j hj => by
        rw [vec_times]
        have : vec N o j = 0 := (red_tf hred).2 (first_least hf hj)
        rw [this]; grind
      intro x hx j hj
      rcases List.mem_cons.1 hx with rfl | hx
      · exact hz j hj
      · obtain ⟨p, hp, rfl⟩ := List.mem_map.1 (List.mem_filter.1 hx).1
        show vec N (lessL N p.row (timesL N o _) _) j = 0
        rw [vec_less _ _ _ (by unfold timesL; rw [tabL_len, hlen, h.good.len p hp]; exact Nat.le_refl _)]
        have h1 := h.low p hp j hj
        rw [h1]
        rcases Nat.lt_or_ge j k with h2 | h2
        · rw [hz j h2]; grind
        · have h3 : tf N (nth p.row k) = 0 := h.low p hp k (by have : j < p.at_ := hj; omega)
          rw [h3]; grind
theorem Come.all {inv : Int → Int} (hI : InvOf N inv) (hT : InvT N inv) {W : Nat} : ∀ (rows : List (List Int)) {R : List (V N)} {S : List En}, Come N W R S → (∀ r ∈ rows, r.length ≤ W) →
    Come N W ((rows.map (vec N)).reverse ++ R) (rows.foldl (putL N inv W) S)
  | [], _, _, h, _ => h
  | r :: rows, R, S, h, hl => by
    rw [List.foldl_cons, List.map_cons, List.reverse_cons, List.append_assoc]
    exact Come.all hI hT rows (h.put hI hT (hl r List.mem_cons_self)) fun x hx => hl x (List.mem_cons_of_mem _ hx)
theorem Bas.congr {R R' : List (V N)} {L : List (Nat × V N)} (h : Bas R L) (hs : ∀ r ∈ R, r ∈ R') (hs' : ∀ r ∈ R', r ∈ R) : Bas R' L :=
  ⟨h.ech, fun e he => (h.sub e he).mono hs, fun r hr => h.all r (hs' r hr)⟩
/-- the rows of a space are a basis. -/
theorem space_come {inv : Int → Int} (hI : InvOf N inv) (hT : InvT N inv) {W : Nat} {rows : List (List Int)} (hl : ∀ r ∈ rows, r.length ≤ W) : Come N W (rows.map (vec N)) (spaceL N inv W rows) := by
  obtain ⟨h1, h2, h3⟩ := Come.all hI hT rows (Come.nil W) hl
  refine ⟨h1, Bas.congr h2 (fun r hr => ?_) (fun r hr => ?_), h3⟩
  · rw [List.append_nil] at hr
    exact List.mem_reverse.1 hr
  · rw [List.append_nil]
    exact List.mem_reverse.2 hr
theorem rank_rk {inv : Int → Int} (hI : InvOf N inv) (hT : InvT N inv) (rows : List (List Int)) : Rk (rows.map (vec N)) (rankL N inv rows) :=
  ⟨_, (space_come hI hT (wideL_le rows)).bas, by unfold sb rankL; rw [List.length_map]⟩
theorem hangs_iff {inv : Int → Int} (hI : InvOf N inv) (hT : InvT N inv) (rows : List (List Int)) (row : List Int) : hangsL N inv rows row = true ↔ Sp (rows.map (vec N)) (vec N row) := by
  have h00 : N ≠ 0 := h0.out
  have hc := space_come hI hT (wideL_le rows)
  unfold hangsL
  generalize spaceL N inv (wideL rows) rows = S at *
  have hleft := left_red hc.bas.ech (fun p hp => hc.good.len p hp) row
  have hred := leftL_red (q := (N : Int)) (by omega) (wideL rows) S row
  have hat := fun e (he : e ∈ sb N S) => red_at hc.bas.ech (vec N row) he
  generalize leftL N (wideL rows) S row = o at *
  rw [← hc.bas.sp]
  cases hf : firstL o with
  | none => exact ⟨fun _ => red_sp _ _ fun j => by rw [← hleft]; exact (red_tf hred).2 (first_none hf j), fun _ => rfl⟩
  | some k =>
    refine ⟨fun h => (by cases h), fun h => ?_⟩
    exfalso
    obtain ⟨_, hk2⟩ := firstL_some hf
    apply hk2
    rw [← red_tf hred, hleft]
    refine hc.bas.ech.zero (v := red (sb N S) (vec N row)) ?_ hat k
    refine Sp.comb (-1) (sum_sp (vec N row) (sb N S)) h fun j => ?_
    unfold red
    grind
end
end Go.Proofs.YtcojnjhffmhbiaaDoor
end

section
namespace Go.Proofs.YtcojnjhffmhbiaaDoor
open Go Go.Lin Go.Psi
/-- modulo N ranks are what ranks are. -/
structure FQ (q : Int) (N : Nat) [NeZero N] : Prop where
  eq : q = (N : Int)
  fld : Fld N
  io : InvOf N (iv N)
  it : InvT N (iv N)
theorem fq_of {q : Int} (hv : primeV q = true) (hp : Pr q.toNat) : ∃ (N : Nat) (_ : NeZero N), FQ q N := by
  obtain ⟨h2, hle⟩ := primeV_ge hv
  obtain ⟨N, rfl⟩ := Int.eq_ofNat_of_zero_le (show 0 ≤ q by omega)
  have hN : NeZero N := ⟨by omega⟩
  rw [Int.toNat_natCast] at hp
  have hok := okm_of (show 0 < (N : Int) by omega) hle
  refine ⟨N, hN, rfl, fld_of hp, inv_of hok h2, fun x hx => ?_⟩
  obtain ⟨y, hy⟩ := (fld_of hp).inv _ hx
  have h1 : tf N ((y.val : Int) * x) = tf N 1 := by
    rw [tf_mul, tf_self, tf_one]
    grind
  have h3 : InvIs x N y.val := by
    refine ⟨by omega, by have := y.isLt; omega, ((y.val : Int) * x - 1) / N, ?_⟩
    have h4 := tf_eq.1 h1
    have h5 := Int.emod_emod_of_dvd (y.val * x - 1) (Int.dvd_refl (N : Int))
    have h6 : ((y.val : Int) * x - 1) % N = 0 := by rw [Int.sub_emod, h4, Int.sub_self, Int.zero_emod]
    have h7 := Int.mul_ediv_add_emod ((y.val : Int) * x - 1) N
    rw [h6] at h7
    omega
  show tf N x * tf N (iVal x N) = 1
  rw [iVal_is hok h3, tf_self]
  exact hy
section
variable {q : Int} {N : Nat} [h0 : NeZero N]
theorem FQ.rk (h : FQ q N) (hv : primeV q = true) (f : List (List Int)) : Rk (f.map (vec N)) (rankV f q) := by
  unfold rankV
  rw [if_pos hv]
  obtain ⟨rfl, _, h1, h2⟩ := h
  exact rank_rk h1 h2 f
theorem FQ.hangs (h : FQ q N) (hv : primeV q = true) (f : List (List Int)) (row : List Int) : hangsV f row q = true ↔ Sp (f.map (vec N)) (vec N row) := by
  unfold hangsV
  rw [hv, Bool.true_and]
  obtain ⟨rfl, _, h1, h2⟩ := h
  exact hangs_iff h1 h2 f row
theorem FQ.wide (h : FQ q N) (hv : primeV q = true) (f : List (List Int)) : rankV f q ≤ wideL f := by
  unfold rankV
  rw [if_pos hv]
  obtain ⟨rfl, _, h1, h2⟩ := h
  exact good_len (space_come h1 h2 (wideL_le f)).good
end
theorem rank_prime {q : Int} (hv : primeV q = true) (hp : Pr q.toNat) : rankV [[1]] q = 1 := by
  obtain ⟨N, hN, h⟩ := fq_of hv hp
  have h1 : Rk ([[1]].map (vec N)) 1 := by
    refine Rk.nil.more h.fld fun hs => ?_
    have := hs.nil 0
    unfold vec at this
    rw [show nth [1] 0 = 1 from rfl, tf_one] at this
    exact h.fld.one this
  exact (h.rk hv [[1]]).unique h.fld h1
/-- a row more. -/
theorem rank_more {q : Int} (hv : primeV q = true) (hp : Pr q.toNat) (f : List (List Int)) (row : List Int) : rankV (f ++ [row]) q = rankV f q + if hangsV f row q = true then 0 else 1 := by
  obtain ⟨N, hN, h⟩ := fq_of hv hp
  have hr := h.rk hv (f ++ [row])
  have e : ∀ r, r ∈ (f ++ [row]).map (vec N) ↔ r ∈ vec N row :: f.map (vec N) := fun r => by
    rw [List.map_append, List.mem_append, List.mem_cons]
    simp only [List.map_cons, List.map_nil, List.mem_singleton]
    exact Or.comm
  by_cases hh : hangsV f row q = true
  · rw [if_pos hh]
    exact hr.eq h.fld ((h.rk hv f).same ((h.hangs hv f row).1 hh)) (fun r hr => Sp.mem ((e r).1 hr)) fun r hr => Sp.mem ((e r).2 hr)
  · rw [if_neg hh]
    exact hr.eq h.fld ((h.rk hv f).more h.fld fun hs => hh ((h.hangs hv f row).2 hs)) (fun r hr => Sp.mem ((e r).1 hr)) fun r hr => Sp.mem ((e r).2 hr)
theorem rank_own {q : Int} (hv : primeV q = true) (hp : Pr q.toNat) {f : List (List Int)} {row : List Int} (hm : row ∈ f) : hangsV f row q = true := by
  obtain ⟨N, hN, h⟩ := fq_of hv hp
  exact (h.hangs hv f row).2 (Sp.mem (List.mem_map_of_mem hm))
theorem rank_bounds {q : Int} (hv : primeV q = true) (hp : Pr q.toNat) (f : List (List Int)) : rankV f q ≤ f.length ∧ rankV f q ≤ wideL f := by
  obtain ⟨N, hN, h⟩ := fq_of hv hp
  have := (h.rk hv f).le_len h.fld
  rw [List.length_map] at this
  exact ⟨this, h.wide hv f⟩
/-- shares. -/
theorem rank_shared {q : Int} (hv : primeV q = true) (hp : Pr q.toNat) (a b c : List (List Int)) :
    rankV (a ++ (b ++ c)) q + rankV c q ≤ rankV (a ++ c) q + rankV (b ++ c) q ∧ rankV (a ++ c) q ≤ rankV (a ++ (b ++ c)) q ∧ rankV (b ++ c) q ≤ rankV (a ++ (b ++ c)) q := by
  obtain ⟨N, hN, h⟩ := fq_of hv hp
  have r1 := h.rk hv (a ++ c)
  have r2 := h.rk hv (b ++ c)
  have r3 := h.rk hv (a ++ (b ++ c))
  have r4 := h.rk hv c
  rw [List.map_append] at r1 r2 r3
  have r3' := r3
  rw [List.map_append] at r3'
  refine ⟨Rk.shared h.fld _ _ _ r1 r2 r3' r4, r1.le h.fld r3' fun r hr => Sp.mem ?_, ?_⟩
  · rcases List.mem_append.1 hr with k | k
    · exact List.mem_append_left _ k
    · exact List.mem_append_right _ (List.mem_append_right _ k)
  · exact r2.le h.fld r3' fun r hr => Sp.mem (List.mem_append_right _ hr)
/-- ranks of what hangs on one another. -/
theorem rank_same {q : Int} (hv : primeV q = true) (hp : Pr q.toNat) {a b : List (List Int)} (h1 : ∀ (N : Nat) [NeZero N], Fld N → q = (N : Int) → (∀ r ∈ a, Sp (b.map (vec N)) (vec N r)) ∧ ∀ r ∈ b, Sp (a.map (vec N)) (vec N r)) : rankV a q = rankV b q := by
  obtain ⟨N, hN, h⟩ := fq_of hv hp
  obtain ⟨k1, k2⟩ := h1 N h.fld h.eq
  refine (h.rk hv a).eq h.fld (h.rk hv b) (fun r hr => ?_) fun r hr => ?_
  · obtain ⟨x, hx, rfl⟩ := List.mem_map.1 hr
    exact k1 x hx
  · obtain ⟨x, hx, rfl⟩ := List.mem_map.1 hr
    exact k2 x hx
/-- columns as rows. -/
def turnL (f : List (List Int)) : List (List Int) := (List.range (wideL f)).map fun j => (List.range f.length).map fun i => nth (f.getD i []) j
theorem rank_turned {q : Int} (hv : primeV q = true) (hp : Pr q.toNat) (f : List (List Int)) : rankV f q = rankV (turnL f) q := by
  obtain ⟨N, hN, h⟩ := fq_of hv hp
  have r1 := h.rk hv f
  have r2 := h.rk hv (turnL f)
  have hrow : ∀ i, f.length ≤ i → ∀ j, vec N (f.getD i []) j = 0 := fun i hi j => by
    rw [List.getD_eq_getElem?_getD, List.getElem?_eq_none hi]
    exact vec_ge (Nat.zero_le j)
  have hcol : ∀ i j, wideL f ≤ j → vec N (f.getD i []) j = 0 := fun i j hj => by
    rcases Nat.lt_or_ge i f.length with hi | hi
    · refine vec_ge (Nat.le_trans (wideL_le f _ ?_) hj)
      rw [List.getD_eq_getElem?_getD, List.getElem?_eq_getElem hi]
      exact List.getElem_mem hi
    · exact hrow i hi j
  have e1 : f.map (vec N) = (List.range f.length).map fun i => vec N (f.getD i []) := by
    apply List.ext_getElem (by simp)
    intro i h1 h2
    rw [List.length_map] at h1
    simp [List.getD_eq_getElem?_getD, List.getElem?_eq_getElem h1]
  have e2 : (turnL f).map (vec N) = (List.range (wideL f)).map fun j i => vec N (f.getD i []) j := by
    unfold turnL
    rw [List.map_map]
    refine List.map_congr_left fun j _ => funext fun i => ?_
    show tf N (nth ((List.range f.length).map fun i => nth (f.getD i []) j) i) = tf N (nth (f.getD i []) j)
    congr 1
    rcases Nat.lt_or_ge i f.length with hi | hi
    · rw [nth_lt (by simpa using hi)]
      simp
    · rw [nth_ge (by simpa using hi), List.getD_eq_getElem?_getD, List.getElem?_eq_none hi]
      exact (nth_ge (Nat.zero_le j)).symm
  rw [e1] at r1
  rw [e2] at r2
  have a1 := Rk.turned h.fld (fun i j hi => hrow i hi j) r1 r2
  have a2 := Rk.turned h.fld (M := fun j i => vec N (f.getD i []) j) (fun j i hj => hcol i j hj) r2 r1
  omega
end Go.Proofs.YtcojnjhffmhbiaaDoor
end

section
namespace Go.Proofs.YtcojnjhffmhbiaaDoor
open Go Go.RowKit Go.Maps Go.Shelf Go.Proofs
/-- the j-th column. -/
def colL (f : List (List Int)) (j : Nat) : List Int := (List.range f.length).map fun i => nth (f.getD i []) j
theorem colL_len (f : List (List Int)) (j : Nat) : (colL f j).length = f.length := by simp [colL]
theorem colL_at {f : List (List Int)} {i : Nat} {l : List Int} (h : f[i]? = some l) (j : Nat) : (colL f j)[i]? = some (l.getD j 0) := by
  have hi := (List.getElem?_eq_some_iff.1 h).1
  unfold colL
  rw [List.getElem?_map, List.getElem?_range hi]
  show some (nth (f.getD i []) j) = _
  rw [List.getD_eq_getElem?_getD (l := f), h]; rfl
theorem turnL_at (f : List (List Int)) {j : Nat} (h : j < wideL f) : (turnL f)[j]? = some (colL f j) := by
  unfold turnL
  rw [List.getElem?_map, List.getElem?_range h]; rfl
theorem turnL_len (f : List (List Int)) : (turnL f).length = wideL f := by simp [turnL]
theorem turnL_u {f : List (List Int)} (h : ∀ l ∈ f, U64s l) : ∀ l ∈ turnL f, U64s l := by
  intro l hl
  obtain ⟨j, _, rfl⟩ := List.mem_map.1 hl
  intro z hz
  obtain ⟨i, hi, rfl⟩ := List.mem_map.1 hz
  have hi2 := List.mem_range.1 hi
  rw [List.getD_eq_getElem?_getD, List.getElem?_eq_getElem hi2]
  exact (h _ (List.getElem_mem hi2)).nth j
def rowsU (W : List (List Int)) : List (List Value) := W.map (·.map (.int .u64))
theorem rowsU_take {W : List (List Int)} {j : Nat} {l : List Int} (h : W[j]? = some l) : rowsU (W.take j) ++ [l.map (.int .u64)] = rowsU (W.take (j + 1)) := by
  unfold rowsU
  rw [take_snocR h]; simp
set_option maxRecDepth 100000 in
set_option maxHeartbeats 1000000 in
theorem turned04_c (A : Option Addr) (f : List (List Int)) (c : Nat) (w : World) (hA : Grid w A f) (hl : f.length ≤ 17592186044415) (hwd : wideL f ≤ 1000000) :
    Calls Tryd.prog 31 #[.slice A f.length c] w fun e w' => ∃ v, e = .returned v ∧ OwnRows w' w.heap.size 23 24 v (rowsU (turnL f)) ∧ Below w.heap.size w w' := by
  have hrw : ∀ w', Below w.heap.size w w' → Calls Tryd.prog 32 #[.slice A f.length c] w' fun e w'' => e = .returned (.int .i64 (wideL f : Int)) ∧ w' = w'' := fun w' hb => wide04_c A f c w' (hA.below hb) (by omega)
  have hat : ∀ j, j < wideL f → (turnL f)[j]? = some (colL f j) := fun j h => turnL_at f h
  have htl := turnL_len f
  obtain ⟨n, hn⟩ : ∃ n, wideL f = n := ⟨_, rfl⟩
  rw [hn] at hrw hat hwd htl
  have HRW := hid hrw
  have HAT := hid (⟨hat, htl⟩ : _ ∧ _)
  clear hrw hat hn htl
  go_enter Tryd.func31, Tryd.ntmps31
  go_wp2
  go_loopw [3, 4, 5, 6, 7] (fun o i _ _ _ wr => ∃ k : Nat, i = .int .i64 k ∧ k ≤ n ∧ OwnRows wr w.heap.size 23 24 o (rowsU ((turnL f).take k)) ∧ Below w.heap.size w wr) (fun _ i _ _ _ _ => n - (intOf i).toNat)
  case atStart => exact ⟨0, rfl, by omega, by simpa [rowsU] using OwnRows.nil w w.heap.size 23 24, Below.refl _ _⟩
  case round =>
    obtain ⟨k, rfl, hk, ⟨vs, hown, hvl, hvr⟩, hb⟩ := hrel
    by_cases hlt : k < n
    · have hz := HAT.out.1 k hlt
      have hvl' : vs.length = k := by rw [hvl]; simp [rowsU]; have := HAT.out.2; omega
      have HV := hid (⟨hz, hvl, hvl', hvr⟩ : _ ∧ _ ∧ _ ∧ _)
      clear hz hvl hvl' hvr
      go_wp2_with (go_at_call 32; refine (HRW.out _ hb).mono ?_; rintro e w2 ⟨rfl, rfl⟩)
      generalize wr = wo at *
      go_loopw [5, 6, 7] (fun o i _ w4 => ∃ i' : Nat, i = .int .i64 i' ∧ i' ≤ f.length ∧ Own w4 wo.heap.size 24 o (((colL f k).take i').map (.int .u64)) ∧ Below wo.heap.size wo w4) (fun _ i _ _ => f.length - (intOf i).toNat)
      case atStart => exact ⟨0, rfl, by omega, by simpa using Own.nil wo wo.heap.size 24, Below.refl _ _⟩
      case round =>
        obtain ⟨i, rfl, hi, hown4, hb4⟩ := hrel
        by_cases hlt2 : i < f.length
        · obtain ⟨l, hxl⟩ := get_of_lt hlt2
          obtain ⟨o1, off, A', c', rfl, hc, hcs, hln⟩ := ((hA.below hb).below hb4).at_ hxl
          have hcj := colL_at hxl k
          have hs : ((colL f k).take i).map (Value.int .u64) ++ [Value.int .u64 (l.getD k 0)] = ((colL f k).take (i + 1)).map (Value.int .u64) := by
            rw [take_snocR hcj]; simp
          have hlen : (((colL f k).take i).map (Value.int .u64)).length = i := by simp [colL_len]; omega
          have HS := hid (⟨hs, hlen⟩ : _ ∧ _)
          clear hs hlen hcj hxl
          by_cases hin : k < l.length
          · obtain ⟨z, hz⟩ := get_of_lt hin
            obtain ⟨o2, off2, rfl, hcz⟩ := hcs.at_map hz
            have hgd : l.getD k 0 = z := by rw [List.getD_eq_getElem?_getD, hz]; rfl
            rw [hgd] at HS
            clear hgd hz
            go_wp2_with (at_builtin; refine wpList_push elt_u64 wr rfl _ _ rfl wo.heap.size hown4 rfl (.int .u64 z) rfl rfl (by rw [HS.out.2]; omega) (by rw [HS.out.2]; omega) hb4.size ?_; intro v' w3 hown5 _ hb5)
            go_roundw
            case rel =>
              rw [HS.out.1] at hown5
              exact ⟨i + 1, by go_num, by omega, hown5, hb4.trans hb5⟩
            case measure => simp [intOf]; omega
          · have hgd : l.getD k 0 = 0 := by rw [List.getD_eq_getElem?_getD, List.getElem?_eq_none (by omega)]; rfl
            rw [hgd] at HS
            clear hgd
            go_wp2_with (at_builtin; refine wpList_push elt_u64 wr rfl _ _ rfl wo.heap.size hown4 rfl (.int .u64 0) rfl rfl (by rw [HS.out.2]; omega) (by rw [HS.out.2]; omega) hb4.size ?_; intro v' w3 hown5 _ hb5)
            go_roundw
            case rel =>
              rw [HS.out.1] at hown5
              exact ⟨i + 1, by go_num, by omega, hown5, hb4.trans hb5⟩
            case measure => simp [intOf]; omega
        · obtain rfl : i = f.length := by omega
          rw [List.take_of_length_le (by rw [colL_len]; exact Nat.le_refl _)] at hown4
          have hrt := hown4.rowT
          have hown5 := hown.below hb4
          have hvr5 : ∀ (j : Nat) u xs, vs[j]? = some u → (rowsU ((turnL f).take k))[j]? = some xs → RowT wr 24 u xs := fun j u xs a b => (HV.out.2.2.2 j u xs a b).below hb4
          have HVR := hid hvr5
          clear hvr5
          obtain ⟨A7, c7, rfl, _⟩ := hown4.form
          rw [List.length_map] at hrt
          clear hown4
          go_wp2_with (at_builtin; refine wpList_push elt_rows wr rfl _ _ rfl w.heap.size hown5 rfl (.slice A7 _ c7) rfl rfl (by rw [HV.out.2.2.1]; omega) (by rw [HV.out.2.2.1]; omega) (by have := hb.size; have := hb4.size; omega) ?_; intro v' w3 hown6 hoth hb6)
          go_roundw
          case rel =>
            have hrows := OwnRows.push (w := wr) (by decide) HV.out.2.1 HVR.out hown5 hrt hown6 hoth
            rw [rowsU_take HV.out.1] at hrows
            exact ⟨k + 1, by go_num, by omega, hrows, (below_next hb hb.size hb4).trans hb6⟩
          case measure => simp [intOf]; omega
    · obtain rfl : k = n := by omega
      go_wp2_with (go_at_call 32; refine (HRW.out _ hb).mono ?_; rintro e w2 ⟨rfl, rfl⟩)
      go_ret
      rw [List.take_of_length_le (by rw [HAT.out.2]; exact Nat.le_refl _)] at hvl hvr
      exact ⟨_, rfl, ⟨vs, hown, hvl, hvr⟩, hb⟩
theorem Few.ok {f : List (List Int)} (h : Few f) (hu : ∀ l ∈ f, U64s l) : RowsOk f := ⟨by have := h.1; omega, fun l hl => by have := h.2 l hl; omega, hu⟩
theorem RowsOk.app {a b : List (List Int)} (ha : RowsOk a) (hb : RowsOk b) (hl : a.length + b.length ≤ 1000) : RowsOk (a ++ b) :=
  ⟨by rw [List.length_append]; omega, fun l hl => by rcases List.mem_append.1 hl with h | h; exact ha.len l h; exact hb.len l h, fun l hl => by rcases List.mem_append.1 hl with h | h; exact ha.u l h; exact hb.u l h⟩
theorem rankV_len (f : List (List Int)) (q : Int) (hp : primeV q = true → Go.Psi.Pr q.toNat) : rankV f q ≤ f.length := by
  cases hv : primeV q with
  | true => exact (rank_bounds hv (hp hv) f).1
  | false => rw [rankV_no hv]; exact Nat.zero_le _
theorem grid_one {w : World} {g : Nat} {e : TypeId} {v : Value} {l : List Int} (hO : Row1 w g e [v]) (h : RowV w v l) : Grid w (some ⟨g, 0, none⟩) [l] := grid_head hO h
end Go.Proofs.YtcojnjhffmhbiaaDoor
end

section
namespace Go.Proofs.YtcojnjhffmhbiaaDoor
open Go Go.RowKit Go.Lin Go.Psi
theorem nth_getD (l : List Int) (j : Nat) : nth l j = l.getD j 0 := by
  rw [List.getD_eq_getElem?_getD]; rfl
theorem rank_set {q : Int} (hv : primeV q = true) (hp : Pr q.toNat) {a : List (List Int)} {i : Nat} {r r' : List Int} (hr : a[i]? = some r)
    (h : ∀ (N : Nat) [NeZero N], Fld N → q = (N : Int) → Sp ((a.set i r').map (vec N)) (vec N r) ∧ Sp (a.map (vec N)) (vec N r')) : rankV (a.set i r') q = rankV a q := by
  refine rank_same hv hp fun N _ hF hq => ?_
  obtain ⟨h1, h2⟩ := h N hF hq
  refine ⟨fun s hs => ?_, fun s hs => ?_⟩
  · rcases List.mem_or_eq_of_mem_set hs with h | rfl
    · exact Sp.mem (List.mem_map_of_mem h)
    · exact h2
  · obtain ⟨j, hj, e⟩ := List.getElem_of_mem hs
    by_cases hij : i = j
    · subst hij
      rw [List.getElem?_eq_getElem hj, e] at hr
      obtain rfl := Option.some.inj hr
      exact h1
    · refine Sp.mem (List.mem_map_of_mem (List.mem_of_getElem? (i := j) ?_))
      rw [List.getElem?_set_ne hij, List.getElem?_eq_getElem hj, e]
theorem rank_rev {q : Int} (hv : primeV q = true) (hp : Pr q.toNat) (a : List (List Int)) : rankV a.reverse q = rankV a q :=
  rank_same hv hp fun _ _ _ _ => ⟨fun _ hs => Sp.mem (List.mem_map_of_mem (List.mem_reverse.1 hs)), fun _ hs => Sp.mem (List.mem_map_of_mem (List.mem_reverse.2 hs))⟩
/-- a row times a number: while it is made. -/
def tmsMid (l : List Int) (x q : Int) (m : Nat) : List Int := (List.range l.length).map fun j => if j < m then mMul (l.getD j 0) x q else l.getD j 0
/-- a row and another's multiple: while it is made. -/
def addMid (l o : List Int) (x q : Int) (m : Nat) : List Int := (List.range (max l.length m)).map fun j => if j < m then mAdd (l.getD j 0) (mMul (o.getD j 0) x q) q else l.getD j 0
theorem tmsMid_len (l : List Int) (x q : Int) (m : Nat) : (tmsMid l x q m).length = l.length := by simp [tmsMid]
theorem tmsMid_zero (l : List Int) (x q : Int) : tmsMid l x q 0 = l := by
  apply List.ext_getElem (by simp [tmsMid])
  intro j h1 h2
  simp [tmsMid, h2]
theorem tmsMid_at {l : List Int} {x q : Int} {m : Nat} (h : m < l.length) : (tmsMid l x q m)[m]? = some (l.getD m 0) := by
  unfold tmsMid
  rw [List.getElem?_map, List.getElem?_range h, Option.map_some, if_neg (by omega)]
theorem tmsMid_set (l : List Int) (x q : Int) (m : Nat) : (tmsMid l x q m).set m (mMul (l.getD m 0) x q) = tmsMid l x q (m + 1) := by
  apply List.ext_getElem (by simp [tmsMid])
  intro j h1 h2
  rw [List.getElem_set]
  simp only [tmsMid, List.getElem_map, List.getElem_range]
  by_cases e : m = j
  · subst e
    rw [if_pos rfl, if_pos (by omega)]
  · rw [if_neg e]
    by_cases h3 : j < m
    · rw [if_pos h3, if_pos (by omega)]
    · rw [if_neg h3, if_neg (by omega)]
theorem getD_u64R {l : List Int} (h : U64s l) (j : Nat) : U64 (l.getD j 0) := by
  rw [List.getD_eq_getElem?_getD]
  cases hj : l[j]? with
  | none => exact ⟨by decide, by decide⟩
  | some z => exact h z (List.mem_of_getElem? hj)
theorem tmsMid_u64 {l : List Int} (h : U64s l) (x q : Int) (m : Nat) : U64s (tmsMid l x q m) := by
  intro z hz
  obtain ⟨j, _, rfl⟩ := List.mem_map.1 hz
  split
  · exact mMul_u64 ..
  · exact getD_u64R h j
theorem addMid_len (l o : List Int) (x q : Int) (m : Nat) : (addMid l o x q m).length = max l.length m := by simp [addMid]
theorem addMid_zero (l o : List Int) (x q : Int) : addMid l o x q 0 = l := by
  apply List.ext_getElem (by simp [addMid])
  intro j h1 h2
  simp [addMid, h2]
/-- a 0 more, where the row is too short. -/
theorem addMid_more {l o : List Int} {x q : Int} {m : Nat} (h : l.length ≤ m) : (addMid l o x q m ++ [0]).set m (mAdd (l.getD m 0) (mMul (o.getD m 0) x q) q) = addMid l o x q (m + 1) := by
  have hl : max l.length m = m := by omega
  have hl2 : max l.length (m + 1) = m + 1 := by omega
  apply List.ext_getElem (by rw [List.length_set, List.length_append, addMid_len, addMid_len, hl, hl2]; rfl)
  intro j h1 h2
  rw [addMid_len, hl2] at h2
  rw [List.getElem_set]
  by_cases e : m = j
  · subst e
    rw [if_pos rfl]
    simp only [addMid, List.getElem_map, List.getElem_range]
    rw [if_pos (by omega)]
  · rw [if_neg e, List.getElem_append_left (by rw [addMid_len]; omega)]
    simp only [addMid, List.getElem_map, List.getElem_range]
    rw [if_pos (by omega), if_pos (by omega)]
theorem addMid_set {l o : List Int} {x q : Int} {m : Nat} (h : m < l.length) : (addMid l o x q m).set m (mAdd (l.getD m 0) (mMul (o.getD m 0) x q) q) = addMid l o x q (m + 1) := by
  apply List.ext_getElem (by rw [List.length_set, addMid_len, addMid_len]; omega)
  intro j h1 h2
  rw [List.getElem_set]
  simp only [addMid, List.getElem_map, List.getElem_range]
  by_cases e : m = j
  · subst e
    rw [if_pos rfl, if_pos (by omega)]
  · rw [if_neg e]
    by_cases h3 : j < m
    · rw [if_pos h3, if_pos (by omega)]
    · rw [if_neg h3, if_neg (by omega)]
theorem addMid_at {l o : List Int} {x q : Int} {m : Nat} (h : m < l.length) : (addMid l o x q m)[m]? = some (l.getD m 0) := by
  unfold addMid
  rw [List.getElem?_map, List.getElem?_range (by omega), Option.map_some, if_neg (by omega)]
theorem addMid_u64 {l : List Int} (h : U64s l) (o : List Int) (x q : Int) (m : Nat) : U64s (addMid l o x q m) := by
  intro z hz
  obtain ⟨j, _, rfl⟩ := List.mem_map.1 hz
  split
  · exact mAdd_u64 ..
  · exact getD_u64R h j
theorem vec_tms {N : Nat} [NeZero N] (hq : okm (N : Int) = true) (l : List Int) (x : Int) (j : Nat) : vec N (tmsMid l x N l.length) j = vec N l j * tf N x := by
  rcases Nat.lt_or_ge j l.length with h | h
  · unfold vec
    have e : nth (tmsMid l x N l.length) j = mMul (l.getD j 0) x N := by
      rw [nth_lt (by rw [tmsMid_len]; exact h)]
      simp only [tmsMid, List.getElem_map, List.getElem_range]
      rw [if_pos h]
    rw [e, mMul_ok hq, tf_mod, tf_mul, nth_getD]
  · rw [vec_ge (by rw [tmsMid_len]; exact h), vec_ge h, Fin.zero_mul]
theorem vec_add {N : Nat} [NeZero N] (hq : okm (N : Int) = true) (l o : List Int) (x : Int) (j : Nat) : vec N (addMid l o x N o.length) j = vec N l j + vec N o j * tf N x := by
  rcases Nat.lt_or_ge j (max l.length o.length) with h | h
  · unfold vec
    have e : nth (addMid l o x N o.length) j = if j < o.length then mAdd (l.getD j 0) (mMul (o.getD j 0) x N) N else l.getD j 0 := by
      rw [nth_lt (by rw [addMid_len]; exact h)]
      simp only [addMid, List.getElem_map, List.getElem_range]
    rw [e]
    split
    · rw [mAdd_ok hq, mMul_ok hq, tf_mod, tf_add, tf_mod, tf_mul, nth_getD, nth_getD]
    · rename_i hj
      rw [nth_ge (l := o) (by omega), tf_zero, Fin.zero_mul, Fin.add_zero, nth_getD]
  · rw [vec_ge (by rw [addMid_len]; exact h), vec_ge (l := l) (by omega), vec_ge (l := o) (by omega), Fin.zero_mul, Fin.add_zero]
theorem rank_times {q : Int} (hv : primeV q = true) (hp : Pr q.toNat) {a : List (List Int)} {i : Nat} {r : List Int} (hr : a[i]? = some r) {x : Int} (hx : x % q ≠ 0) : rankV (a.set i (tmsMid r x q r.length)) q = rankV a q := by
  have hok := (okm_prime hv).1
  refine rank_set hv hp hr fun N _ hF e => ?_
  subst e
  have hi := (List.getElem?_eq_some_iff.1 hr).1
  obtain ⟨y, hy⟩ := hF.inv (tf N x) fun e => hx (tf_iff_zero.1 e)
  constructor
  · refine Sp.add y (r := vec N (tmsMid r x N r.length)) (List.mem_map_of_mem (List.mem_set hi _)) Sp.zero fun j => ?_
    rw [vec_tms hok]
    grind
  · refine Sp.add (tf N x) (r := vec N r) (List.mem_map_of_mem (List.mem_of_getElem? hr)) Sp.zero fun j => ?_
    rw [vec_tms hok]
    grind
theorem rank_added {q : Int} (hv : primeV q = true) (hp : Pr q.toNat) {a : List (List Int)} {i k : Nat} {r o : List Int} (hr : a[k]? = some r) (ho : a[i]? = some o) (hik : k ≠ i) (x : Int) : rankV (a.set k (addMid r o x q o.length)) q = rankV a q := by
  have hok := (okm_prime hv).1
  refine rank_set hv hp hr fun N _ hF e => ?_
  subst e
  have hk := (List.getElem?_eq_some_iff.1 hr).1
  constructor
  · have h1 : Sp ((a.set k (addMid r o x N o.length)).map (vec N)) (vec N o) := by
      refine Sp.mem (List.mem_map_of_mem (List.mem_of_getElem? (i := i) ?_))
      rw [List.getElem?_set_ne hik]; exact ho
    refine h1.comb (-(tf N x)) (Sp.mem (List.mem_map_of_mem (List.mem_set hk _))) fun j => ?_
    rw [vec_add hok]
    grind
  · refine Sp.comb (tf N x) (Sp.mem (List.mem_map_of_mem (List.mem_of_getElem? ho))) (Sp.mem (List.mem_map_of_mem (List.mem_of_getElem? hr))) fun j => ?_
    rw [vec_add hok]
    grind
structure Rwo (base : Nat) (V : Value) (vs : List Value) (f : List (List Int)) (w : World) : Prop where
  O : Own w base 23 V vs
  len : vs.length = f.length
  R : ∀ (i : Nat) v l, vs[i]? = some v → f[i]? = some l → Own w base 24 v (l.map (.int .u64))
  A : ∀ (i j : Nat) v v' g, i ≠ j → vs[i]? = some v → vs[j]? = some v' → v.ownBlock = some g → v'.ownBlock ≠ some g
section
variable {base : Nat} {V : Value} {vs : List Value} {f : List (List Int)} {w w' : World}
theorem Rwo.nil (w : World) (base : Nat) : Rwo base (.slice none 0 0) [] [] w := ⟨Own.nil _ _ _, rfl, fun i v l h => by simp at h, fun i j v v' g _ h => by simp at h⟩
theorem Rwo.block (h : Rwo base V vs f w) {i : Nat} {v : Value} (hv : vs[i]? = some v) {g : Nat} (hg : v.ownBlock = some g) : base ≤ g ∧ g < w.heap.size ∧ V.ownBlock ≠ some g := by
  have hi : i < f.length := by rw [← h.len]; exact (List.getElem?_eq_some_iff.1 hv).1
  have ho := h.R i v f[i] hv (List.getElem?_eq_getElem hi)
  refine ⟨(ho.block g hg).1, (ho.block g hg).2, fun e => ?_⟩
  rcases ho.2 with ⟨rfl, _⟩ | ⟨g1, cap, cur, rfl, _, h1, _⟩
  · cases hg
  · rcases h.O.2 with ⟨h2, _⟩ | ⟨g2, cap2, cur2, h2, _, h3, _⟩
    · rw [h2] at e; cases e
    · rw [h2] at e
      simp only [Value.ownBlock, Option.some.injEq] at hg e
      subst hg e
      rw [h1] at h3
      simp only [Option.some.injEq, Obj.cells.injEq] at h3
      exact absurd h3.2.1 (by decide)
theorem Rwo.below (h : Rwo base V vs f w) (hb : Below w.heap.size w w') : Rwo base V vs f w' := ⟨h.O.below hb, h.len, fun i v l hv hl => (h.R i v l hv hl).below hb, h.A⟩
theorem Rwo.ownRows (h : Rwo base V vs f w) : OwnRows w base 23 24 V (f.map (·.map (.int .u64))) := by
  refine ⟨vs, h.O, by rw [h.len, List.length_map], fun j u xs hu hx => ?_⟩
  rw [List.getElem?_map] at hx
  cases hfj : f[j]? with
  | none => rw [hfj] at hx; cases hx
  | some l =>
    rw [hfj] at hx
    obtain rfl := Option.some.inj hx
    exact (h.R j u l hu hfj).rowT
/-- one more row: w1, where the row was made; w2, where it was put behind the others. -/
theorem Rwo.push {w1 w2 : World} {u V' : Value} {l : List Int} (h : Rwo base V vs f w) (hb : Below w.heap.size w w1) (hbase : base ≤ w.heap.size) (hu : Own w1 w.heap.size 24 u (l.map (.int .u64))) (hO : Own w2 base 23 V' (vs ++ [u])) (hk : ∀ k, k < w1.heap.size → some k ≠ V.ownBlock → w2.heap[k]? = w1.heap[k]?) : Rwo base V' (vs ++ [u]) (f ++ [l]) w2 := by
  have hV : ∀ g, V.ownBlock = some g → g < w.heap.size := fun g hg => (h.O.block g hg).2
  refine ⟨hO, by simp [h.len], fun i v m hv hm => ?_, fun i j v v' g hij hv hv' hg => ?_⟩
  · rcases Nat.lt_or_ge i vs.length with hi | hi
    · rw [List.getElem?_append_left hi] at hv
      rw [List.getElem?_append_left (by rw [← h.len]; exact hi)] at hm
      refine ((h.R i v m hv hm).below hb).keep fun g hg => ?_
      obtain ⟨_, h2, h3⟩ := h.block hv hg
      exact hk g (Nat.lt_of_lt_of_le h2 hb.size) fun e => h3 e.symm
    · rw [List.getElem?_append_right hi] at hv
      rw [List.getElem?_append_right (by rw [← h.len]; exact hi), ← h.len] at hm
      cases hj : i - vs.length with
      | zero =>
        rw [hj] at hv hm
        obtain rfl := Option.some.inj hv
        obtain rfl := Option.some.inj hm
        refine (hu.from_ hbase).keep fun g hg => ?_
        have := hu.block g hg
        exact hk g this.2 fun e => by have := hV g e.symm; omega
      | succ n => rw [hj] at hv; simp at hv
  · have key : ∀ (i : Nat) v, (vs ++ [u])[i]? = some v → v.ownBlock = some g → (i < vs.length ∧ vs[i]? = some v ∧ g < w.heap.size) ∨ (i = vs.length ∧ w.heap.size ≤ g) := by
      intro i v hv hg
      rcases Nat.lt_or_ge i vs.length with hi | hi
      · rw [List.getElem?_append_left hi] at hv
        exact .inl ⟨hi, hv, (h.block hv hg).2.1⟩
      · rw [List.getElem?_append_right hi] at hv
        cases hj : i - vs.length with
        | zero =>
          rw [hj] at hv
          obtain rfl := Option.some.inj hv
          exact .inr ⟨by omega, (hu.block g hg).1⟩
        | succ n => rw [hj] at hv; simp at hv
    intro hg'
    rcases key i v hv hg with ⟨a1, a2, a3⟩ | ⟨a1, a2⟩ <;> rcases key j v' hv' hg' with ⟨b1, b2, b3⟩ | ⟨b1, b2⟩
    · exact h.A i j v v' g hij a2 b2 hg hg'
    · omega
    · omega
    · omega
/-- a cell of a row is written. -/
theorem Rwo.put {i j : Nat} {l : List Int} {g n c : Nat} {z : Int} (h : Rwo base V vs f w) (hv : vs[i]? = some (.slice (some ⟨g, 0, none⟩) n c)) (hl : f[i]? = some l) (hj : j < l.length) : Rwo base V vs (f.set i (l.set j z)) (w.setCell ⟨g, j, none⟩ (.int .u64 z)) := by
  have hi := (List.getElem?_eq_some_iff.1 hl).1
  obtain ⟨g1, cap, e, _, _, _, _, hset⟩ := (h.R i _ l hv hl).row (by rw [List.length_map]; omega)
  simp only [Value.slice.injEq, Option.some.injEq, Addr.mk.injEq, and_true, List.length_map] at e
  obtain ⟨rfl, rfl, rfl⟩ := e
  have hVg : V.ownBlock ≠ some g := (h.block hv rfl).2.2
  have far : ∀ {e : TypeId} {u : Value} {ys : List Value}, Own w base e u ys → u.ownBlock ≠ some g → Own (w.setCell ⟨g, j, none⟩ (.int .u64 z)) base e u ys := fun h9 hne => h9.keep fun g' hgu => Below.heap_setCell w ⟨g, j, none⟩ _ g' (fun e => hne (by rw [hgu, e]))
  refine ⟨far h.O hVg, by rw [List.length_set, h.len], fun k v m hv' hm => ?_, h.A⟩
  rw [List.getElem?_set] at hm
  by_cases hki : i = k
  · subst hki
    rw [if_pos rfl, if_pos hi] at hm
    obtain rfl := Option.some.inj hm
    rw [hv] at hv'
    obtain rfl := Option.some.inj hv'
    have := hset w rfl j (.int .u64 z) (by rw [List.length_map]; exact hj)
    rw [← List.map_set] at this
    exact this
  · rw [if_neg hki] at hm
    exact far (h.R k v m hv' hm) (h.A i k _ v g hki hv hv' rfl)
/-- a row grew, and is laid back. -/
theorem Rwo.grow {i : Nat} {v v' : Value} {l l' : List Int} {w1 : World} {go cap : Nat} (h : Rwo base V vs f w) (hV : V = .slice (some ⟨go, 0, none⟩) vs.length cap) (hv : vs[i]? = some v) (_ : f[i]? = some l) (hg : w.grownBy w1 v.ownBlock) (hown : Own w1 base 24 v' (l'.map (.int .u64))) (hb : v'.ownBlock = v.ownBlock ∨ ∃ g, v'.ownBlock = some g ∧ w.heap.size ≤ g) :
    Rwo base V (vs.set i v') (f.set i l') (w1.setCell ⟨go, i, none⟩ v') := by
  have hi := (List.getElem?_eq_some_iff.1 hv).1
  have hO1 : Own w1 base 23 V vs := h.O.keep fun g hgV => hg.block g (h.O.block g hgV).2 fun e => (h.block hv e.symm).2.2 hgV
  obtain ⟨g1, cap1, e, _, _, _, _, hset⟩ := hO1.row (by omega)
  have hgo : V.ownBlock = some go := by rw [hV]; rfl
  rw [hV] at e
  simp only [Value.slice.injEq, Option.some.injEq, Addr.mk.injEq, and_true, true_and] at e
  obtain ⟨rfl, rfl⟩ := e
  have hnew : ∀ g, v'.ownBlock = some g → v.ownBlock = some g ∨ w.heap.size ≤ g := fun g hgv => by
    rcases hb with h1 | ⟨g2, h1, h2⟩
    · exact .inl (h1 ▸ hgv)
    · rw [h1] at hgv
      obtain rfl := Option.some.inj hgv
      exact .inr h2
  have hgos : go < w.heap.size := (h.O.block go hgo).2
  have far : ∀ {u : Value} {ys : List Value}, Own w1 base 24 u ys → u.ownBlock ≠ some go → Own (w1.setCell ⟨go, i, none⟩ v') base 24 u ys := fun h9 hne => h9.keep fun g hgu => Below.heap_setCell w1 ⟨go, i, none⟩ v' g (fun e => hne (by rw [hgu, e]))
  refine ⟨hset w1 rfl i v' hi, by simp [h.len], fun j u m hu hm => ?_, fun j k u u' g hjk hu hu' hgu => ?_⟩
  · rw [List.getElem?_set] at hu hm
    by_cases hji : i = j
    · subst hji
      rw [if_pos rfl, if_pos hi] at hu
      rw [if_pos rfl, if_pos (by rw [← h.len]; exact hi)] at hm
      obtain rfl := Option.some.inj hu
      obtain rfl := Option.some.inj hm
      refine far hown fun e => ?_
      rcases hnew go e with h2 | h2
      · exact (h.block hv h2).2.2 hgo
      · omega
    · rw [if_neg hji] at hu hm
      refine far ((h.R j u m hu hm).keep fun g hgu => hg.block g (h.block hu hgu).2.1 fun e => ?_) fun e => (h.block hu e).2.2 hgo
      exact h.A j i u v g (Ne.symm hji) hu hv hgu e.symm
  · rw [List.getElem?_set] at hu hu'
    intro hgu'
    by_cases hji : i = j
    · subst hji
      rw [if_pos rfl, if_pos hi] at hu
      rw [if_neg hjk] at hu'
      obtain rfl := Option.some.inj hu
      have h1 := (h.block hu' hgu').2.1
      rcases hnew g hgu with h2 | h2
      · exact h.A i k v u' g hjk hv hu' h2 hgu'
      · omega
    · rw [if_neg hji] at hu
      have h1 := (h.block hu hgu).2.1
      by_cases hki : i = k
      · subst hki
        rw [if_pos rfl, if_pos hi] at hu'
        obtain rfl := Option.some.inj hu'
        rcases hnew g hgu' with h2 | h2
        · exact h.A i j v u g hji hv hu h2 hgu
        · omega
      · rw [if_neg hki] at hu'
        exact h.A j k u u' g hjk hu hu' hgu hgu'
end
/-- the outer row, and what is read in it. -/
theorem Rwo.form {base : Nat} {V : Value} {vs : List Value} {f : List (List Int)} {w : World} (h : Rwo base V vs f w) (hf : 0 < f.length) : ∃ go cap, V = .slice (some ⟨go, 0, none⟩) f.length cap ∧ base ≤ go ∧ go < w.heap.size ∧
    (∀ k u, vs[k]? = some u → w.cell? ⟨go, k, none⟩ = some u) ∧ (∀ k, w.frozen? ⟨go, k, none⟩ = false) ∧ Grid w (some ⟨go, 0, none⟩) f := by
  obtain ⟨go, cap, e, h1, h2, h3, h4, _⟩ := h.O.row (by rw [h.len]; exact hf)
  obtain ⟨A5, c5, e5, hg⟩ := ownRows_grid h.ownRows
  rw [h.len] at e
  rw [e] at e5
  simp only [Value.slice.injEq, true_and] at e5
  obtain ⟨rfl, rfl⟩ := e5
  exact ⟨go, cap, e, h1, h2, h3, h4, hg⟩
theorem Rwo.rowAt {base : Nat} {V : Value} {vs : List Value} {f : List (List Int)} {w : World} (h : Rwo base V vs f w) {i : Nat} {l : List Int} (hl : f[i]? = some l) : ∃ v Ai ci, vs[i]? = some v ∧ v = .slice Ai l.length ci ∧ Cells w Ai (u64v l) ∧ Own w base 24 v (u64v l) := by
  have hi := (List.getElem?_eq_some_iff.1 hl).1
  obtain ⟨v, hv⟩ := get_of_lt (l := vs) (k := i) (by rw [h.len]; exact hi)
  have ho := h.R i v l hv hl
  obtain ⟨A, c, e, hc⟩ := ho.form
  rw [List.length_map] at e
  exact ⟨v, A, c, hv, e, hc, ho⟩
theorem Rwo.rowIn {base : Nat} {V : Value} {vs : List Value} {f : List (List Int)} {w : World} (h : Rwo base V vs f w) {i : Nat} {l : List Int} (hl : f[i]? = some l) (hne : 0 < l.length) : ∃ g c, vs[i]? = some (.slice (some ⟨g, 0, none⟩) l.length c) ∧ base ≤ g ∧
    (∀ k z, l[k]? = some z → w.cell? ⟨g, k, none⟩ = some (.int .u64 z)) ∧ ∀ k, w.frozen? ⟨g, k, none⟩ = false := by
  have hi := (List.getElem?_eq_some_iff.1 hl).1
  obtain ⟨v, hv⟩ := get_of_lt (l := vs) (k := i) (by rw [h.len]; exact hi)
  obtain ⟨g, c, e, h1, _, h3, h4, _⟩ := (h.R i v l hv hl).row (by rw [List.length_map]; exact hne)
  rw [List.length_map] at e
  exact ⟨g, c, by rw [hv, e], h1, fun k z hz => h3 k _ (by rw [List.getElem?_map, hz]; rfl), h4⟩
theorem set_same {α : Type} {f : List α} {i : Nat} {l : α} (h : f[i]? = some l) : f.set i l = f := by
  obtain ⟨hi, rfl⟩ := List.getElem?_eq_some_iff.1 h
  exact List.set_getElem_self hi
theorem idx_mod (i : Int) {n : Nat} (h0 : 0 < n) (h : n ≤ 1000) : ∃ m : Nat, m < n ∧ wrap64 ((IntKind.u64.wrap i).tmod n) = (m : Int) := by
  have h1 : (0 : Int) ≤ IntKind.u64.wrap i := by simp [IntKind.wrap, IntKind.bits, IntKind.signed]; omega
  have h2 := Int.emod_nonneg (IntKind.u64.wrap i) (show (n : Int) ≠ 0 by omega)
  have h3 := Int.emod_lt_of_pos (IntKind.u64.wrap i) (show (0 : Int) < n by omega)
  refine ⟨((IntKind.u64.wrap i) % n).toNat, by omega, ?_⟩
  rw [Int.tmod_eq_emod_of_nonneg h1, IntWalk.wrap64_in _ ⟨by omega, by omega⟩]
  omega
theorem rows_set {f : List (List Int)} (hf : ∀ l ∈ f, l.length ≤ 20 ∧ U64s l) {i : Nat} {l : List Int} (h1 : l.length ≤ 20) (h2 : U64s l) : ∀ s ∈ f.set i l, s.length ≤ 20 ∧ U64s s := by
  intro s hs
  rcases List.mem_or_eq_of_mem_set hs with h | rfl
  · exact hf s h
  · exact ⟨h1, h2⟩
theorem rows_ok {f : List (List Int)} (hl : f.length ≤ 20) (hf : ∀ l ∈ f, l.length ≤ 20 ∧ U64s l) : RowsOk f := ⟨by omega, fun l h => by have := (hf l h).1; omega, fun l h => (hf l h).2⟩
/-- 'append(v, u)': u lies in a block of its own. -/
theorem wpList_push_own {P : Program} {t e : TypeId} {z : Value} {bytes : Nat} (E : Elt P t e z bytes) (wr : World) {ops : Array Oper} {rest : List Oper} {o : Oper} {a : Act} {Q : Exit → Act → World → Prop}
    (hg : o.guard = none) (s x : Operand) (hop : o.op = .call { callee := .builtin .append, args := #[s, x], argTypes := #[t, t] })
    (base : Nat) {v : Value} {xs : List Value} (hown : Own wr base e v xs) (hs : a.eval s = v) (u : Value) (g : Nat) (hx : a.eval x = .slice (some ⟨g, 0, none⟩) 1 1) (hu : Row1 wr g e [u]) (h1 : u.oneCell' = true)
    (hb : (xs.length + 1) * bytes ≤ 140737488355328) (hm : xs.length + 1 ≤ 9223372036854775807) (hbase : base ≤ wr.heap.size)
    (hK : ∀ v' w', Own w' base e v' (xs ++ [u]) → wr.grownBy w' v.ownBlock → (v'.ownBlock = v.ownBlock ∨ v'.ownBlock = some wr.heap.size) → wpList P ops Q rest (a.put o.dst v') w') :
    wpList P ops Q (o :: rest) a wr := by
  obtain ⟨i, hi, hz, hsz, hby⟩ := E.info
  refine wpList_append_own_at (P := P) wr hg s x t hop base e i z 1 bytes E.under hi hz hsz hby E.one (by decide) v xs.length xs hs hown ⟨g, 0, none⟩ 1 1 [u] hx rfl (fun j u' hj => ?_) (by simpa using h1) (by unfold maxLen; omega) hb hbase ?_
  · have hadd : (⟨g, 0, none⟩ : Addr).add j = ⟨g, 0 + j, none⟩ := by unfold Addr.add; split <;> simp_all
    rw [hadd, Nat.zero_add]
    exact hu.cell hj
  · intro v' w' h2 h3 _ h5
    refine hK v' w' ?_ h3 h5
    unfold Own; rw [List.length_append]; exact h2
/-- what lies in a row. -/
theorem Rwo.at_ {base : Nat} {V : Value} {vs : List Value} {f : List (List Int)} {w : World} (h : Rwo base V vs f w) {i : Nat} {l : List Int} {g n c : Nat} (hv : vs[i]? = some (.slice (some ⟨g, 0, none⟩) n c)) (hl : f[i]? = some l) (hne : 0 < l.length) : base ≤ g ∧
    (∀ k z, l[k]? = some z → w.cell? ⟨g, k, none⟩ = some (.int .u64 z)) ∧ ∀ k, w.frozen? ⟨g, k, none⟩ = false := by
  obtain ⟨g2, c2, h1, h2, h3, h4⟩ := h.rowIn hl hne
  rw [hv] at h1
  simp only [Option.some.injEq, Value.slice.injEq, Addr.mk.injEq, and_true] at h1
  obtain ⟨rfl, _, _⟩ := h1
  exact ⟨h2, h3, h4⟩
/-- the outer row, behind a row's growing. -/
theorem Rwo.outer {i : Nat} {base : Nat} {V : Value} {vs : List Value} {f : List (List Int)} {w : World} {v : Value} {w1 : World} {go cap n : Nat} (h : Rwo base V vs f w) (hV : V = .slice (some ⟨go, 0, none⟩) n cap) (hv : vs[i]? = some v) (hg : w.grownBy w1 v.ownBlock) :
    w1.cell? ⟨go, i, none⟩ = some v ∧ w1.frozen? ⟨go, i, none⟩ = false ∧ base ≤ go ∧ go < w1.heap.size := by
  have hi := (List.getElem?_eq_some_iff.1 hv).1
  have hO1 : Own w1 base 23 V vs := h.O.keep fun g hgV => hg.block g (h.O.block g hgV).2 fun e => (h.block hv e.symm).2.2 hgV
  obtain ⟨g1, cap1, e, h1, h2, h3, h4, _⟩ := hO1.row (by omega)
  rw [hV] at e
  simp only [Value.slice.injEq, Option.some.injEq, Addr.mk.injEq, and_true] at e
  obtain ⟨rfl, _, _⟩ := e
  exact ⟨h3 i v hv, h4 i, h1, h2⟩
end Go.Proofs.YtcojnjhffmhbiaaDoor
end
