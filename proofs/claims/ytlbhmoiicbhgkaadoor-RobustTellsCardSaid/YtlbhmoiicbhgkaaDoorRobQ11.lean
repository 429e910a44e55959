/-
  Parts of these texts that the statement needs: RaQ, PoP.
-/
import Derived.Test.YtlbhmoiicbhgkaaDoorRobQ2
import Derived.Test.YtlbhmoiicbhgkaaDoorRobQ10
import Derived.Test.YtlbhmoiicbhgkaaDoorPsA

section
namespace Go.Proofs.YtlbhmoiicbhgkaaDoor
open Go.Lin Go.Psi
/-- a whole number modulo N. -/
def tf (N : Nat) [h : NeZero N] (x : Int) : Fin N := ⟨(x % N).toNat, by
  have h0 : N ≠ 0 := h.out
  have h1 := Int.emod_nonneg x (b := (N : Int)) (by omega)
  have h2 := Int.emod_lt_of_pos x (b := (N : Int)) (by omega)
  omega⟩
section
variable {N : Nat} [h0 : NeZero N]
theorem tf_val (x : Int) : ((tf N x).val : Int) = x % N := by
  have h : N ≠ 0 := h0.out
  have h1 := Int.emod_nonneg x (b := (N : Int)) (by omega)
  show ((x % N).toNat : Int) = x % N
  omega
theorem tf_eq {x y : Int} : tf N x = tf N y ↔ x % N = y % N := by
  constructor
  · intro h
    rw [← tf_val, ← tf_val, h]
  · intro h
    apply Fin.ext
    have h1 := tf_val (N := N) x
    have h2 := tf_val (N := N) y
    omega
theorem tf_mod (x : Int) : tf N (x % N) = tf N x := tf_eq.2 (Int.emod_emod _ _)
theorem tf_add (x y : Int) : tf N (x + y) = tf N x + tf N y := by
  apply Fin.ext
  have h1 : (((tf N x + tf N y : Fin N)).val : Int) = (x + y) % N := by
    rw [Fin.val_add, Int.natCast_emod, Int.natCast_add, tf_val, tf_val, ← Int.add_emod]
  have h2 := tf_val (N := N) (x + y)
  omega
theorem tf_mul (x y : Int) : tf N (x * y) = tf N x * tf N y := by
  apply Fin.ext
  have h1 : (((tf N x * tf N y : Fin N)).val : Int) = (x * y) % N := by
    rw [Fin.val_mul, Int.natCast_emod, Int.natCast_mul, tf_val, tf_val, ← Int.mul_emod]
  have h2 := tf_val (N := N) (x * y)
  omega
theorem tf_zero : tf N 0 = 0 := by
  apply Fin.ext
  have := tf_val (N := N) 0
  rw [Int.zero_emod] at this
  have h : ((0 : Fin N)).val = 0 := rfl
  omega
theorem tf_sub (x y : Int) : tf N (x - y) = tf N x - tf N y := by
  have h := tf_add (N := N) (x - y) y
  rw [Int.sub_add_cancel] at h
  grind
theorem tf_one : tf N 1 = 1 := by
  apply Fin.ext
  have h1 := tf_val (N := N) 1
  have h2 : ((1 : Fin N)).val = 1 % N := rfl
  have h3 : ((1 % N : Nat) : Int) = 1 % (N : Int) := by rw [Int.natCast_emod]; rfl
  omega
theorem tf_iff_zero {x : Int} : tf N x = 0 ↔ x % N = 0 := by
  rw [← tf_zero, tf_eq, Int.zero_emod]
theorem tf_self (a : Fin N) : tf N (a.val : Int) = a := by
  apply Fin.ext
  have h1 := tf_val (N := N) (a.val : Int)
  rw [Int.emod_eq_of_lt (by omega) (by have := a.isLt; omega)] at h1
  omega
theorem cg_tf {x y : Int} (h : Cg N x y) : tf N x = tf N y := by
  obtain ⟨k, hk⟩ := h
  rw [tf_eq, show x = y + N * k by omega, Int.add_mul_emod_self_left]
/-- a prime has inverses. -/
theorem fld_of {p : Nat} [NeZero p] (hp : Pr p) : Fld p := ⟨fun h => by
    have h1 := congrArg Fin.val h
    have h2 : ((1 : Fin p)).val = 1 % p := rfl
    have h3 : ((0 : Fin p)).val = 0 := rfl
    have := hp.1
    rw [h2, h3, Nat.mod_eq_of_lt (by omega)] at h1
    omega, fun x hx => by
    have hv : x.val ≠ 0 := fun h => hx (Fin.ext h)
    by_cases h2 : p = 2
    · subst h2
      refine ⟨1, Fin.ext ?_⟩
      have h1 : x.val = 1 := by have := x.isLt; omega
      have h3 : ((x * 1 : Fin 2)).val = x.val * 1 % 2 := rfl
      rw [h3, h1]; rfl
    · have hf := fermat hp (hp.odd h2) (a := x.val) (Pr.not_dvd_lt (by omega) x.isLt)
      have hp2 := hp.1
      refine ⟨tf p ((x.val : Int) ^ (p - 2)), ?_⟩
      have h4 := cg_tf hf
      rw [show p - 1 = (p - 2) + 1 by omega, Int.pow_succ, tf_mul, tf_self, tf_one] at h4
      grind⟩
/-- a row as a vector. -/
def vec (N : Nat) [NeZero N] (l : List Int) : V N := fun j => tf N (nth l j)
theorem vec_red (W : Nat) (row : List Int) (j : Nat) : vec N (redL W N row) j = vec N row j := by
  unfold vec redL
  by_cases h : j < max W row.length
  · rw [tabL_at h, tf_mod]
  · rw [nth_ge (by rw [tabL_len]; omega), nth_ge (l := row) (by omega)]
theorem vec_less (row other : List Int) (t : Int) (h : other.length ≤ row.length) (j : Nat) : vec N (lessL N row other t) j = vec N row j - vec N other j * tf N t := by
  unfold vec
  rw [lessL_at]
  by_cases h1 : j < row.length ∧ j < other.length
  · rw [if_pos h1, tf_mod, tf_sub, tf_mul]
  · rw [if_neg h1, nth_ge (l := other) (by omega), tf_zero]
    grind
theorem vec_times (o : List Int) (b : Int) (j : Nat) : vec N (timesL N o b) j = tf N b * vec N o j := by
  unfold vec timesL
  by_cases h : j < o.length
  · rw [tabL_at h, tf_mod, tf_mul]; grind
  · rw [nth_ge (by rw [tabL_len]; omega), nth_ge (l := o) (by omega), tf_zero]
    grind
/-- rows with their places. -/
def sb (N : Nat) [NeZero N] (S : List En) : List (Nat × V N) := S.map fun p => (p.at_, vec N p.row)
theorem sb_mem {S : List En} {p : En} (h : p ∈ S) : (p.at_, vec N p.row) ∈ sb N S := List.mem_map.2 ⟨p, h, rfl⟩
theorem fold_vec {W : Nat} (j : Nat) : ∀ (l : List En) (o : List Int), Ech (sb N l) → (∀ p ∈ l, p.row.length = W) → W ≤ o.length →
    vec N (l.foldl (stepL N) o) j = vec N o j - ((sb N l).map fun e => vec N o e.1 * e.2 j).sum
  | [], o, _, _, _ => by
    show vec N o j = vec N o j - 0
    grind
  | p :: l, o, hE, hl, hW => by
    have hs : ∀ i, vec N (stepL N o p) i = vec N o i - vec N p.row i * vec N o p.at_ := fun i =>
      vec_less o p.row _ (by rw [hl p List.mem_cons_self]; exact hW) i
    have ih := fold_vec j l (stepL N o p) hE.tail (fun x hx => hl x (List.mem_cons_of_mem _ hx)) (by rw [stepL_len]; exact hW)
    rw [List.foldl_cons, ih, hs j]
    show _ = vec N o j - ((p.at_, vec N p.row) :: sb N l |>.map fun e => vec N o e.1 * e.2 j).sum
    rw [List.map_cons, List.sum_cons]
    have ho := (List.pairwise_cons.1 hE.off).1
    have : (sb N l).map (fun e => vec N (stepL N o p) e.1 * e.2 j) = (sb N l).map fun e => vec N o e.1 * e.2 j := by
      refine List.map_congr_left fun e he => ?_
      have h1 : vec N p.row e.1 = 0 := (ho e he).1
      rw [hs e.1, h1]
      grind
    rw [this]
    grind
theorem left_red {W : Nat} {S : List En} (hE : Ech (sb N S)) (hl : ∀ p ∈ S, p.row.length = W) (row : List Int) (j : Nat) : vec N (leftL N W S row) j = red (sb N S) (vec N row) j := by
  unfold leftL
  rw [fold_vec j S (redL W N row) hE hl (by unfold redL; rw [tabL_len]; omega), vec_red]
  unfold red
  congr 1
  congr 1
  exact List.map_congr_left fun e _ => by rw [vec_red]
theorem first_none {o : List Int} (h : firstL o = none) (j : Nat) : nth o j = 0 := by
  by_cases hj : j < o.length
  · unfold firstL at h
    rw [List.findIdx?_eq_none_iff] at h
    have := h (o[j]) (List.getElem_mem hj)
    rw [nth_lt hj]
    simpa using this
  · exact nth_ge (by omega)
theorem first_least {o : List Int} {k : Nat} (h : firstL o = some k) {j : Nat} (hj : j < k) : nth o j = 0 := by
  unfold firstL at h
  rw [List.findIdx?_eq_some_iff_getElem] at h
  obtain ⟨h1, _, h3⟩ := h
  have := h3 j hj
  rw [nth_lt (by omega)]
  simpa using this
theorem red_tf {o : List Int} (h : RedL N o) {j : Nat} : vec N o j = 0 ↔ nth o j = 0 := by
  unfold vec
  rw [tf_iff_zero, Int.emod_eq_of_lt (h j).1 (h j).2]
/-- an inverse of what is not 0. -/
def InvT (N : Nat) [NeZero N] (inv : Int → Int) : Prop := ∀ x, tf N x ≠ 0 → tf N x * tf N (inv x) = 1
/-- rows R come to S. -/
structure Come (N : Nat) [NeZero N] (W : Nat) (R : List (V N)) (S : List En) : Prop where
  good : GoodS N W S
  bas : Bas R (sb N S)
  low : ∀ p ∈ S, ∀ j, j < p.at_ → vec N p.row j = 0
theorem Come.nil (W : Nat) : Come N W [] [] := ⟨.nil _ _, ⟨.nil, fun e h => (by cases h), fun r h => (by cases h)⟩, fun p h => (by cases h)⟩
theorem Come.put {inv : Int → Int} (hI : InvOf N inv) (hT : InvT N inv) {W : Nat} {R : List (V N)} {S : List En} (h : Come N W R S) {row : List Int} (hr : row.length ≤ W) : Come N W (vec N row :: R) (putL N inv W S row) := by
  have h00 : N ≠ 0 := h0.out
  have hg := put_good (q := (N : Int)) (by omega) hI h.good hr
  have hleft := left_red h.bas.ech (fun p hp => h.good.len p hp) row
  have hred := leftL_red (q := (N : Int)) (by omega) W S row
  have hat := fun e (he : e ∈ sb N S) => red_at h.bas.ech (vec N row) he
  have hlen : (leftL N W S row).length = W := by rw [leftL_len]; omega
  refine ⟨hg, ?_, ?_⟩
  · unfold putL
    generalize leftL N W S row = o at *
    cases hf : firstL o with
    | none =>
      have hsp : Sp ((sb N S).map (·.2)) (vec N row) := red_sp _ _ fun j => by
        rw [← hleft]
        exact (red_tf hred).2 (first_none hf j)
      exact ⟨h.bas.ech, fun e he => (h.bas.sub e he).mono fun r hr => List.mem_cons_of_mem _ hr, fun r hr => by
        rcases List.mem_cons.1 hr with rfl | hr
        · exact hsp
        · exact h.bas.all r hr⟩
    | some k =>
      simp only
      obtain ⟨hk1, hk2⟩ := firstL_some hf
      have hk3 : vec N o k ≠ 0 := fun e => hk2 ((red_tf hred).1 e)
      have hy : red (sb N S) (vec N row) k * tf N (inv (nth o k)) = 1 := by rw [← hleft]; exact hT _ hk3
      have hne : ∀ p ∈ S, p.at_ ≠ k := fun p hp e => by
        have h1 := hat _ (sb_mem hp)
        simp only [e] at h1
        rw [← hleft] at h1
        exact hk3 h1
      have hfil : (S.map fun p => (⟨p.at_, lessL N p.row (timesL N o (inv (nth o k))) (nth p.row k)⟩ : En)).filter (fun p => decide (p.at_ ≠ k)) = S.map fun p => (⟨p.at_, lessL N p.row (timesL N o (inv (nth o k))) (nth p.row k)⟩ : En) := by
        refine List.filter_eq_self.2 fun x hx => ?_
        obtain ⟨p, hp, rfl⟩ := List.mem_map.1 hx
        exact decide_eq_true (hne p hp)
      rw [hfil]
      have hb := h.bas.snoc hy
      have e : sb N (⟨k, timesL N o (inv (nth o k))⟩ :: S.map fun p => (⟨p.at_, lessL N p.row (timesL N o (inv (nth o k))) (nth p.row k)⟩ : En))
          = (k, fun j => tf N (inv (nth o k)) * red (sb N S) (vec N row) j) :: (sb N S).map fun e => (e.1, fun j => e.2 j - e.2 k * (tf N (inv (nth o k)) * red (sb N S) (vec N row) j)) := by
        unfold sb
        rw [List.map_cons, List.map_map, List.map_map]
        refine List.cons_eq_cons.2 ⟨?_, List.map_congr_left fun p hp => ?_⟩
        · refine Prod.ext rfl (funext fun j => ?_)
          show vec N (timesL N o _) j = _
          rw [vec_times, hleft]
          rfl
        · refine Prod.ext rfl (funext fun j => ?_)
          show vec N (lessL N p.row (timesL N o _) _) j = vec N p.row j - vec N p.row k * _
          rw [vec_less _ _ _ (by unfold timesL; rw [tabL_len, hlen, h.good.len p hp]; exact Nat.le_refl _), vec_times, hleft]
          show _ - _ * vec N p.row k = _
          unfold sb
          grind
      rw [e]
      exact hb
  · unfold putL
    generalize leftL N W S row = o at *
    cases hf : firstL o with
    | none => exact h.low
    | some k =>
      simp only
      obtain ⟨hk1, hk2⟩ := firstL_some hf
      have hz : ∀ j, j < k → vec N (timesL N o (inv (nth o k))) j = 0 := fun j hj => by
        rw [vec_times]
        have : vec N o j = 0 := (red_tf hred).2 (first_least hf hj)
        rw [this]; grind
      intro x hx j hj
      rcases List.mem_cons.1 hx with rfl | hx
      · exact hz j hj
      · obtain ⟨p, hp, rfl⟩ := List.mem_map.1 (List.mem_filter.1 hx).1
        show vec N (lessL N p.row (timesL N o _) _) j = 0
        rw [vec_less _ _ _ (by unfold timesL; rw [tabL_len, hlen, h.good.len p hp]; exact Nat.le_refl _)]
        have h1 := h.low p hp j hj
        rw [h1]
        rcases Nat.lt_or_ge j k with h2 | h2
        · rw [hz j h2]; grind
        · have h3 : tf N (nth p.row k) = 0 := h.low p hp k (by have : j < p.at_ := hj; omega)
          rw [h3]; grind
theorem Come.all {inv : Int → Int} (hI : InvOf N inv) (hT : InvT N inv) {W : Nat} : ∀ (rows : List (List Int)) {R : List (V N)} {S : List En}, Come N W R S → (∀ r ∈ rows, r.length ≤ W) →
    Come N W ((rows.map (vec N)).reverse ++ R) (rows.foldl (putL N inv W) S)
  | [], _, _, h, _ => h
  | r :: rows, R, S, h, hl => by
    rw [List.foldl_cons, List.map_cons, List.reverse_cons, List.append_assoc]
    exact Come.all hI hT rows (h.put hI hT (hl r List.mem_cons_self)) fun x hx => hl x (List.mem_cons_of_mem _ hx)
theorem Bas.congr {R R' : List (V N)} {L : List (Nat × V N)} (h : Bas R L) (hs : ∀ r ∈ R, r ∈ R') (hs' : ∀ r ∈ R', r ∈ R) : Bas R' L :=
  ⟨h.ech, fun e he => (h.sub e he).mono hs, fun r hr => h.all r (hs' r hr)⟩
end
end Go.Proofs.YtlbhmoiicbhgkaaDoor
end

section
namespace Go.Proofs.YtlbhmoiicbhgkaaDoor
open Go Go.Lin Go.Psi
theorem un_of_pr {q a : Int} (h2 : 2 ≤ q) (hp : Pr q.toNat) (h : a % q ≠ 0) : Un a q := by
  obtain ⟨N, rfl⟩ := Int.eq_ofNat_of_zero_le (show 0 ≤ q by omega)
  rw [Int.toNat_natCast] at hp
  have hN : NeZero N := ⟨by omega⟩
  obtain ⟨y, hy⟩ := (fld_of hp).inv (tf N a) fun e => h (tf_iff_zero.1 e)
  refine ⟨y.val, ?_⟩
  have h1 : tf N ((y.val : Int) * a) = tf N 1 := by
    rw [tf_mul, tf_self, tf_one]
    grind
  exact tf_eq.1 h1
theorem ne_sub {a b q : Int} (h : a % q ≠ b % q) : (b - a) % q ≠ 0 := fun e => h (Int.emod_emod_of_dvd a (Int.dvd_refl q) ▸ (by
  have := Int.emod_add_mul_ediv (b - a) q
  rw [e] at this
  rw [show b = a + q * ((b - a) / q) by omega, Int.add_mul_emod_self_left]
  exact Int.emod_emod_of_dvd a (Int.dvd_refl q)))
/-- no two are one another's. -/
def Two (xs : List Int) (q : Int) : Prop := xs.Pairwise fun a b => a % q ≠ b % q
theorem uniq_two (xs : List Int) (most q : Int) : Two (uniqL xs most q) q := by
  have key : ∀ (l out : List Int), Two out q → Two (l.foldl (uniqStep most q) out) q := by
    intro l
    induction l with
    | nil => intro out h; exact h
    | cons x l ih =>
      intro out h
      rw [List.foldl_cons]
      refine ih _ ?_
      unfold uniqStep
      split
      · rename_i hc
        refine List.pairwise_append.2 ⟨h, List.pairwise_singleton .., fun a ha b hb => ?_⟩
        rw [List.mem_singleton.1 hb]
        intro e
        have := hc.2
        unfold hasM at this
        have h3 := List.any_eq_false.1 this a ha
        exact h3 (decide_eq_true e)
      · exact h
  exact key xs [] .nil
theorem Two.apart {xs : List Int} {q : Int} (h : Two xs q) (h2 : 2 ≤ q) (hp : Pr q.toNat) : Apart xs q :=
  List.Pairwise.imp (fun {_a _b} hab => un_of_pr h2 hp (ne_sub hab)) h
theorem Two.unlike {xs : List Int} {q : Int} (h : Two xs q) (hq : okm q = true) (hl : xs.length ≤ 1024) : eUnlike xs q = 0 := by
  unfold eUnlike
  rw [if_pos hq, if_pos hl, if_pos]
  unfold mods List.Nodup
  rw [List.pairwise_map]
  exact h
theorem Two.all {xs : List Int} {q : Int} (h : Two xs q) (hq : okm q = true) (h2 : 2 ≤ q) (hp : Pr q.toNat) (hl : xs.length ≤ 1024) : eAll xs q = 0 := eAll_yes (h.unlike hq hl) (h.apart h2 hp)
/-- a part at whatever place. -/
theorem part_any {q : Int} (hq : okm q = true) {xs : List Int} {i : Nat} {x : Int} (hx : xs[i]? = some x) (X : Int) : ev (withoutL (pAll xs q) x q) X % q = pd (but xs i) X % q := by
  obtain ⟨_, z, h1, h2⟩ := pAll_is hq xs
  have h0 := okm_pos hq
  have hm : x ∈ xs := List.mem_of_getElem? hx
  have key : ∀ X, (X - x) * ev (divZ z x) X = pd xs X := fun X => by
    have := divZ_ev z x X
    rw [h2, h2, pd_mem hm] at this
    omega
  have hw : ∀ X, ev (withoutL (pAll xs q) x q) X % q = ev (divZ z x) X % q := fun X => by
    rw [without_congr h1, without_is hq]
    exact ev_congr rfl (map_mod_mod _ _)
  have main : ∀ Y, Y ≠ x → ev (divZ z x) Y = pd (but xs i) Y := fun Y hY => by
    have h3 := key Y
    rw [pd_but hx Y] at h3
    exact Int.eq_of_mul_eq_mul_left (by omega) h3
  rw [hw]
  by_cases hX : X = x
  · have h5 : (X + q) % q = X % q := by simp
    rw [← ev_congr h5 rfl, main (X + q) (by omega), pd_congr _ h5]
  · rw [main X hX]
/-- values times weights, one behind the other. -/
noncomputable def sumW (xs ys : List Int) (X q : Int) : Nat → Int
  | 0 => 0
  | k + 1 => mAdd (sumW xs ys X q k) (mMul (wOne xs X q k) (ys.getD k 0) q) q
theorem sumW_ev {q : Int} (hq : okm q = true) (xs ys : List Int) (X : Int) : ∀ k, k ≤ xs.length → sumW xs ys X q k % q = ev (pOut xs ys q k) X % q
  | 0, _ => by
    have e0 : ∀ m, ev (List.replicate m 0) X = 0 := by
      intro m
      induction m with
      | zero => rfl
      | succ m ih => rw [List.replicate_succ, ev_cons, ih]; simp
    rw [pOut, e0]; rfl
  | k + 1, hk => by
    obtain ⟨z, hz⟩ : ∃ z, xs[k]? = some z := ⟨_, List.getElem?_eq_getElem (by omega)⟩
    have hgz : xs.getD k 0 = z := by rw [List.getD_eq_getElem?_getD, hz]; rfl
    have ih := sumW_ev hq xs ys X k (by omega)
    rw [sumW, mAdd_mod hq, pOut, hgz, sum_ev hq]
    refine emod_add_congr ih ?_
    rw [scale_ev hq, mMul_mod hq, wOne, hgz]
    have h1 := part_any hq hz X
    have h2 : mMul (iVal (mProd (but xs k) z q) q) (mProd (but xs k) X q) q % q = iVal (mProd (but xs k) z q) q * pd (but xs k) X % q := by
      rw [mMul_mod hq, mProd_emod hq (but xs k) X, mr_mul]
    rw [emod_mul_congr h2 rfl, emod_mul_congr (mMul_mod hq _ _) h1]
    congr 1
    grind
theorem sumW_red {q : Int} (hq : okm q = true) (xs ys : List Int) (X : Int) (k : Nat) : sumW xs ys X q k % q = sumW xs ys X q k := by
  cases k with
  | zero => exact Int.zero_emod q
  | succ k => rw [sumW, mAdd_ok hq, Int.emod_emod]
/-- 0s behind. -/
def padZ (c : List Int) (n : Nat) : List Int := c ++ List.replicate (n - c.length) 0
theorem ev_zeros (m : Nat) (X : Int) : ev (List.replicate m 0) X = 0 := by
  induction m with
  | zero => rfl
  | succ m ih => rw [List.replicate_succ, ev_cons, ih]; simp
theorem padZ_ev (c : List Int) (n : Nat) (X : Int) : ev (padZ c n) X = ev c X := by
  unfold padZ
  rw [ev_append, ev_zeros]; simp
theorem padZ_len {c : List Int} {n : Nat} (h : c.length ≤ n) : (padZ c n).length = n := by
  unfold padZ
  rw [List.length_append, List.length_replicate]; omega
/-- through a polynomial's own values: that polynomial. -/
theorem through_own {q : Int} (hq : okm q = true) {xs c : List Int} (ha : Apart xs q) (hl : c.length ≤ xs.length) : (pOut xs (valuesL c xs q) q xs.length).map (· % q) = (padZ c xs.length).map (· % q) := by
  refine only_one ha (pOut_len hq _ _ _) (padZ_len hl) fun x hx => ?_
  obtain ⟨j, hj, rfl⟩ := List.getElem_of_mem hx
  have h1 := pOut_ev hq (valuesL c xs q) ha xs.length (Nat.le_refl _) j _ (List.getElem?_eq_getElem hj)
  rw [h1, if_pos hj, padZ_ev]
  unfold valuesL
  rw [List.getD_eq_getElem?_getD, List.getElem?_map, List.getElem?_eq_getElem hj]
  show mEval c xs[j] q % q = _
  rw [mEval_ok hq, Int.emod_emod]
/-- values times weights come to the value. -/
theorem weights_sum {q : Int} (hq : okm q = true) {xs c : List Int} (ha : Apart xs q) (hl : c.length ≤ xs.length) (X : Int) : sumW xs (valuesL c xs q) X q xs.length = mEval c X q := by
  rw [← sumW_red hq, sumW_ev hq _ _ _ _ (Nat.le_refl _), ev_congr rfl (through_own hq ha hl), padZ_ev, mEval_ok hq]
/-- all weights, one behind the other. -/
noncomputable def sumA (xs : List Int) (X q : Int) : Nat → Int
  | 0 => 0
  | k + 1 => mAdd (sumA xs X q k) (wOne xs X q k) q
theorem sumA_one {q : Int} (hq : okm q = true) {xs : List Int} (X : Int) : ∀ k, k ≤ xs.length → sumA xs X q k = sumW xs (valuesL [1] xs q) X q k
  | 0, _ => rfl
  | k + 1, hk => by
    rw [sumA, sumW, sumA_one hq X k (by omega)]
    have e : (valuesL [1] xs q).getD k 0 = 1 % q := by
      unfold valuesL
      rw [List.getD_eq_getElem?_getD, List.getElem?_map, List.getElem?_eq_getElem (by omega)]
      show mEval [1] _ q = _
      rw [mEval_ok hq]
      simp [ev]
    rw [e, mAdd_ok hq, mAdd_ok hq]
    refine emod_add_congr rfl ?_
    rw [mMul_mod hq, Int.mul_emod, Int.emod_emod, ← Int.mul_emod, Int.mul_one]
theorem weights_all {q : Int} (hq : okm q = true) (h2 : 2 ≤ q) {xs : List Int} (ha : Apart xs q) (hl : 0 < xs.length) (X : Int) : sumA xs X q xs.length = 1 := by
  rw [sumA_one hq X _ (Nat.le_refl _), weights_sum hq ha (by simp; omega), mEval_ok hq]
  simp only [ev, Int.mul_zero, Int.add_zero]
  exact Int.emod_eq_of_lt (by omega) (by omega)
/-- at one of the places. -/
theorem weights_own {q : Int} (hq : okm q = true) (h2 : 2 ≤ q) {xs : List Int} (ha : Apart xs q) {i k : Nat} {x : Int} (hi : xs[i]? = some x) (hk : k < xs.length) : wOne xs x q k = if k = i then 1 else 0 := by
  obtain ⟨z, hz⟩ : ∃ z, xs[k]? = some z := ⟨_, List.getElem?_eq_getElem hk⟩
  have hgz : xs.getD k 0 = z := by rw [List.getD_eq_getElem?_getD, hz]; rfl
  rw [wOne, hgz, mMul_ok hq]
  by_cases h : k = i
  · subst h
    rw [if_pos rfl]
    rw [hi] at hz
    obtain rfl := Option.some.inj hz
    have hu := apart_iff.1 ha k x hi
    have hu2 : Un (mProd (but xs k) x q) q := hu.congr (by rw [mProd_emod hq, Int.emod_emod])
    rw [iVal_mul hq hu2]
    exact Int.emod_eq_of_lt (by omega) (by omega)
  · rw [if_neg h, mProd_emod hq (but xs k) x, mr_mul]
    have hm : x ∈ but xs k := by
      unfold but
      rcases Nat.lt_or_ge i k with h1 | h1
      · exact List.mem_append_left _ (List.mem_of_getElem? (by rw [List.getElem?_take, if_pos h1]; exact hi))
      · refine List.mem_append_right _ (List.mem_of_getElem? (i := i - (k + 1)) ?_)
        rw [List.getElem?_drop, show k + 1 + (i - (k + 1)) = i by omega]
        exact hi
    rw [pd_mem hm, Int.mul_zero, Int.zero_emod]
theorem out_at {q : Int} (hq : okm q = true) {xs ys : List Int} (ha : Apart xs q) {j : Nat} {x : Int} (hx : xs[j]? = some x) : mEval (pOut xs ys q xs.length) x q = ys.getD j 0 % q := by
  have hj := (List.getElem?_eq_some_iff.1 hx).1
  rw [mEval_ok hq, pOut_ev hq ys ha _ (Nat.le_refl _) j x hx, if_pos hj]
theorem out_lt {q : Int} (hq : okm q = true) (xs ys : List Int) (k : Nat) {z : Int} (hz : z ∈ pOut xs ys q k) : 0 ≤ z ∧ z < q := by
  have h0 := okm_pos hq
  rw [← pOut_red hq] at hz
  obtain ⟨y, _, rfl⟩ := List.mem_map.1 hz
  exact ⟨Int.emod_nonneg _ (by omega), Int.emod_lt_of_pos _ h0⟩
theorem padZ_getD (c : List Int) (n i : Nat) : (padZ c n).getD i 0 = c.getD i 0 := by
  unfold padZ
  rw [List.getD_eq_getElem?_getD, List.getD_eq_getElem?_getD]
  rcases Nat.lt_or_ge i c.length with h | h
  · rw [List.getElem?_append_left h]
  · rw [List.getElem?_append_right h, List.getElem?_eq_none h, List.getElem?_replicate]
    split <;> rfl
theorem own_same {q : Int} (hq : okm q = true) {xs c : List Int} (ha : Apart xs q) (hl : c.length ≤ xs.length) : sameB (pOut xs (valuesL c xs q) q xs.length) c q = true := by
  refine sameB_yes fun i _ => ?_
  unfold cAt
  rw [getD_congr (through_own hq ha hl) i, padZ_getD]
end Go.Proofs.YtlbhmoiicbhgkaaDoor
end
