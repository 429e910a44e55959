/-
  Polynomials by a prime, plainly: weights; through points; roots. (No program in sight.)
-/
import Derived.Test.YtgdfphcggjclkaaDoorPoA
import Derived.Test.YtgdfphcggjclkaaDoorRaQ
namespace Go.Proofs.YtgdfphcggjclkaaDoor
open Go Go.Lin Go.Psi

theorem un_of_pr {q a : Int} (h2 : 2 ≤ q) (hp : Pr q.toNat) (h : a % q ≠ 0) : Un a q := by
  obtain ⟨N, rfl⟩ := Int.eq_ofNat_of_zero_le (show 0 ≤ q by omega)
  rw [Int.toNat_natCast] at hp
  have hN : NeZero N := ⟨by omega⟩
  obtain ⟨y, hy⟩ := (fld_of hp).inv (tf N a) fun e => h (tf_iff_zero.1 e)
  refine ⟨y.val, ?_⟩
  have h1 : tf N ((y.val : Int) * a) = tf N 1 := by
    rw [tf_mul, tf_self, tf_one]
    grind
  exact tf_eq.1 h1
theorem ne_sub {a b q : Int} (h : a % q ≠ b % q) : (b - a) % q ≠ 0 := fun e => h (Int.emod_emod_of_dvd a (Int.dvd_refl q) ▸ (by
  have := Int.emod_add_mul_ediv (b - a) q
  rw [e] at this
  rw [show b = a + q * ((b - a) / q) by omega, Int.add_mul_emod_self_left]
  exact Int.emod_emod_of_dvd a (Int.dvd_refl q)))
/-- no two are one another's. -/
def Two (xs : List Int) (q : Int) : Prop := xs.Pairwise fun a b => a % q ≠ b % q
theorem uniq_two (xs : List Int) (most q : Int) : Two (uniqL xs most q) q := by
  have key : ∀ (l out : List Int), Two out q → Two (l.foldl (uniqStep most q) out) q := by
    intro l
    induction l with
    | nil => intro out h; exact h
    | cons x l ih =>
      intro out h
      rw [List.foldl_cons]
      refine ih _ ?_
      unfold uniqStep
      split
      · rename_i hc
        refine List.pairwise_append.2 ⟨h, List.pairwise_singleton .., fun a ha b hb => ?_⟩
        rw [List.mem_singleton.1 hb]
        intro e
        have := hc.2
        unfold hasM at this
        have h3 := List.any_eq_false.1 this a ha
        exact h3 (decide_eq_true e)
      · exact h
  exact key xs [] .nil
theorem Two.apart {xs : List Int} {q : Int} (h : Two xs q) (h2 : 2 ≤ q) (hp : Pr q.toNat) : Apart xs q :=
  List.Pairwise.imp (fun {a b} hab => un_of_pr h2 hp (ne_sub hab)) h
theorem Two.unlike {xs : List Int} {q : Int} (h : Two xs q) (hq : okm q = true) (hl : xs.length ≤ 1024) : eUnlike xs q = 0 := by
  unfold eUnlike
  rw [if_pos hq, if_pos hl, if_pos]
  unfold mods List.Nodup
  rw [List.pairwise_map]
  exact h
theorem Two.all {xs : List Int} {q : Int} (h : Two xs q) (hq : okm q = true) (h2 : 2 ≤ q) (hp : Pr q.toNat) (hl : xs.length ≤ 1024) : eAll xs q = 0 := eAll_yes (h.unlike hq hl) (h.apart h2 hp)
/-- a part at whatever place. -/
theorem part_any {q : Int} (hq : okm q = true) {xs : List Int} {i : Nat} {x : Int} (hx : xs[i]? = some x) (X : Int) : ev (withoutL (pAll xs q) x q) X % q = pd (but xs i) X % q := by
  obtain ⟨_, z, h1, h2⟩ := pAll_is hq xs
  have h0 := okm_pos hq
  have hm : x ∈ xs := List.mem_of_getElem? hx
  have key : ∀ X, (X - x) * ev (divZ z x) X = pd xs X := fun X => by
    have := divZ_ev z x X
    rw [h2, h2, pd_mem hm] at this
    omega
  have hw : ∀ X, ev (withoutL (pAll xs q) x q) X % q = ev (divZ z x) X % q := fun X => by
    rw [without_congr h1, without_is hq]
    exact ev_congr rfl (map_mod_mod _ _)
  have main : ∀ Y, Y ≠ x → ev (divZ z x) Y = pd (but xs i) Y := fun Y hY => by
    have h3 := key Y
    rw [pd_but hx Y] at h3
    exact Int.eq_of_mul_eq_mul_left (by omega) h3
  rw [hw]
  by_cases hX : X = x
  · have h5 : (X + q) % q = X % q := by simp
    rw [← ev_congr h5 rfl, main (X + q) (by omega), pd_congr _ h5]
  · rw [main X hX]
/-- values times weights, one behind the other. -/
noncomputable def sumW (xs ys : List Int) (X q : Int) : Nat → Int
  | 0 => 0
  | k + 1 => mAdd (sumW xs ys X q k) (mMul (wOne xs X q k) (ys.getD k 0) q) q
theorem sumW_ev {q : Int} (hq : okm q = true) (xs ys : List Int) (X : Int) : ∀ k, k ≤ xs.length → sumW xs ys X q k % q = ev (pOut xs ys q k) X % q
  | 0, _ => by
    have e0 : ∀ m, ev (List.replicate m 0) X = 0 := by
      intro m
      induction m with
      | zero => rfl
      | succ m ih => rw [List.replicate_succ, ev_cons, ih]; simp
    rw [pOut, e0]; rfl
  | k + 1, hk => by
    obtain ⟨z, hz⟩ : ∃ z, xs[k]? = some z := ⟨_, List.getElem?_eq_getElem (by omega)⟩
    have hgz : xs.getD k 0 = z := by rw [List.getD_eq_getElem?_getD, hz]; rfl
    have ih := sumW_ev hq xs ys X k (by omega)
    rw [sumW, mAdd_mod hq, pOut, hgz, sum_ev hq]
    refine emod_add_congr ih ?_
    rw [scale_ev hq, mMul_mod hq, wOne, hgz]
    have h1 := part_any hq hz X
    have h2 : mMul (iVal (mProd (but xs k) z q) q) (mProd (but xs k) X q) q % q = iVal (mProd (but xs k) z q) q * pd (but xs k) X % q := by
      rw [mMul_mod hq, mProd_emod hq (but xs k) X, mr_mul]
    rw [emod_mul_congr h2 rfl, emod_mul_congr (mMul_mod hq _ _) h1]
    congr 1
    grind
theorem sumW_red {q : Int} (hq : okm q = true) (xs ys : List Int) (X : Int) (k : Nat) : sumW xs ys X q k % q = sumW xs ys X q k := by
  cases k with
  | zero => exact Int.zero_emod q
  | succ k => rw [sumW, mAdd_ok hq, Int.emod_emod]
/-- 0s behind. -/
def padZ (c : List Int) (n : Nat) : List Int := c ++ List.replicate (n - c.length) 0
theorem ev_zeros (m : Nat) (X : Int) : ev (List.replicate m 0) X = 0 := by
  induction m with
  | zero => rfl
  | succ m ih => rw [List.replicate_succ, ev_cons, ih]; simp
theorem padZ_ev (c : List Int) (n : Nat) (X : Int) : ev (padZ c n) X = ev c X := by
  unfold padZ
  rw [ev_append, ev_zeros]; simp
theorem padZ_len {c : List Int} {n : Nat} (h : c.length ≤ n) : (padZ c n).length = n := by
  unfold padZ
  rw [List.length_append, List.length_replicate]; omega
/-- through a polynomial's own values: that polynomial. -/
theorem through_own {q : Int} (hq : okm q = true) {xs c : List Int} (ha : Apart xs q) (hl : c.length ≤ xs.length) : (pOut xs (valuesL c xs q) q xs.length).map (· % q) = (padZ c xs.length).map (· % q) := by
  refine only_one ha (pOut_len hq _ _ _) (padZ_len hl) fun x hx => ?_
  obtain ⟨j, hj, rfl⟩ := List.getElem_of_mem hx
  have h1 := pOut_ev hq (valuesL c xs q) ha xs.length (Nat.le_refl _) j _ (List.getElem?_eq_getElem hj)
  rw [h1, if_pos hj, padZ_ev]
  unfold valuesL
  rw [List.getD_eq_getElem?_getD, List.getElem?_map, List.getElem?_eq_getElem hj]
  show mEval c xs[j] q % q = _
  rw [mEval_ok hq, Int.emod_emod]
/-- values times weights come to the value. -/
theorem weights_sum {q : Int} (hq : okm q = true) {xs c : List Int} (ha : Apart xs q) (hl : c.length ≤ xs.length) (X : Int) : sumW xs (valuesL c xs q) X q xs.length = mEval c X q := by
  rw [← sumW_red hq, sumW_ev hq _ _ _ _ (Nat.le_refl _), ev_congr rfl (through_own hq ha hl), padZ_ev, mEval_ok hq]
/-- all weights, one behind the other. -/
noncomputable def sumA (xs : List Int) (X q : Int) : Nat → Int
  | 0 => 0
  | k + 1 => mAdd (sumA xs X q k) (wOne xs X q k) q
theorem sumA_one {q : Int} (hq : okm q = true) {xs : List Int} (X : Int) : ∀ k, k ≤ xs.length → sumA xs X q k = sumW xs (valuesL [1] xs q) X q k
  | 0, _ => rfl
  | k + 1, hk => by
    rw [sumA, sumW, sumA_one hq X k (by omega)]
    have e : (valuesL [1] xs q).getD k 0 = 1 % q := by
      unfold valuesL
      rw [List.getD_eq_getElem?_getD, List.getElem?_map, List.getElem?_eq_getElem (by omega)]
      show mEval [1] _ q = _
      rw [mEval_ok hq]
      simp [ev]
    rw [e, mAdd_ok hq, mAdd_ok hq]
    refine emod_add_congr rfl ?_
    rw [mMul_mod hq, Int.mul_emod, Int.emod_emod, ← Int.mul_emod, Int.mul_one]
theorem weights_all {q : Int} (hq : okm q = true) (h2 : 2 ≤ q) {xs : List Int} (ha : Apart xs q) (hl : 0 < xs.length) (X : Int) : sumA xs X q xs.length = 1 := by
  rw [sumA_one hq X _ (Nat.le_refl _), weights_sum hq ha (by simp; omega), mEval_ok hq]
  simp only [ev, Int.mul_zero, Int.add_zero]
  exact Int.emod_eq_of_lt (by omega) (by omega)
/-- at one of the places. -/
theorem weights_own {q : Int} (hq : okm q = true) (h2 : 2 ≤ q) {xs : List Int} (ha : Apart xs q) {i k : Nat} {x : Int} (hi : xs[i]? = some x) (hk : k < xs.length) : wOne xs x q k = if k = i then 1 else 0 := by
  obtain ⟨z, hz⟩ : ∃ z, xs[k]? = some z := ⟨_, List.getElem?_eq_getElem hk⟩
  have hgz : xs.getD k 0 = z := by rw [List.getD_eq_getElem?_getD, hz]; rfl
  rw [wOne, hgz, mMul_ok hq]
  by_cases h : k = i
  · subst h
    rw [if_pos rfl]
    rw [hi] at hz
    obtain rfl := Option.some.inj hz
    have hu := apart_iff.1 ha k x hi
    have hu2 : Un (mProd (but xs k) x q) q := hu.congr (by rw [mProd_emod hq, Int.emod_emod])
    rw [iVal_mul hq hu2]
    exact Int.emod_eq_of_lt (by omega) (by omega)
  · rw [if_neg h, mProd_emod hq (but xs k) x, mr_mul]
    have hm : x ∈ but xs k := by
      unfold but
      rcases Nat.lt_or_ge i k with h1 | h1
      · exact List.mem_append_left _ (List.mem_of_getElem? (by rw [List.getElem?_take, if_pos h1]; exact hi))
      · refine List.mem_append_right _ (List.mem_of_getElem? (i := i - (k + 1)) ?_)
        rw [List.getElem?_drop, show k + 1 + (i - (k + 1)) = i by omega]
        exact hi
    rw [pd_mem hm, Int.mul_zero, Int.zero_emod]
/-! Through points; roots. -/
theorem out_at {q : Int} (hq : okm q = true) {xs ys : List Int} (ha : Apart xs q) {j : Nat} {x : Int} (hx : xs[j]? = some x) : mEval (pOut xs ys q xs.length) x q = ys.getD j 0 % q := by
  have hj := (List.getElem?_eq_some_iff.1 hx).1
  rw [mEval_ok hq, pOut_ev hq ys ha _ (Nat.le_refl _) j x hx, if_pos hj]
theorem out_lt {q : Int} (hq : okm q = true) (xs ys : List Int) (k : Nat) {z : Int} (hz : z ∈ pOut xs ys q k) : 0 ≤ z ∧ z < q := by
  have h0 := okm_pos hq
  rw [← pOut_red hq] at hz
  obtain ⟨y, _, rfl⟩ := List.mem_map.1 hz
  exact ⟨Int.emod_nonneg _ (by omega), Int.emod_lt_of_pos _ h0⟩
theorem padZ_getD (c : List Int) (n i : Nat) : (padZ c n).getD i 0 = c.getD i 0 := by
  unfold padZ
  rw [List.getD_eq_getElem?_getD, List.getD_eq_getElem?_getD]
  rcases Nat.lt_or_ge i c.length with h | h
  · rw [List.getElem?_append_left h]
  · rw [List.getElem?_append_right h, List.getElem?_eq_none h, List.getElem?_replicate]
    split <;> rfl
theorem own_same {q : Int} (hq : okm q = true) {xs c : List Int} (ha : Apart xs q) (hl : c.length ≤ xs.length) : sameB (pOut xs (valuesL c xs q) q xs.length) c q = true := by
  refine sameB_yes fun i _ => ?_
  unfold cAt
  rw [getD_congr (through_own hq ha hl) i, padZ_getD]
theorem times_ev1 {q : Int} (hq : okm q = true) (a : List Int) (r X : Int) : ev (pTimes a [mSub 0 r q, 1] q) X % q = (X - r) * ev a X % q := by
  rcases Nat.eq_zero_or_pos a.length with h | h
  · obtain rfl := List.eq_nil_of_length_eq_zero h
    have : pTimes [] [mSub 0 r q, 1] q = [] := by unfold pTimes; simp
    rw [this]
    simp [ev]
  · have h1 := (times_lin (a := a) (z := a) (x := r) hq h rfl).1
    rw [ev_congr rfl h1, linR_ev, Int.zero_add]
/-- with roots more. -/
def rootsP (c roots : List Int) (q : Int) : List Int := roots.foldl (fun c r => pTimes c [mSub 0 r q, 1] q) c
theorem rootsP_take {roots : List Int} {k : Nat} {r : Int} (h : roots[k]? = some r) (c : List Int) (q : Int) : rootsP c (roots.take (k + 1)) q = pTimes (rootsP c (roots.take k) q) [mSub 0 r q, 1] q := by
  unfold rootsP
  rw [take_snocR h, List.foldl_append]; rfl
theorem pTimes_len1 (a : List Int) (r q : Int) : (pTimes a [mSub 0 r q, 1] q).length ≤ a.length + 1 := by
  unfold pTimes
  split
  · simp [timesP]
  · simp
theorem rootsP_len (q : Int) : ∀ (roots c : List Int), (rootsP c roots q).length ≤ c.length + roots.length
  | [], c => by simp [rootsP]
  | r :: roots, c => by
    have h := rootsP_len q roots (pTimes c [mSub 0 r q, 1] q)
    have h2 := pTimes_len1 c r q
    rw [List.length_cons]
    show (rootsP (pTimes c [mSub 0 r q, 1] q) roots q).length ≤ _
    omega
theorem rootsP_u64 {q : Int} : ∀ (roots : List Int) {c : List Int}, U64s c → U64s (rootsP c roots q)
  | [], _, h => h
  | r :: roots, c, _ => rootsP_u64 (q := q) roots (pTimes_u64 c [mSub 0 r q, 1] q)
theorem rootsP_zero {q : Int} (hq : okm q = true) (X : Int) : ∀ (roots c : List Int), (ev c X % q = 0 ∨ ∃ r ∈ roots, X % q = r % q) → ev (rootsP c roots q) X % q = 0
  | [], c, h => by
    rcases h with h | ⟨r, hr, _⟩
    · exact h
    · cases hr
  | r :: roots, c, h => by
    show ev (rootsP (pTimes c [mSub 0 r q, 1] q) roots q) X % q = 0
    refine rootsP_zero hq X roots _ ?_
    rw [times_ev1 hq]
    rcases h with h | ⟨x, hx, hX⟩
    · left
      rw [Int.mul_emod, h, Int.mul_zero, Int.zero_emod]
    · rcases List.mem_cons.1 hx with rfl | hx
      · left
        rw [Int.mul_emod, Int.sub_emod, hX, Int.sub_self, Int.zero_emod, Int.zero_mul, Int.zero_emod]
      · exact .inr ⟨x, hx, hX⟩
/-- what a degree is. -/
theorem dAt_spec (l : List Int) (q : Int) : ∀ n, (dAt l q n = -1 ∧ ∀ k, k < n → cAt l k q = 0) ∨ ∃ d : Nat, dAt l q n = d ∧ d < n ∧ cAt l d q ≠ 0 ∧ ∀ k, d < k → k < n → cAt l k q = 0
  | 0 => .inl ⟨rfl, fun k h => by omega⟩
  | n + 1 => by
    rw [dAt]
    by_cases h : cAt l n q = 0
    · rw [if_pos h]
      rcases dAt_spec l q n with ⟨h1, h2⟩ | ⟨d, h1, h2, h3, h4⟩
      · refine .inl ⟨h1, fun k hk => ?_⟩
        by_cases e : k = n
        · rw [e]; exact h
        · exact h2 k (by omega)
      · refine .inr ⟨d, h1, by omega, h3, fun k hk hk2 => ?_⟩
        by_cases e : k = n
        · rw [e]; exact h
        · exact h4 k hk (by omega)
    · rw [if_neg h]
      exact .inr ⟨n, rfl, by omega, h, fun k h1 h2 => by omega⟩
theorem deg_spec {q : Int} (hq : okm q = true) (l : List Int) : (pDeg l q = -1 ∧ ∀ k, cAt l k q = 0) ∨ ∃ d : Nat, pDeg l q = d ∧ d < l.length ∧ cAt l d q ≠ 0 ∧ ∀ k, d < k → cAt l k q = 0 := by
  unfold pDeg
  rw [if_pos hq]
  rcases dAt_spec l q l.length with ⟨h1, h2⟩ | ⟨d, h1, h2, h3, h4⟩
  · refine .inl ⟨h1, fun k => ?_⟩
    rcases Nat.lt_or_ge k l.length with h | h
    · exact h2 k h
    · exact cAt_out h q
  · refine .inr ⟨d, h1, h2, h3, fun k hk => ?_⟩
    rcases Nat.lt_or_ge k l.length with h | h
    · exact h4 k hk h
    · exact cAt_out h q
theorem ev_zero_of {q : Int} {l : List Int} (h : ∀ z ∈ l, z % q = 0) (X : Int) : ev l X % q = 0 := by
  induction l with
  | nil => exact Int.zero_emod q
  | cons z l ih =>
    rw [ev_cons, Int.add_emod, h z List.mem_cons_self, Int.mul_emod, ih fun y hy => h y (List.mem_cons_of_mem _ hy), Int.mul_zero, Int.zero_emod, Int.add_zero, Int.zero_emod]
theorem deg_none {q : Int} (hq : okm q = true) {l : List Int} (h : pDeg l q < 0) (X : Int) : mEval l X q = 0 := by
  rw [mEval_ok hq]
  rcases deg_spec hq l with ⟨_, h2⟩ | ⟨d, h1, _⟩
  · refine ev_zero_of (fun z hz => ?_) X
    obtain ⟨k, hk, rfl⟩ := List.getElem_of_mem hz
    have := h2 k
    rwa [cAt_in (List.getElem?_eq_getElem hk)] at this
  · omega
/-- no more zeros than the degree. -/
theorem roots_few {q : Int} (hq : okm q = true) {l zs : List Int} {d : Nat} (hd : pDeg l q = d) (ha : Apart zs q) (hz : ∀ x ∈ zs, mEval l x q = 0) : zs.length ≤ d := by
  rcases deg_spec hq l with ⟨h1, _⟩ | ⟨d', h1, h2, h3, h4⟩
  · omega
  obtain rfl : d' = d := by omega
  refine Decidable.byContradiction fun hn => h3 ?_
  have hev : ∀ X, ev (l.take (d' + 1)) X % q = ev l X % q := fun X => by
    conv => rhs; rw [← List.take_append_drop (d' + 1) l]
    rw [ev_append, Int.add_emod, Int.mul_emod, ev_zero_of (l := l.drop (d' + 1)) (fun z hz => ?_) X, Int.mul_zero, Int.zero_emod, Int.add_zero, Int.emod_emod]
    obtain ⟨k, hk, rfl⟩ := List.getElem_of_mem hz
    rw [List.getElem_drop]
    have := h4 (d' + 1 + k) (by omega)
    rwa [cAt_in (List.getElem?_eq_getElem (by rw [List.length_drop] at hk; omega))] at this
  have h5 := roots_zero zs (l.take (d' + 1)) ha (by rw [List.length_take]; omega) fun x hx => by
    rw [hev]
    have := hz x hx
    rwa [mEval_ok hq] at this
  have h6 := h5 (l[d']) (List.mem_of_getElem? (i := d') (by rw [List.getElem?_take, if_pos (by omega)]; exact List.getElem?_eq_getElem h2))
  rw [cAt_in (List.getElem?_eq_getElem h2)]
  exact h6
/-- how many zeros. -/
def zerosK (l xs : List Int) (q : Int) (k : Nat) : List Int := (xs.take k).filter fun x => decide (mEval l x q = 0)
theorem zerosK_succ {l xs : List Int} {q : Int} {k : Nat} {x : Int} (h : xs[k]? = some x) : (zerosK l xs q (k + 1)).length = (zerosK l xs q k).length + if mEval l x q = 0 then 1 else 0 := by
  unfold zerosK
  rw [take_snocR h, List.filter_append, List.length_append]
  congr 1
  by_cases hz : mEval l x q = 0
  · rw [if_pos hz]; simp [hz]
  · rw [if_neg hz]; simp [hz]
theorem zeros_le {q : Int} (hq : okm q = true) {l xs : List Int} {d : Nat} (hd : pDeg l q = d) (ha : Apart xs q) (k : Nat) : (zerosK l xs q k).length ≤ d := by
  refine roots_few hq hd ?_ fun x hx => ?_
  · exact List.Pairwise.sublist (List.filter_sublist.trans (List.take_sublist k xs)) ha
  · have := (List.mem_filter.1 hx).2
    exact of_decide_eq_true this
theorem uniq_fold_pre (most q : Int) : ∀ (l out : List Int), ∃ r, l.foldl (uniqStep most q) out = out ++ r
  | [], out => ⟨[], by simp⟩
  | x :: l, out => by
    rw [List.foldl_cons]
    obtain ⟨r, hr⟩ := uniq_fold_pre most q l (uniqStep most q out x)
    rw [hr]
    unfold uniqStep
    split
    · exact ⟨x :: r, by simp⟩
    · exact ⟨r, rfl⟩
/-- the first ones of many are those of the first. -/
theorem uniq_pre {a b : List Int} {most q : Int} {i : Nat} {x : Int} (h : (uniqL (a ++ b) most q)[i]? = some x) (hi : i < (uniqL a most q).length) : x ∈ a := by
  obtain ⟨r, hr⟩ := uniq_fold_pre most q b (uniqL a most q)
  have e : uniqL (a ++ b) most q = uniqL a most q ++ r := by
    unfold uniqL at hr ⊢
    rw [List.foldl_append, hr]
  rw [e, List.getElem?_append_left hi] at h
  exact uniqL_mem (List.mem_of_getElem? h)
end Go.Proofs.YtgdfphcggjclkaaDoor
