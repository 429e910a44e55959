/-
  Parts of these texts that the statement needs: PlyB, RoundT, Yield.
-/
import Derived.Test.YtcojnjhffmhbiaaDoorRobQ5
import Derived.Test.YtcojnjhffmhbiaaDoorRobQ4
import Derived.OrdersIn

section
namespace Go.Proofs.YtcojnjhffmhbiaaDoor
/-- a has an inverse modulo q. -/
def Un (a q : Int) : Prop := ∃ x, (x * a) % q = 1 % q
theorem Un.congr {a b q : Int} (h : Un a q) (he : a % q = b % q) : Un b q := by
  obtain ⟨x, hx⟩ := h
  exact ⟨x, (emod_mul_congr rfl he).symm.trans hx⟩
theorem Un.one (q : Int) : Un 1 q := ⟨1, by simp⟩
theorem Un.mul {a b q : Int} (h : Un a q) (k : Un b q) : Un (a * b) q := by
  obtain ⟨x, hx⟩ := h
  obtain ⟨y, hy⟩ := k
  refine ⟨x * y, ?_⟩
  have e : x * y * (a * b) = x * a * (y * b) := by grind
  rw [e, emod_mul_congr hx hy]
  simp
theorem Un.left {a b q : Int} (h : Un (a * b) q) : Un a q := by
  obtain ⟨x, hx⟩ := h
  exact ⟨x * b, by rw [← hx]; congr 1; grind⟩
theorem Un.right {a b q : Int} (h : Un (a * b) q) : Un b q := by
  obtain ⟨x, hx⟩ := h
  exact ⟨x * a, by rw [← hx]; congr 1; grind⟩
theorem Un.neg {a b q : Int} (h : Un (a - b) q) : Un (b - a) q := by
  obtain ⟨x, hx⟩ := h
  exact ⟨-x, by rw [← hx]; congr 1; grind⟩
theorem Un.cancel {a b q : Int} (h : Un a q) (he : (a * b) % q = 0) : b % q = 0 := by
  obtain ⟨x, hx⟩ := h
  have h1 : (x * a * b) % q = b % q := by
    rw [emod_mul_congr (b := 1) hx (rfl : b % q = b % q), Int.one_mul]
  rw [← h1]
  have h2 : x * a * b = x * (a * b) := by grind
  rw [h2, ← mr_mul, he]
  simp
theorem inv_of_un {a q : Int} (h0 : 0 < q) (h : Un a q) : ∃ x, InvIs a q x := by
  obtain ⟨x, hx⟩ := h
  refine ⟨x % q, Int.emod_nonneg _ (by omega), Int.emod_lt_of_pos _ h0, (x % q * a) / q - 1 / q, ?_⟩
  have h1 : (x % q * a) % q = 1 % q := by rw [ml_mul]; exact hx
  have h2 := Int.mul_ediv_add_emod (x % q * a) q
  have h3 := Int.mul_ediv_add_emod 1 q
  rw [h1] at h2
  rw [Int.mul_sub]
  omega
theorem un_of_inv {a q x : Int} (h : InvIs a q x) : Un a q := by
  obtain ⟨_, _, k, hk⟩ := h
  exact ⟨x, by rw [hk, Int.add_mul_emod_self_left]⟩
theorem iErr_zero {a q : Int} (h : okm q = true) : iErr a q = 0 ↔ Un a q := by
  constructor
  · intro he
    apply Classical.byContradiction
    intro hn
    have := iErr_none h (fun ⟨x, hx⟩ => hn (un_of_inv hx))
    omega
  · intro hu
    obtain ⟨x, hx⟩ := inv_of_un (okm_pos h) hu
    exact iErr_is h hx
theorem iErr_five {a q : Int} (h : okm q = true) (hn : ¬ Un a q) : iErr a q = 5 := iErr_none h fun ⟨_, hx⟩ => hn (un_of_inv hx)
theorem iVal_mul {a q : Int} (h : okm q = true) (hu : Un a q) : (iVal a q * a) % q = 1 % q := by
  obtain ⟨x, hx⟩ := inv_of_un (okm_pos h) hu
  rw [iVal_is h hx]
  obtain ⟨_, _, k, hk⟩ := hx
  rw [hk, Int.add_mul_emod_self_left]
theorem iVal_u64 (a q : Int) : U64 (iVal a q) := by
  by_cases hx : okm q = true ∧ ∃ x, InvIs a q x
  · obtain ⟨h, x, hx⟩ := hx
    rw [iVal_is h hx]
    have := okm_le h
    exact ⟨hx.1, by have := hx.2.1; omega⟩
  · by_cases h : okm q = true
    · rw [iVal_none fun hh => hx ⟨h, hh⟩]; exact ⟨by omega, by omega⟩
    · rw [iVal_no (by simpa using h)]; exact ⟨by omega, by omega⟩
/-- all of a row but number i. -/
def but (l : List Int) (i : Nat) : List Int := l.take i ++ l.drop (i + 1)
theorem but_ne {l : List Int} {x : Int} {i : Nat} (h : l.length ≠ i) : but (l ++ [x]) i = but l i ++ [x] := by
  unfold but
  rcases Nat.lt_or_ge l.length i with h1 | h1
  · rw [List.take_of_length_le (by simp; omega), List.drop_eq_nil_of_le (by simp; omega), List.take_of_length_le (by omega), List.drop_eq_nil_of_le (by omega)]
    simp
  · rw [List.take_append_of_le_length (by omega), List.drop_append_of_le_length (by omega), List.append_assoc]
theorem but_eq {l : List Int} {x : Int} {i : Nat} (h : l.length = i) : but (l ++ [x]) i = but l i := by
  unfold but
  rw [List.take_append_of_le_length (by omega), List.drop_eq_nil_of_le (by simp; omega), List.drop_eq_nil_of_le (by omega)]
/-- the product of what lies between y and each of a row. -/
def pd : List Int → Int → Int
  | [], _ => 1
  | x :: l, y => (y - x) * pd l y
theorem pd_append (a b : List Int) (y : Int) : pd (a ++ b) y = pd a y * pd b y := by
  induction a with
  | nil => simp [pd]
  | cons x a ih => simp only [List.cons_append, pd, ih]; grind
theorem pd_but {l : List Int} {i : Nat} {x : Int} (h : l[i]? = some x) (y : Int) : pd l y = (y - x) * pd (but l i) y := by
  obtain ⟨hi, rfl⟩ := List.getElem?_eq_some_iff.1 h
  have e : l = l.take i ++ l[i] :: l.drop (i + 1) := by
    rw [← List.drop_eq_getElem_cons hi, List.take_append_drop]
  have e2 : pd l y = pd (l.take i) y * ((y - l[i]) * pd (l.drop (i + 1)) y) := by
    conv => lhs; rw [e]
    rw [pd_append, pd]
  rw [e2, but, pd_append]
  grind
theorem pd_mem {l : List Int} {x : Int} (h : x ∈ l) : pd l x = 0 := by
  induction l with
  | nil => cases h
  | cons z l ih =>
    rw [pd]
    rcases List.mem_cons.1 h with rfl | h
    · rw [Int.sub_self, Int.zero_mul]
    · rw [ih h, Int.mul_zero]
theorem pd_congr (l : List Int) {y z q : Int} (h : y % q = z % q) : pd l y % q = pd l z % q := by
  induction l with
  | nil => rfl
  | cons x l ih => exact emod_mul_congr (emod_sub_congr h rfl) ih
theorem pd_un {l : List Int} {y q : Int} : Un (pd l y) q ↔ ∀ x ∈ l, Un (y - x) q := by
  induction l with
  | nil => simp [pd, Un.one]
  | cons x l ih =>
    rw [pd]
    constructor
    · intro h z hz
      rcases List.mem_cons.1 hz with rfl | hz
      · exact h.left
      · exact ih.1 h.right z hz
    · intro h
      exact (h x (List.mem_cons_self ..)).mul (ih.2 fun z hz => h z (List.mem_cons_of_mem _ hz))
/-- the same product, modulo q, as it is reckoned. -/
def mProd (l : List Int) (y q : Int) : Int := l.foldl (fun s x => mMul s (mSub y x q) q) (1 % q)
theorem mProd_emod {q : Int} (h : okm q = true) (l : List Int) (y : Int) : mProd l y q = pd l y % q := by
  unfold mProd
  have key : ∀ (l : List Int) (s t : Int), s % q = t % q → (∃ u, s = u % q) → l.foldl (fun s x => mMul s (mSub y x q) q) s = (t * pd l y) % q := by
    intro l
    induction l with
    | nil =>
      rintro s t hst ⟨u, rfl⟩
      rw [Int.emod_emod] at hst
      simp [pd, hst]
    | cons x l ih =>
      rintro s t hst _
      rw [List.foldl_cons, ih (mMul s (mSub y x q) q) (t * (y - x)) ?_ ⟨_, by rw [mMul_ok h]⟩]
      · rw [pd]; congr 1; grind
      · rw [mMul_ok h, Int.emod_emod, mSub_ok h, mr_mul]
        exact emod_mul_congr hst rfl
  rw [key l (1 % q) 1 (Int.emod_emod _ _) ⟨1, rfl⟩, Int.one_mul]
theorem mProd_u64 {q : Int} (h : okm q = true) (l : List Int) (y : Int) : U64 (mProd l y q) := by
  rw [mProd_emod h]; exact mod_u64 h
/-- the places are apart, and what lies between any two has an inverse. -/
def Apart (xs : List Int) (q : Int) : Prop := xs.Pairwise fun a b => Un (b - a) q
theorem apart_iff {xs : List Int} {q : Int} : Apart xs q ↔ ∀ i x, xs[i]? = some x → Un (pd (but xs i) x) q := by
  constructor
  · intro h i x hx
    obtain ⟨hi, rfl⟩ := List.getElem?_eq_some_iff.1 hx
    have h1 := List.pairwise_iff_getElem.1 h
    rw [pd_un]
    intro z hz
    rcases List.mem_append.1 hz with hz | hz
    · obtain ⟨k, hk, rfl⟩ := List.mem_iff_getElem.1 hz
      rw [List.length_take] at hk
      rw [List.getElem_take]
      exact h1 k i (by omega) hi (by omega)
    · obtain ⟨k, hk, rfl⟩ := List.mem_iff_getElem.1 hz
      rw [List.length_drop] at hk
      rw [List.getElem_drop]
      exact (h1 i (i + 1 + k) hi (by omega) (by omega)).neg
  · intro h
    refine List.pairwise_iff_getElem.2 fun i j hi hj hij => ?_
    have h1 := pd_un.1 (h j xs[j] (List.getElem?_eq_getElem hj))
    refine h1 _ (List.mem_append_left _ (List.mem_iff_getElem.2 ⟨i, by rw [List.length_take]; omega, ?_⟩))
    rw [List.getElem_take]
noncomputable def wOne (xs : List Int) (y q : Int) (i : Nat) : Int := mMul (iVal (mProd (but xs i) (xs.getD i 0) q) q) (mProd (but xs i) y q) q
/-- divided by X - x, over the whole numbers. -/
def divZ : List Int → Int → List Int
  | [], _ => []
  | _c :: l, x => if l.length = 0 then [] else ev l x :: divZ l x
theorem divZ_len (l : List Int) (x : Int) : (divZ l x).length = l.length - 1 := by
  induction l with
  | nil => rfl
  | cons c l ih =>
    unfold divZ
    split
    · rename_i h; simp [h]
    · simp [ih]; omega
theorem divZ_ev (l : List Int) (x X : Int) : ev l X = (X - x) * ev (divZ l x) X + ev l x := by
  induction l with
  | nil => simp [divZ, ev]
  | cons c l ih =>
    unfold divZ
    split
    · rename_i h
      obtain rfl := List.eq_nil_of_length_eq_zero h
      simp [ev]
    · rw [ev_cons, ev_cons, ev_cons, ih]
      generalize ev (divZ l x) X = d
      generalize ev l x = e
      grind
theorem divZ_zero {q : Int} (x : Int) : ∀ (l : List Int), (∀ e ∈ divZ l x, e % q = 0) → ev l x % q = 0 → ∀ c ∈ l, c % q = 0
  | [], _, _, c, hc => by cases hc
  | d :: l, h, he, c, hc => by
    unfold divZ at h
    split at h
    · rename_i hl
      obtain rfl := List.eq_nil_of_length_eq_zero hl
      rw [List.mem_singleton] at hc
      subst hc
      simpa [ev] using he
    · have h1 := h _ (List.mem_cons_self ..)
      have h2 := divZ_zero x l (fun e hm => h e (List.mem_cons_of_mem _ hm)) h1
      rcases List.mem_cons.1 hc with rfl | hc
      · rw [ev_cons, emod_add_congr (b := c) (d := 0) rfl (by rw [← mr_mul, h1]; simp), Int.add_zero] at he
        exact he
      · exact h2 c hc
/-- A POLYNOMIAL THAT IS 0 AT AS MANY PLACES AS IT HAS COEFFICIENTS. -/
theorem roots_zero {q : Int} : ∀ (xs l : List Int), Apart xs q → l.length ≤ xs.length → (∀ x ∈ xs, ev l x % q = 0) → ∀ c ∈ l, c % q = 0
  | [], l, _, hl, _, c, hc => by
    obtain rfl := List.eq_nil_of_length_eq_zero (Nat.le_zero.1 hl)
    cases hc
  | x :: xs, l, ha, hl, hz, c, hc => by
    have ha' := List.pairwise_cons.1 ha
    have hx := hz x (List.mem_cons_self ..)
    refine divZ_zero x l (roots_zero xs (divZ l x) ha'.2 (by rw [divZ_len]; simp at hl; omega) fun y hy => ?_) hx c hc
    have h1 := hz y (List.mem_cons_of_mem _ hy)
    rw [divZ_ev l x y, emod_add_congr (d := 0) rfl (by rw [hx]; simp), Int.add_zero] at h1
    exact (ha'.1 y hy).cancel h1
def subZ : List Int → List Int → List Int
  | a :: l, b :: m => (a - b) :: subZ l m
  | _, _ => []
theorem subZ_len {a b : List Int} (h : a.length = b.length) : (subZ a b).length = a.length := by
  induction a generalizing b with
  | nil => rfl
  | cons x a ih =>
    cases b with
    | nil => simp at h
    | cons y b => simp [subZ, ih (by simpa using h)]
theorem subZ_ev {a b : List Int} (h : a.length = b.length) (x : Int) : ev (subZ a b) x = ev a x - ev b x := by
  induction a generalizing b with
  | nil =>
    cases b with
    | nil => simp [subZ, ev]
    | cons y b => simp at h
  | cons c a ih =>
    cases b with
    | nil => simp at h
    | cons d b => simp only [subZ, ev_cons, ih (by simpa using h)]; grind
theorem subZ_zero {q : Int} {a b : List Int} (h : a.length = b.length) (hz : ∀ c ∈ subZ a b, c % q = 0) : a.map (· % q) = b.map (· % q) := by
  induction a generalizing b with
  | nil =>
    cases b with
    | nil => rfl
    | cons y b => simp at h
  | cons c a ih =>
    cases b with
    | nil => simp at h
    | cons d b =>
      simp only [subZ, List.mem_cons, forall_eq_or_imp] at hz
      simp only [List.map_cons]
      have h1 : c % q = d % q := by
        have : c = (c - d) + d := by omega
        rw [this, emod_add_congr (b := 0) (by rw [hz.1]; simp) rfl, Int.zero_add]
      rw [h1, ih (by simpa using h) hz.2]
/-- two with the same values at as many places as they have coefficients. -/
theorem only_one {q : Int} {xs a b : List Int} (ha : Apart xs q) (hl : a.length = xs.length) (hl' : b.length = xs.length) (hv : ∀ x ∈ xs, ev a x % q = ev b x % q) : a.map (· % q) = b.map (· % q) := by
  refine subZ_zero (by omega) (roots_zero xs _ ha (by rw [subZ_len (by omega)]; omega) fun x hx => ?_)
  rw [subZ_ev (by omega), emod_sub_congr (hv x hx) rfl, Int.sub_self, Int.zero_emod]
/-- times X - x, over the whole numbers. -/
def linR : Int → List Int → Int → List Int
  | p, [], _ => [p]
  | p, c :: l, x => (p - x * c) :: linR c l x
theorem linR_len (p : Int) (l : List Int) (x : Int) : (linR p l x).length = l.length + 1 := by
  induction l generalizing p with
  | nil => rfl
  | cons c l ih => simp [linR, ih]
theorem linR_ev (p : Int) (l : List Int) (x X : Int) : ev (linR p l x) X = p + (X - x) * ev l X := by
  induction l generalizing p with
  | nil => simp [linR, ev]
  | cons c l ih => simp only [linR, ev_cons, ih]; grind
theorem linR_at (p : Int) (l : List Int) (x : Int) (n : Nat) (h : n ≤ l.length) : (linR p l x)[n]? = some ((if n = 0 then p else l.getD (n - 1) 0) - x * l.getD n 0) := by
  induction l generalizing p n with
  | nil =>
    obtain rfl : n = 0 := by simpa using h
    simp [linR]
  | cons c l ih =>
    cases n with
    | zero => simp [linR]
    | succ n =>
      rw [linR, List.getElem?_cons_succ, ih c n (by simpa using h)]
      cases n with
      | zero => simp
      | succ n => simp
theorem tAt_low {a : List Int} {s t q : Int} {n : Nat} : ∀ k, k + 1 ≤ n → tAt a [s, t] q n k = 0
  | 0, _ => rfl
  | k + 1, h => by rw [tAt_same (by simp; omega), tAt_low k (by omega)]
theorem tAt_lin {a : List Int} {s q : Int} (hq : okm q = true) {n : Nat} (h : n ≤ a.length) (_h1 : 1 ≤ a.length) : tAt a [s, 1] q n (n + 1) = ((if n = 0 then 0 else a.getD (n - 1) 0) + s * a.getD n 0) % q := by
  have top : ∀ z, tAt a [s, 1] q n n % q = z % q → (∃ u, tAt a [s, 1] q n n = u % q) → tAt a [s, 1] q n (n + 1) = (z + s * a.getD n 0) % q := by
    rintro z hz ⟨u, hu⟩
    rcases Nat.lt_or_ge n a.length with h2 | h2
    · obtain ⟨x, hx⟩ : ∃ x, a[n]? = some x := ⟨_, List.getElem?_eq_getElem h2⟩
      rw [tAt_step (Nat.le_refl n) hx (y := s) (by simp), mAdd_ok hq, mMul_ok hq, mr_add, List.getD_eq_getElem?_getD, hx, Option.getD_some, Int.mul_comm s]
      exact emod_add_congr hz rfl
    · rw [tAt_same (by omega), List.getD_eq_getElem?_getD, List.getElem?_eq_none h2, Option.getD_none, Int.mul_zero, Int.add_zero, ← hz, hu, Int.emod_emod]
  cases n with
  | zero => exact top 0 rfl ⟨0, by simp [tAt]⟩
  | succ k =>
    obtain ⟨x, hx⟩ : ∃ x, a[k]? = some x := ⟨_, List.getElem?_eq_getElem (by omega)⟩
    have e : tAt a [s, 1] q (k + 1) (k + 1) = x % q := by
      rw [tAt_step (Nat.le_succ k) hx (y := 1) (by rw [show k + 1 - k = 1 by omega]; rfl), tAt_low k (Nat.le_refl _), mAdd_ok hq, mMul_ok hq, mr_add, Int.zero_add, Int.mul_one]
    have := top x (by rw [e, Int.emod_emod]) ⟨_, e⟩
    rw [this, if_neg (by omega), Nat.add_sub_cancel, List.getD_eq_getElem?_getD (l := a) (i := k), hx, Option.getD_some]
theorem getD_map_mod (l : List Int) (q : Int) (n : Nat) : (l.map (· % q)).getD n 0 = l.getD n 0 % q := by
  rw [List.getD_eq_getElem?_getD, List.getD_eq_getElem?_getD, List.getElem?_map]
  cases l[n]? <;> simp
theorem getD_congr {a z : List Int} {q : Int} (h : a.map (· % q) = z.map (· % q)) (n : Nat) : a.getD n 0 % q = z.getD n 0 % q := by
  rw [← getD_map_mod, ← getD_map_mod, h]
/-- one factor more. -/
theorem times_lin {a z : List Int} {x q : Int} (hq : okm q = true) (h1 : 1 ≤ a.length) (h : a.map (· % q) = z.map (· % q)) : (pTimes a [mSub 0 x q, 1] q).map (· % q) = (linR 0 z x).map (· % q) ∧ (pTimes a [mSub 0 x q, 1] q).length = a.length + 1 := by
  have hl : a.length = z.length := by simpa using congrArg List.length h
  have hp : pTimes a [mSub 0 x q, 1] q = timesP a [mSub 0 x q, 1] q := by unfold pTimes; rw [if_pos ⟨hq, by omega, by simp⟩]
  have hlen : (timesP a [mSub 0 x q, 1] q).length = a.length + 1 := by simp [timesP]
  rw [hp]
  refine ⟨?_, hlen⟩
  apply List.ext_getElem?
  intro n
  rw [List.getElem?_map, List.getElem?_map]
  rcases Nat.lt_or_ge a.length n with h2 | h2
  · rw [List.getElem?_eq_none (by omega), List.getElem?_eq_none (by rw [linR_len]; omega)]
  · rw [linR_at 0 z x n (by omega)]
    unfold timesP
    rw [List.getElem?_map, List.getElem?_range (by simp; omega), Option.map_some, Option.map_some, Option.map_some, tAt_lin hq h2 h1, Int.emod_emod]
    congr 1
    rw [mSub_ok hq]
    have e2 := getD_congr h n
    have e3 : (0 - x) % q * a.getD n 0 % q = (0 - x) * z.getD n 0 % q := emod_mul_congr (Int.emod_emod _ _) e2
    have e4 : (if n = 0 then 0 else a.getD (n - 1) 0) % q = (if n = 0 then 0 else z.getD (n - 1) 0) % q := by
      split
      · rfl
      · exact getD_congr h _
    have e5 : (if n = 0 then (0 : Int) else z.getD (n - 1) 0) - x * z.getD n 0 = (if n = 0 then 0 else z.getD (n - 1) 0) + (0 - x) * z.getD n 0 := by grind
    rw [e5]
    exact emod_add_congr e4 e3
/-- the polynomial that is 0 at all places. -/
def pAll (xs : List Int) (q : Int) : List Int := xs.foldl (fun a x => pTimes a [mSub 0 x q, 1] q) [1 % q]
theorem pAll_snoc (xs : List Int) (x q : Int) : pAll (xs ++ [x]) q = pTimes (pAll xs q) [mSub 0 x q, 1] q := by simp [pAll]
theorem pAll_is {q : Int} (hq : okm q = true) (xs : List Int) : (pAll xs q).length = xs.length + 1 ∧ ∃ z, (pAll xs q).map (· % q) = z.map (· % q) ∧ ∀ X, ev z X = pd xs X := by
  have key : ∀ (xs a z : List Int), 1 ≤ a.length → a.map (· % q) = z.map (· % q) → (xs.foldl (fun a x => pTimes a [mSub 0 x q, 1] q) a).length = a.length + xs.length ∧ ∃ z', (xs.foldl (fun a x => pTimes a [mSub 0 x q, 1] q) a).map (· % q) = z'.map (· % q) ∧ ∀ X, ev z' X = ev z X * pd xs X := by
    intro xs
    induction xs with
    | nil => intro a z _ h; exact ⟨rfl, z, h, fun X => by simp [pd]⟩
    | cons x xs ih =>
      intro a z h1 h
      obtain ⟨h2, h3⟩ := times_lin (x := x) hq h1 h
      obtain ⟨h4, z', h5, h6⟩ := ih _ _ (by omega) h2
      rw [List.foldl_cons]
      refine ⟨by rw [h4, h3]; simp; omega, z', h5, fun X => ?_⟩
      rw [h6, linR_ev, pd]
      grind
  obtain ⟨h1, z, h2, h3⟩ := key xs [1 % q] [1] (by simp) (by simp)
  refine ⟨by rw [pAll, h1]; simp; omega, z, h2, fun X => ?_⟩
  rw [h3]; simp [ev]
theorem divZ_at (x : Int) : ∀ (l : List Int) (j : Nat), j < l.length - 1 → (divZ l x)[j]? = some (ev (l.drop (j + 1)) x)
  | [], j, h => by simp at h
  | c :: l, j, h => by
    simp only [List.length_cons, Nat.add_sub_cancel] at h
    unfold divZ
    rw [if_neg (by omega)]
    cases j with
    | zero => simp
    | succ j => rw [List.getElem?_cons_succ, divZ_at x l j (by omega), List.drop_succ_cons]
theorem without_is {q : Int} (hq : okm q = true) (l : List Int) (x : Int) : withoutL l x q = (divZ l x).map (· % q) := by
  apply List.ext_getElem?
  intro j
  unfold withoutL
  rw [List.getElem?_map, List.getElem?_map]
  rcases Nat.lt_or_ge j (l.length - 1) with h | h
  · rw [List.getElem?_range h, divZ_at x l j h, Option.map_some, Option.map_some, mEval_ok hq]
  · rw [List.getElem?_eq_none (by simpa using h), List.getElem?_eq_none (by rw [divZ_len]; exact h)]; rfl
theorem map_drop_congr {a z : List Int} {q : Int} (h : a.map (· % q) = z.map (· % q)) (j : Nat) : (a.drop j).map (· % q) = (z.drop j).map (· % q) := by
  rw [List.map_drop, List.map_drop, h]
theorem without_congr {a z : List Int} {q : Int} (h : a.map (· % q) = z.map (· % q)) (x : Int) : withoutL a x q = withoutL z x q := by
  unfold withoutL
  have hl : a.length = z.length := by simpa using congrArg List.length h
  rw [hl]
  apply List.map_congr_left
  intro j _
  exact mEval_congr rfl (map_drop_congr h _)
theorem map_mod_mod (l : List Int) (q : Int) : (l.map (· % q)).map (· % q) = l.map (· % q) := by
  rw [List.map_map]; apply List.map_congr_left; intro x _; simp
theorem part_len {q : Int} (hq : okm q = true) (xs : List Int) (x : Int) : (withoutL (pAll xs q) x q).length = xs.length := by
  simp [withoutL, (pAll_is hq xs).1]
/-- the one that is 0 at all places but number i. -/
theorem part_ev {q : Int} (hq : okm q = true) {xs : List Int} {i : Nat} {x : Int} (hx : xs[i]? = some x) (ha : Apart xs q) : ev (withoutL (pAll xs q) x q) x % q = pd (but xs i) x % q ∧ ∀ j y, xs[j]? = some y → j ≠ i → ev (withoutL (pAll xs q) x q) y % q = 0 := by
  obtain ⟨_, z, h1, h2⟩ := pAll_is hq xs
  have h0 := okm_pos hq
  have hm : x ∈ xs := List.mem_of_getElem? hx
  have key : ∀ X, (X - x) * ev (divZ z x) X = pd xs X := fun X => by
    have := divZ_ev z x X
    rw [h2, h2, pd_mem hm] at this
    omega
  have hw : ∀ X, ev (withoutL (pAll xs q) x q) X % q = ev (divZ z x) X % q := fun X => by
    rw [without_congr h1, without_is hq]
    exact ev_congr rfl (map_mod_mod _ _)
  constructor
  · have h3 := key (x + q)
    rw [pd_but hx (x + q), show x + q - x = q by omega] at h3
    have h4 := Int.eq_of_mul_eq_mul_left (by omega) h3
    have h5 : (x + q) % q = x % q := by simp
    rw [hw, ← ev_congr h5 rfl, h4, pd_congr _ h5]
  · intro j y hy hji
    rw [hw]
    have h3 := key y
    rw [pd_mem (List.mem_of_getElem? hy)] at h3
    have h4 := List.pairwise_iff_getElem.1 ha
    obtain ⟨hi, rfl⟩ := List.getElem?_eq_some_iff.1 hx
    obtain ⟨hj, rfl⟩ := List.getElem?_eq_some_iff.1 hy
    have hu : Un (xs[j] - xs[i]) q := by
      rcases Nat.lt_or_ge i j with h | h
      · exact h4 i j hi hj h
      · exact (h4 j i hj hi (by omega)).neg
    exact hu.cancel (by rw [h3]; simp)
theorem mAdd_mod {q : Int} (hq : okm q = true) (a b : Int) : mAdd a b q % q = (a + b) % q := by rw [mAdd_ok hq, Int.emod_emod]
theorem mMul_mod {q : Int} (hq : okm q = true) (a b : Int) : mMul a b q % q = (a * b) % q := by rw [mMul_ok hq, Int.emod_emod]
theorem cAt_ev {q : Int} (l : List Int) (n : Nat) (x : Int) (h : l.length ≤ n) : ev ((List.range n).map fun i => cAt l i q) x % q = ev l x % q := by
  have e : ((List.range n).map fun i => cAt l i q) = (l ++ List.replicate (n - l.length) 0).map (· % q) := by
    apply List.ext_getElem?
    intro i
    rw [List.getElem?_map, List.getElem?_map]
    rcases Nat.lt_or_ge i n with h1 | h1
    · rw [List.getElem?_range h1, Option.map_some]
      rcases Nat.lt_or_ge i l.length with h2 | h2
      · rw [List.getElem?_append_left h2, List.getElem?_eq_getElem h2, Option.map_some, cAt_in (List.getElem?_eq_getElem h2)]
      · rw [List.getElem?_append_right h2, List.getElem?_replicate, if_pos (by omega), Option.map_some, cAt_out h2]; simp
    · rw [List.getElem?_eq_none (by simpa using h1), List.getElem?_eq_none (by simp; omega)]; rfl
  have e0 : ∀ m, ev (List.replicate m 0) x = 0 := by
    intro m
    induction m with
    | zero => rfl
    | succ m ih => rw [List.replicate_succ, ev_cons, ih]; simp
  rw [e, ev_congr rfl (map_mod_mod _ _), ev_append, e0]
  simp
theorem sum_ev {q : Int} (hq : okm q = true) (a b : List Int) (x : Int) : ev (pSum a b q) x % q = (ev a x + ev b x) % q := by
  have hp : pSum a b q = sumL a b q := by unfold pSum; rw [if_pos hq]
  rw [hp, ← emod_add_congr (cAt_ev a (max a.length b.length) x (by omega)) (cAt_ev b (max a.length b.length) x (by omega))]
  unfold sumL
  have key : ∀ (l : List Nat), ev (l.map fun i => mAdd (cAt a i q) (cAt b i q) q) x % q = (ev (l.map fun i => cAt a i q) x + ev (l.map fun i => cAt b i q) x) % q := by
    intro l
    induction l with
    | nil => simp [ev]
    | cons i l ih =>
      simp only [List.map_cons, ev_cons]
      rw [emod_add_congr (mAdd_mod hq _ _) (emod_mul_congr (rfl : x % q = x % q) ih)]
      congr 1
      grind
  exact key _
theorem scale_ev {q : Int} (hq : okm q = true) (a : List Int) (k x : Int) : ev (pScale a k q) x % q = (k * ev a x) % q := by
  have hp : pScale a k q = a.map fun c => mMul c k q := by unfold pScale; rw [if_pos hq]
  rw [hp]
  induction a with
  | nil => simp [ev]
  | cons c a ih =>
    have ih := ih (by unfold pScale; rw [if_pos hq])
    simp only [List.map_cons, ev_cons]
    rw [emod_add_congr (mMul_mod hq _ _) (emod_mul_congr (rfl : x % q = x % q) ih)]
    congr 1
    grind
theorem scale_len {q : Int} (hq : okm q = true) (a : List Int) (k : Int) : (pScale a k q).length = a.length := by
  unfold pScale; rw [if_pos hq]; simp
theorem sum_len {q : Int} (hq : okm q = true) (a b : List Int) : (pSum a b q).length = max a.length b.length := by
  unfold pSum; rw [if_pos hq, sumL_len]
/-- all reduced. -/
theorem sum_red {q : Int} (hq : okm q = true) (a b : List Int) : (pSum a b q).map (· % q) = pSum a b q := by
  unfold pSum sumL
  rw [if_pos hq, List.map_map]
  apply List.map_congr_left
  intro i _
  simp [mAdd_ok hq]
/-- the program's, behind k points. -/
noncomputable def pOut (xs ys : List Int) (q : Int) : Nat → List Int
  | 0 => List.replicate xs.length 0
  | k + 1 => pSum (pOut xs ys q k) (pScale (withoutL (pAll xs q) (xs.getD k 0) q) (mMul (iVal (mProd (but xs k) (xs.getD k 0) q) q) (ys.getD k 0) q) q) q
theorem pOut_len {q : Int} (hq : okm q = true) (xs ys : List Int) : ∀ k, (pOut xs ys q k).length = xs.length
  | 0 => by simp [pOut]
  | k + 1 => by rw [pOut, sum_len hq, scale_len hq, part_len hq, pOut_len hq xs ys k]; omega
theorem pOut_red {q : Int} (hq : okm q = true) (xs ys : List Int) : ∀ k, (pOut xs ys q k).map (· % q) = pOut xs ys q k
  | 0 => by simp [pOut]
  | k + 1 => by rw [pOut, sum_red hq]
theorem pOut_ev {q : Int} (hq : okm q = true) {xs : List Int} (ys : List Int) (ha : Apart xs q) : ∀ k, k ≤ xs.length → ∀ j x, xs[j]? = some x → ev (pOut xs ys q k) x % q = (if j < k then ys.getD j 0 else 0) % q
  | 0, _, j, x, _ => by
    have e0 : ∀ m, ev (List.replicate m 0) x = 0 := by
      intro m
      induction m with
      | zero => rfl
      | succ m ih => rw [List.replicate_succ, ev_cons, ih]; simp
    rw [pOut, e0, if_neg (by omega)]
  | k + 1, hk, j, x, hx => by
    obtain ⟨z, hz⟩ : ∃ z, xs[k]? = some z := ⟨_, List.getElem?_eq_getElem (by omega)⟩
    have hgz : xs.getD k 0 = z := by rw [List.getD_eq_getElem?_getD, hz]; rfl
    have ih := pOut_ev hq ys ha k (by omega) j x hx
    obtain ⟨h1, h2⟩ := part_ev hq hz ha
    rw [pOut, hgz, sum_ev hq, emod_add_congr ih (scale_ev hq _ _ _)]
    by_cases hjk : j = k
    · subst hjk
      rw [hx] at hz
      obtain rfl := Option.some.inj hz
      rw [if_neg (by omega), if_pos (by omega), Int.zero_add]
      have hu := apart_iff.1 ha j x hx
      have hu2 : Un (mProd (but xs j) x q) q := hu.congr (by rw [mProd_emod hq, Int.emod_emod])
      have h3 := iVal_mul hq hu2
      rw [mProd_emod hq, mr_mul] at h3
      rw [mProd_emod hq] at *
      rw [emod_mul_congr (mMul_mod hq _ _) h1]
      have e : iVal (pd (but xs j) x % q) q * ys.getD j 0 * pd (but xs j) x = iVal (pd (but xs j) x % q) q * pd (but xs j) x * ys.getD j 0 := by grind
      rw [e, emod_mul_congr h3 rfl, Int.one_mul]
    · have h4 := h2 j x hx hjk
      rw [emod_add_congr rfl (emod_mul_congr rfl (h4.trans (Int.zero_emod q).symm)), Int.mul_zero, Int.add_zero]
      by_cases hjl : j < k
      · rw [if_pos hjl, if_pos (by omega)]
      · rw [if_neg hjl, if_neg (by omega)]
end Go.Proofs.YtcojnjhffmhbiaaDoor
end

section
namespace Go.Rgb
open Go.RowKit
section
variable {P : Program} {l m : Nat} {ops : Array Oper} {Q : Exit → Act → World → Prop}
theorem calls_in_round {f : FuncId} {args : Array Value} {w : World} {R : Ending → World → Prop} (h : Calls P f args w R) : CallsIn (Fence.wide.inRound l) m P f args w R := CallsIn.inRound l (callsIn_wide.2 h)
theorem oper_in_round {o : Oper} {a : Act} {w : World} {K : Act → World → Prop} (hd : ∀ c, o.op ≠ .defer c) (h : o.wp P a w K Q) : o.wpIn (Fence.wide.inRound l) m P a w K Q := by
  refine ⟨fun _ _ => trivial, ?_⟩
  unfold Oper.wp at h
  rw [show (Fence.wide.inRound l).round = some l from rfl, Oper.semAt_some l a.eval o hd]
  generalize (execOp a.eval o).run P w = r at h ⊢
  cases r with
  | halt x w' => cases x <;> first | exact h | exact h.elim
  | ok n w' =>
    cases n
    case value v => exact h
    case skip => exact h
    case defer d => exact h
    case row row args =>
      refine ⟨(fun hh => by cases hh), fun c cs _ => ?_⟩
      obtain ⟨v, w'', hR, hs⟩ := h c cs
      exact ⟨v, w'', hR, stepsIn_wide.2 hs⟩
    case enter fn args => exact ⟨(fun hh => by cases hh), calls_in_round h⟩
    all_goals exact h.elim
/-- no deferred call among them. -/
def calm (l : List Oper) : Bool := l.all fun o => match o.op with | .defer _ => false | _ => true
theorem calm_spec {l : List Oper} (h : calm l = true) {o : Oper} (ho : o ∈ l) : ∀ c, o.op ≠ .defer c := by
  intro c hc
  have := List.all_eq_true.1 h o ho
  rw [hc] at this
  cases this
theorem any_in_round (hQ : ¬ LetsOut Q) {md : Region.Mode} (hc : calm ops.toList = true) : ∀ (fuel : Nat) (listed : Array Bool) (a : Act) (w : World), wpAny P md ops Q fuel listed a w → wpAnyIn (Fence.wide.inRound l) m P md ops Q fuel listed a w
  | 0, _, _, _, h => h
  | fuel + 1, listed, a, w, h => by
    refine ⟨h.1, fun i hi => ?_⟩
    have h1 := h.2 i hi
    unfold wpOp at h1
    unfold wpOpIn
    cases ho : ops[i]? with
    | none =>
      rw [ho] at h1
      exact any_in_round hQ hc fuel _ a w h1
    | some o =>
      rw [ho] at h1
      simp only at h1 ⊢
      have hd := calm_spec hc (Array.mem_toList_iff.2 (Array.mem_of_getElem? ho))
      by_cases hw : Region.wanted o (yielded ops a.tmps) = true
      · rw [if_pos hw] at h1 ⊢
        rcases h1 with h1 | ⟨_, h1⟩
        · exact Oper.wpIn_mono (fun a w h => any_in_round hQ hc fuel _ a w h) (oper_in_round hd h1)
        · exact absurd h1 hQ
      · rw [if_neg hw] at h1 ⊢
        exact ⟨fun _ _ => trivial, any_in_round hQ hc fuel _ _ w h1⟩
/-- **THE LAW OF DRAWN REGIONS**, in a round. -/
theorem round_region {id : Nat} {Q' : Exit → Act → World → Prop} (hQ : ¬ LetsOut Q') {L tail : List Oper} {a : Act} {w : World} (Y : Way) (ds : List (Option Tmp)) (size : Nat) (hm : P.follows .mixedOrders = true) (hcalm : calm (L ++ tail) = true) (hs : sane (L ++ tail).toArray ds size L.length = true) (hc : closes (L ++ tail).toArray L.length = true) (hz : a.tmps.size = size)
    (HY : Y.Fair) (hB : Y.B w.drew) (hB1 : Y.B1 w.drew) (h : walk P Y ds a (fun a w => wpList P #[] Q' (tail.map fun o => { o with guard := none }) a w) L []) : (Code.region id (L ++ tail).toArray true).wpIn (Fence.wide.inRound l) m P Q' a w :=
  wpIn_region_any hm (any_in_round hQ hcalm _ _ _ _ (any_region Y ds size hs hc hz HY hB hB1 h))
end
end Go.Rgb
end

section
namespace Go.Rgb
section
variable {P : Program} {lv : Nat} {Y : Way} {ds : List (Option Tmp)} {a0 : Act} {Q : Act → World → Prop} {ops : Array Oper}
/-- from number n on each waits, at last, for all ahead of it. -/
def closesY (ops : Array Oper) (n : Nat) : Bool :=
  (List.range ops.size).all fun j => decide (j < n) || match ops[j]? with
    | none => true
    | some _ => (List.range j).all fun i => (List.range (j + 1)).any fun i' => decide (i < i') && match ops[i']? with
      | none => false
      | some o' => (predsOf o').contains i
theorem closes_specY {n : Nat} (h : closesY ops n = true) : ∀ j o, n ≤ j → ops[j]? = some o → ∀ i, i < j → ∃ i' o', i < i' ∧ i' ≤ j ∧ ops[i']? = some o' ∧ i ∈ predsOf o' := by
  intro j o hj ho
  simp only [closesY, List.all_eq_true, List.mem_range, Bool.or_eq_true, decide_eq_true_eq] at h
  have h1 := (h j (Array.getElem?_eq_some_iff.1 ho).1).resolve_left (by omega)
  simp only [ho, List.all_eq_true, List.mem_range, List.any_eq_true, Bool.and_eq_true, decide_eq_true_eq] at h1
  intro i hi
  obtain ⟨i', h2, h3, h4⟩ := h1 i hi
  cases h5 : ops[i']? with
  | none => rw [h5] at h4; simp at h4
  | some o' =>
    rw [h5] at h4
    exact ⟨i', o', h3, by omega, h5, List.contains_iff_mem.1 h4⟩
/-- the tail: one behind the other. -/
theorem wp_tailY {Q' : Exit → Act → World → Prop} {n : Nat} (S : Sane ops ds a0.tmps.size n) (hL : ∀ j o, n ≤ j → ops[j]? = some o → ∀ i, i < j → ∃ i' o', i < i' ∧ i' ≤ j ∧ ops[i']? = some o' ∧ i ∈ predsOf o') :
    ∀ (tail : List Oper) (m fuel : Nat) (listed : Array Bool) (a : Act) (w : World), n ≤ m → m + tail.length = ops.size → (∀ i, tail[i]? = ops[m + i]?) → tail.length ≤ fuel → (∀ i, i < ops.size → listed.getD i false = decide (i < m)) → listed.size = ops.size →
      wpListIn Fence.wide lv P ops Q' tail a w → wpAnyIn Fence.wide lv P .any ops Q' fuel listed a w
  | [], m, fuel, listed, a, w, hm, hlen, ht, hf, hl, hls, h => by
    refine wpAnyIn_done ?_ h fuel
    rw [List.eq_nil_iff_forall_not_mem]
    intro i hi
    obtain ⟨h0, oi, hoi, _⟩ := mem_ready.1 hi
    have his := (Array.getElem?_eq_some_iff.1 hoi).1
    have h2 := hl i his
    simp only [List.length_nil] at hlen
    have h3 : i < listed.size := by omega
    have h4 : i < m := by omega
    simp [h3] at h0 h2
    rw [h0] at h2; simp [h4] at h2
  | o :: tail, m, fuel, listed, a, w, hm, hlen, ht, hf, hl, hls, h => by
    simp only [List.length_cons] at hlen hf
    have ho : ops[m]? = some o := by simpa using (ht 0).symm
    have hms : m < ops.size := by omega
    obtain ⟨fuel, rfl⟩ : ∃ k, fuel = k + 1 := ⟨fuel - 1, by omega⟩
    have hlm : ∀ i, i < m → listed.getD i false = true := fun i hi => by rw [hl i (by omega)]; simpa using hi
    have hready : m ∈ Region.ready .any ops listed := mem_ready.2 ⟨by
      have := hl m hms
      have h3 : m < listed.size := by omega
      simp [h3] at this ⊢; exact this, o, ho, fun e he hb => hlm _ (S.before ho _ (mem_preds.2 ⟨e, he, hb, rfl⟩))⟩
    refine ⟨fun h0 => absurd hready (by rw [h0]; simp), fun j hj => ?_⟩
    obtain ⟨hun, oj, hoj, hall⟩ := mem_ready.1 hj
    have hjs := (Array.getElem?_eq_some_iff.1 hoj).1
    have hjm : j = m := by
      have h2 := hl j hjs
      have h3 : j < listed.size := by omega
      have hge : m ≤ j := by
        rcases Nat.lt_or_ge j m with h4 | h4
        · have h5 := hlm j h4
          simp [h3] at hun h5; rw [hun] at h5; cases h5
        · exact h4
      rcases Nat.lt_or_ge m j with h4 | h4
      · -- m < j ready: then all ahead of it are listed: m too
        exfalso
        -- the successor of j - 1 ..: it is j itself, as i' in (j-1, j]
        have key : ∀ i, m ≤ i → i < j → False ∨ listed.getD i false = true := by
          intro i hi hij
          obtain ⟨i', o', h5, h6, h7, h8⟩ := hL j oj (by omega) hoj (j - 1) (by omega)
          obtain rfl : i' = j := by omega
          rw [hoj] at h7
          obtain rfl := Option.some.inj h7
          obtain ⟨e, he, hb, heq⟩ := mem_preds.1 h8
          have h9 := hall e he hb
          rw [heq, hl _ (by omega)] at h9
          simp at h9; omega
        rcases key m (Nat.le_refl _) h4 with h5 | h5
        · exact h5
        · rw [hl m hms] at h5; simp at h5
      · omega
    subst hjm
    rw [ho] at hoj
    obtain rfl := Option.some.inj hoj
    have go : ∀ a' w', wpListIn Fence.wide lv P ops Q' tail a' w' → wpAnyIn Fence.wide lv P .any ops Q' fuel (listed.setIfInBounds j true) a' w' := by
      intro a' w' h'
      refine wp_tailY S hL tail (j + 1) fuel _ a' w' (by omega) (by omega) (fun i => by have := ht (i + 1); simpa [Nat.add_assoc, Nat.add_comm 1 i] using this) (by omega) (fun i hi => ?_) (by simp [hls]) h'
      by_cases hij : j = i
      · subst hij
        rw [getD_set_same (by omega)]; simp
      · rw [getD_set_ne false hij, hl i hi]
        by_cases h1 : i < j
        · simp [h1]; omega
        · simp [h1]; omega
    unfold wpOpIn
    simp only [ho]
    unfold wpListIn at h
    by_cases hw : Region.wanted o (yielded ops a.tmps) = true
    · rw [if_pos hw] at h ⊢
      exact Oper.wpIn_mono go h
    · rw [if_neg hw] at h ⊢
      exact ⟨h.1, go _ _ h.2⟩
theorem wp_anyY {F : Nat → Know} {n : Nat} {Q' : Exit → Act → World → Prop} (S : Sane ops ds a0.tmps.size n) (HY : Y.Fair) (hn : n ≤ ops.size)
    (hG : ∀ j o, j < n → ops[j]? = some o → Good P Y ds a0 F j o (F j))
    (hL : ∀ j o, n ≤ j → ops[j]? = some o → ∀ i, i < j → ∃ i' o', i < i' ∧ i' ≤ j ∧ ops[i']? = some o' ∧ i ∈ predsOf o')
    (hQ : ∀ w, Y.B w → from_ ds F (decide (n ≤ Y.s)) w (List.range n) a0 fun a => Q a w) 
    (tail : List Oper) (htl : n + tail.length = ops.size) (ht : ∀ i, tail[i]? = ops[n + i]?) (hQ' : ∀ a w, Q a w → wpListIn Fence.wide lv P ops Q' tail a w) :
    ∀ (fuel : Nat) (listed : Array Bool) (a : Act) (w : World), listed.size = ops.size → (List.range ops.size).countP (fun i => !listed.getD i true) ≤ fuel → Inv n ops ds Y a0 F listed a w → wpAnyIn Fence.wide lv P .any ops Q' fuel listed a w := by
  have full : ∀ (listed : Array Bool) (a : Act) (w : World), Inv n ops ds Y a0 F listed a w → (∀ i, i < n → listed.getD i false = true) → Q a w := by
    intro listed a w I all
    obtain ⟨f, hf⟩ := I.some_
    have hpre : (!listed.getD Y.s false) = decide (n ≤ Y.s) := by
      rcases Nat.lt_or_ge Y.s n with h | h
      · rw [all _ h]; simp; omega
      · rw [I.unlisted _ h]; simp; omega
    have h := from_at (f := f) (hQ w I.base) fun i hi => by
      have := (hf i (List.mem_range.1 hi) (all _ (List.mem_range.1 hi))).1
      rwa [hpre] at this
    have hea : putAll ds f (List.range n) a0 = a := by
      have ht : (putAll ds f (List.range n) a0).tmps = a.tmps := by
        apply Array.ext_getElem?
        intro t
        by_cases hex : ∃ i, i < n ∧ ds.getD i none = some t
        · obtain ⟨i, hi, hd⟩ := hex
          have ho : ops[i]? = some (ops[i]'(by omega)) := Array.getElem?_eq_getElem (by omega)
          have hod := S.dst ho
          rw [((hf i hi (all _ hi)).2 t hd)]
          refine putAll_at _ _ (S.small ho t (hod ▸ hd)) (List.mem_range.2 hi) hd fun j hj hdj => S.one ho hi j t (by have := List.mem_range.1 hj; omega) hdj (hod ▸ hd)
        · rw [putAll_ne _ _ fun i hi hd => hex ⟨i, List.mem_range.1 hi, hd⟩, I.other t fun i hi hd => absurd ⟨i, hi, hd⟩ hex]
      have hd := (putAll_defers (ds := ds) (f := f) (List.range n) a0).trans I.defers.symm
      generalize putAll ds f (List.range n) a0 = b at *
      cases a; cases b
      simp only at ht hd
      rw [ht, hd]
    rw [← hea]
    exact h
  -- all of the first n are listed: the tail
  have toTail : ∀ (fuel : Nat) (listed : Array Bool) (a : Act) (w : World), listed.size = ops.size → (List.range ops.size).countP (fun i => !listed.getD i true) ≤ fuel → Inv n ops ds Y a0 F listed a w → (∀ i, i < n → listed.getD i false = true) → wpAnyIn Fence.wide lv P .any ops Q' fuel listed a w := by
    intro fuel listed a w hls hc I all
    have hl : ∀ i, i < ops.size → listed.getD i false = decide (i < n) := fun i hi => by
      rcases Nat.lt_or_ge i n with h | h
      · rw [all i h]; simp [h]
      · rw [I.unlisted i h]; simp; omega
    refine wp_tailY S hL tail n fuel listed a w (Nat.le_refl _) htl ht ?_ hl hls (hQ' a w (full listed a w I all))
    -- as many are left as the tail is long
    have hcount : ∀ k, k ≤ ops.size → (List.range k).countP (fun i => !listed.getD i true) = k - n := by
      intro k
      induction k with
      | zero => intro _; simp
      | succ k ih =>
        intro hk
        rw [List.range_succ, List.countP_append, ih (by omega)]
        have h1 := hl k (by omega)
        have h2 : k < listed.size := by omega
        simp [h2] at h1
        rcases Nat.lt_or_ge k n with h | h
        · simp [h2, h1, h]; omega
        · have : ¬ k < n := by omega
          simp [h2, h1, this]; omega
    have := hcount ops.size (Nat.le_refl _)
    omega
  have stuck : ∀ (listed : Array Bool) (a : Act) (w : World), listed.size = ops.size → Inv n ops ds Y a0 F listed a w → Region.ready .any ops listed = [] → ∀ m j, j < m → j < ops.size → listed.getD j false = true := by
    intro listed a w hls I hr m
    induction m with
    | zero => intro j hj; omega
    | succ m ih =>
      intro j hj hjs
      have ho : ops[j]? = some ops[j] := Array.getElem?_eq_getElem hjs
      cases hl : listed.getD j true with
      | true =>
        have : j < listed.size := by omega
        simp [this] at hl ⊢; exact hl
      | false =>
        have : j ∈ Region.ready .any ops listed := mem_ready.2 ⟨hl, _, ho, fun e he hb => by
          have hlt := S.before ho e.on (mem_preds.2 ⟨e, he, hb, rfl⟩)
          exact ih e.on (by omega) (by omega)⟩
        rw [hr] at this; cases this
  intro fuel
  induction fuel with
  | zero =>
    intro listed a w hls hc I
    have hr : Region.ready .any ops listed = [] := by
      rw [List.eq_nil_iff_forall_not_mem]
      intro j hj
      obtain ⟨h0, o, ho, _⟩ := mem_ready.1 hj
      have := List.countP_eq_zero.1 (Nat.le_zero.1 hc) j (List.mem_range.2 (Array.getElem?_eq_some_iff.1 ho).1)
      rw [h0] at this; simp at this
    have all := stuck listed a w hls I hr
    exact toTail 0 listed a w hls hc I fun i hi => all _ i (Nat.lt_succ_self i) (by omega)
  | succ fuel ih =>
    intro listed a w hls hc I
    by_cases hfull : ∀ i, i < n → listed.getD i false = true
    case pos => exact toTail (fuel + 1) listed a w hls hc I hfull
    case neg =>
    refine ⟨fun hr => absurd (fun i hi => stuck listed a w hls I hr _ i (Nat.lt_succ_self i) (by omega)) hfull, fun j hj => ?_⟩
    obtain ⟨hun, o, ho, hall⟩ := mem_ready.1 hj
    have hjs : j < ops.size := (Array.getElem?_eq_some_iff.1 ho).1
    have hpl : ∀ i ∈ predsOf o, listed.getD i false = true := fun i hi => by
      obtain ⟨e, he, hb, rfl⟩ := mem_preds.1 hi
      exact hall e he hb
    have hjn : j < n := by
      rcases Nat.lt_or_ge j n with h | h
      · exact h
      · exfalso
        -- all ahead of it are listed
        have all : ∀ d i, i < j → j - i ≤ d → listed.getD i false = true := by
          intro d
          induction d with
          | zero => intro i hi hd; omega
          | succ d ihd =>
            intro i hi hd
            obtain ⟨i', o', h1, h2, h3, h4⟩ := hL j o h ho i hi
            rcases Nat.lt_or_ge i' j with h5 | h5
            · exact I.down i' o' h3 (ihd i' h5 (by omega)) i h4
            · obtain rfl : i' = j := by omega
              rw [ho] at h3
              obtain rfl := Option.some.inj h3
              exact hpl i h4
        exact hfull fun i hi => all _ i (by omega) (Nat.le_refl _)
    have hcount : (List.range ops.size).countP (fun i => !(listed.setIfInBounds j true).getD i true) ≤ fuel := by
      have := count_lt (List.range ops.size) (fun i => !listed.getD i true) (fun i => !(listed.setIfInBounds j true).getD i true) j (List.mem_range.2 hjs) (by rw [hun]; rfl) (by
        have : j < listed.size := by omega
        simp [this]) fun k hk => by
          by_cases hkj : j = k
          · subst hkj
            have : j < listed.size := by omega
            simp [this] at hk
          · rw [getD_set_ne true hkj] at hk; exact hk
      omega
    have hod := S.dst ho
    obtain ⟨f, hf⟩ := I.some_
    have hps : ∀ i ∈ predsOf o, i < n := fun i hi => by have := S.before ho i hi; omega
    have hjl : j < listed.size := by omega
    have hjun : listed.getD j false = false := by simp [hjl] at hun ⊢; exact hun
    have hGj := hG j o hjn ho
    -- whatever it leaves: the next state is one of ours
    have next : ∀ w' a' v, ((if j = Y.s then Y.M w w' else Y.K w w') ∨ w' = w) → (F j).holds true w' v → a' = a.put o.dst v → Inv n ops ds Y a0 F (listed.setIfInBounds j true) a' w' := by
      intro w' a' v hw' hv ha
      subst ha
      refine ⟨?_, fun hs => ?_, (put_defers' ..).trans I.defers, (put_size ..).trans I.size, fun k hk => ?_, fun k ok hok hk i hi => ?_, fun t ht => ?_, fun i => if i = j then v else f i, fun i hi hl => ?_⟩
      · rcases hw' with h | rfl
        · split at h
          · exact HY.bm _ _ I.base h
          · exact HY.bk _ _ I.base h
        · exact I.base
      · have hjs' : j ≠ Y.s := by
          rintro rfl
          rw [getD_set_same hjl] at hs; cases hs
        rw [getD_set_ne false hjs'] at hs
        rcases hw' with h | rfl
        · rw [if_neg hjs'] at h
          exact HY.b1 _ _ (I.base1 hs) h
        · exact I.base1 hs
      · rw [getD_set_ne false (by omega)]; exact I.unlisted k hk
      · by_cases hkj : j = k
        · subst hkj
          rw [ho] at hok
          obtain rfl := Option.some.inj hok
          exact getD_set_true (hpl i hi)
        · rw [getD_set_ne false hkj] at hk
          exact getD_set_true (I.down k ok hok hk i hi)
      · rw [put_at_ne, I.other]
        · intro i hi hd
          have h1 := ht i hi hd
          by_cases hij : j = i
          · subst hij
            rw [getD_set_same hjl] at h1; cases h1
          · rw [getD_set_ne false hij] at h1; exact h1
        · intro hd
          have h1 := ht j hjn (hod.trans hd)
          rw [getD_set_same hjl] at h1; cases h1
      · by_cases hij : i = j
        · subst hij
          simp only [if_true]
          refine ⟨?_, fun d hd => ?_⟩
          · cases hk : F i with
            | is u => rw [hk] at hv; exact hv
            | of r => rw [hk] at hv; exact hv
            | till r => rw [hk] at hv; exact fun _ => hv rfl
          · rw [hod] at hd
            rw [hd]
            exact put_at_same _ _ (by rw [I.size]; exact S.small ho d hd)
        · simp only [if_neg hij]
          rw [getD_set_ne false (Ne.symm hij)] at hl
          have h1 := hf i hi hl
          refine ⟨?_, fun d hd => ?_⟩
          · have hst := (hG i _ hi (Array.getElem?_eq_getElem (by omega))).1
            have h2 := h1.1
            cases hk : F i with
            | is u => rw [hk] at h2; exact h2
            | of r =>
              rw [hk] at h2 hst
              rcases hw' with h | rfl
              · split at h
                · rename_i hjs
                  refine hst.2 (by omega) ?_ _ _ _ h h2
                  cases hdep : (predsOf (ops[i]'(by omega))).contains Y.s with
                  | false => rfl
                  | true =>
                    have hdn := I.down i _ (Array.getElem?_eq_getElem (by omega)) hl Y.s (List.contains_iff_mem.1 hdep)
                    rw [← hjs, hjun] at hdn
                    cases hdn
                · exact hst.1 _ _ _ h h2
              · exact h2
            | till r =>
              rw [hk] at h2 hst
              intro hpre
              have hjs' : j ≠ Y.s := by
                rintro rfl
                rw [getD_set_same hjl] at hpre; cases hpre
              rw [getD_set_ne false hjs'] at hpre
              rcases hw' with h | rfl
              · rw [if_neg hjs'] at h
                exact hst.2 _ _ _ h (h2 hpre)
              · exact h2 hpre
          · rw [put_at_ne, h1.2 d hd]
            intro hd'
            exact hij (S.one ho hjn i d (by omega) hd hd')
    have goOn : ∀ w' a' v, ((if j = Y.s then Y.M w w' else Y.K w w') ∨ w' = w) → (F j).holds true w' v → a' = a.put o.dst v → wpAnyIn Fence.wide lv P .any ops Q' fuel (listed.setIfInBounds j true) a' w' := fun w' a' v h1 h2 h3 =>
      ih _ _ _ (by simp [hls]) hcount (next w' a' v h1 h2 h3)
    -- what the guard says
    have hwant : ∀ b, says F o = some b → Region.wanted o (yielded ops a.tmps) = b := by
      intro b hb
      unfold says at hb
      unfold Region.wanted
      cases hgu : o.guard with
      | none => simp only [hgu] at hb; simpa using hb
      | some gw =>
        obtain ⟨g, want⟩ := gw
        obtain ⟨hgp, hgd⟩ := S.guard ho g want hgu
        simp only [hgu] at hb ⊢
        obtain ⟨d, hd⟩ := Option.isSome_iff_exists.1 hgd
        have hg1 := hf g (hps g hgp) (hpl g hgp)
        have hgs : g < ops.size := by have := hps g hgp; omega
        have hog : ops[g]? = some (ops[g]'hgs) := Array.getElem?_eq_getElem hgs
        have hgd' := S.dst hog
        cases hkn : F g with
        | of r => rw [hkn] at hb; simp at hb
        | till r => rw [hkn] at hb; simp at hb
        | is v =>
          rw [hkn] at hb hg1
          simp only [Know.holds] at hg1
          have hy : yielded ops a.tmps g = boolOf v := by
            unfold yielded
            rw [hog]
            simp only [Option.bind_some]
            rw [← hgd', hd]
            simp only [Option.bind_some]
            rw [hg1.2 d hd, hg1.1]
            cases v <;> rfl
          rw [hy]
          simpa using hb
    unfold wpOpIn
    simp only [ho]
    rcases hGj.2 with ⟨hs, l, hl, hop⟩ | ⟨hs, hk⟩
    · obtain ⟨hl1, hl2⟩ := fits_spec hl
      rw [if_pos (hwant _ hs)]
      have hb1 : j = Y.s → Y.B1 w := fun h => I.base1 (h ▸ hjun)
      -- the frame that it is shown in
      have hc := from_at (f := f) (hop w I.base hb1) fun i hi => by
        have h1 := (hf i (hps i (hl1 i hi)) (hpl i (hl1 i hi))).1
        cases hk : F i with
        | is u => rw [hk] at h1; exact h1
        | of r => rw [hk] at h1; exact h1
        | till r =>
          rw [hk] at h1
          intro hpre
          have : j = Y.s := by simpa using hpre
          exact h1 (by rw [← this, hjun]; rfl)
      obtain ⟨c, hcdef⟩ : ∃ c, putAll ds f l a0 = c := ⟨_, rfl⟩
      have hcsize : c.tmps.size = a0.tmps.size := by rw [← hcdef]; exact putAll_size _ _
      have agree : ∀ t, Operand.tmp t ∈ o.op.operands → a.tmps[t]? = c.tmps[t]? := by
        intro t ht
        have htl : t ∈ o.looksAt ops := List.mem_append_left _ (List.mem_filterMap.2 ⟨.tmp t, by simpa using ht, rfl⟩)
        rw [← hcdef]
        by_cases hex : ∃ i, i < n ∧ ds.getD i none = some t
        · obtain ⟨i, hi, hd⟩ := hex
          have hoi : ops[i]? = some (ops[i]'(by omega)) := Array.getElem?_eq_getElem (by omega)
          have hip := S.looks ho hjn i t (by omega) hd htl
          rw [(hf i hi (hpl i hip)).2 t hd]
          exact (putAll_at _ _ (S.small hoi t (S.dst hoi ▸ hd)) (hl2 i hip t hd ht) hd fun k hk hdk => S.one hoi hi k t (by have := hps k (hl1 k hk); omega) hdk (S.dst hoi ▸ hd)).symm
        · rw [putAll_ne _ _ fun i hi hd => hex ⟨i, hps i (hl1 i hi), hd⟩, I.other t fun i hi hd => absurd ⟨i, hi, hd⟩ hex]
      have heval : ∀ x ∈ o.op.operands, a.eval x = c.eval x := by
        intro x hx
        cases x with
        | tmp t =>
          have := agree t hx
          simp only [Act.eval, Array.getD_eq_getD_getElem?]
          rw [this]
        | _ => rfl
      have hexec : execOp a.eval o = execOp c.eval o := execOp_congr o (fun cs b => S.nosel j o cs b ho) heval
      rw [hcdef] at hc
      have hcl := hc (fun e a' w' => e = .normal ∧ a'.defers = c.defers ∧ (if j = Y.s then Y.M w w' else Y.K w w') ∧ (F j).holds true w' (last a' o.dst)) fun a' w' h1 h2 h3 => ⟨rfl, h1, h2, h3⟩
      simp only [wpList, Region.wanted, if_true] at hcl
      rcases hcl with hcl | ⟨_, hout⟩
      · have hlast : ∀ v, last (c.put o.dst v) o.dst = v ∨ (o.dst = none ∧ last (c.put o.dst v) o.dst = undef) := by
          intro v
          cases hd : o.dst with
          | none => exact .inr ⟨rfl, rfl⟩
          | some d =>
            refine .inl ?_
            change ((c.put (some d) v).tmps[d]?).getD undef = v
            rw [put_at_same _ _ (by rw [hcsize]; exact S.small ho d hd)]
            rfl
        have fin : ∀ v w', (if j = Y.s then Y.M w w' else Y.K w w') → (F j).holds true w' (last (c.put o.dst v) o.dst) → wpAnyIn Fence.wide lv P .any ops Q' fuel (listed.setIfInBounds j true) (a.put o.dst v) w' := by
          intro v w' h1 h2
          rcases hlast v with h | ⟨hn, h⟩
          · rw [h] at h2
            exact goOn w' _ v (.inl h1) h2 rfl
          · rw [h] at h2
            refine goOn w' _ undef (.inl h1) h2 ?_
            rw [hn]; rfl
        unfold Oper.wp at hcl
        unfold Oper.wpIn
        refine ⟨fun _ _ => trivial, ?_⟩
        rw [show Fence.wide.round = none from rfl, Oper.semAt_none, hexec]
        have hx2 : execOp c.eval { o with guard := none } = execOp c.eval o := rfl
        rw [hx2] at hcl
        generalize (execOp c.eval o).run P w = r at hcl ⊢
        cases r with
        | halt x w' => cases x <;> simp [Oper.upon] at hcl
        | ok n w' =>
          cases n
          case value v => exact fin v w' hcl.2.2.1 hcl.2.2.2
          case skip => exact fin undef w' hcl.2.2.1 hcl.2.2.2
          case defer d =>
            have h1 := hcl.2.1
            rw [put_defers'] at h1
            have := congrArg List.length h1
            simp at this
          case row row args =>
            refine ⟨(fun hh => by cases hh), fun c cs _ => ?_⟩
            obtain ⟨v, w'', hR, hs⟩ := hcl c cs
            exact ⟨v, w'', fin v w'' hR.2.2.1 hR.2.2.2, stepsIn_wide.2 hs⟩
          case enter fn args =>
            refine ⟨(fun hh => by cases hh), callsIn_wide.2 (Calls.mono hcl fun e w'' h => ?_)⟩
            cases e with
            | returned v => exact fin v w'' h.2.2.1 h.2.2.2
            | panicked ch => simp at h
            | outgrown => obtain ⟨_, _, h, _⟩ := h; cases h
          all_goals exact hcl.elim
      · obtain ⟨_, _, h, _⟩ := hout
        cases h
    · rw [if_neg (by rw [hwant _ hs]; simp)]
      exact ⟨fun _ _ => trivial, goOn w _ undef (.inr rfl) (by rw [hk]; rfl) rfl⟩
/-- the first ones in whatever order, the tail behind them. -/
theorem any_regionY {Q' : Exit → Act → World → Prop} {l tail : List Oper} {a : Act} {w : World} (Y : Way) (ds : List (Option Tmp)) (size : Nat) (hs : sane (l ++ tail).toArray ds size l.length = true) (hc : closesY (l ++ tail).toArray l.length = true) (hz : a.tmps.size = size)
    (HY : Y.Fair) (hB : Y.B w.drew) (hB1 : Y.B1 w.drew) (h : walk P Y ds a (fun a w => wpListIn Fence.wide lv P (l ++ tail).toArray Q' tail a w) l []) : wpAnyIn Fence.wide lv P .any (l ++ tail).toArray Q' (l ++ tail).toArray.size (Array.replicate (l ++ tail).toArray.size false) a { w with drawn := w.drawn + 1 } := by
  subst hz
  have S := sane_spec hs
  have hpre : ∀ (j : Nat) (o : Oper), l[j]? = some o → (l ++ tail).toArray[j]? = some o := fun j o hj => by
    have := (List.getElem?_eq_some_iff.1 hj).1
    simpa [List.getElem?_append_left this] using hj
  obtain ⟨F, _, h2, h3⟩ := extract l [] (fun j o hj => ⟨fun i hi => by
    have := S.before (hpre j o hj) i hi
    simpa using this, fun g b hg => (S.guard (hpre j o hj) g b hg).1⟩) h
  have hsz : (l ++ tail).toArray.size = l.length + tail.length := by simp
  refine (wp_anyY (Q := fun a w => wpListIn Fence.wide lv P (l ++ tail).toArray Q' tail a w) (F := F) (a0 := a) (n := l.length) S HY (by omega) (fun j o hj ho => ?_) (closes_specY hc) (fun w' hw' => ?_) tail hsz.symm (fun i => ?_) (fun _ _ h => h) _ _ _ _ (by simp) ?_ ⟨hB, fun _ => hB1, rfl, rfl, fun j _ => ?_, fun j o _ hl => ?_, fun _ _ => rfl, fun _ => undef, fun i hi hl => ?_⟩)
  · have h4 : l[j]? = some l[j] := List.getElem?_eq_getElem hj
    have h5 := hpre j _ h4
    rw [h5] at ho
    obtain rfl := Option.some.inj ho
    have := h2 j _ h4
    simpa using this
  · have := h3 w' hw'
    simpa using this
  · rw [List.getElem?_toArray, List.getElem?_append_right (by omega), Nat.add_sub_cancel_left]
  · have := List.countP_le_length (p := fun i => !(Array.replicate (l ++ tail).toArray.size false).getD i true) (l := List.range (l ++ tail).toArray.size)
    simpa using this
  · by_cases hj : j < (l ++ tail).toArray.size
    · simp at hj; simp [hj]
    · simp at hj; simp [show ¬ j < l.length + tail.length by omega]
  · by_cases hj : j < (l ++ tail).toArray.size
    · simp at hj; simp [hj] at hl
    · simp at hj; simp [show ¬ j < l.length + tail.length by omega] at hl
  · have : i < l.length + tail.length := by omega
    simp [this] at hl
/-- **THE LAW**: at a region that draws its order: the first ones in whatever order, the tail behind them. -/
theorem wp_regionY {id : Nat} {Q' : Exit → Act → World → Prop} {l tail : List Oper} {ops : Array Oper} {a : Act} {w : World} (Y : Way) (ds : List (Option Tmp)) (size : Nat) (ho : ops = (l ++ tail).toArray) (hm : P.follows .mixedOrders = true) (hs : sane ops ds size l.length = true) (hc : closesY ops l.length = true) (hz : a.tmps.size = size)
    (HY : Y.Fair) (hB : Y.B w.drew) (hB1 : Y.B1 w.drew) (h : ∀ Q : Act → World → Prop, (∀ a w, wpListIn Fence.wide lv P ops Q' tail a w → Q a w) → walk P Y ds a Q l []) : (Code.region id ops true).wpIn Fence.wide lv P Q' a w := by
  subst ho
  exact wpIn_region_any hm (any_regionY Y ds size hs hc hz HY hB hB1 (h _ fun _ _ h => h))
end
end Go.Rgb
end
