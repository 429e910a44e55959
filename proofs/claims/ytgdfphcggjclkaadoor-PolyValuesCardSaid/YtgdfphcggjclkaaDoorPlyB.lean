/-
  Parts of: XLag, XLag2 (by pick.py).
-/
import Derived.Test.YtgdfphcggjclkaaDoorPlyA
namespace Go.Proofs.YtgdfphcggjclkaaDoor
/-! From XLag. -/

/-! ### Units -/

/-- a has an inverse modulo q. -/
def Un (a q : Int) : Prop := ∃ x, (x * a) % q = 1 % q
theorem Un.congr {a b q : Int} (h : Un a q) (he : a % q = b % q) : Un b q := by
  obtain ⟨x, hx⟩ := h
  exact ⟨x, (emod_mul_congr rfl he).symm.trans hx⟩
theorem Un.one (q : Int) : Un 1 q := ⟨1, by simp⟩
theorem Un.mul {a b q : Int} (h : Un a q) (k : Un b q) : Un (a * b) q := by
  obtain ⟨x, hx⟩ := h
  obtain ⟨y, hy⟩ := k
  refine ⟨x * y, ?_⟩
  have e : x * y * (a * b) = x * a * (y * b) := by grind
  rw [e, emod_mul_congr hx hy]
  simp
theorem Un.left {a b q : Int} (h : Un (a * b) q) : Un a q := by
  obtain ⟨x, hx⟩ := h
  exact ⟨x * b, by rw [← hx]; congr 1; grind⟩
theorem Un.right {a b q : Int} (h : Un (a * b) q) : Un b q := by
  obtain ⟨x, hx⟩ := h
  exact ⟨x * a, by rw [← hx]; congr 1; grind⟩
theorem Un.neg {a b q : Int} (h : Un (a - b) q) : Un (b - a) q := by
  obtain ⟨x, hx⟩ := h
  exact ⟨-x, by rw [← hx]; congr 1; grind⟩
theorem Un.cancel {a b q : Int} (h : Un a q) (he : (a * b) % q = 0) : b % q = 0 := by
  obtain ⟨x, hx⟩ := h
  have h1 : (x * a * b) % q = b % q := by
    rw [emod_mul_congr (b := 1) hx (rfl : b % q = b % q), Int.one_mul]
  rw [← h1]
  have h2 : x * a * b = x * (a * b) := by grind
  rw [h2, ← mr_mul, he]
  simp
theorem Un.cancel2 {a b c q : Int} (h : Un a q) (he : (a * b) % q = (a * c) % q) : b % q = c % q := by
  have h1 : (a * (b - c)) % q = 0 := by
    have : a * (b - c) = a * b - a * c := by grind
    rw [this, emod_sub_congr he rfl, Int.sub_self, Int.zero_emod]
  have h2 := h.cancel h1
  have h3 : b = (b - c) + c := by omega
  rw [h3, emod_add_congr (b := 0) (by rw [h2]; simp) rfl, Int.zero_add]
theorem inv_of_un {a q : Int} (h0 : 0 < q) (h : Un a q) : ∃ x, InvIs a q x := by
  obtain ⟨x, hx⟩ := h
  refine ⟨x % q, Int.emod_nonneg _ (by omega), Int.emod_lt_of_pos _ h0, (x % q * a) / q - 1 / q, ?_⟩
  have h1 : (x % q * a) % q = 1 % q := by rw [ml_mul]; exact hx
  have h2 := Int.mul_ediv_add_emod (x % q * a) q
  have h3 := Int.mul_ediv_add_emod 1 q
  rw [h1] at h2
  rw [Int.mul_sub]
  omega
theorem un_of_inv {a q x : Int} (h : InvIs a q x) : Un a q := by
  obtain ⟨_, _, k, hk⟩ := h
  exact ⟨x, by rw [hk, Int.add_mul_emod_self_left]⟩
theorem iErr_zero {a q : Int} (h : okm q = true) : iErr a q = 0 ↔ Un a q := by
  constructor
  · intro he
    apply Classical.byContradiction
    intro hn
    have := iErr_none h (fun ⟨x, hx⟩ => hn (un_of_inv hx))
    omega
  · intro hu
    obtain ⟨x, hx⟩ := inv_of_un (okm_pos h) hu
    exact iErr_is h hx
theorem iErr_five {a q : Int} (h : okm q = true) (hn : ¬ Un a q) : iErr a q = 5 := iErr_none h fun ⟨_, hx⟩ => hn (un_of_inv hx)
theorem iVal_mul {a q : Int} (h : okm q = true) (hu : Un a q) : (iVal a q * a) % q = 1 % q := by
  obtain ⟨x, hx⟩ := inv_of_un (okm_pos h) hu
  rw [iVal_is h hx]
  obtain ⟨_, _, k, hk⟩ := hx
  rw [hk, Int.add_mul_emod_self_left]
theorem iVal_u64 (a q : Int) : U64 (iVal a q) := by
  by_cases hx : okm q = true ∧ ∃ x, InvIs a q x
  · obtain ⟨h, x, hx⟩ := hx
    rw [iVal_is h hx]
    have := okm_le h
    exact ⟨hx.1, by have := hx.2.1; omega⟩
  · by_cases h : okm q = true
    · rw [iVal_none fun hh => hx ⟨h, hh⟩]; exact ⟨by omega, by omega⟩
    · rw [iVal_no (by simpa using h)]; exact ⟨by omega, by omega⟩

/-! ### Products of differences -/

/-- all of a row but number i. -/
def but (l : List Int) (i : Nat) : List Int := l.take i ++ l.drop (i + 1)
theorem but_nil (i : Nat) : but [] i = [] := by simp [but]
theorem but_ne {l : List Int} {x : Int} {i : Nat} (h : l.length ≠ i) : but (l ++ [x]) i = but l i ++ [x] := by
  unfold but
  rcases Nat.lt_or_ge l.length i with h1 | h1
  · rw [List.take_of_length_le (by simp; omega), List.drop_eq_nil_of_le (by simp; omega), List.take_of_length_le (by omega), List.drop_eq_nil_of_le (by omega)]
    simp
  · rw [List.take_append_of_le_length (by omega), List.drop_append_of_le_length (by omega), List.append_assoc]
theorem but_eq {l : List Int} {x : Int} {i : Nat} (h : l.length = i) : but (l ++ [x]) i = but l i := by
  unfold but
  rw [List.take_append_of_le_length (by omega), List.drop_eq_nil_of_le (by simp; omega), List.drop_eq_nil_of_le (by omega)]

/-- the product of what lies between y and each of a row. -/
def pd : List Int → Int → Int
  | [], _ => 1
  | x :: l, y => (y - x) * pd l y
theorem pd_append (a b : List Int) (y : Int) : pd (a ++ b) y = pd a y * pd b y := by
  induction a with
  | nil => simp [pd]
  | cons x a ih => simp only [List.cons_append, pd, ih]; grind
theorem pd_snoc (a : List Int) (x y : Int) : pd (a ++ [x]) y = pd a y * (y - x) := by
  rw [pd_append]; simp [pd]
theorem pd_but {l : List Int} {i : Nat} {x : Int} (h : l[i]? = some x) (y : Int) : pd l y = (y - x) * pd (but l i) y := by
  obtain ⟨hi, rfl⟩ := List.getElem?_eq_some_iff.1 h
  have e : l = l.take i ++ l[i] :: l.drop (i + 1) := by
    rw [← List.drop_eq_getElem_cons hi, List.take_append_drop]
  have e2 : pd l y = pd (l.take i) y * ((y - l[i]) * pd (l.drop (i + 1)) y) := by
    conv => lhs; rw [e]
    rw [pd_append, pd]
  rw [e2, but, pd_append]
  grind
theorem pd_mem {l : List Int} {x : Int} (h : x ∈ l) : pd l x = 0 := by
  induction l with
  | nil => cases h
  | cons z l ih =>
    rw [pd]
    rcases List.mem_cons.1 h with rfl | h
    · rw [Int.sub_self, Int.zero_mul]
    · rw [ih h, Int.mul_zero]
theorem pd_congr (l : List Int) {y z q : Int} (h : y % q = z % q) : pd l y % q = pd l z % q := by
  induction l with
  | nil => rfl
  | cons x l ih => exact emod_mul_congr (emod_sub_congr h rfl) ih
theorem pd_un {l : List Int} {y q : Int} : Un (pd l y) q ↔ ∀ x ∈ l, Un (y - x) q := by
  induction l with
  | nil => simp [pd, Un.one]
  | cons x l ih =>
    rw [pd]
    constructor
    · intro h z hz
      rcases List.mem_cons.1 hz with rfl | hz
      · exact h.left
      · exact ih.1 h.right z hz
    · intro h
      exact (h x (List.mem_cons_self ..)).mul (ih.2 fun z hz => h z (List.mem_cons_of_mem _ hz))

/-- the same product, modulo q, as it is reckoned. -/
def mProd (l : List Int) (y q : Int) : Int := l.foldl (fun s x => mMul s (mSub y x q) q) (1 % q)
theorem mProd_nil (y q : Int) : mProd [] y q = 1 % q := rfl
theorem mProd_snoc (l : List Int) (x y q : Int) : mProd (l ++ [x]) y q = mMul (mProd l y q) (mSub y x q) q := by simp [mProd]
theorem mProd_emod {q : Int} (h : okm q = true) (l : List Int) (y : Int) : mProd l y q = pd l y % q := by
  unfold mProd
  have key : ∀ (l : List Int) (s t : Int), s % q = t % q → (∃ u, s = u % q) → l.foldl (fun s x => mMul s (mSub y x q) q) s = (t * pd l y) % q := by
    intro l
    induction l with
    | nil =>
      rintro s t hst ⟨u, rfl⟩
      rw [Int.emod_emod] at hst
      simp [pd, hst]
    | cons x l ih =>
      rintro s t hst _
      rw [List.foldl_cons, ih (mMul s (mSub y x q) q) (t * (y - x)) ?_ ⟨_, by rw [mMul_ok h]⟩]
      · rw [pd]; congr 1; grind
      · rw [mMul_ok h, Int.emod_emod, mSub_ok h, mr_mul]
        exact emod_mul_congr hst rfl
  rw [key l (1 % q) 1 (Int.emod_emod _ _) ⟨1, rfl⟩, Int.one_mul]
theorem mProd_u64 {q : Int} (h : okm q = true) (l : List Int) (y : Int) : U64 (mProd l y q) := by
  rw [mProd_emod h]; exact mod_u64 h

/-- the places are apart, and what lies between any two has an inverse. -/
def Apart (xs : List Int) (q : Int) : Prop := xs.Pairwise fun a b => Un (b - a) q
theorem apart_iff {xs : List Int} {q : Int} : Apart xs q ↔ ∀ i x, xs[i]? = some x → Un (pd (but xs i) x) q := by
  constructor
  · intro h i x hx
    obtain ⟨hi, rfl⟩ := List.getElem?_eq_some_iff.1 hx
    have h1 := List.pairwise_iff_getElem.1 h
    rw [pd_un]
    intro z hz
    rcases List.mem_append.1 hz with hz | hz
    · obtain ⟨k, hk, rfl⟩ := List.mem_iff_getElem.1 hz
      rw [List.length_take] at hk
      rw [List.getElem_take]
      exact h1 k i (by omega) hi (by omega)
    · obtain ⟨k, hk, rfl⟩ := List.mem_iff_getElem.1 hz
      rw [List.length_drop] at hk
      rw [List.getElem_drop]
      exact (h1 i (i + 1 + k) hi (by omega) (by omega)).neg
  · intro h
    refine List.pairwise_iff_getElem.2 fun i j hi hj hij => ?_
    have h1 := pd_un.1 (h j xs[j] (List.getElem?_eq_getElem hj))
    refine h1 _ (List.mem_append_left _ (List.mem_iff_getElem.2 ⟨i, by rw [List.length_take]; omega, ?_⟩))
    rw [List.getElem_take]

/-! ### Weights -/

noncomputable def wOne (xs : List Int) (y q : Int) (i : Nat) : Int := mMul (iVal (mProd (but xs i) (xs.getD i 0) q) q) (mProd (but xs i) y q) q
/-- the reference's. -/
noncomputable def wRef (l : List Int) (x y q : Int) : Int := l.foldl (fun w z => mMul w (mMul (mSub y z q) (iVal (mSub x z q) q) q) q) (mAdd 1 0 q)
theorem wRef_nil (x y q : Int) : wRef [] x y q = mAdd 1 0 q := rfl
theorem wRef_snoc (l : List Int) (z x y q : Int) : wRef (l ++ [z]) x y q = mMul (wRef l x y q) (mMul (mSub y z q) (iVal (mSub x z q) q) q) q := by simp [wRef]
theorem wRef_u64 (l : List Int) (x y q : Int) : U64 (wRef l x y q) := by
  unfold wRef
  have key : ∀ (l : List Int) (s : Int), U64 s → U64 (l.foldl (fun w z => mMul w (mMul (mSub y z q) (iVal (mSub x z q) q) q) q) s) := by
    intro l
    induction l with
    | nil => exact fun s h => h
    | cons z l ih => exact fun s _ => ih _ (mMul_u64 _ _ _)
  exact key l _ (mAdd_u64 _ _ _)
theorem wRef_mul {q : Int} (h : okm q = true) (x y : Int) : ∀ (l : List Int) (s : Int), (∀ z ∈ l, Un (x - z) q) → (l.foldl (fun w z => mMul w (mMul (mSub y z q) (iVal (mSub x z q) q) q) q) s * pd l x) % q = (s * pd l y) % q
  | [], s, _ => by simp [pd]
  | z :: l, s, hu => by
    rw [List.foldl_cons, pd, pd]
    have hz : Un (mSub x z q) q := (hu z (List.mem_cons_self ..)).congr (by rw [mSub_ok h, Int.emod_emod])
    have h1 := iVal_mul h hz
    have ih := wRef_mul h x y l (mMul s (mMul (mSub y z q) (iVal (mSub x z q) q) q) q) fun z hz => hu z (List.mem_cons_of_mem _ hz)
    generalize l.foldl (fun w z => mMul w (mMul (mSub y z q) (iVal (mSub x z q) q) q) q) (mMul s (mMul (mSub y z q) (iVal (mSub x z q) q) q) q) = f at *
    generalize iVal (mSub x z q) q = v at *
    rw [mSub_ok h, mr_mul] at h1
    have hst : mMul s (mMul (mSub y z q) v q) q % q = (s * ((y - z) * v)) % q := by
      rw [mMul_ok h, Int.emod_emod, mMul_ok h, mr_mul, mSub_ok h]
      exact emod_mul_congr rfl (emod_mul_congr (Int.emod_emod _ _) rfl)
    have e1 : f * ((x - z) * pd l x) = (x - z) * (f * pd l x) := by grind
    rw [e1, emod_mul_congr rfl (ih.trans (emod_mul_congr hst rfl))]
    have e2 : (x - z) * (s * ((y - z) * v) * pd l y) = v * (x - z) * (s * ((y - z) * pd l y)) := by grind
    rw [e2, emod_mul_congr h1 rfl, Int.one_mul]
theorem weights_same {q : Int} (hq : okm q = true) {xs : List Int} (ha : Apart xs q) (y : Int) {i : Nat} {x : Int} (hx : xs[i]? = some x) : wOne xs y q i = wRef (but xs i) x y q := by
  have hu := apart_iff.1 ha i x hx
  have hgx : xs.getD i 0 = x := by rw [List.getD_eq_getElem?_getD, hx]; rfl
  have h1 := wRef_mul hq x y (but xs i) (mAdd 1 0 q) (pd_un.1 hu)
  have hu2 : Un (mProd (but xs i) x q) q := hu.congr (by rw [mProd_emod hq, Int.emod_emod])
  have h3 := iVal_mul hq hu2
  unfold wOne
  rw [hgx]
  generalize hv : iVal (mProd (but xs i) x q) q = v at *
  rw [mProd_emod hq, mr_mul] at h3
  have hr : wRef (but xs i) x y q % q = wRef (but xs i) x y q := by
    unfold wRef
    have key : ∀ (l : List Int) (s : Int), s % q = s → (l.foldl (fun w z => mMul w (mMul (mSub y z q) (iVal (mSub x z q) q) q) q) s) % q = l.foldl (fun w z => mMul w (mMul (mSub y z q) (iVal (mSub x z q) q) q) q) s := by
      intro l
      induction l with
      | nil => exact fun s h => h
      | cons z l ih => exact fun s _ => ih _ (by show mMul _ _ q % q = mMul _ _ q; rw [mMul_ok hq, Int.emod_emod])
    exact key _ _ (by rw [mAdd_ok hq, Int.emod_emod])
  rw [← hr, mMul_ok hq, mProd_emod hq, mr_mul]
  refine hu.cancel2 ?_
  have h2 : (pd (but xs i) x * wRef (but xs i) x y q) % q = pd (but xs i) y % q := by
    rw [Int.mul_comm]
    unfold wRef
    rw [h1, mAdd_ok hq, ml_mul, Int.add_zero, Int.one_mul]
  have e : pd (but xs i) x * (v * pd (but xs i) y) = v * pd (but xs i) x * pd (but xs i) y := by grind
  rw [h2, e, emod_mul_congr h3 rfl, Int.one_mul]

/-! From XLag2. -/

/-- divided by X - x, over the whole numbers. -/
def divZ : List Int → Int → List Int
  | [], _ => []
  | c :: l, x => if l.length = 0 then [] else ev l x :: divZ l x
theorem divZ_len (l : List Int) (x : Int) : (divZ l x).length = l.length - 1 := by
  induction l with
  | nil => rfl
  | cons c l ih =>
    unfold divZ
    split
    · rename_i h; simp [h]
    · simp [ih]; omega
theorem divZ_ev (l : List Int) (x X : Int) : ev l X = (X - x) * ev (divZ l x) X + ev l x := by
  induction l with
  | nil => simp [divZ, ev]
  | cons c l ih =>
    unfold divZ
    split
    · rename_i h
      obtain rfl := List.eq_nil_of_length_eq_zero h
      simp [ev]
    · rw [ev_cons, ev_cons, ev_cons, ih]
      generalize ev (divZ l x) X = d
      generalize ev l x = e
      grind
theorem divZ_zero {q : Int} (x : Int) : ∀ (l : List Int), (∀ e ∈ divZ l x, e % q = 0) → ev l x % q = 0 → ∀ c ∈ l, c % q = 0
  | [], _, _, c, hc => by cases hc
  | d :: l, h, he, c, hc => by
    unfold divZ at h
    split at h
    · rename_i hl
      obtain rfl := List.eq_nil_of_length_eq_zero hl
      rw [List.mem_singleton] at hc
      subst hc
      simpa [ev] using he
    · have h1 := h _ (List.mem_cons_self ..)
      have h2 := divZ_zero x l (fun e hm => h e (List.mem_cons_of_mem _ hm)) h1
      rcases List.mem_cons.1 hc with rfl | hc
      · rw [ev_cons, emod_add_congr (b := c) (d := 0) rfl (by rw [← mr_mul, h1]; simp), Int.add_zero] at he
        exact he
      · exact h2 c hc

/-- A POLYNOMIAL THAT IS 0 AT AS MANY PLACES AS IT HAS COEFFICIENTS. -/
theorem roots_zero {q : Int} : ∀ (xs l : List Int), Apart xs q → l.length ≤ xs.length → (∀ x ∈ xs, ev l x % q = 0) → ∀ c ∈ l, c % q = 0
  | [], l, _, hl, _, c, hc => by
    obtain rfl := List.eq_nil_of_length_eq_zero (Nat.le_zero.1 hl)
    cases hc
  | x :: xs, l, ha, hl, hz, c, hc => by
    have ha' := List.pairwise_cons.1 ha
    have hx := hz x (List.mem_cons_self ..)
    refine divZ_zero x l (roots_zero xs (divZ l x) ha'.2 (by rw [divZ_len]; simp at hl; omega) fun y hy => ?_) hx c hc
    have h1 := hz y (List.mem_cons_of_mem _ hy)
    rw [divZ_ev l x y, emod_add_congr (d := 0) rfl (by rw [hx]; simp), Int.add_zero] at h1
    exact (ha'.1 y hy).cancel h1

def subZ : List Int → List Int → List Int
  | a :: l, b :: m => (a - b) :: subZ l m
  | _, _ => []
theorem subZ_len {a b : List Int} (h : a.length = b.length) : (subZ a b).length = a.length := by
  induction a generalizing b with
  | nil => rfl
  | cons x a ih =>
    cases b with
    | nil => simp at h
    | cons y b => simp [subZ, ih (by simpa using h)]
theorem subZ_ev {a b : List Int} (h : a.length = b.length) (x : Int) : ev (subZ a b) x = ev a x - ev b x := by
  induction a generalizing b with
  | nil =>
    cases b with
    | nil => simp [subZ, ev]
    | cons y b => simp at h
  | cons c a ih =>
    cases b with
    | nil => simp at h
    | cons d b => simp only [subZ, ev_cons, ih (by simpa using h)]; grind
theorem subZ_zero {q : Int} {a b : List Int} (h : a.length = b.length) (hz : ∀ c ∈ subZ a b, c % q = 0) : a.map (· % q) = b.map (· % q) := by
  induction a generalizing b with
  | nil =>
    cases b with
    | nil => rfl
    | cons y b => simp at h
  | cons c a ih =>
    cases b with
    | nil => simp at h
    | cons d b =>
      simp only [subZ, List.mem_cons, forall_eq_or_imp] at hz
      simp only [List.map_cons]
      have h1 : c % q = d % q := by
        have : c = (c - d) + d := by omega
        rw [this, emod_add_congr (b := 0) (by rw [hz.1]; simp) rfl, Int.zero_add]
      rw [h1, ih (by simpa using h) hz.2]
/-- two with the same values at as many places as they have coefficients. -/
theorem only_one {q : Int} {xs a b : List Int} (ha : Apart xs q) (hl : a.length = xs.length) (hl' : b.length = xs.length) (hv : ∀ x ∈ xs, ev a x % q = ev b x % q) : a.map (· % q) = b.map (· % q) := by
  refine subZ_zero (by omega) (roots_zero xs _ ha (by rw [subZ_len (by omega)]; omega) fun x hx => ?_)
  rw [subZ_ev (by omega), emod_sub_congr (hv x hx) rfl, Int.sub_self, Int.zero_emod]

/-- times X - x, over the whole numbers. -/
def linR : Int → List Int → Int → List Int
  | p, [], _ => [p]
  | p, c :: l, x => (p - x * c) :: linR c l x
theorem linR_len (p : Int) (l : List Int) (x : Int) : (linR p l x).length = l.length + 1 := by
  induction l generalizing p with
  | nil => rfl
  | cons c l ih => simp [linR, ih]
theorem linR_ev (p : Int) (l : List Int) (x X : Int) : ev (linR p l x) X = p + (X - x) * ev l X := by
  induction l generalizing p with
  | nil => simp [linR, ev]
  | cons c l ih => simp only [linR, ev_cons, ih]; grind
theorem linR_at (p : Int) (l : List Int) (x : Int) (n : Nat) (h : n ≤ l.length) : (linR p l x)[n]? = some ((if n = 0 then p else l.getD (n - 1) 0) - x * l.getD n 0) := by
  induction l generalizing p n with
  | nil =>
    obtain rfl : n = 0 := by simpa using h
    simp [linR]
  | cons c l ih =>
    cases n with
    | zero => simp [linR]
    | succ n =>
      rw [linR, List.getElem?_cons_succ, ih c n (by simpa using h)]
      cases n with
      | zero => simp
      | succ n => simp

theorem tAt_low {a : List Int} {s t q : Int} {n : Nat} : ∀ k, k + 1 ≤ n → tAt a [s, t] q n k = 0
  | 0, _ => rfl
  | k + 1, h => by rw [tAt_same (by simp; omega), tAt_low k (by omega)]
theorem tAt_lin {a : List Int} {s q : Int} (hq : okm q = true) {n : Nat} (h : n ≤ a.length) (h1 : 1 ≤ a.length) : tAt a [s, 1] q n (n + 1) = ((if n = 0 then 0 else a.getD (n - 1) 0) + s * a.getD n 0) % q := by
  have top : ∀ z, tAt a [s, 1] q n n % q = z % q → (∃ u, tAt a [s, 1] q n n = u % q) → tAt a [s, 1] q n (n + 1) = (z + s * a.getD n 0) % q := by
    rintro z hz ⟨u, hu⟩
    rcases Nat.lt_or_ge n a.length with h2 | h2
    · obtain ⟨x, hx⟩ : ∃ x, a[n]? = some x := ⟨_, List.getElem?_eq_getElem h2⟩
      rw [tAt_step (Nat.le_refl n) hx (y := s) (by simp), mAdd_ok hq, mMul_ok hq, mr_add, List.getD_eq_getElem?_getD, hx, Option.getD_some, Int.mul_comm s]
      exact emod_add_congr hz rfl
    · rw [tAt_same (by omega), List.getD_eq_getElem?_getD, List.getElem?_eq_none h2, Option.getD_none, Int.mul_zero, Int.add_zero, ← hz, hu, Int.emod_emod]
  cases n with
  | zero => exact top 0 rfl ⟨0, by simp [tAt]⟩
  | succ k =>
    obtain ⟨x, hx⟩ : ∃ x, a[k]? = some x := ⟨_, List.getElem?_eq_getElem (by omega)⟩
    have e : tAt a [s, 1] q (k + 1) (k + 1) = x % q := by
      rw [tAt_step (Nat.le_succ k) hx (y := 1) (by rw [show k + 1 - k = 1 by omega]; rfl), tAt_low k (Nat.le_refl _), mAdd_ok hq, mMul_ok hq, mr_add, Int.zero_add, Int.mul_one]
    have := top x (by rw [e, Int.emod_emod]) ⟨_, e⟩
    rw [this, if_neg (by omega), Nat.add_sub_cancel, List.getD_eq_getElem?_getD (l := a) (i := k), hx, Option.getD_some]

theorem getD_map_mod (l : List Int) (q : Int) (n : Nat) : (l.map (· % q)).getD n 0 = l.getD n 0 % q := by
  rw [List.getD_eq_getElem?_getD, List.getD_eq_getElem?_getD, List.getElem?_map]
  cases l[n]? <;> simp
theorem getD_congr {a z : List Int} {q : Int} (h : a.map (· % q) = z.map (· % q)) (n : Nat) : a.getD n 0 % q = z.getD n 0 % q := by
  rw [← getD_map_mod, ← getD_map_mod, h]

/-- one factor more. -/
theorem times_lin {a z : List Int} {x q : Int} (hq : okm q = true) (h1 : 1 ≤ a.length) (h : a.map (· % q) = z.map (· % q)) : (pTimes a [mSub 0 x q, 1] q).map (· % q) = (linR 0 z x).map (· % q) ∧ (pTimes a [mSub 0 x q, 1] q).length = a.length + 1 := by
  have hl : a.length = z.length := by simpa using congrArg List.length h
  have hp : pTimes a [mSub 0 x q, 1] q = timesP a [mSub 0 x q, 1] q := by unfold pTimes; rw [if_pos ⟨hq, by omega, by simp⟩]
  have hlen : (timesP a [mSub 0 x q, 1] q).length = a.length + 1 := by simp [timesP]
  rw [hp]
  refine ⟨?_, hlen⟩
  apply List.ext_getElem?
  intro n
  rw [List.getElem?_map, List.getElem?_map]
  rcases Nat.lt_or_ge a.length n with h2 | h2
  · rw [List.getElem?_eq_none (by omega), List.getElem?_eq_none (by rw [linR_len]; omega)]
  · rw [linR_at 0 z x n (by omega)]
    unfold timesP
    rw [List.getElem?_map, List.getElem?_range (by simp; omega), Option.map_some, Option.map_some, Option.map_some, tAt_lin hq h2 h1, Int.emod_emod]
    congr 1
    rw [mSub_ok hq]
    have e2 := getD_congr h n
    have e3 : (0 - x) % q * a.getD n 0 % q = (0 - x) * z.getD n 0 % q := emod_mul_congr (Int.emod_emod _ _) e2
    have e4 : (if n = 0 then 0 else a.getD (n - 1) 0) % q = (if n = 0 then 0 else z.getD (n - 1) 0) % q := by
      split
      · rfl
      · exact getD_congr h _
    have e5 : (if n = 0 then (0 : Int) else z.getD (n - 1) 0) - x * z.getD n 0 = (if n = 0 then 0 else z.getD (n - 1) 0) + (0 - x) * z.getD n 0 := by grind
    rw [e5]
    exact emod_add_congr e4 e3

/-- the polynomial that is 0 at all places. -/
def pAll (xs : List Int) (q : Int) : List Int := xs.foldl (fun a x => pTimes a [mSub 0 x q, 1] q) [1 % q]
theorem pAll_snoc (xs : List Int) (x q : Int) : pAll (xs ++ [x]) q = pTimes (pAll xs q) [mSub 0 x q, 1] q := by simp [pAll]
theorem pAll_is {q : Int} (hq : okm q = true) (xs : List Int) : (pAll xs q).length = xs.length + 1 ∧ ∃ z, (pAll xs q).map (· % q) = z.map (· % q) ∧ ∀ X, ev z X = pd xs X := by
  have key : ∀ (xs a z : List Int), 1 ≤ a.length → a.map (· % q) = z.map (· % q) → (xs.foldl (fun a x => pTimes a [mSub 0 x q, 1] q) a).length = a.length + xs.length ∧ ∃ z', (xs.foldl (fun a x => pTimes a [mSub 0 x q, 1] q) a).map (· % q) = z'.map (· % q) ∧ ∀ X, ev z' X = ev z X * pd xs X := by
    intro xs
    induction xs with
    | nil => intro a z _ h; exact ⟨rfl, z, h, fun X => by simp [pd]⟩
    | cons x xs ih =>
      intro a z h1 h
      obtain ⟨h2, h3⟩ := times_lin (x := x) hq h1 h
      obtain ⟨h4, z', h5, h6⟩ := ih _ _ (by omega) h2
      rw [List.foldl_cons]
      refine ⟨by rw [h4, h3]; simp; omega, z', h5, fun X => ?_⟩
      rw [h6, linR_ev, pd]
      grind
  obtain ⟨h1, z, h2, h3⟩ := key xs [1 % q] [1] (by simp) (by simp)
  refine ⟨by rw [pAll, h1]; simp; omega, z, h2, fun X => ?_⟩
  rw [h3]; simp [ev]
theorem pAll_ev {q : Int} (hq : okm q = true) (xs : List Int) (X : Int) : ev (pAll xs q) X % q = pd xs X % q := by
  obtain ⟨_, z, h1, h2⟩ := pAll_is hq xs
  rw [ev_congr (y := X) rfl h1, h2]

theorem divZ_at (x : Int) : ∀ (l : List Int) (j : Nat), j < l.length - 1 → (divZ l x)[j]? = some (ev (l.drop (j + 1)) x)
  | [], j, h => by simp at h
  | c :: l, j, h => by
    simp only [List.length_cons, Nat.add_sub_cancel] at h
    unfold divZ
    rw [if_neg (by omega)]
    cases j with
    | zero => simp
    | succ j => rw [List.getElem?_cons_succ, divZ_at x l j (by omega), List.drop_succ_cons]
theorem without_is {q : Int} (hq : okm q = true) (l : List Int) (x : Int) : withoutL l x q = (divZ l x).map (· % q) := by
  apply List.ext_getElem?
  intro j
  unfold withoutL
  rw [List.getElem?_map, List.getElem?_map]
  rcases Nat.lt_or_ge j (l.length - 1) with h | h
  · rw [List.getElem?_range h, divZ_at x l j h, Option.map_some, Option.map_some, mEval_ok hq]
  · rw [List.getElem?_eq_none (by simpa using h), List.getElem?_eq_none (by rw [divZ_len]; exact h)]; rfl
theorem map_drop_congr {a z : List Int} {q : Int} (h : a.map (· % q) = z.map (· % q)) (j : Nat) : (a.drop j).map (· % q) = (z.drop j).map (· % q) := by
  rw [List.map_drop, List.map_drop, h]
theorem without_congr {a z : List Int} {q : Int} (h : a.map (· % q) = z.map (· % q)) (x : Int) : withoutL a x q = withoutL z x q := by
  unfold withoutL
  have hl : a.length = z.length := by simpa using congrArg List.length h
  rw [hl]
  apply List.map_congr_left
  intro j _
  exact mEval_congr rfl (map_drop_congr h _)
theorem map_mod_mod (l : List Int) (q : Int) : (l.map (· % q)).map (· % q) = l.map (· % q) := by
  rw [List.map_map]; apply List.map_congr_left; intro x _; simp

theorem part_len {q : Int} (hq : okm q = true) (xs : List Int) (x : Int) : (withoutL (pAll xs q) x q).length = xs.length := by
  simp [withoutL, (pAll_is hq xs).1]
/-- the one that is 0 at all places but number i. -/
theorem part_ev {q : Int} (hq : okm q = true) {xs : List Int} {i : Nat} {x : Int} (hx : xs[i]? = some x) (ha : Apart xs q) : ev (withoutL (pAll xs q) x q) x % q = pd (but xs i) x % q ∧ ∀ j y, xs[j]? = some y → j ≠ i → ev (withoutL (pAll xs q) x q) y % q = 0 := by
  obtain ⟨_, z, h1, h2⟩ := pAll_is hq xs
  have h0 := okm_pos hq
  have hm : x ∈ xs := List.mem_of_getElem? hx
  have key : ∀ X, (X - x) * ev (divZ z x) X = pd xs X := fun X => by
    have := divZ_ev z x X
    rw [h2, h2, pd_mem hm] at this
    omega
  have hw : ∀ X, ev (withoutL (pAll xs q) x q) X % q = ev (divZ z x) X % q := fun X => by
    rw [without_congr h1, without_is hq]
    exact ev_congr rfl (map_mod_mod _ _)
  constructor
  · have h3 := key (x + q)
    rw [pd_but hx (x + q), show x + q - x = q by omega] at h3
    have h4 := Int.eq_of_mul_eq_mul_left (by omega) h3
    have h5 : (x + q) % q = x % q := by simp
    rw [hw, ← ev_congr h5 rfl, h4, pd_congr _ h5]
  · intro j y hy hji
    rw [hw]
    have h3 := key y
    rw [pd_mem (List.mem_of_getElem? hy)] at h3
    have h4 := List.pairwise_iff_getElem.1 ha
    obtain ⟨hi, rfl⟩ := List.getElem?_eq_some_iff.1 hx
    obtain ⟨hj, rfl⟩ := List.getElem?_eq_some_iff.1 hy
    have hu : Un (xs[j] - xs[i]) q := by
      rcases Nat.lt_or_ge i j with h | h
      · exact h4 i j hi hj h
      · exact (h4 j i hj hi (by omega)).neg
    exact hu.cancel (by rw [h3]; simp)

/-! ### Through points -/

theorem mAdd_mod {q : Int} (hq : okm q = true) (a b : Int) : mAdd a b q % q = (a + b) % q := by rw [mAdd_ok hq, Int.emod_emod]
theorem mMul_mod {q : Int} (hq : okm q = true) (a b : Int) : mMul a b q % q = (a * b) % q := by rw [mMul_ok hq, Int.emod_emod]
theorem cAt_ev {q : Int} (l : List Int) (n : Nat) (x : Int) (h : l.length ≤ n) : ev ((List.range n).map fun i => cAt l i q) x % q = ev l x % q := by
  have e : ((List.range n).map fun i => cAt l i q) = (l ++ List.replicate (n - l.length) 0).map (· % q) := by
    apply List.ext_getElem?
    intro i
    rw [List.getElem?_map, List.getElem?_map]
    rcases Nat.lt_or_ge i n with h1 | h1
    · rw [List.getElem?_range h1, Option.map_some]
      rcases Nat.lt_or_ge i l.length with h2 | h2
      · rw [List.getElem?_append_left h2, List.getElem?_eq_getElem h2, Option.map_some, cAt_in (List.getElem?_eq_getElem h2)]
      · rw [List.getElem?_append_right h2, List.getElem?_replicate, if_pos (by omega), Option.map_some, cAt_out h2]; simp
    · rw [List.getElem?_eq_none (by simpa using h1), List.getElem?_eq_none (by simp; omega)]; rfl
  have e0 : ∀ m, ev (List.replicate m 0) x = 0 := by
    intro m
    induction m with
    | zero => rfl
    | succ m ih => rw [List.replicate_succ, ev_cons, ih]; simp
  rw [e, ev_congr rfl (map_mod_mod _ _), ev_append, e0]
  simp
theorem sum_ev {q : Int} (hq : okm q = true) (a b : List Int) (x : Int) : ev (pSum a b q) x % q = (ev a x + ev b x) % q := by
  have hp : pSum a b q = sumL a b q := by unfold pSum; rw [if_pos hq]
  rw [hp, ← emod_add_congr (cAt_ev a (max a.length b.length) x (by omega)) (cAt_ev b (max a.length b.length) x (by omega))]
  unfold sumL
  have key : ∀ (l : List Nat), ev (l.map fun i => mAdd (cAt a i q) (cAt b i q) q) x % q = (ev (l.map fun i => cAt a i q) x + ev (l.map fun i => cAt b i q) x) % q := by
    intro l
    induction l with
    | nil => simp [ev]
    | cons i l ih =>
      simp only [List.map_cons, ev_cons]
      rw [emod_add_congr (mAdd_mod hq _ _) (emod_mul_congr (rfl : x % q = x % q) ih)]
      congr 1
      grind
  exact key _
theorem scale_ev {q : Int} (hq : okm q = true) (a : List Int) (k x : Int) : ev (pScale a k q) x % q = (k * ev a x) % q := by
  have hp : pScale a k q = a.map fun c => mMul c k q := by unfold pScale; rw [if_pos hq]
  rw [hp]
  induction a with
  | nil => simp [ev]
  | cons c a ih =>
    have ih := ih (by unfold pScale; rw [if_pos hq])
    simp only [List.map_cons, ev_cons]
    rw [emod_add_congr (mMul_mod hq _ _) (emod_mul_congr (rfl : x % q = x % q) ih)]
    congr 1
    grind
theorem scale_len {q : Int} (hq : okm q = true) (a : List Int) (k : Int) : (pScale a k q).length = a.length := by
  unfold pScale; rw [if_pos hq]; simp
theorem sum_len {q : Int} (hq : okm q = true) (a b : List Int) : (pSum a b q).length = max a.length b.length := by
  unfold pSum; rw [if_pos hq, sumL_len]
/-- all reduced. -/
theorem sum_red {q : Int} (hq : okm q = true) (a b : List Int) : (pSum a b q).map (· % q) = pSum a b q := by
  unfold pSum sumL
  rw [if_pos hq, List.map_map]
  apply List.map_congr_left
  intro i _
  simp [mAdd_ok hq]

/-- the program's, behind k points. -/
noncomputable def pOut (xs ys : List Int) (q : Int) : Nat → List Int
  | 0 => List.replicate xs.length 0
  | k + 1 => pSum (pOut xs ys q k) (pScale (withoutL (pAll xs q) (xs.getD k 0) q) (mMul (iVal (mProd (but xs k) (xs.getD k 0) q) q) (ys.getD k 0) q) q) q
/-- the reference's. -/
noncomputable def rOut (xs ys : List Int) (q : Int) : Nat → List Int
  | 0 => []
  | k + 1 => pSum (rOut xs ys q k) (pScale (pAll (xs.take k) q) (mMul (mSub (ys.getD k 0) (mEval (rOut xs ys q k) (xs.getD k 0) q) q) (iVal (mEval (pAll (xs.take k) q) (xs.getD k 0) q) q) q) q) q

theorem pOut_len {q : Int} (hq : okm q = true) (xs ys : List Int) : ∀ k, (pOut xs ys q k).length = xs.length
  | 0 => by simp [pOut]
  | k + 1 => by rw [pOut, sum_len hq, scale_len hq, part_len hq, pOut_len hq xs ys k]; omega
theorem rOut_len {q : Int} (hq : okm q = true) (xs ys : List Int) : ∀ k, k ≤ xs.length → (rOut xs ys q k).length = k
  | 0, _ => rfl
  | k + 1, h => by
    rw [rOut, sum_len hq, scale_len hq, (pAll_is hq _).1, rOut_len hq xs ys k (by omega), List.length_take]; omega
theorem pOut_red {q : Int} (hq : okm q = true) (xs ys : List Int) : ∀ k, (pOut xs ys q k).map (· % q) = pOut xs ys q k
  | 0 => by simp [pOut]
  | k + 1 => by rw [pOut, sum_red hq]
theorem rOut_red {q : Int} (hq : okm q = true) (xs ys : List Int) : ∀ k, (rOut xs ys q k).map (· % q) = rOut xs ys q k
  | 0 => rfl
  | k + 1 => by rw [rOut, sum_red hq]

theorem pOut_ev {q : Int} (hq : okm q = true) {xs : List Int} (ys : List Int) (ha : Apart xs q) : ∀ k, k ≤ xs.length → ∀ j x, xs[j]? = some x → ev (pOut xs ys q k) x % q = (if j < k then ys.getD j 0 else 0) % q
  | 0, _, j, x, _ => by
    have e0 : ∀ m, ev (List.replicate m 0) x = 0 := by
      intro m
      induction m with
      | zero => rfl
      | succ m ih => rw [List.replicate_succ, ev_cons, ih]; simp
    rw [pOut, e0, if_neg (by omega)]
  | k + 1, hk, j, x, hx => by
    obtain ⟨z, hz⟩ : ∃ z, xs[k]? = some z := ⟨_, List.getElem?_eq_getElem (by omega)⟩
    have hgz : xs.getD k 0 = z := by rw [List.getD_eq_getElem?_getD, hz]; rfl
    have ih := pOut_ev hq ys ha k (by omega) j x hx
    obtain ⟨h1, h2⟩ := part_ev hq hz ha
    rw [pOut, hgz, sum_ev hq, emod_add_congr ih (scale_ev hq _ _ _)]
    by_cases hjk : j = k
    · subst hjk
      rw [hx] at hz
      obtain rfl := Option.some.inj hz
      rw [if_neg (by omega), if_pos (by omega), Int.zero_add]
      have hu := apart_iff.1 ha j x hx
      have hu2 : Un (mProd (but xs j) x q) q := hu.congr (by rw [mProd_emod hq, Int.emod_emod])
      have h3 := iVal_mul hq hu2
      rw [mProd_emod hq, mr_mul] at h3
      rw [mProd_emod hq] at *
      rw [emod_mul_congr (mMul_mod hq _ _) h1]
      have e : iVal (pd (but xs j) x % q) q * ys.getD j 0 * pd (but xs j) x = iVal (pd (but xs j) x % q) q * pd (but xs j) x * ys.getD j 0 := by grind
      rw [e, emod_mul_congr h3 rfl, Int.one_mul]
    · have h4 := h2 j x hx hjk
      rw [emod_add_congr rfl (emod_mul_congr rfl (h4.trans (Int.zero_emod q).symm)), Int.mul_zero, Int.add_zero]
      by_cases hjl : j < k
      · rw [if_pos hjl, if_pos (by omega)]
      · rw [if_neg hjl, if_neg (by omega)]
theorem rOut_ev {q : Int} (hq : okm q = true) {xs : List Int} (ys : List Int) (ha : Apart xs q) : ∀ k, k ≤ xs.length → ∀ j x, xs[j]? = some x → j < k → ev (rOut xs ys q k) x % q = ys.getD j 0 % q
  | 0, _, j, x, _, h => by omega
  | k + 1, hk, j, x, hx, hj => by
    obtain ⟨z, hz⟩ : ∃ z, xs[k]? = some z := ⟨_, List.getElem?_eq_getElem (by omega)⟩
    have hgz : xs.getD k 0 = z := by rw [List.getD_eq_getElem?_getD, hz]; rfl
    rw [rOut, hgz, sum_ev hq, emod_add_congr rfl (scale_ev hq _ _ _)]
    have h5 := pAll_ev hq (xs.take k) x
    by_cases hjk : j = k
    · subst hjk
      rw [hx] at hz
      obtain rfl := Option.some.inj hz
      have hu : Un (pd (xs.take j) x) q := by
        have := apart_iff.1 ha j x hx
        rw [but, pd_append] at this
        exact this.left
      have hu2 : Un (mEval (pAll (xs.take j) q) x q) q := hu.congr (by rw [mEval_ok hq, Int.emod_emod, h5])
      have h3 := iVal_mul hq hu2
      rw [mEval_ok hq (l := pAll (xs.take j) q), mr_mul] at h3
      rw [mEval_ok hq (l := pAll (xs.take j) q)]
      generalize iVal (ev (pAll (xs.take j) q) x % q) q = v at *
      generalize ev (pAll (xs.take j) q) x = e at *
      rw [mMul_ok hq, mSub_ok hq, mEval_ok hq]
      generalize ev (rOut xs ys q j) x = o at *
      generalize ys.getD j 0 = y at *
      have e1 : ((y - o % q) % q * v % q * e) % q = ((y - o) * (v * e)) % q := by
        simp only [ml_mul]
        rw [emod_mul_congr (emod_mul_congr (mr_sub y o q) rfl) rfl, Int.mul_assoc]
      rw [emod_add_congr rfl e1, emod_add_congr rfl (emod_mul_congr rfl h3)]
      congr 1
      grind
    · have hjl : j < k := by omega
      have h6 : pd (xs.take k) x = 0 := pd_mem (by
        obtain ⟨hjx, rfl⟩ := List.getElem?_eq_some_iff.1 hx
        exact List.mem_iff_getElem.2 ⟨j, by rw [List.length_take]; omega, List.getElem_take⟩)
      rw [h6, Int.zero_emod] at h5
      rw [emod_add_congr rfl (emod_mul_congr rfl (h5.trans (Int.zero_emod q).symm)), Int.mul_zero, Int.add_zero]
      exact rOut_ev hq ys ha k (by omega) j x hx hjl

/-- **BOTH WAYS COME TO THE SAME.** -/
theorem through_same {q : Int} (hq : okm q = true) {xs : List Int} (ys : List Int) (ha : Apart xs q) : pOut xs ys q xs.length = rOut xs ys q xs.length := by
  rw [← pOut_red hq, ← rOut_red hq]
  refine only_one ha (pOut_len hq xs ys _) (rOut_len hq xs ys _ (Nat.le_refl _)) fun x hx => ?_
  obtain ⟨j, hj⟩ := List.getElem?_of_mem hx
  have hjl := (List.getElem?_eq_some_iff.1 hj).1
  rw [pOut_ev hq ys ha _ (Nat.le_refl _) j x hj, if_pos hjl, rOut_ev hq ys ha _ (Nat.le_refl _) j x hj hjl]

end Go.Proofs.YtgdfphcggjclkaaDoor
