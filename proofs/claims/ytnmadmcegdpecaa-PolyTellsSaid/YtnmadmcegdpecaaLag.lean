/-
  Plain polynomials through points: the two ways of making one come to the same, modulo whatever number. (No program in sight.)
-/
import Derived.Test.YtnmadmcegdpecaaPolF
import Derived.Test.YtnmadmcegdpecaaPolC
import Derived.Test.YtnmadmcegdpecaaInv
namespace Go.Proofs.Ytnmadmcegdpecaa

/-! ### Units -/

/-- a has an inverse modulo q. -/
def Un (a q : Int) : Prop := ∃ x, (x * a) % q = 1 % q
theorem Un.congr {a b q : Int} (h : Un a q) (he : a % q = b % q) : Un b q := by
  obtain ⟨x, hx⟩ := h
  exact ⟨x, (emod_mul_congr rfl he).symm.trans hx⟩
theorem Un.one (q : Int) : Un 1 q := ⟨1, by simp⟩
theorem Un.mul {a b q : Int} (h : Un a q) (k : Un b q) : Un (a * b) q := by
  obtain ⟨x, hx⟩ := h
  obtain ⟨y, hy⟩ := k
  refine ⟨x * y, ?_⟩
  have e : x * y * (a * b) = x * a * (y * b) := by grind
  rw [e, emod_mul_congr hx hy]
  simp
theorem Un.left {a b q : Int} (h : Un (a * b) q) : Un a q := by
  obtain ⟨x, hx⟩ := h
  exact ⟨x * b, by rw [← hx]; congr 1; grind⟩
theorem Un.right {a b q : Int} (h : Un (a * b) q) : Un b q := by
  obtain ⟨x, hx⟩ := h
  exact ⟨x * a, by rw [← hx]; congr 1; grind⟩
theorem Un.neg {a b q : Int} (h : Un (a - b) q) : Un (b - a) q := by
  obtain ⟨x, hx⟩ := h
  exact ⟨-x, by rw [← hx]; congr 1; grind⟩
theorem Un.cancel {a b q : Int} (h : Un a q) (he : (a * b) % q = 0) : b % q = 0 := by
  obtain ⟨x, hx⟩ := h
  have h1 : (x * a * b) % q = b % q := by
    rw [emod_mul_congr (b := 1) hx (rfl : b % q = b % q), Int.one_mul]
  rw [← h1]
  have h2 : x * a * b = x * (a * b) := by grind
  rw [h2, ← mr_mul, he]
  simp
theorem Un.cancel2 {a b c q : Int} (h : Un a q) (he : (a * b) % q = (a * c) % q) : b % q = c % q := by
  have h1 : (a * (b - c)) % q = 0 := by
    have : a * (b - c) = a * b - a * c := by grind
    rw [this, emod_sub_congr he rfl, Int.sub_self, Int.zero_emod]
  have h2 := h.cancel h1
  have h3 : b = (b - c) + c := by omega
  rw [h3, emod_add_congr (b := 0) (by rw [h2]; simp) rfl, Int.zero_add]
theorem inv_of_un {a q : Int} (h0 : 0 < q) (h : Un a q) : ∃ x, InvIs a q x := by
  obtain ⟨x, hx⟩ := h
  refine ⟨x % q, Int.emod_nonneg _ (by omega), Int.emod_lt_of_pos _ h0, (x % q * a) / q - 1 / q, ?_⟩
  have h1 : (x % q * a) % q = 1 % q := by rw [ml_mul]; exact hx
  have h2 := Int.mul_ediv_add_emod (x % q * a) q
  have h3 := Int.mul_ediv_add_emod 1 q
  rw [h1] at h2
  rw [Int.mul_sub]
  omega
theorem un_of_inv {a q x : Int} (h : InvIs a q x) : Un a q := by
  obtain ⟨_, _, k, hk⟩ := h
  exact ⟨x, by rw [hk, Int.add_mul_emod_self_left]⟩
theorem iErr_zero {a q : Int} (h : okm q = true) : iErr a q = 0 ↔ Un a q := by
  constructor
  · intro he
    apply Classical.byContradiction
    intro hn
    have := iErr_none h (fun ⟨x, hx⟩ => hn (un_of_inv hx))
    omega
  · intro hu
    obtain ⟨x, hx⟩ := inv_of_un (okm_pos h) hu
    exact iErr_is h hx
theorem iErr_five {a q : Int} (h : okm q = true) (hn : ¬ Un a q) : iErr a q = 5 := iErr_none h fun ⟨_, hx⟩ => hn (un_of_inv hx)
theorem iVal_mul {a q : Int} (h : okm q = true) (hu : Un a q) : (iVal a q * a) % q = 1 % q := by
  obtain ⟨x, hx⟩ := inv_of_un (okm_pos h) hu
  rw [iVal_is h hx]
  obtain ⟨_, _, k, hk⟩ := hx
  rw [hk, Int.add_mul_emod_self_left]
theorem iVal_u64 (a q : Int) : U64 (iVal a q) := by
  by_cases hx : okm q = true ∧ ∃ x, InvIs a q x
  · obtain ⟨h, x, hx⟩ := hx
    rw [iVal_is h hx]
    have := okm_le h
    exact ⟨hx.1, by have := hx.2.1; omega⟩
  · by_cases h : okm q = true
    · rw [iVal_none fun hh => hx ⟨h, hh⟩]; exact ⟨by omega, by omega⟩
    · rw [iVal_no (by simpa using h)]; exact ⟨by omega, by omega⟩

/-! ### Products of differences -/

/-- all of a row but number i. -/
def but (l : List Int) (i : Nat) : List Int := l.take i ++ l.drop (i + 1)
theorem but_nil (i : Nat) : but [] i = [] := by simp [but]
theorem but_ne {l : List Int} {x : Int} {i : Nat} (h : l.length ≠ i) : but (l ++ [x]) i = but l i ++ [x] := by
  unfold but
  rcases Nat.lt_or_ge l.length i with h1 | h1
  · rw [List.take_of_length_le (by simp; omega), List.drop_eq_nil_of_le (by simp; omega), List.take_of_length_le (by omega), List.drop_eq_nil_of_le (by omega)]
    simp
  · rw [List.take_append_of_le_length (by omega), List.drop_append_of_le_length (by omega), List.append_assoc]
theorem but_eq {l : List Int} {x : Int} {i : Nat} (h : l.length = i) : but (l ++ [x]) i = but l i := by
  unfold but
  rw [List.take_append_of_le_length (by omega), List.drop_eq_nil_of_le (by simp; omega), List.drop_eq_nil_of_le (by omega)]

/-- the product of what lies between y and each of a row. -/
def pd : List Int → Int → Int
  | [], _ => 1
  | x :: l, y => (y - x) * pd l y
theorem pd_append (a b : List Int) (y : Int) : pd (a ++ b) y = pd a y * pd b y := by
  induction a with
  | nil => simp [pd]
  | cons x a ih => simp only [List.cons_append, pd, ih]; grind
theorem pd_snoc (a : List Int) (x y : Int) : pd (a ++ [x]) y = pd a y * (y - x) := by
  rw [pd_append]; simp [pd]
theorem pd_but {l : List Int} {i : Nat} {x : Int} (h : l[i]? = some x) (y : Int) : pd l y = (y - x) * pd (but l i) y := by
  obtain ⟨hi, rfl⟩ := List.getElem?_eq_some_iff.1 h
  have e : l = l.take i ++ l[i] :: l.drop (i + 1) := by
    rw [← List.drop_eq_getElem_cons hi, List.take_append_drop]
  have e2 : pd l y = pd (l.take i) y * ((y - l[i]) * pd (l.drop (i + 1)) y) := by
    conv => lhs; rw [e]
    rw [pd_append, pd]
  rw [e2, but, pd_append]
  grind
theorem pd_mem {l : List Int} {x : Int} (h : x ∈ l) : pd l x = 0 := by
  induction l with
  | nil => cases h
  | cons z l ih =>
    rw [pd]
    rcases List.mem_cons.1 h with rfl | h
    · rw [Int.sub_self, Int.zero_mul]
    · rw [ih h, Int.mul_zero]
theorem pd_congr (l : List Int) {y z q : Int} (h : y % q = z % q) : pd l y % q = pd l z % q := by
  induction l with
  | nil => rfl
  | cons x l ih => exact emod_mul_congr (emod_sub_congr h rfl) ih
theorem pd_un {l : List Int} {y q : Int} : Un (pd l y) q ↔ ∀ x ∈ l, Un (y - x) q := by
  induction l with
  | nil => simp [pd, Un.one]
  | cons x l ih =>
    rw [pd]
    constructor
    · intro h z hz
      rcases List.mem_cons.1 hz with rfl | hz
      · exact h.left
      · exact ih.1 h.right z hz
    · intro h
      exact (h x (List.mem_cons_self ..)).mul (ih.2 fun z hz => h z (List.mem_cons_of_mem _ hz))

/-- the same product, modulo q, as it is reckoned. -/
def mProd (l : List Int) (y q : Int) : Int := l.foldl (fun s x => mMul s (mSub y x q) q) (1 % q)
theorem mProd_nil (y q : Int) : mProd [] y q = 1 % q := rfl
theorem mProd_snoc (l : List Int) (x y q : Int) : mProd (l ++ [x]) y q = mMul (mProd l y q) (mSub y x q) q := by simp [mProd]
theorem mProd_emod {q : Int} (h : okm q = true) (l : List Int) (y : Int) : mProd l y q = pd l y % q := by
  unfold mProd
  have key : ∀ (l : List Int) (s t : Int), s % q = t % q → (∃ u, s = u % q) → l.foldl (fun s x => mMul s (mSub y x q) q) s = (t * pd l y) % q := by
    intro l
    induction l with
    | nil =>
      rintro s t hst ⟨u, rfl⟩
      rw [Int.emod_emod] at hst
      simp [pd, hst]
    | cons x l ih =>
      rintro s t hst _
      rw [List.foldl_cons, ih (mMul s (mSub y x q) q) (t * (y - x)) ?_ ⟨_, by rw [mMul_ok h]⟩]
      · rw [pd]; congr 1; grind
      · rw [mMul_ok h, Int.emod_emod, mSub_ok h, mr_mul]
        exact emod_mul_congr hst rfl
  rw [key l (1 % q) 1 (Int.emod_emod _ _) ⟨1, rfl⟩, Int.one_mul]
theorem mProd_u64 {q : Int} (h : okm q = true) (l : List Int) (y : Int) : U64 (mProd l y q) := by
  rw [mProd_emod h]; exact mod_u64 h

/-- the places are apart, and what lies between any two has an inverse. -/
def Apart (xs : List Int) (q : Int) : Prop := xs.Pairwise fun a b => Un (b - a) q
theorem apart_iff {xs : List Int} {q : Int} : Apart xs q ↔ ∀ i x, xs[i]? = some x → Un (pd (but xs i) x) q := by
  constructor
  · intro h i x hx
    obtain ⟨hi, rfl⟩ := List.getElem?_eq_some_iff.1 hx
    have h1 := List.pairwise_iff_getElem.1 h
    rw [pd_un]
    intro z hz
    rcases List.mem_append.1 hz with hz | hz
    · obtain ⟨k, hk, rfl⟩ := List.mem_iff_getElem.1 hz
      rw [List.length_take] at hk
      rw [List.getElem_take]
      exact h1 k i (by omega) hi (by omega)
    · obtain ⟨k, hk, rfl⟩ := List.mem_iff_getElem.1 hz
      rw [List.length_drop] at hk
      rw [List.getElem_drop]
      exact (h1 i (i + 1 + k) hi (by omega) (by omega)).neg
  · intro h
    refine List.pairwise_iff_getElem.2 fun i j hi hj hij => ?_
    have h1 := pd_un.1 (h j xs[j] (List.getElem?_eq_getElem hj))
    refine h1 _ (List.mem_append_left _ (List.mem_iff_getElem.2 ⟨i, by rw [List.length_take]; omega, ?_⟩))
    rw [List.getElem_take]

/-! ### Weights -/

noncomputable def wOne (xs : List Int) (y q : Int) (i : Nat) : Int := mMul (iVal (mProd (but xs i) (xs.getD i 0) q) q) (mProd (but xs i) y q) q
/-- the reference's. -/
noncomputable def wRef (l : List Int) (x y q : Int) : Int := l.foldl (fun w z => mMul w (mMul (mSub y z q) (iVal (mSub x z q) q) q) q) (mAdd 1 0 q)
theorem wRef_nil (x y q : Int) : wRef [] x y q = mAdd 1 0 q := rfl
theorem wRef_snoc (l : List Int) (z x y q : Int) : wRef (l ++ [z]) x y q = mMul (wRef l x y q) (mMul (mSub y z q) (iVal (mSub x z q) q) q) q := by simp [wRef]
theorem wRef_u64 (l : List Int) (x y q : Int) : U64 (wRef l x y q) := by
  unfold wRef
  have key : ∀ (l : List Int) (s : Int), U64 s → U64 (l.foldl (fun w z => mMul w (mMul (mSub y z q) (iVal (mSub x z q) q) q) q) s) := by
    intro l
    induction l with
    | nil => exact fun s h => h
    | cons z l ih => exact fun s _ => ih _ (mMul_u64 _ _ _)
  exact key l _ (mAdd_u64 _ _ _)
theorem wRef_mul {q : Int} (h : okm q = true) (x y : Int) : ∀ (l : List Int) (s : Int), (∀ z ∈ l, Un (x - z) q) → (l.foldl (fun w z => mMul w (mMul (mSub y z q) (iVal (mSub x z q) q) q) q) s * pd l x) % q = (s * pd l y) % q
  | [], s, _ => by simp [pd]
  | z :: l, s, hu => by
    rw [List.foldl_cons, pd, pd]
    have hz : Un (mSub x z q) q := (hu z (List.mem_cons_self ..)).congr (by rw [mSub_ok h, Int.emod_emod])
    have h1 := iVal_mul h hz
    have ih := wRef_mul h x y l (mMul s (mMul (mSub y z q) (iVal (mSub x z q) q) q) q) fun z hz => hu z (List.mem_cons_of_mem _ hz)
    generalize l.foldl (fun w z => mMul w (mMul (mSub y z q) (iVal (mSub x z q) q) q) q) (mMul s (mMul (mSub y z q) (iVal (mSub x z q) q) q) q) = f at *
    generalize iVal (mSub x z q) q = v at *
    rw [mSub_ok h, mr_mul] at h1
    have hst : mMul s (mMul (mSub y z q) v q) q % q = (s * ((y - z) * v)) % q := by
      rw [mMul_ok h, Int.emod_emod, mMul_ok h, mr_mul, mSub_ok h]
      exact emod_mul_congr rfl (emod_mul_congr (Int.emod_emod _ _) rfl)
    have e1 : f * ((x - z) * pd l x) = (x - z) * (f * pd l x) := by grind
    rw [e1, emod_mul_congr rfl (ih.trans (emod_mul_congr hst rfl))]
    have e2 : (x - z) * (s * ((y - z) * v) * pd l y) = v * (x - z) * (s * ((y - z) * pd l y)) := by grind
    rw [e2, emod_mul_congr h1 rfl, Int.one_mul]
theorem weights_same {q : Int} (hq : okm q = true) {xs : List Int} (ha : Apart xs q) (y : Int) {i : Nat} {x : Int} (hx : xs[i]? = some x) : wOne xs y q i = wRef (but xs i) x y q := by
  have hu := apart_iff.1 ha i x hx
  have hgx : xs.getD i 0 = x := by rw [List.getD_eq_getElem?_getD, hx]; rfl
  have h1 := wRef_mul hq x y (but xs i) (mAdd 1 0 q) (pd_un.1 hu)
  have hu2 : Un (mProd (but xs i) x q) q := hu.congr (by rw [mProd_emod hq, Int.emod_emod])
  have h3 := iVal_mul hq hu2
  unfold wOne
  rw [hgx]
  generalize hv : iVal (mProd (but xs i) x q) q = v at *
  rw [mProd_emod hq, mr_mul] at h3
  have hr : wRef (but xs i) x y q % q = wRef (but xs i) x y q := by
    unfold wRef
    have key : ∀ (l : List Int) (s : Int), s % q = s → (l.foldl (fun w z => mMul w (mMul (mSub y z q) (iVal (mSub x z q) q) q) q) s) % q = l.foldl (fun w z => mMul w (mMul (mSub y z q) (iVal (mSub x z q) q) q) q) s := by
      intro l
      induction l with
      | nil => exact fun s h => h
      | cons z l ih => exact fun s _ => ih _ (by show mMul _ _ q % q = mMul _ _ q; rw [mMul_ok hq, Int.emod_emod])
    exact key _ _ (by rw [mAdd_ok hq, Int.emod_emod])
  rw [← hr, mMul_ok hq, mProd_emod hq, mr_mul]
  refine hu.cancel2 ?_
  have h2 : (pd (but xs i) x * wRef (but xs i) x y q) % q = pd (but xs i) y % q := by
    rw [Int.mul_comm]
    unfold wRef
    rw [h1, mAdd_ok hq, ml_mul, Int.add_zero, Int.one_mul]
  have e : pd (but xs i) x * (v * pd (but xs i) y) = v * pd (but xs i) x * pd (but xs i) y := by grind
  rw [h2, e, emod_mul_congr h3 rfl, Int.one_mul]

end Go.Proofs.Ytnmadmcegdpecaa
