/-
  Products of polynomials, plainly: coefficients, values, degrees. (No program in sight.)
-/
import Derived.Test.YtgdfphcggjclkaaDoorPoP
namespace Go.Proofs.YtgdfphcggjclkaaDoor
open Go Go.Lin Go.Psi

section
variable {N : Nat} [h0 : NeZero N]
/-- the coefficients of a product. -/
def cv (f g : Nat → Fin N) : Nat → Fin N
  | 0 => f 0 * g 0
  | n + 1 => f 0 * g (n + 1) + cv (fun i => f (i + 1)) g n
theorem cv_right (f g : Nat → Fin N) (n : Nat) : cv f g (n + 1) = f (n + 1) * g 0 + cv f (fun i => g (i + 1)) n := by
  induction n generalizing f with
  | zero => simp only [cv]; grind
  | succ n ih =>
    rw [cv, ih]
    conv => rhs; rw [cv]
    grind
theorem cv_comm (f g : Nat → Fin N) (n : Nat) : cv f g n = cv g f n := by
  induction n generalizing f g with
  | zero => simp only [cv]; grind
  | succ n ih => rw [cv, cv_right, ih]; grind
theorem cv_add (f g h : Nat → Fin N) (n : Nat) : cv (fun i => f i + g i) h n = cv f h n + cv g h n := by
  induction n generalizing f g with
  | zero => simp only [cv]; grind
  | succ n ih =>
    simp only [cv]
    rw [ih (fun i => f (i + 1)) (fun i => g (i + 1))]
    grind
theorem cv_zero {f : Nat → Fin N} (g : Nat → Fin N) (h : ∀ i, f i = 0) (n : Nat) : cv f g n = 0 := by
  induction n generalizing f with
  | zero => rw [cv, h]; grind
  | succ n ih => rw [cv, h, ih fun i => h (i + 1)]; grind
/-- beyond both degrees there is nothing. -/
theorem cv_high {f g : Nat → Fin N} {d e : Nat} (hf : ∀ i, d < i → f i = 0) (hg : ∀ i, e < i → g i = 0) {n : Nat} (hn : d + e < n) : cv f g n = 0 := by
  induction n generalizing f d with
  | zero => omega
  | succ n ih =>
    rw [cv, hg (n + 1) (by omega)]
    cases d with
    | zero => rw [cv_zero g fun i => hf (i + 1) (by omega)]; grind
    | succ d => rw [ih (f := fun i => f (i + 1)) (d := d) (fun i hi => hf (i + 1) (by omega)) (by omega)]; grind
/-- the product's first coefficient. -/
theorem cv_top {f g : Nat → Fin N} {d e : Nat} (hf : ∀ i, d < i → f i = 0) (hg : ∀ i, e < i → g i = 0) : cv f g (d + e) = f d * g e := by
  induction d generalizing f with
  | zero =>
    rw [Nat.zero_add]
    cases e with
    | zero => rfl
    | succ e => rw [cv, cv_zero g fun i => hf (i + 1) (by omega)]; grind
  | succ d ih =>
    rw [show d + 1 + e = (d + e) + 1 by omega, cv, hg (d + e + 1) (by omega), ih (f := fun i => f (i + 1)) fun i hi => hf (i + 1) (by omega)]
    grind
/-- the value of n coefficients. -/
def pe (f : Nat → Fin N) (X : Fin N) : Nat → Fin N
  | 0 => 0
  | n + 1 => f 0 + X * pe (fun i => f (i + 1)) X n
theorem pe_zero {f : Nat → Fin N} (X : Fin N) (h : ∀ i, f i = 0) (n : Nat) : pe f X n = 0 := by
  induction n generalizing f with
  | zero => rfl
  | succ n ih => rw [pe, h, ih fun i => h (i + 1)]; grind
theorem pe_add (f g : Nat → Fin N) (X : Fin N) (n : Nat) : pe (fun i => f i + g i) X n = pe f X n + pe g X n := by
  induction n generalizing f g with
  | zero => simp only [pe]; grind
  | succ n ih =>
    simp only [pe]
    rw [ih (fun i => f (i + 1)) (fun i => g (i + 1))]
    grind
theorem pe_mul (c : Fin N) (f : Nat → Fin N) (X : Fin N) (n : Nat) : pe (fun i => c * f i) X n = c * pe f X n := by
  induction n generalizing f with
  | zero => simp only [pe]; grind
  | succ n ih =>
    simp only [pe]
    rw [ih (fun i => f (i + 1))]
    grind
theorem pe_more {f : Nat → Fin N} (X : Fin N) {n : Nat} (h : ∀ i, n ≤ i → f i = 0) : ∀ m, n ≤ m → pe f X m = pe f X n := by
  induction n generalizing f with
  | zero => intro m _; rw [pe_zero X (fun i => h i (by omega))]; rfl
  | succ n ih =>
    intro m hm
    cases m with
    | zero => omega
    | succ m =>
      simp only [pe]
      rw [ih (f := fun i => f (i + 1)) (fun i hi => h (i + 1) (by omega)) m (by omega)]
/-- the value of a product. -/
theorem pe_cv {f g : Nat → Fin N} (X : Fin N) {a b : Nat} (hf : ∀ i, a ≤ i → f i = 0) (hg : ∀ i, b ≤ i → g i = 0) : ∀ m, a + b ≤ m → pe (cv f g) X m = pe f X a * pe g X b := by
  induction a generalizing f with
  | zero =>
    intro m _
    rw [pe_zero X (cv_zero g fun i => hf i (by omega))]
    simp only [pe]; grind
  | succ a ih =>
    intro m hm
    cases m with
    | zero => omega
    | succ m =>
      have h1 : pe (cv f g) X (m + 1) = f 0 * pe g X (m + 1) + X * pe (cv (fun i => f (i + 1)) g) X m := by
        simp only [pe]
        have : pe (fun i => cv f g (i + 1)) X m = f 0 * pe (fun i => g (i + 1)) X m + pe (cv (fun i => f (i + 1)) g) X m := by
          rw [← pe_mul, ← pe_add]
          rfl
        rw [this]
        simp only [cv]
        grind
      rw [h1, ih (f := fun i => f (i + 1)) (fun i hi => hf (i + 1) (by omega)) m (by omega), pe_more X hg (m + 1) (by omega)]
      simp only [pe]
      grind
/-! The program's lists. -/
/-- coefficients. -/
def cf (N : Nat) [NeZero N] (l : List Int) : Nat → Fin N := fun i => tf N (l.getD i 0)
theorem cf_cAt (l : List Int) (i : Nat) : tf N (cAt l i N) = cf N l i := tf_mod _
theorem cf_high {l : List Int} {i : Nat} (h : l.length ≤ i) : cf N l i = 0 := by
  unfold cf
  rw [List.getD_eq_getElem?_getD, List.getElem?_eq_none h]
  exact tf_zero
theorem pe_ev (l : List Int) (X : Int) : tf N (ev l X) = pe (cf N l) (tf N X) l.length := by
  induction l with
  | nil => exact tf_zero
  | cons c l ih =>
    rw [ev_cons, tf_add, tf_mul, ih]
    rfl
/-- sums of i < k from the left. -/
theorem cv_sum (f g : Nat → Fin N) (T : Nat → Fin N) (n : Nat) (h0 : T 0 = 0) (h : ∀ i, i ≤ n → T (i + 1) = T i + f i * g (n - i)) : T (n + 1) = cv f g n := by
  induction n generalizing f T with
  | zero =>
    have := h 0 (by omega)
    rw [this, h0, cv]
    simp
  | succ n ih =>
    have h1 := h 0 (by omega)
    have := ih (fun i => f (i + 1)) (fun i => T (i + 1) - T 1) (by grind) fun i hi => by
      have h2 := h (i + 1) (by omega)
      rw [h2, show n + 1 - (i + 1) = n - i by omega]
      grind
    rw [cv, ← this, h1, h0]
    simp only [Nat.sub_zero]
    grind
theorem tAt_tf (hN : okm (N : Int) = true) (a b : List Int) (n : Nat) : tf N (tAt a b N n (n + 1)) = cv (cf N a) (cf N b) n := by
  refine cv_sum (cf N a) (cf N b) (fun i => tf N (tAt a b N n i)) n tf_zero fun i hi => ?_
  show tf N (tAt a b N n (i + 1)) = tf N (tAt a b N n i) + cf N a i * cf N b (n - i)
  rw [tAt]
  split
  · rw [mAdd_ok hN, tf_mod, tf_add, mMul_ok hN, tf_mod, tf_mul]
    rfl
  · rename_i hc
    have : cf N a i = 0 ∨ cf N b (n - i) = 0 := by
      by_cases h1 : i < a.length
      · exact .inr (cf_high (by omega))
      · exact .inl (cf_high (by omega))
    rcases this with h | h
    · rw [h]; grind
    · rw [h]; grind
theorem times_cf (hN : okm (N : Int) = true) (a b : List Int) (n : Nat) : cf N (pTimes a b N) n = cv (cf N a) (cf N b) n := by
  unfold pTimes
  by_cases h : 0 < a.length ∧ 0 < b.length
  · rw [if_pos ⟨hN, h⟩]
    rcases Nat.lt_or_ge n (a.length + b.length - 1) with hn | hn
    · unfold cf
      rw [List.getD_eq_getElem?_getD, timesP_at a b N hn]
      exact tAt_tf hN a b n
    · rw [cf_high (by simp [timesP]; omega)]
      exact (cv_high (d := a.length - 1) (e := b.length - 1) (fun i hi => cf_high (by omega)) (fun i hi => cf_high (by omega)) (by omega)).symm
  · rw [if_neg fun e => h e.2, cf_high (Nat.zero_le n)]
    rcases Nat.eq_zero_or_pos a.length with ha | ha
    · exact (cv_zero _ (fun i => cf_high (by omega)) n).symm
    · rw [cv_comm]
      exact (cv_zero _ (fun i => cf_high (by omega)) n).symm
theorem sum_cf (hN : okm (N : Int) = true) (a b : List Int) (n : Nat) : cf N (pSum a b N) n = cf N a n + cf N b n := by
  unfold pSum
  rw [if_pos hN]
  rcases Nat.lt_or_ge n (max a.length b.length) with h | h
  · have e : cf N (sumL a b N) n = tf N (mAdd (cAt a n N) (cAt b n N) N) := by
      unfold cf
      rw [List.getD_eq_getElem?_getD, sumL_at a b N h]
      rfl
    rw [e, mAdd_ok hN, tf_mod, tf_add, cf_cAt, cf_cAt]
  · rw [cf_high (by rw [sumL_len]; omega), cf_high (by omega), cf_high (by omega)]
    grind
theorem times_len {a b : List Int} {q : Int} : (pTimes a b q).length ≤ a.length + b.length := by
  unfold pTimes
  split
  · simp [timesP]
  · simp
theorem same_of {a b : List Int} (h : ∀ i, cf N a i = cf N b i) : sameB a b N = true := by
  refine sameB_yes fun i _ => ?_
  have := h i
  rw [← cf_cAt, ← cf_cAt] at this
  have h2 := tf_eq.1 this
  unfold cAt at h2 ⊢
  rwa [Int.emod_emod, Int.emod_emod] at h2
theorem times_ev (hN : okm (N : Int) = true) (a b : List Int) (X : Int) : ev (pTimes a b N) X % N = ev a X * ev b X % N := by
  rw [← tf_eq, tf_mul, pe_ev, pe_ev, pe_ev]
  have e : cf N (pTimes a b N) = cv (cf N a) (cf N b) := funext fun n => times_cf hN a b n
  rw [← pe_more (tf N X) (fun i hi => cf_high (N := N) (l := pTimes a b N) hi) (a.length + b.length) times_len, e]
  exact pe_cv _ (fun i hi => cf_high hi) (fun i hi => cf_high hi) _ (Nat.le_refl _)
end
/-! The laws, modulo any number, and modulo a prime. -/
theorem nat_of {q : Int} (hq : okm q = true) : ∃ (N : Nat) (_ : NeZero N), q = (N : Int) := by
  have h0 := okm_pos hq
  obtain ⟨N, rfl⟩ := Int.eq_ofNat_of_zero_le (show 0 ≤ q by omega)
  exact ⟨N, ⟨by omega⟩, rfl⟩
theorem val_sum {q : Int} (hq : okm q = true) (a b : List Int) (x : Int) : mEval (pSum a b q) x q = mAdd (mEval a x q) (mEval b x q) q := by
  rw [mEval_ok hq, sum_ev hq, mAdd_ok hq, mEval_ok hq, mEval_ok hq, ← Int.add_emod]
theorem val_times {q : Int} (hq : okm q = true) (a b : List Int) (x : Int) : mEval (pTimes a b q) x q = mMul (mEval a x q) (mEval b x q) q := by
  obtain ⟨N, hN, rfl⟩ := nat_of hq
  rw [mEval_ok hq, times_ev hq, mMul_ok hq, mEval_ok hq, mEval_ok hq, ← Int.mul_emod]
theorem val_scale {q : Int} (hq : okm q = true) (a : List Int) (k x : Int) : mEval (pScale a k q) x q = mMul (mEval a x q) k q := by
  rw [mEval_ok hq, scale_ev hq, mMul_ok hq, mEval_ok hq, Int.mul_comm k, Int.mul_emod (ev a x % q), Int.emod_emod, ← Int.mul_emod]
theorem same_comm {q : Int} (hq : okm q = true) (a b : List Int) : sameB (pTimes a b q) (pTimes b a q) q = true := by
  obtain ⟨N, hN, rfl⟩ := nat_of hq
  exact same_of fun i => by rw [times_cf hq, times_cf hq, cv_comm]
theorem same_dist {q : Int} (hq : okm q = true) (a b : List Int) : sameB (pTimes (pSum a b q) a q) (pSum (pTimes a a q) (pTimes a b q) q) q = true := by
  obtain ⟨N, hN, rfl⟩ := nat_of hq
  refine same_of fun i => ?_
  have e : cf N (pSum a b N) = fun i => cf N a i + cf N b i := funext fun n => sum_cf hq a b n
  rw [times_cf hq, sum_cf hq, times_cf hq, times_cf hq, e, cv_add, cv_comm (cf N b)]
/-- degrees. -/
theorem deg_times {q : Int} (hq : okm q = true) (h2 : 2 ≤ q) (hp : Pr q.toNat) (a b : List Int) : pDeg (pTimes a b q) q = if pDeg a q < 0 ∨ pDeg b q < 0 then -1 else pDeg a q + pDeg b q := by
  obtain ⟨N, hN, rfl⟩ := nat_of hq
  rw [Int.toNat_natCast] at hp
  have F := fld_of hp
  have z : ∀ (l : List Int) k, cAt l k N = 0 → cf N l k = 0 := fun l k h => by rw [← cf_cAt, h]; exact tf_zero
  have zn : ∀ (l : List Int) k, cf N l k = 0 → cAt l k N = 0 := fun l k h => by
    rw [← cf_cAt] at h
    have := tf_iff_zero.1 h
    unfold cAt at this ⊢
    rwa [Int.emod_emod] at this
  have none_of : (∀ k, cf N (pTimes a b N) k = 0) → pDeg (pTimes a b N) N = -1 := fun h => by
    rcases deg_spec hq (pTimes a b N) with ⟨h1, _⟩ | ⟨d, _, _, h3, _⟩
    · exact h1
    · exact absurd (zn _ _ (h d)) h3
  rcases deg_spec hq a with ⟨a1, a2⟩ | ⟨d, a1, _, a3, a4⟩
  · rw [if_pos (.inl (by omega)), none_of fun k => by rw [times_cf hq]; exact cv_zero _ (fun i => z a i (a2 i)) k]
  · rcases deg_spec hq b with ⟨b1, b2⟩ | ⟨e, b1, _, b3, b4⟩
    · rw [if_pos (.inr (by omega)), none_of fun k => by rw [times_cf hq, cv_comm]; exact cv_zero _ (fun i => z b i (b2 i)) k]
    · rw [if_neg (by omega), a1, b1]
      have htop : cf N (pTimes a b N) (d + e) = cf N a d * cf N b e := by
        rw [times_cf hq]
        exact cv_top (fun i hi => z a i (a4 i hi)) (fun i hi => z b i (b4 i hi))
      have hhigh : ∀ k, d + e < k → cf N (pTimes a b N) k = 0 := fun k hk => by
        rw [times_cf hq]
        exact cv_high (fun i hi => z a i (a4 i hi)) (fun i hi => z b i (b4 i hi)) hk
      have hne : cf N (pTimes a b N) (d + e) ≠ 0 := fun h => by
        rw [htop] at h
        obtain ⟨y, hy⟩ := F.inv (cf N a d) fun h => a3 (zn a d h)
        apply b3
        apply zn
        grind
      rcases deg_spec hq (pTimes a b N) with ⟨_, h2⟩ | ⟨k, h1, _, h3, h4⟩
      · exact absurd (z _ _ (h2 (d + e))) hne
      · have : k = d + e := by
          rcases Nat.lt_trichotomy k (d + e) with h | h | h
          · exact absurd (z _ _ (h4 _ h)) hne
          · exact h
          · exact absurd (zn _ _ (hhigh k h)) h3
        rw [h1, this]
        omega
end Go.Proofs.YtgdfphcggjclkaaDoor
