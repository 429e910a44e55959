/-
  Weights, and polynomials through points, at given numbers. (No program in sight.)
-/
import Derived.Test.YtnmadmcegdpecaaThr
namespace Go.Proofs.Ytnmadmcegdpecaa

/-- are these the inverses of the products? -/
def unitsB (xs : List Int) (q : Int) (ivs : List Int) : Bool := decide (eUnlike xs q = 0) && (List.range xs.length).all fun k => decide (0 ≤ ivs.getD k 0) && decide (ivs.getD k 0 < q) && decide ((ivs.getD k 0 * mProd (but xs k) (xs.getD k 0) q) % q = 1 % q)
theorem units_ok {xs : List Int} {q : Int} {ivs : List Int} (h : unitsB xs q ivs = true) : okm q = true ∧ eUnlike xs q = 0 ∧ eAll xs q = 0 ∧ ∀ k, k < xs.length → iVal (mProd (but xs k) (xs.getD k 0) q) q = ivs.getD k 0 := by
  simp only [unitsB, Bool.and_eq_true, decide_eq_true_eq, List.all_eq_true, List.mem_range] at h
  obtain ⟨h1, h2⟩ := h
  have hk := unlike_okm h1
  have h3 : ∀ k, k < xs.length → InvIs (mProd (but xs k) (xs.getD k 0) q) q (ivs.getD k 0) := fun k hk' => by
    obtain ⟨⟨h3, h4⟩, h5⟩ := h2 k hk'
    refine ⟨h3, h4, (ivs.getD k 0 * mProd (but xs k) (xs.getD k 0) q) / q - 1 / q, ?_⟩
    have e1 := Int.mul_ediv_add_emod (ivs.getD k 0 * mProd (but xs k) (xs.getD k 0) q) q
    have e2 := Int.mul_ediv_add_emod 1 q
    rw [h5] at e1
    rw [Int.mul_sub]
    omega
  refine ⟨hk, h1, eAll_yes h1 (apart_iff.2 fun i x hx => ?_), fun k hk' => iVal_is hk (h3 k hk')⟩
  have hi := (List.getElem?_eq_some_iff.1 hx).1
  have hgx : xs.getD i 0 = x := by rw [List.getD_eq_getElem?_getD, hx]; rfl
  have := un_of_inv (h3 i hi)
  rw [hgx] at this
  exact this.congr (by rw [mProd_emod hk, Int.emod_emod])
theorem wList_eval {xs : List Int} {q : Int} (ivs : List Int) (h : unitsB xs q ivs = true) (y : Int) : wList xs y q = (List.range xs.length).map fun k => mMul (ivs.getD k 0) (mProd (but xs k) y q) q := by
  obtain ⟨_, _, h1, h2⟩ := units_ok h
  unfold wList wAll
  rw [if_pos h1]
  apply List.map_congr_left
  intro k hk
  rw [wOne, h2 k (List.mem_range.1 hk)]
def pOutC (xs ys : List Int) (q : Int) (ivs : List Int) : Nat → List Int
  | 0 => List.replicate xs.length 0
  | k + 1 => pSum (pOutC xs ys q ivs k) (pScale (withoutL (pAll xs q) (xs.getD k 0) q) (mMul (ivs.getD k 0) (ys.getD k 0) q) q) q
theorem pOut_eval {xs : List Int} {q : Int} (ivs : List Int) (h : unitsB xs q ivs = true) (ys : List Int) : ∀ k, k ≤ xs.length → pOut xs ys q k = pOutC xs ys q ivs k
  | 0, _ => rfl
  | k + 1, hk => by
    obtain ⟨_, _, _, h2⟩ := units_ok h
    rw [pOut, pOutC, pOut_eval ivs h ys k (by omega), h2 k (by omega)]
theorem tVal_eval {xs ys : List Int} {q : Int} (ivs : List Int) (h : unitsB xs q ivs = true) (hl : xs.length = ys.length) : tErr xs ys q = 0 ∧ tVal xs ys q = pOutC xs ys q ivs xs.length := by
  obtain ⟨_, _, h1, _⟩ := units_ok h
  have he : tErr xs ys q = 0 := by unfold tErr; rw [if_pos hl, h1]
  exact ⟨he, by rw [tVal_ok he, pOut_eval ivs h ys _ (Nat.le_refl _)]⟩
theorem not_un {a q d : Int} (h1 : d ∣ a) (h2 : d ∣ q) (h3 : ¬ d ∣ 1) : ¬ Un a q := by
  rintro ⟨x, hx⟩
  apply h3
  have e1 := Int.mul_ediv_add_emod (x * a) q
  have e2 := Int.mul_ediv_add_emod 1 q
  have : (1 : Int) = x * a - q * (x * a / q) + q * (1 / q) := by rw [hx] at e1; omega
  rw [this]
  exact Int.dvd_add (Int.dvd_sub (Int.dvd_trans h1 (Int.dvd_mul_left _ _)) (Int.dvd_trans h2 (Int.dvd_mul_right _ _))) (Int.dvd_trans h2 (Int.dvd_mul_right _ _))

theorem ex_w : wList [1, 2, 3] 0 11 = [3, 8, 1] := by
  rw [wList_eval [6, 10, 6] (by decide)]; decide
theorem ex_we : eAll [1, 2, 3] 11 = 0 := (units_ok (ivs := [6, 10, 6]) (by decide)).2.2.1
theorem ex_te : tErr [1, 2, 3] [6, 0, 7] 11 = 0 := (tVal_eval [6, 10, 6] (by decide) rfl).1
theorem ex_t : tVal [1, 2, 3] [6, 0, 7] 11 = [3, 2, 1] := by
  rw [(tVal_eval (xs := [1, 2, 3]) (ys := [6, 0, 7]) (q := 11) [6, 10, 6] (by decide) rfl).2]; decide

end Go.Proofs.Ytnmadmcegdpecaa
