/-
  The plain laws of models: products of secrets and queries are scores; products keep sums and multiples. (No program in sight.)
-/
import Derived.Test.YtnmadmcegdpecaaFixK
namespace Go.Proofs.Ytnmadmcegdpecaa
open Go.RowKit

theorem num_near {n q : Int} (hq : okm q = true) (h1 : -q < 2 * n) (h2 : 2 * n < q) : mInt (mNum n q) q = n := by
  have h0 := okm_pos hq
  rw [mNum_ok hq, mInt, if_pos hq, Int.emod_emod]
  by_cases hn : 0 ≤ n
  · rw [Int.emod_eq_of_lt hn (by omega), if_pos (by omega)]
  · have : n % q = n + q := by
      rw [← Int.add_emod_right, Int.emod_eq_of_lt (by omega) (by omega)]
    rw [this, if_neg (by omega)]; omega
theorem num_add {a b q : Int} (hq : okm q = true) : mAdd (mNum a q) (mNum b q) q = mNum (a + b) q := by
  rw [mNum_ok hq, mNum_ok hq, mNum_ok hq, mAdd, if_pos hq, ← Int.add_emod]
theorem num_mul {a b q : Int} (hq : okm q = true) : mMul (mNum a q) (mNum b q) q = mNum (a * b) q := by
  rw [mNum_ok hq, mNum_ok hq, mNum_ok hq, mMul, if_pos hq, ← Int.mul_emod]
theorem num_zero {q : Int} : mNum 0 q = 0 := by unfold mNum; split <;> simp

theorem flatten_at : ∀ (z : List (List Int)) (n : Nat), (∀ l ∈ z, l.length = n) → ∀ k i, i < n → z.flatten[k * n + i]? = (z[k]?).bind (·[i]?)
  | [], _, _, _, _, _ => by simp
  | a :: z, n, h, 0, i, hi => by
    have ha := h a (List.mem_cons_self ..)
    rw [List.flatten_cons, Nat.zero_mul, Nat.zero_add, List.getElem?_append_left (by omega)]
    rfl
  | a :: z, n, h, k + 1, i, hi => by
    have ha := h a (List.mem_cons_self ..)
    have h1 : (k + 1) * n + i = a.length + (k * n + i) := by rw [Nat.succ_mul, ha]; omega
    rw [List.flatten_cons, h1, List.getElem?_append_right (by omega), Nat.add_sub_cancel_left, flatten_at z n (fun l hl => h l (List.mem_cons_of_mem _ hl)) k i hi]
    rfl

theorem dsum_isum {q : Int} (hq : okm q = true) (sec row w x : List Int) (at_ : Nat) : ∀ m, (∀ i, i < m → sec[at_ + i]? = some (mNum (w.getD i 0) q) ∧ row[i]? = some (mNum (x.getD i 0) q)) → dsum sec row q at_ m = mNum (isum w x m) q
  | 0, _ => by rw [show isum w x 0 = 0 from rfl, num_zero]; rfl
  | m + 1, h => by
    obtain ⟨h1, h2⟩ := h m (by omega)
    rw [dsum_in h1 h2, dsum_isum hq sec row w x at_ m fun i hi => h i (by omega), num_mul hq, num_add hq]
    rfl

theorem isum_snoc (w x : List Int) (s : Int) (d : Nat) (hw : w.length = d) (hx : x.length = d) : isum (w ++ [s]) (x ++ [1]) (d + 1) = isum w x d + s := by
  have same : ∀ m, m ≤ d → isum (w ++ [s]) (x ++ [1]) m = isum w x m := by
    intro m
    induction m with
    | zero => intro _; rfl
    | succ m ih =>
      intro hm
      simp only [isum]
      rw [ih (by omega), List.getD_eq_getElem?_getD, List.getD_eq_getElem?_getD, List.getElem?_append_left (by omega), List.getElem?_append_left (by omega), List.getD_eq_getElem?_getD, List.getD_eq_getElem?_getD]
  simp only [isum]
  rw [same d (Nat.le_refl _), List.getD_eq_getElem?_getD, List.getD_eq_getElem?_getD, List.getElem?_append_right (by omega), List.getElem?_append_right (by omega), hw, hx]
  simp

theorem nums_snoc (q : Int) (l : List Int) (s : Int) : mNums q l ++ [mNum s q] = mNums q (l ++ [s]) := by simp [mNums]
theorem nums_at' (q : Int) (l : List Int) {i : Nat} (hi : i < l.length) : (mNums q l)[i]? = some (mNum (l.getD i 0) q) := by
  simp [mNums, List.getD_eq_getElem?_getD, List.getElem?_eq_getElem hi]

theorem row_of {p : Par} {x : List Int} (hQ : FairQ p x) : rowS p x = mNums p.Q (x ++ [1]) := by
  have hx : x.length = p.D.toNat := by have := hQ.len; have := hQ.fits.D0; omega
  have h1 : padded (mNums p.Q x) p.D.toNat = mNums p.Q x := by
    have : (mNums p.Q x).length = p.D.toNat := by simp [mNums, hx]
    simp [padded, this, List.take_of_length_le]
  rw [rowS, if_pos ((fits_iff p).2 hQ.fits), h1, nums_snoc]

theorem dot_len (p : Par) (l x : List Int) (h : fits p = true) : (dotS p l x).length = p.K.toNat := by simp [dotS, h]
theorem dot_at {p : Par} {l x : List Int} (h : fits p = true) {k : Nat} (hk : k < p.K.toNat) : (dotS p l x)[k]? = some (dsum l (rowS p x) p.Q (k * (p.D.toNat + 1)) (p.D.toNat + 1)) := by
  simp [dotS, h, hk]

theorem scores_len {p : Par} {W : List (List Int)} {b x : List Int} (hF : Fair p W b) (hQ : FairQ p x) : (scoresS p W b x).length = p.K.toNat := by
  rw [scoresS, if_pos ⟨(mayB_iff p W b).2 hF, (query_iff p x).2 hQ⟩, List.length_zipWith]
  have := hF.lw; have := hF.lb; omega

/-- **the scores are the whole numbers of the products.** -/
theorem score_law {p : Par} {W : List (List Int)} {b x : List Int} (hF : Fair p W b) (hQ : FairQ p x) (h1 : p.Q ≤ 2305843009213693952) (h2 : 2 * (p.D * p.M * p.X + p.M) < p.Q) {k : Nat} {l s : Int}
    (hl : (dotS p (secretsS p W b) x)[k]? = some l) (hs : (scoresS p W b x)[k]? = some s) : mInt l p.Q = s := by
  have hfit := (fits_iff p).2 hF.fits
  have hk : k < p.K.toNat := by
    have := (List.getElem?_eq_some_iff.1 hl).1
    rwa [dot_len p _ _ hfit] at this
  have hDMX : 0 ≤ p.D * p.M * p.X := Int.mul_nonneg (Int.mul_nonneg hF.fits.D0 hF.fits.M0) hF.fits.X0
  have hM0 := hF.fits.M0
  have hq : okm p.Q = true := okm_of (by omega) h1
  obtain ⟨row, hrow⟩ := get_of_lt (l := W) (show k < W.length by have := hF.lw; omega)
  obtain ⟨sb, hsb⟩ := get_of_lt (l := b) (show k < b.length by have := hF.lb; omega)
  have hrl := (hF.rows row (List.mem_of_getElem? hrow)).1
  have hrd : row.length = p.D.toNat := by have := hF.fits.D0; omega
  have hxd : x.length = p.D.toNat := by have := hQ.len; have := hF.fits.D0; omega
  rw [scoresS, if_pos ⟨(mayB_iff p W b).2 hF, (query_iff p x).2 hQ⟩, score_at hsb hrow] at hs
  rw [dot_at hfit hk] at hl
  obtain rfl := Option.some.inj hl
  obtain rfl := Option.some.inj hs
  have hsec : secretsS p W b = (List.zipWith (sec1 p.Q) W b).flatten := by rw [secretsS, if_pos ((mayB_iff p W b).2 hF)]
  have hall : ∀ l ∈ List.zipWith (sec1 p.Q) W b, l.length = p.D.toNat + 1 := by
    intro l hl
    obtain ⟨i, hi⟩ := List.getElem?_of_mem hl
    rw [List.getElem?_zipWith] at hi
    cases g1 : W[i]? with
    | none => rw [g1] at hi; simp at hi
    | some r =>
      cases g2 : b[i]? with
      | none => rw [g1, g2] at hi; simp at hi
      | some s =>
        rw [g1, g2] at hi
        simp only [Option.some.injEq] at hi
        subst hi
        have := (hF.rows r (List.mem_of_getElem? g1)).1
        have := hF.fits.D0
        simp [sec1, mNums]; omega
  have hz : (List.zipWith (sec1 p.Q) W b)[k]? = some (mNums p.Q (row ++ [sb])) := by
    rw [List.getElem?_zipWith, hrow, hsb, ← nums_snoc]; rfl
  have hd := dsum_isum hq (secretsS p W b) (rowS p x) (row ++ [sb]) (x ++ [1]) (k * (p.D.toNat + 1)) (p.D.toNat + 1) (fun i hi => by
    rw [hsec, flatten_at _ _ hall k i hi, hz, row_of hQ]
    exact ⟨nums_at' _ _ (by simp; omega), nums_at' _ _ (by simp; omega)⟩)
  rw [hd, isum_snoc row x sb p.D.toNat hrd hxd]
  have hb := isum_bound row x p.M p.X hF.fits.M0 hF.fits.X0 (hF.rows row (List.mem_of_getElem? hrow)).2 hQ.near p.D.toNat
  have hbs := hF.shifts sb (List.mem_of_getElem? hsb)
  have hDe : ((p.D.toNat : Nat) : Int) * (p.M * p.X) = p.D * p.M * p.X := by
    rw [Int.toNat_of_nonneg hF.fits.D0, Int.mul_assoc]
  rw [hDe] at hb
  rw [hrd, Int.add_comm sb]
  exact num_near hq (by omega) (by omega)

/-! ### sums and multiples -/
def sumL (l o : List Int) (q : Int) (n : Nat) : List Int := (List.range n).map fun i => mAdd (l.getD i 0) (o.getD i 0) q
def manyL (l : List Int) (k q : Int) (n : Nat) : List Int := (List.range n).map fun i => mMul (l.getD i 0) k q

/-- the products' sum, over whole numbers. -/
def psum (l row : List Int) (at_ : Nat) : Nat → Int
  | 0 => 0
  | m + 1 => psum l row at_ m + l.getD (at_ + m) 0 * row.getD m 0

theorem dsum_psum {q : Int} (hq : okm q = true) (l row : List Int) (at_ : Nat) : ∀ m, m ≤ row.length → dsum l row q at_ m = mNum (psum l row at_ m) q
  | 0, _ => by rw [show psum l row at_ 0 = 0 from rfl, num_zero]; rfl
  | m + 1, h => by
    obtain ⟨r, hr⟩ := get_of_lt (l := row) (show m < row.length by omega)
    have ih := dsum_psum hq l row at_ m (by omega)
    simp only [psum]
    have hrd : row.getD m 0 = r := by rw [List.getD_eq_getElem?_getD, hr]; rfl
    rw [hrd]
    rcases Nat.lt_or_ge (at_ + m) l.length with h1 | h1
    · obtain ⟨a, ha⟩ := get_of_lt h1
      rw [dsum_in ha hr, ih, List.getD_eq_getElem?_getD, ha, Option.getD_some, mMul, if_pos hq, ← mNum_ok hq, num_add hq]
    · rw [dsum_out h1, ih, List.getD_eq_getElem?_getD, List.getElem?_eq_none h1, Option.getD_none, Int.zero_mul, Int.add_zero]
theorem dsum_no {q : Int} (hq : okm q = false) (l row : List Int) (at_ : Nat) : ∀ m, dsum l row q at_ m = 0
  | 0 => rfl
  | m + 1 => by
    have ih := dsum_no hq l row at_ m
    unfold dsum
    split
    · simp [mAdd, hq]
    · exact ih

theorem sumL_at (l o : List Int) (q : Int) {n i : Nat} (hn : n = max l.length o.length) : (sumL l o q n).getD i 0 = mAdd (l.getD i 0) (o.getD i 0) q := by
  rw [List.getD_eq_getElem?_getD, sumL, List.getElem?_map]
  rcases Nat.lt_or_ge i n with h | h
  · rw [List.getElem?_range h]; rfl
  · rw [List.getElem?_eq_none (by simpa using h)]
    rw [List.getD_eq_getElem?_getD, List.getD_eq_getElem?_getD, List.getElem?_eq_none (by omega), List.getElem?_eq_none (by omega)]
    simp [mAdd]
theorem manyL_at (l : List Int) (k q : Int) {n i : Nat} (hn : l.length ≤ n) : (manyL l k q n).getD i 0 = mMul (l.getD i 0) k q := by
  rw [List.getD_eq_getElem?_getD, manyL, List.getElem?_map]
  rcases Nat.lt_or_ge i n with h | h
  · rw [List.getElem?_range h]; rfl
  · rw [List.getElem?_eq_none (by simpa using h)]
    rw [List.getD_eq_getElem?_getD, List.getElem?_eq_none (by omega)]
    simp [mMul]

theorem mod_left (a b q : Int) : a % q * b % q = a * b % q := by rw [Int.mul_emod, Int.emod_emod, ← Int.mul_emod]

theorem psum_sum {q : Int} (hq : okm q = true) (l o row : List Int) (at_ n : Nat) (hn : n = max l.length o.length) : ∀ m, mNum (psum (sumL l o q n) row at_ m) q = mNum (psum l row at_ m + psum o row at_ m) q
  | 0 => rfl
  | m + 1 => by
    simp only [psum]
    rw [← num_add hq, psum_sum hq l o row at_ n hn m, sumL_at l o q hn, mAdd, if_pos hq, mNum_ok hq, mNum_ok hq, mNum_ok hq, mAdd, if_pos hq]
    rw [Int.mul_emod, Int.emod_emod, ← Int.mul_emod, ← Int.add_emod]
    congr 1
    rw [Int.add_mul]; omega
theorem psum_many {q : Int} (hq : okm q = true) (l row : List Int) (k : Int) (at_ n : Nat) (hn : l.length ≤ n) : ∀ m, mNum (psum (manyL l k q n) row at_ m) q = mNum (psum l row at_ m * k) q
  | 0 => by simp [psum]
  | m + 1 => by
    simp only [psum]
    rw [← num_add hq, psum_many hq l row k at_ n hn m, manyL_at l k q hn, mMul, if_pos hq, mNum_ok hq, mNum_ok hq, mNum_ok hq, mAdd, if_pos hq]
    rw [mod_left, ← Int.add_emod]
    congr 1
    rw [Int.add_mul, Int.mul_assoc, Int.mul_assoc, Int.mul_comm k]

theorem linear_sum (p : Par) (l o x : List Int) {n k : Nat} (hn : n = max l.length o.length) {c d e : Int} (hc : (dotS p l x)[k]? = some c) (hd : (dotS p o x)[k]? = some d) (he : (dotS p (sumL l o p.Q n) x)[k]? = some e) : e = mAdd c d p.Q := by
  cases hf : fits p with
  | false => simp [dotS, hf] at hc
  | true =>
    have hk : k < p.K.toNat := by
      have := (List.getElem?_eq_some_iff.1 hc).1
      rwa [dot_len p _ _ hf] at this
    rw [dot_at hf hk] at hc hd he
    obtain rfl := Option.some.inj hc
    obtain rfl := Option.some.inj hd
    obtain rfl := Option.some.inj he
    have hrl : (rowS p x).length = p.D.toNat + 1 := by simp [rowS, hf, padded_len]
    cases hq : okm p.Q with
    | false => rw [dsum_no hq, dsum_no hq, dsum_no hq]; simp [mAdd, hq]
    | true => rw [dsum_psum hq _ _ _ _ (by omega), dsum_psum hq _ _ _ _ (by omega), dsum_psum hq _ _ _ _ (by omega), psum_sum hq l o _ _ n hn, num_add hq]
theorem linear_many (p : Par) (l x : List Int) (y : Int) {n k : Nat} (hn : l.length ≤ n) {c e : Int} (hc : (dotS p l x)[k]? = some c) (he : (dotS p (manyL l y p.Q n) x)[k]? = some e) : e = mMul c y p.Q := by
  cases hf : fits p with
  | false => simp [dotS, hf] at hc
  | true =>
    have hk : k < p.K.toNat := by
      have := (List.getElem?_eq_some_iff.1 hc).1
      rwa [dot_len p _ _ hf] at this
    rw [dot_at hf hk] at hc he
    obtain rfl := Option.some.inj hc
    obtain rfl := Option.some.inj he
    have hrl : (rowS p x).length = p.D.toNat + 1 := by simp [rowS, hf, padded_len]
    cases hq : okm p.Q with
    | false => rw [dsum_no hq, dsum_no hq]; simp [mMul, hq]
    | true =>
      rw [dsum_psum hq _ _ _ _ (by omega), dsum_psum hq _ _ _ _ (by omega), psum_many hq l _ y _ n hn, mNum_ok hq, mNum_ok hq, mMul, if_pos hq, mod_left]

end Go.Proofs.Ytnmadmcegdpecaa
