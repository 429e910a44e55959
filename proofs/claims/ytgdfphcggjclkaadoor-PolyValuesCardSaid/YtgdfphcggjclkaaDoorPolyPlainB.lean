/-
  Parts of: XPolyPlain (by pick.py).
-/
import Derived.Test.YtgdfphcggjclkaaDoorPlain
namespace Go.Proofs.YtgdfphcggjclkaaDoor
/-! From XPolyPlain. -/

/-- the value over the whole numbers. -/
def ev : List Int → Int → Int
  | [], _ => 0
  | c :: l, x => c + x * ev l x
theorem ev_nil (x : Int) : ev [] x = 0 := rfl
theorem ev_cons (c : Int) (l : List Int) (x : Int) : ev (c :: l) x = c + x * ev l x := rfl
theorem ev_append (a b : List Int) (x : Int) : ev (a ++ b) x = ev a x + x ^ a.length * ev b x := by
  induction a with
  | nil => simp [ev]
  | cons c a ih => simp only [List.cons_append, ev_cons, ih, List.length_cons, Int.pow_succ]; grind
theorem ev_snoc (a : List Int) (c x : Int) : ev (a ++ [c]) x = ev a x + x ^ a.length * c := by
  rw [ev_append, ev_cons, ev_nil, Int.mul_zero, Int.add_zero]

/-- congruence modulo q. -/
theorem emod_add_congr {a b c d q : Int} (h : a % q = b % q) (k : c % q = d % q) : (a + c) % q = (b + d) % q := by
  rw [Int.add_emod, h, k, ← Int.add_emod]
theorem emod_mul_congr {a b c d q : Int} (h : a % q = b % q) (k : c % q = d % q) : (a * c) % q = (b * d) % q := by
  rw [Int.mul_emod, h, k, ← Int.mul_emod]
theorem emod_sub_congr {a b c d q : Int} (h : a % q = b % q) (k : c % q = d % q) : (a - c) % q = (b - d) % q := by
  rw [Int.sub_emod, h, k, ← Int.sub_emod]
theorem ev_congr {a b : List Int} {x y q : Int} (hx : x % q = y % q) (hl : a.map (· % q) = b.map (· % q)) : ev a x % q = ev b y % q := by
  induction a generalizing b with
  | nil =>
    cases b with
    | nil => rfl
    | cons d b => simp at hl
  | cons c a ih =>
    cases b with
    | nil => simp at hl
    | cons d b =>
      simp only [List.map_cons, List.cons.injEq] at hl
      rw [ev_cons, ev_cons]
      exact emod_add_congr hl.1 (emod_mul_congr hx (ih hl.2))

/-- the value modulo q. -/
def mEval (l : List Int) (x q : Int) : Int := if okm q then ev l x % q else 0
theorem mEval_ok {l : List Int} {x q : Int} (h : okm q = true) : mEval l x q = ev l x % q := by rw [mEval, if_pos h]
theorem mEval_no {l : List Int} {x q : Int} (h : okm q = false) : mEval l x q = 0 := by simp [mEval, h]
theorem mEval_u64 (l : List Int) (x q : Int) : U64 (mEval l x q) := by
  unfold mEval; split
  · exact mod_u64 ‹_›
  · exact ⟨by omega, by omega⟩
theorem mEval_nil (x q : Int) : mEval [] x q = 0 := by
  unfold mEval; split
  · rw [ev_nil, Int.zero_emod]
  · rfl
theorem mEval_cons (c : Int) (l : List Int) (x q : Int) : mEval (c :: l) x q = mAdd (mMul (mEval l x q) x q) c q := by
  unfold mEval mAdd mMul
  split
  · rw [ev_cons, Int.add_comm c, Int.mul_comm x]
    exact emod_add_congr (by rw [Int.emod_emod]; exact emod_mul_congr (by rw [Int.emod_emod]) rfl) rfl
  · rfl
theorem mEval_snoc (l : List Int) (c x q : Int) : mEval (l ++ [c]) x q = mAdd (mEval l x q) (mMul c (mPow x l.length q) q) q := by
  unfold mEval mAdd mMul mPow
  split
  · rw [ev_snoc, Int.mul_comm _ c]
    exact emod_add_congr (by rw [Int.emod_emod]) (by rw [Int.emod_emod]; exact emod_mul_congr rfl (by rw [Int.emod_emod]))
  · rfl
theorem mEval_congr {a b : List Int} {x y q : Int} (hx : x % q = y % q) (hl : a.map (· % q) = b.map (· % q)) : mEval a x q = mEval b y q := by
  unfold mEval; split
  · exact ev_congr hx hl
  · rfl
theorem take_snocP {α : Type} {l : List α} {k : Nat} {x : α} (h : l[k]? = some x) : l.take (k + 1) = l.take k ++ [x] := by
  rw [List.take_add_one, h]; rfl
theorem drop_cons' {α : Type} {l : List α} {k : Nat} {x : α} (h : l[k]? = some x) : l.drop k = x :: l.drop (k + 1) := by
  obtain ⟨hk, rfl⟩ := List.getElem?_eq_some_iff.1 h
  exact List.drop_eq_getElem_cons hk
theorem mEval_take {l : List Int} {k : Nat} {c : Int} (h : l[k]? = some c) (x q : Int) : mEval (l.take (k + 1)) x q = mAdd (mEval (l.take k) x q) (mMul c (mPow x k q) q) q := by
  have hk := (List.getElem?_eq_some_iff.1 h).1
  rw [take_snocP h, mEval_snoc, List.length_take, Nat.min_eq_left (by omega)]
theorem mEval_drop {l : List Int} {k : Nat} {c : Int} (h : l[k]? = some c) (x q : Int) : mEval (l.drop k) x q = mAdd (mMul (mEval (l.drop (k + 1)) x q) x q) c q := by
  rw [drop_cons' h, mEval_cons]

/-- 1 modulo q, made by a product; the round of a power. -/
theorem mPow_mul_one (x q : Int) : mMul 1 1 q = mPow x 0 q := by
  unfold mMul mPow; simp
theorem mPow_succ (x q : Int) (n : Nat) : mPow x (n + 1) q = mMul (mPow x n q) x q := by
  unfold mMul mPow
  split
  · rw [Int.pow_succ]
    exact emod_mul_congr (by rw [Int.emod_emod]) rfl
  · rfl

/-- a remainder within a sum, a product, a difference, of which the remainder is taken. -/
theorem ml_add (a b q : Int) : (a % q + b) % q = (a + b) % q := emod_add_congr (Int.emod_emod _ _) rfl
theorem mr_add (a b q : Int) : (a + b % q) % q = (a + b) % q := emod_add_congr rfl (Int.emod_emod _ _)
theorem ml_mul (a b q : Int) : (a % q * b) % q = (a * b) % q := emod_mul_congr (Int.emod_emod _ _) rfl
theorem mr_mul (a b q : Int) : (a * (b % q)) % q = (a * b) % q := emod_mul_congr rfl (Int.emod_emod _ _)
theorem ml_sub (a b q : Int) : (a % q - b) % q = (a - b) % q := emod_sub_congr (Int.emod_emod _ _) rfl
theorem mr_sub (a b q : Int) : (a - b % q) % q = (a - b) % q := emod_sub_congr rfl (Int.emod_emod _ _)

/-- a value at two places, term by term. -/
theorem inner_step (S E c X Y q : Int) : mAdd (mAdd S (mMul E X q) q) (mMul c (mMul X Y q) q) q = mAdd S (mMul (mAdd E (mMul c Y q) q) X q) q := by
  unfold mAdd mMul
  split
  · simp only [ml_add, mr_add, ml_mul, mr_mul]
    congr 1
    grind
  · rfl
theorem mMul_zero_l (X q : Int) : mMul 0 X q = 0 := by
  unfold mMul; split
  · rw [Int.zero_mul, Int.zero_emod]
  · rfl
theorem mAdd_zero_r {S q : Int} (h : S % q = S ∨ S = 0) : mAdd S 0 q = S ∨ okm q = false := by
  by_cases hq : okm q = true
  · left
    rw [mAdd_ok hq, Int.add_zero]
    rcases h with h | rfl
    · exact h
    · exact Int.zero_emod _
  · exact .inr (by simpa using hq)

/-- reduced modulo q: below q, or 0 where there are no numbers. -/
def Red (q x : Int) : Prop := if okm q then x % q = x else x = 0
theorem red_add (a b q : Int) : Red q (mAdd a b q) := by
  unfold Red mAdd; split
  · exact Int.emod_emod _ _
  · rfl
theorem red_mul (a b q : Int) : Red q (mMul a b q) := by
  unfold Red mMul; split
  · exact Int.emod_emod _ _
  · rfl
theorem red_eval (l : List Int) (x q : Int) : Red q (mEval l x q) := by
  unfold Red mEval; split
  · exact Int.emod_emod _ _
  · rfl
theorem red_zero (q : Int) : Red q 0 := by
  unfold Red; split
  · exact Int.zero_emod _
  · rfl
theorem Red.add_zero {q x : Int} (h : Red q x) : mAdd x 0 q = x := by
  unfold Red mAdd at *; split
  · rename_i hq; rw [if_pos hq] at h; rw [Int.add_zero, h]
  · rename_i hq; rw [if_neg hq] at h; exact h.symm

end Go.Proofs.YtgdfphcggjclkaaDoor
