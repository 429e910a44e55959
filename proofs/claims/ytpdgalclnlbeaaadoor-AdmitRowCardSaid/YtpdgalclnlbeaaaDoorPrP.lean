/-
  Powers and the primes' test, plainly, so that they can be reckoned. (No program in sight.)
-/
import Derived.Test.YtpdgalclnlbeaaaDoorPlain
import Derived.Shelf.Spec.TrailingZeros
namespace Go.Proofs.YtpdgalclnlbeaaaDoor
open Go

/-- a power, as it is reckoned. -/
def powF (m : Int) : Nat → Int → Int → Nat → Int
  | 0, out, _, _ => out
  | f + 1, out, a, e => if e = 0 then out else powF m f (if e % 2 = 1 then mMul out a m else out) (mMul a a m) (e / 2)
theorem powF_done (m : Int) (f : Nat) (out a : Int) : powF m f out a 0 = out := by
  cases f with
  | zero => rfl
  | succ f => rfl
theorem powF_odd {m : Int} {f : Nat} {out a : Int} {e : Nat} (h : e % 2 = 1) : powF m (f + 1) out a e = powF m f (mMul out a m) (mMul a a m) (e / 2) := by
  rw [powF, if_neg (by omega), if_pos h]
theorem powF_even {m : Int} {f : Nat} {out a : Int} {e : Nat} (h0 : e ≠ 0) (h : e % 2 = 0) : powF m (f + 1) out a e = powF m f out (mMul a a m) (e / 2) := by
  rw [powF, if_neg h0, if_neg (by omega)]
theorem powF_u64 {m : Int} : ∀ (f : Nat) (out a : Int) (e : Nat), U64 out → U64 (powF m f out a e)
  | 0, _, _, _, h => h
  | f + 1, out, a, e, h => by
    rw [powF]
    split
    · exact h
    · refine powF_u64 f _ _ _ ?_
      split
      · exact mMul_u64 ..
      · exact h
def powV (a : Int) (e : Nat) (m : Int) : Int := if okm m then powF m 64 (1 % m) a e else 0
theorem powV_u64 (a : Int) (e : Nat) (m : Int) : U64 (powV a e m) := by
  unfold powV
  split
  · rename_i h; exact powF_u64 _ _ _ _ (mod_u64 h)
  · exact ⟨by omega, by omega⟩
/-- squared again and again: does -1 come? -/
def mrT (n : Int) : Nat → Int → Bool
  | 0, _ => false
  | k + 1, x => if x = n - 1 then true else mrT n k (mMul x x n)
/-- one number is tried: what is known then. -/
def mrOne (n a : Int) (tw : Nat) : Option Bool :=
  if n % a = 0 then some (decide (n = a)) else if powV a ((n - 1).toNat / 2 ^ tw) n = 1 then none else if mrT n tw (powV a ((n - 1).toNat / 2 ^ tw) n) then none else some false
def mrAll (n : Int) (tw : Nat) : List Int → Bool
  | [] => true
  | a :: l => match mrOne n a tw with
    | some b => b
    | none => mrAll n tw l
def triedL : List Int := [2, 3, 5, 7, 11, 13, 17, 19, 23, 29, 31, 37]
def primeV (n : Int) : Bool := if n < 2 ∨ 2305843009213693952 < n then false else mrAll n (Lib.ctz 64 (n - 1).toNat) triedL
theorem primeV_ge {n : Int} (h : primeV n = true) : 2 ≤ n ∧ n ≤ 2305843009213693952 := by
  unfold primeV at h
  split at h
  · cases h
  · omega
theorem prime_7 : primeV 7 = true := by decide +kernel
theorem prime_big : primeV 2305843009213693951 = true := by decide +kernel
theorem prime_9 : primeV 9 = false := by decide +kernel
theorem prime_91 : primeV 91 = false := by decide +kernel
end Go.Proofs.YtpdgalclnlbeaaaDoor
