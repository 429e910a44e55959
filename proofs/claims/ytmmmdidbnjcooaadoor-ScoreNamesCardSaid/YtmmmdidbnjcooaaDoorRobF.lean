/-
  What Decode tells, at given numbers: by a reckoning that Lean's kernel can do.
-/
import Derived.Test.YtmmmdidbnjcooaaDoorRobE
import Derived.Test.YtmmmdidbnjcooaaDoorRaF
namespace Go.Proofs.YtmmmdidbnjcooaaDoor
open Go.RowKit

def unB (q a : Int) : Bool := (List.range q.toNat).any fun (y : Nat) => decide ((y : Int) * a % q = 1 % q)
theorem unB_iff {q a : Int} (h : 0 < q) : unB q a = true ↔ Un a q := by
  unfold unB Un
  rw [List.any_eq_true]
  constructor
  · rintro ⟨y, _, hy⟩
    exact ⟨y, of_decide_eq_true hy⟩
  · rintro ⟨x, hx⟩
    have h1 := Int.emod_nonneg x (show q ≠ 0 by omega)
    have h2 := Int.emod_lt_of_pos x h
    refine ⟨(x % q).toNat, List.mem_range.2 (by omega), decide_eq_true ?_⟩
    rw [Int.toNat_of_nonneg h1, ml_mul]
    exact hx
def apartB : List Int → Int → Bool
  | [], _ => true
  | a :: l, q => (l.all fun b => unB q (b - a)) && apartB l q
theorem apartB_iff {q : Int} (h : 0 < q) : ∀ xs : List Int, apartB xs q = true ↔ Apart xs q
  | [] => by simp [apartB, Apart]
  | a :: l => by
    unfold apartB Apart
    rw [Bool.and_eq_true, apartB_iff h l, List.pairwise_cons, List.all_eq_true]
    constructor
    · rintro ⟨h1, h2⟩
      exact ⟨fun b hb => (unB_iff h).1 (h1 b hb), h2⟩
    · rintro ⟨h1, h2⟩
      exact ⟨fun b hb => (unB_iff h).2 (h1 b hb), h2⟩
def eAllV (xs : List Int) (q : Int) : Int := if eUnlike xs q = 0 then (if apartB xs q = true then 0 else 5) else eUnlike xs q
theorem eAll_V {xs : List Int} {q : Int} (h : 0 < q) : eAll xs q = eAllV xs q := by
  unfold eAllV
  by_cases h0 : eUnlike xs q = 0
  · rw [if_pos h0]
    by_cases h1 : Apart xs q
    · rw [eAll_yes h0 h1, if_pos ((apartB_iff h xs).2 h1)]
    · rw [eAll_no h0 h1, if_neg (fun h2 => h1 ((apartB_iff h xs).1 h2))]
  · rw [eAll_bad h0, if_neg h0]
def pOutV (xs ys : List Int) (q : Int) : Nat → List Int
  | 0 => List.replicate xs.length 0
  | k + 1 => pSum (pOutV xs ys q k) (pScale (withoutL (pAll xs q) (xs.getD k 0) q) (mMul (invS q (mProd (but xs k) (xs.getD k 0) q)) (ys.getD k 0) q) q) q
theorem pOut_V {q : Int} (h : okm q = true) (h2 : 2 ≤ q) (xs ys : List Int) : ∀ k, pOut xs ys q k = pOutV xs ys q k
  | 0 => rfl
  | k + 1 => by rw [pOut, pOutV, pOut_V h h2 xs ys k, iVal_invS h h2]
def tErrV (xs ys : List Int) (q : Int) : Int := if xs.length = ys.length then eAllV xs q else 1
def tValV (xs ys : List Int) (q : Int) : List Int := if tErrV xs ys q = 0 then pOutV xs ys q xs.length else []
theorem tErr_V {q : Int} (h : 0 < q) (xs ys : List Int) : tErr xs ys q = tErrV xs ys q := by unfold tErr tErrV; rw [eAll_V h]
theorem tVal_V {q : Int} (h : okm q = true) (h2 : 2 ≤ q) (xs ys : List Int) : tVal xs ys q = tValV xs ys q := by unfold tVal tValV; rw [tErr_V (by omega), pOut_V h h2]
def tryV (xs ys : List Int) (t q : Int) (s : List Nat) : Option (List Int × List Nat × Int) :=
  if tErrV (pick xs s) (pick ys s) q = 0 then
    if (xs.length : Int) - (offL xs ys (tValV (pick xs s) (pick ys s) q) q).length > 2 * t then some (tValV (pick xs s) (pick ys s) q, offL xs ys (tValV (pick xs s) (pick ys s) q) q, 0) else none
  else some ([], [], tErrV (pick xs s) (pick ys s) q)
theorem try_V {q : Int} (h : okm q = true) (h2 : 2 ≤ q) (xs ys : List Int) (t : Int) : tryS xs ys t q = tryV xs ys t q := by
  funext s
  unfold tryS tryV
  rw [tErr_V (by omega), tVal_V h h2]
def decV (xs ys : List Int) (t q : Int) : List Int × List Nat × Int :=
  if t < 0 ∨ t > 2 ∨ xs.length ≠ ys.length ∨ primeV q = false then ([], [], 1)
  else if xs.length > 7 then ([], [], 40)
  else if eAllV xs q ≠ 0 then ([], [], eAllV xs q)
  else ((setsL (t.toNat + 1) 0 xs.length).findSome? (tryV xs ys t q)).getD ([], [], 5)
theorem decR_V (xs ys : List Int) (t q : Int) : decR xs ys t q = decV xs ys t q := by
  unfold decR decV
  by_cases h : t < 0 ∨ t > 2 ∨ xs.length ≠ ys.length ∨ primeV q = false
  · rw [if_pos h, if_pos h]
  · rw [if_neg h, if_neg h]
    have hp : primeV q = true := by
      cases hq : primeV q with
      | true => rfl
      | false => exact absurd (.inr (.inr (.inr hq))) h
    obtain ⟨h1, h2⟩ := okm_prime hp
    rw [eAll_V (by omega), try_V h1 h2]
theorem ro_1 : decR [1, 2, 3, 4] [5, 7, 0, 1] 1 11 = ([], [], 5) := by rw [decR_V]; decide +kernel
theorem ro_2 : decR [1, 2, 3, 4] [5, 7, 9, 1] 1 11 = ([3, 2], [3], 0) := by rw [decR_V]; decide +kernel
theorem ro_3 : decR [1, 2, 3, 4] [4, 6, 6, 4] 0 11 = ([4], [1, 2], 0) := by rw [decR_V]; decide +kernel
end Go.Proofs.YtmmmdidbnjcooaaDoor
