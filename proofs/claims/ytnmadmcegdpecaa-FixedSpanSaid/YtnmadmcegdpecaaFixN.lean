/-
  The plain law of mixtures of queries. (No program in sight.)
-/
import Derived.Test.YtnmadmcegdpecaaFixR
namespace Go.Proofs.Ytnmadmcegdpecaa
open Go.RowKit

/-- a mixture of three queries. -/
def mixL (x y z : List Int) (a b : Int) (n : Nat) : List Int := (List.range n).map fun i => a * x.getD i 0 + b * y.getD i 0 + (1 - a - b) * z.getD i 0
theorem mixL_at (x y z : List Int) (a b : Int) {n i : Nat} (h : i < n) : (mixL x y z a b n).getD i 0 = a * x.getD i 0 + b * y.getD i 0 + (1 - a - b) * z.getD i 0 := by
  rw [List.getD_eq_getElem?_getD, mixL, List.getElem?_map, List.getElem?_range h]; rfl
theorem isum_mix (row x y z : List Int) (a b : Int) (n : Nat) : ∀ m, m ≤ n → isum row (mixL x y z a b n) m = a * isum row x m + b * isum row y m + (1 - a - b) * isum row z m
  | 0, _ => by simp [isum]
  | m + 1, h => by
    simp only [isum]
    rw [isum_mix row x y z a b n m (by omega), mixL_at x y z a b (show m < n by omega)]
    generalize row.getD m 0 = r
    generalize x.getD m 0 = x0
    generalize y.getD m 0 = y0
    generalize z.getD m 0 = z0
    generalize 1 - a - b = c
    have e1 : r * (a * x0 + b * y0 + c * z0) = a * (r * x0) + b * (r * y0) + c * (r * z0) := by
      rw [Int.mul_add, Int.mul_add, Int.mul_left_comm r a, Int.mul_left_comm r b, Int.mul_left_comm r c]
    rw [e1, Int.mul_add, Int.mul_add, Int.mul_add]
    omega

theorem scores_at {p : Par} {W : List (List Int)} {b x : List Int} (hF : Fair p W b) (hQ : FairQ p x) {k : Nat} {row : List Int} {s : Int} (hr : W[k]? = some row) (hs : b[k]? = some s) : (scoresS p W b x)[k]? = some (s + isum row x p.D.toNat) := by
  rw [scoresS, if_pos ⟨(mayB_iff p W b).2 hF, (query_iff p x).2 hQ⟩, score_at hs hr]
  have := (hF.rows row (List.mem_of_getElem? hr)).1
  rw [show row.length = p.D.toNat by omega]

/-- **alike on three queries: alike on their mixture.** -/
theorem span_law {p : Par} {W V : List (List Int)} {b c x y z : List Int} {m n : Int} (hF : Fair p W b) (hG : Fair p V c) (hx : FairQ p x) (hy : FairQ p y) (hz : FairQ p z)
    (e1 : scoresS p W b x = scoresS p V c x) (e2 : scoresS p W b y = scoresS p V c y) (e3 : scoresS p W b z = scoresS p V c z) (hm : FairQ p (mixL x y z m n x.length)) :
    scoresS p W b (mixL x y z m n x.length) = scoresS p V c (mixL x y z m n x.length) := by
  apply List.ext_getElem?
  intro k
  have hl := scores_len hF hm
  have hl' := scores_len hG hm
  rcases Nat.lt_or_ge k p.K.toNat with hk | hk
  · obtain ⟨r1, h1⟩ := get_of_lt (l := W) (show k < W.length by have := hF.lw; omega)
    obtain ⟨s1, h2⟩ := get_of_lt (l := b) (show k < b.length by have := hF.lb; omega)
    obtain ⟨r2, h3⟩ := get_of_lt (l := V) (show k < V.length by have := hG.lw; omega)
    obtain ⟨s2, h4⟩ := get_of_lt (l := c) (show k < c.length by have := hG.lb; omega)
    have hxl : p.D.toNat ≤ x.length := by have := hx.len; omega
    rw [scores_at hF hm h1 h2, scores_at hG hm h3 h4, isum_mix r1 x y z m n _ _ hxl, isum_mix r2 x y z m n _ _ hxl]
    have g1 := scores_at hF hx h1 h2
    have g2 := scores_at hF hy h1 h2
    have g3 := scores_at hF hz h1 h2
    rw [e1, scores_at hG hx h3 h4] at g1
    rw [e2, scores_at hG hy h3 h4] at g2
    rw [e3, scores_at hG hz h3 h4] at g3
    have g1' := Option.some.inj g1
    have g2' := Option.some.inj g2
    have g3' := Option.some.inj g3
    generalize isum r1 x p.D.toNat = a1 at *
    generalize isum r1 y p.D.toNat = a2 at *
    generalize isum r1 z p.D.toNat = a3 at *
    generalize isum r2 x p.D.toNat = c1 at *
    generalize isum r2 y p.D.toNat = c2 at *
    generalize isum r2 z p.D.toNat = c3 at *
    obtain rfl : a1 = s2 + c1 - s1 := by omega
    obtain rfl : a2 = s2 + c2 - s1 := by omega
    obtain rfl : a3 = s2 + c3 - s1 := by omega
    congr 1
    have key : ∀ u v d e : Int, u * (v + d - e) = u * d + u * (v - e) := fun u v d e => by
      rw [← Int.mul_add]; congr 1; omega
    rw [key, key, key]
    have sum1 : m * (s2 - s1) + n * (s2 - s1) + (1 - m - n) * (s2 - s1) = s2 - s1 := by
      rw [← Int.add_mul, ← Int.add_mul, show m + n + (1 - m - n) = 1 by omega, Int.one_mul]
    omega
  · rw [List.getElem?_eq_none (by omega), List.getElem?_eq_none (by omega)]

end Go.Proofs.Ytnmadmcegdpecaa
