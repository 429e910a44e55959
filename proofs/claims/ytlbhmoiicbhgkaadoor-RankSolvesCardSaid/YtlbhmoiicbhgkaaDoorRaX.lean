/-
  Equations modulo a prime: what is told solves them; there is a solution just if the right hangs on the columns. (No program in sight.)
-/
import Derived.Test.YtlbhmoiicbhgkaaDoorRnkQ6
import Derived.Test.YtlbhmoiicbhgkaaDoorRnkQ5

namespace Go.Proofs.YtlbhmoiicbhgkaaDoor
open Go Go.Lin Go.Psi
section
variable {N : Nat} [h0 : NeZero N]
/-- a sum of the first n. -/
def fsum (N : Nat) [NeZero N] : Nat → (Nat → Fin N) → Fin N
  | 0, _ => 0
  | n + 1, g => fsum N n g + g n
theorem fsum_congr {g h : Nat → Fin N} : ∀ {n : Nat}, (∀ j, j < n → g j = h j) → fsum N n g = fsum N n h
  | 0, _ => rfl
  | n + 1, e => by
    unfold fsum
    rw [fsum_congr fun j hj => e j (by omega), e n (by omega)]
theorem fsum_comb (c : Fin N) (g h : Nat → Fin N) : ∀ n : Nat, fsum N n (fun j => c * g j + h j) = c * fsum N n g + fsum N n h
  | 0 => by unfold fsum; grind
  | n + 1 => by
    unfold fsum
    rw [fsum_comb c g h n]
    grind
theorem fsum_zero {g : Nat → Fin N} : ∀ {n : Nat}, (∀ j, j < n → g j = 0) → fsum N n g = 0
  | 0, _ => rfl
  | n + 1, e => by
    unfold fsum
    rw [fsum_zero fun j hj => e j (by omega), e n (by omega)]
    grind
theorem fsum_one {g : Nat → Fin N} {k : Nat} : ∀ {n : Nat}, k < n → (∀ j, j < n → j ≠ k → g j = 0) → fsum N n g = g k
  | 0, h, _ => by omega
  | n + 1, h, e => by
    unfold fsum
    by_cases hk : k = n
    · subst hk
      rw [fsum_zero fun j hj => e j (by omega) (by omega)]
      grind
    · rw [fsum_one (k := k) (by omega) fun j hj hne => e j (by omega) hne, e n (by omega) (by omega)]
      grind
theorem fsum_more {g : Nat → Fin N} {m : Nat} : ∀ {n : Nat}, m ≤ n → (∀ j, m ≤ j → g j = 0) → fsum N n g = fsum N m g
  | 0, h, _ => by
    obtain rfl : m = 0 := by omega
    rfl
  | n + 1, h, e => by
    by_cases hm : m = n + 1
    · rw [hm]
    · show fsum N n g + g n = fsum N m g
      rw [fsum_more (by omega) e, e n (by omega)]
      grind
/-- what holds of rows, and goes along, holds of all that hangs on them. -/
theorem Sp.lin {R : List (V N)} {P : V N → Prop} (hz : ∀ v : V N, (∀ j, v j = 0) → P v) (ha : ∀ (c : Fin N) (r u w : V N), P r → P u → (∀ j, w j = c * r j + u j) → P w) (hr : ∀ r ∈ R, P r) {v : V N} (h : Sp R v) : P v := by
  induction h with
  | zero => exact hz _ fun j => rfl
  | add c hm _ e ih => exact ha c _ _ _ (hr _ hm) ih e
/-- y solves a row whose right stands at W. -/
def Sol (W : Nat) (y : Nat → Fin N) (v : V N) : Prop := v W = fsum N W fun j => v j * y j
theorem Sol.sp {W : Nat} {y : Nat → Fin N} {R : List (V N)} (hr : ∀ r ∈ R, Sol W y r) {v : V N} (h : Sp R v) : Sol W y v := by
  refine Sp.lin (fun v hv => ?_) (fun c r u w h1 h2 e => ?_) hr h
  · unfold Sol
    rw [hv W, fsum_zero fun j _ => by rw [hv j]; grind]
  · unfold Sol at h1 h2 ⊢
    rw [e W, h1, h2, ← fsum_comb]
    exact fsum_congr fun j _ => by rw [e j]; grind
/-- the columns' sums. -/
theorem sp_range {M : Nat → V N} : ∀ {W : Nat} {v : V N}, Sp ((List.range W).map M) v ↔ ∃ y : Nat → Fin N, ∀ i, v i = fsum N W fun j => M j i * y j
  | 0, v => by
    constructor
    · intro h
      exact ⟨fun _ => 0, fun i => h.nil i⟩
    · rintro ⟨y, h⟩
      have e : v = fun _ => 0 := funext fun i => h i
      rw [e]
      exact Sp.zero
  | W + 1, v => by
    have e : ∀ r, r ∈ (List.range (W + 1)).map M ↔ r ∈ M W :: (List.range W).map M := fun r => by
      rw [List.range_succ, List.map_append, List.mem_append, List.mem_cons]
      simp only [List.map_cons, List.map_nil, List.mem_singleton]
      exact Or.comm
    constructor
    · intro h
      obtain ⟨c, u, hu, hv⟩ := (Sp.mono (fun r hr => (e r).1 hr) h).split
      obtain ⟨y, hy⟩ := sp_range.1 hu
      refine ⟨fun j => if j = W then c else y j, fun i => ?_⟩
      rw [hv i, hy i]
      show c * M W i + _ = fsum N W (fun j => M j i * if j = W then c else y j) + M W i * (if W = W then c else y W)
      rw [if_pos rfl, fsum_congr (g := fun j => M j i * y j) (h := fun j => M j i * if j = W then c else y j) fun j hj => by rw [if_neg (by omega)]]
      grind
    · rintro ⟨y, h⟩
      have h1 : Sp ((List.range W).map M) fun i => fsum N W fun j => M j i * y j := sp_range.2 ⟨y, fun i => rfl⟩
      refine Sp.mono (fun r hr => (e r).2 hr) (Sp.comb (y W) (Sp.mem List.mem_cons_self) (h1.mono fun r hr => List.mem_cons_of_mem _ hr) fun i => ?_)
      rw [h i]
      show fsum N W _ + _ = _
      grind
end
/-- a row's product with a row. -/
def dotN (N : Nat) [NeZero N] (W : Nat) (row y : List Int) : Fin N := fsum N W fun j => vec N row j * vec N y j
theorem vec_withR {N : Nat} [NeZero N] {W : Nat} {row : List Int} (h : row.length ≤ W) (x : Int) (j : Nat) : vec N (withR W row x) j = if j = W then tf N x else vec N row j := by
  unfold vec withR
  by_cases hj : j < W + 1
  · rw [tabL_at hj]
    by_cases e : j = W
    · rw [if_pos e, if_pos e]
    · rw [if_neg e, if_neg e]
  · rw [nth_ge (by rw [tabL_len]; omega), if_neg (by omega), nth_ge (l := row) (by omega)]
theorem allR_at {W : Nat} {f : List (List Int)} {right : List Int} {i : Nat} (h : i < f.length) : withR W (f.getD i []) (nth right i) ∈ allR W f right f.length := by
  unfold allR
  exact List.mem_map.2 ⟨i, List.mem_range.2 h, rfl⟩
theorem wide_getD (f : List (List Int)) (i : Nat) : (f.getD i []).length ≤ wideL f := by
  rw [List.getD_eq_getElem?_getD]
  cases h : f[i]? with
  | none => exact Nat.zero_le _
  | some r => exact wideL_le f r (List.mem_of_getElem? h)
theorem wideL_most {k : Nat} {f : List (List Int)} (h : ∀ r ∈ f, r.length ≤ k) : wideL f ≤ k := by
  have key : ∀ (l : List (List Int)) (m : Nat), m ≤ k → (∀ r ∈ l, r.length ≤ k) → l.foldl (fun m r => max m r.length) m ≤ k := by
    intro l
    induction l with
    | nil => intro m hm _; exact hm
    | cons r l ih =>
      intro m hm hr
      exact ih _ (by have := hr r (by simp); show max m r.length ≤ k; omega) fun x hx => hr x (by simp [hx])
  exact key f 0 (Nat.zero_le _) h
/-- **What 'Solve' tells.** -/
theorem solve_law {q : Int} (hv : primeV q = true) (hp : Pr q.toNat) (f : List (List Int)) (right : List Int) (hr : right.length ≤ f.length) {N : Nat} [NeZero N] (hF : FQ q N) :
    (solveV f right q = ([], 5) ∧ ∀ y : Nat → Fin N, ¬ ∀ i, i < f.length → tf N (nth right i) = fsum N (wideL f) fun j => vec N (f.getD i []) j * y j) ∨
    ∃ out : List Int, solveV f right q = (out, 0) ∧ out.length = wideL f ∧ U64s out ∧ ∀ i, i < f.length → tf N (nth right i) = dotN N (wideL f) (f.getD i []) out := by
  obtain ⟨rfl, hfl, hio, hit⟩ := hF
  have hW := wideL_le (allR (wideL f) f right f.length)
  have hC := space_come (N := N) hio hit hW
  have hall : ∀ i, i < f.length → vec N (withR (wideL f) (f.getD i []) (nth right i)) ∈ (allR (wideL f) f right f.length).map (vec N) := fun i hi => List.mem_map_of_mem (allR_at hi)
  have hS : solveS f right N = spaceL N (iv N) (wideL (allR (wideL f) f right f.length)) (allR (wideL f) f right f.length) := rfl
  rw [← hS] at hC
  have hsol : ∀ (y : Nat → Fin N) (i : Nat), (tf N (nth right i) = fsum N (wideL f) fun j => vec N (f.getD i []) j * y j) ↔ Sol (wideL f) y (vec N (withR (wideL f) (f.getD i []) (nth right i))) := fun y i => by
    unfold Sol
    rw [vec_withR (wide_getD f i), if_pos rfl, fsum_congr (g := fun j => vec N (withR (wideL f) (f.getD i []) (nth right i)) j * y j) (h := fun j => vec N (f.getD i []) j * y j) fun j hj => by
      rw [vec_withR (wide_getD f i), if_neg (by omega)]]
  unfold solveV
  rw [if_pos ⟨hv, hr⟩]
  generalize solveS f right N = S at *
  by_cases hbad : ∃ p ∈ S, p.at_ = wideL f
  · left
    rw [if_pos hbad]
    refine ⟨rfl, fun y hy => ?_⟩
    obtain ⟨p, hp1, hp2⟩ := hbad
    have h1 : Sol (wideL f) y (vec N p.row) := by
      refine Sol.sp (R := (allR (wideL f) f right f.length).map (vec N)) (fun r hr => ?_) (hC.bas.sub _ (sb_mem hp1))
      obtain ⟨z, hz, rfl⟩ := List.mem_map.1 hr
      unfold allR at hz
      obtain ⟨i, hi, rfl⟩ := List.mem_map.1 hz
      exact (hsol y i).1 (hy i (List.mem_range.1 hi))
    have h2 := hC.bas.ech.one _ (sb_mem hp1)
    unfold Sol at h1
    rw [fsum_zero fun j hj => by rw [hC.low p hp1 j (by omega)]; grind] at h1
    simp only [hp2] at h2
    rw [h1] at h2
    exact hfl.one h2.symm
  · right
    rw [if_neg hbad]
    refine ⟨_, rfl, tabL_len .., fun z hz => ?_, fun i hi => ?_⟩
    · obtain ⟨h2, hle⟩ := primeV_ge hv
      unfold tabL at hz
      obtain ⟨j, _, rfl⟩ := List.mem_map.1 hz
      by_cases he : ∃ p ∈ S, p.at_ = j
      · obtain ⟨p, hp1, rfl⟩ := he
        rw [valAt_of hC.good.nd hp1]
        have := hC.good.red p hp1 (wideL f)
        exact ⟨this.1, by omega⟩
      · rw [valAt_no fun p hp1 e => he ⟨p, hp1, e⟩]
        exact ⟨by decide, by decide⟩
    · have hbas : ∀ e ∈ S, Sol (wideL f) (fun j => vec N (tabL (wideL f) (valAt S (wideL f))) j) (vec N e.row) := by
        intro p hp1
        have hone := hC.bas.ech.one _ (sb_mem hp1)
        simp only at hone
        have hlt : p.at_ < wideL f := by
          refine Decidable.byContradiction fun hn => ?_
          have h3 : vec N p.row p.at_ = 0 := by
            refine Sp.at_zero (hC.bas.sub _ (sb_mem hp1)) fun r hr => ?_
            obtain ⟨z, hz, rfl⟩ := List.mem_map.1 hr
            unfold allR at hz
            obtain ⟨i, _, rfl⟩ := List.mem_map.1 hz
            have h4 : p.at_ ≠ wideL f := fun e => hbad ⟨p, hp1, e⟩
            rw [vec_withR (wide_getD f i), if_neg h4, vec_ge (by have := wide_getD f i; omega)]
          rw [hone] at h3
          exact hfl.one h3
        unfold Sol
        rw [fsum_one (k := p.at_) hlt fun j hj hne => ?_]
        · rw [hone, Fin.one_mul]
          show _ = tf N (nth (tabL (wideL f) (valAt S (wideL f))) p.at_)
          rw [tabL_at hlt, valAt_of hC.good.nd hp1]
          rfl
        · by_cases he : ∃ p' ∈ S, p'.at_ = j
          · obtain ⟨p', hp2, rfl⟩ := he
            have h5 : vec N p.row p'.at_ = 0 := by
              rcases hC.good.piv p' hp2 with hz | ⟨_, hz⟩
              · have h6 := hC.bas.ech.one _ (sb_mem hp2)
                simp only at h6
                exfalso
                have h7 : vec N p'.row p'.at_ = 0 := by
                  show tf N (nth p'.row p'.at_) = 0
                  rw [hz, tf_zero]
                rw [h6] at h7
                exact hfl.one h7
              · show tf N (nth p.row p'.at_) = 0
                rw [hz p hp1 (Ne.symm hne), tf_zero]
            rw [h5]; grind
          · have h5 : vec N (tabL (wideL f) (valAt S (wideL f))) j = 0 := by
              show tf N (nth _ j) = 0
              rw [tabL_at hj, valAt_no fun p' hp2 e => he ⟨p', hp2, e⟩, tf_zero]
            show _ * vec N (tabL (wideL f) (valAt S (wideL f))) j = 0
            rw [h5]; grind
      have h1 := Sol.sp (R := (sb N S).map (·.2)) (fun r hr => by
        obtain ⟨e, he, rfl⟩ := List.mem_map.1 hr
        obtain ⟨p, hp1, rfl⟩ := List.mem_map.1 he
        exact hbas p hp1) (hC.bas.all _ (hall i hi))
      exact (hsol _ i).2 h1
/-- the statement's product of two rows. -/
def dotK (a b : List Int) (q : Int) : Nat → Int
  | 0 => 0
  | k + 1 => mAdd (dotK a b q k) (mMul (nth a k) (nth b k) q) q
def dotL (a b : List Int) (q : Int) : Int := dotK a b q (min a.length b.length)
theorem dotK_u64 (a b : List Int) (q : Int) : ∀ k, U64 (dotK a b q k)
  | 0 => ⟨Int.le_refl 0, by show (0 : Int) < _; decide⟩
  | k + 1 => mAdd_u64 _ _ _
theorem dotK_red {a b : List Int} {q : Int} (hq : okm q = true) : ∀ k, dotK a b q k % q = dotK a b q k
  | 0 => by unfold dotK; simp
  | k + 1 => by
    unfold dotK
    rw [mAdd_ok hq, Int.emod_emod_of_dvd _ (Int.dvd_refl q)]
theorem dotK_tf {N : Nat} [NeZero N] (hq : okm (N : Int) = true) (a b : List Int) : ∀ k, tf N (dotK a b N k) = fsum N k fun j => vec N a j * vec N b j
  | 0 => tf_zero
  | k + 1 => by
    unfold dotK fsum
    rw [mAdd_ok hq, mMul_ok hq, tf_mod, tf_add, tf_mod, tf_mul, dotK_tf hq a b k]
    rfl
theorem dotL_tf {N : Nat} [NeZero N] (hq : okm (N : Int) = true) {W : Nat} {a b : List Int} (h : a.length ≤ W) : tf N (dotL a b N) = dotN N W a b := by
  unfold dotL dotN
  rw [dotK_tf hq]
  exact (fsum_more (by omega) fun j hj => by
    rcases Nat.lt_or_ge j a.length with h1 | h1
    · rw [vec_ge (l := b) (by omega)]; grind
    · rw [vec_ge (l := a) h1]; grind).symm
/-- the right as a column. -/
def rtCol (right : List Int) (n : Nat) : List Int := right ++ List.replicate (n - right.length) 0
theorem rtCol_nth (right : List Int) (n i : Nat) : nth (rtCol right n) i = nth right i := by
  unfold rtCol nth
  simp only [List.getD_eq_getElem?_getD]
  rcases Nat.lt_or_ge i right.length with h | h
  · rw [List.getElem?_append_left h]
  · rw [List.getElem?_append_right h, List.getElem?_eq_none h, List.getElem?_replicate]
    split <;> rfl
theorem turn_vec {N : Nat} [NeZero N] (f : List (List Int)) (j i : Nat) : vec N ((List.range f.length).map fun i => nth (f.getD i []) j) i = if i < f.length then vec N (f.getD i []) j else 0 := by
  unfold vec
  by_cases h : i < f.length
  · rw [if_pos h]
    unfold nth
    rw [List.getD_eq_getElem?_getD, List.getElem?_map, List.getElem?_range h]
    rfl
  · rw [if_neg h, nth_ge (by simp; omega), tf_zero]
theorem col_hangs {q : Int} (hv : primeV q = true) (f : List (List Int)) (right : List Int) (hr : right.length ≤ f.length) {N : Nat} [NeZero N] (hF : FQ q N) :
    hangsV (turnL f) (rtCol right f.length) q = true ↔ ∃ y : Nat → Fin N, ∀ i, i < f.length → tf N (nth right i) = fsum N (wideL f) fun j => vec N (f.getD i []) j * y j := by
  rw [hF.hangs hv]
  unfold turnL
  rw [List.map_map]
  show Sp ((List.range (wideL f)).map fun j => vec N ((List.range f.length).map fun i => nth (f.getD i []) j)) _ ↔ _
  rw [sp_range]
  constructor
  · rintro ⟨y, h⟩
    refine ⟨y, fun i hi => ?_⟩
    have h1 := h i
    unfold vec at h1
    rw [rtCol_nth] at h1
    rw [h1]
    exact fsum_congr fun j _ => by
      have := turn_vec (N := N) f j i
      rw [if_pos hi] at this
      unfold vec at this ⊢
      rw [this]
  · rintro ⟨y, h⟩
    refine ⟨y, fun i => ?_⟩
    have e : ∀ j, vec N ((List.range f.length).map fun i => nth (f.getD i []) j) i * y j = (if i < f.length then vec N (f.getD i []) j else 0) * y j := fun j => by rw [turn_vec]
    rw [fsum_congr fun j _ => e j]
    unfold vec
    rw [rtCol_nth]
    by_cases hi : i < f.length
    · rw [h i hi]
      exact fsum_congr fun j _ => by rw [if_pos hi]; rfl
    · rw [nth_ge (l := right) (by omega), tf_zero, fsum_zero fun j _ => by rw [if_neg hi]; grind]
theorem getD_of {f : List (List Int)} {i : Nat} {r : List Int} (h : f[i]? = some r) : f.getD i [] = r ∧ i < f.length := by
  obtain ⟨h1, h2⟩ := List.getElem?_eq_some_iff.1 h
  exact ⟨by rw [List.getD_eq_getElem?_getD, h]; rfl, h1⟩
/-- **What is told solves the equations; there is a solution just if the right hangs on the columns.** -/
theorem solved_law {q : Int} (hv : primeV q = true) (hp : Pr q.toNat) (f : List (List Int)) (right : List Int) (hr : right.length ≤ f.length) :
    (solveV f right q = ([], 5) ∧ hangsV (turnL f) (rtCol right f.length) q = false) ∨
    ∃ out : List Int, solveV f right q = (out, 0) ∧ hangsV (turnL f) (rtCol right f.length) q = true ∧ out.length = wideL f ∧ U64s out ∧ ∀ (i : Nat) r, f[i]? = some r → dotL r out q = nth right i % q := by
  obtain ⟨N, hN, hF⟩ := fq_of hv hp
  have hok := (okm_prime hv).1
  have hc := col_hangs hv f right hr hF
  rcases solve_law hv hp f right hr hF with ⟨h1, h2⟩ | ⟨out, h1, h2, h3, h4⟩
  · refine .inl ⟨h1, ?_⟩
    cases hh : hangsV (turnL f) (rtCol right f.length) q with
    | false => rfl
    | true =>
      obtain ⟨y, hy⟩ := hc.1 hh
      exact absurd hy (h2 y)
  · refine .inr ⟨out, h1, hc.2 ⟨vec N out, h4⟩, h2, h3, fun i r hi => ?_⟩
    obtain ⟨e, hl⟩ := getD_of hi
    have h5 := h4 i hl
    obtain ⟨rfl, _, _, _⟩ := hF
    have hw := wide_getD f i
    rw [e] at h5 hw
    rw [← dotL_tf hok hw] at h5
    have h6 := tf_eq.1 h5
    rw [h6]
    unfold dotL
    exact (dotK_red hok _).symm
/-- **What comes of any unknowns has a solution.** -/
theorem come_law {q : Int} (hv : primeV q = true) (hp : Pr q.toNat) (f : List (List Int)) (x : List Int) :
    ∃ out : List Int, solveV f (f.map fun r => dotL r x q) q = (out, 0) ∧ out.length = wideL f ∧ U64s out ∧ ∀ (i : Nat) r, f[i]? = some r → dotL r out q = dotL r x q := by
  obtain ⟨N, hN, hF⟩ := fq_of hv hp
  have hok := (okm_prime hv).1
  have hn : ∀ i, i < f.length → nth (f.map fun r => dotL r x q) i = dotL (f.getD i []) x q := fun i hi => by
    unfold nth
    rw [List.getD_eq_getElem?_getD, List.getElem?_map, List.getD_eq_getElem?_getD, List.getElem?_eq_getElem hi]; rfl
  rcases solve_law hv hp f (f.map fun r => dotL r x q) (by rw [List.length_map]; exact Nat.le_refl _) hF with ⟨_, h2⟩ | ⟨out, h1, h2, h3, h4⟩
  · exfalso
    obtain ⟨rfl, _, _, _⟩ := hF
    refine h2 (vec N x) fun i hi => ?_
    rw [hn i hi, dotL_tf hok (wide_getD f i)]
    rfl
  · refine ⟨out, h1, h2, h3, fun i r hi => ?_⟩
    obtain ⟨e, hl⟩ := getD_of hi
    have h5 := h4 i hl
    rw [hn i hl, e] at h5
    obtain ⟨rfl, _, _, _⟩ := hF
    have hw := wide_getD f i
    rw [e] at hw
    rw [← dotL_tf hok hw] at h5
    have h6 := tf_eq.1 h5
    unfold dotL at h6 ⊢
    rw [dotK_red hok, dotK_red hok] at h6
    exact h6.symm
end Go.Proofs.YtlbhmoiicbhgkaaDoor
