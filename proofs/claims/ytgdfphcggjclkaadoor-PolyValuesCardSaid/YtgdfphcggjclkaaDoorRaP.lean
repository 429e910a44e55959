/-
  Rows, and what they come to, plainly: rows by where they begin. (No program in sight; any number q.)
-/
import Derived.Test.YtgdfphcggjclkaaDoorPlain
namespace Go.Proofs.YtgdfphcggjclkaaDoor

abbrev nth (l : List Int) (j : Nat) : Int := l.getD j 0
theorem nth_lt {l : List Int} {j : Nat} (h : j < l.length) : nth l j = l[j] := by simp [nth, h]
theorem nth_ge {l : List Int} {j : Nat} (h : l.length ≤ j) : nth l j = 0 := by simp [nth, List.getElem?_eq_none h]
theorem nth_ext {l k : List Int} (h : l.length = k.length) (h2 : ∀ j, j < l.length → nth l j = nth k j) : l = k := by
  apply List.ext_getElem h
  intro j h1 h3
  have := h2 j h1
  rwa [nth_lt h1, nth_lt h3] at this
/-- f of each place. -/
def tabL (n : Nat) (f : Nat → Int) : List Int := (List.range n).map f
theorem tabL_len (n : Nat) (f : Nat → Int) : (tabL n f).length = n := by simp [tabL]
theorem tabL_at {n : Nat} {f : Nat → Int} {j : Nat} (h : j < n) : nth (tabL n f) j = f j := by simp [nth, tabL, h]
/-- a row of its own, as wide as all. -/
def redL (W : Nat) (q : Int) (row : List Int) : List Int := tabL (max W row.length) fun j => nth row j % q
/-- a row less so many times another one. -/
def lessL (q : Int) (row other : List Int) (t : Int) : List Int := tabL row.length fun j => if j < other.length then (nth row j - nth other j * t) % q else nth row j
theorem lessL_len (q : Int) (row other : List Int) (t : Int) : (lessL q row other t).length = row.length := tabL_len _ _
theorem lessL_at (q : Int) (row other : List Int) (t : Int) (j : Nat) : nth (lessL q row other t) j = if j < row.length ∧ j < other.length then (nth row j - nth other j * t) % q else nth row j := by
  by_cases h : j < row.length
  · unfold lessL
    rw [tabL_at h]
    by_cases h2 : j < other.length
    · rw [if_pos h2, if_pos ⟨h, h2⟩]
    · rw [if_neg h2, if_neg (fun e => h2 e.2)]
  · rw [if_neg (fun e => h e.1), nth_ge (by rw [lessL_len]; omega), nth_ge (by omega)]
/-- a row, and where it begins. -/
structure En where
  at_ : Nat
  row : List Int
/-- one row's part is taken off. -/
def stepL (q : Int) (o : List Int) (p : En) : List Int := lessL q o p.row (nth o p.at_)
theorem stepL_len (q : Int) (o : List Int) (p : En) : (stepL q o p).length = o.length := lessL_len ..
def leftL (q : Int) (W : Nat) (S : List En) (row : List Int) : List Int := S.foldl (stepL q) (redL W q row)
theorem foldl_len (q : Int) (S : List En) : ∀ o : List Int, (S.foldl (stepL q) o).length = o.length := by
  induction S with
  | nil => intro o; rfl
  | cons p S ih => intro o; rw [List.foldl_cons, ih, stepL_len]
theorem leftL_len (q : Int) (W : Nat) (S : List En) (row : List Int) : (leftL q W S row).length = max W row.length := by
  unfold leftL
  rw [foldl_len, redL, tabL_len]
/-- where a row begins. -/
def firstL (o : List Int) : Option Nat := o.findIdx? fun x => decide (x ≠ 0)
theorem firstL_some {o : List Int} {at_ : Nat} (h : firstL o = some at_) : at_ < o.length ∧ nth o at_ ≠ 0 := by
  unfold firstL at h
  rw [List.findIdx?_eq_some_iff_getElem] at h
  obtain ⟨h1, h2, _⟩ := h
  refine ⟨h1, ?_⟩
  rw [nth_lt h1]
  simpa using h2
/-- the row, so many times. -/
def timesL (q : Int) (o : List Int) (b : Int) : List Int := tabL o.length fun j => nth o j * b % q
def putL (q : Int) (inv : Int → Int) (W : Nat) (S : List En) (row : List Int) : List En :=
  match firstL (leftL q W S row) with
  | none => S
  | some k => ⟨k, timesL q (leftL q W S row) (inv (nth (leftL q W S row) k))⟩ :: (S.map fun p => (⟨p.at_, lessL q p.row (timesL q (leftL q W S row) (inv (nth (leftL q W S row) k))) (nth p.row k)⟩ : En)).filter fun p => decide (p.at_ ≠ k)
def wideL (rows : List (List Int)) : Nat := rows.foldl (fun m r => max m r.length) 0
def spaceL (q : Int) (inv : Int → Int) (W : Nat) (rows : List (List Int)) : List En := rows.foldl (putL q inv W) []
def rankL (q : Int) (inv : Int → Int) (rows : List (List Int)) : Nat := (spaceL q inv (wideL rows) rows).length
def hangsL (q : Int) (inv : Int → Int) (rows : List (List Int)) (row : List Int) : Bool := (firstL (leftL q (wideL rows) (spaceL q inv (wideL rows) rows) row)).isNone

def ZeroL (r : List Int) : Prop := ∀ j, nth r j = 0
def RedL (q : Int) (r : List Int) : Prop := ∀ j, 0 ≤ nth r j ∧ nth r j < q
/-- what rows come to. -/
structure GoodS (q : Int) (W : Nat) (S : List En) : Prop where
  nd : S.Pairwise fun p p' => p.at_ ≠ p'.at_
  lt : ∀ p ∈ S, p.at_ < W
  len : ∀ p ∈ S, p.row.length = W
  red : ∀ p ∈ S, RedL q p.row
  piv : ∀ p ∈ S, ZeroL p.row ∨ nth p.row p.at_ = 1 ∧ ∀ p' ∈ S, p'.at_ ≠ p.at_ → nth p'.row p.at_ = 0
theorem GoodS.nil (q : Int) (W : Nat) : GoodS q W [] := ⟨.nil, (fun p h => by cases h), (fun p h => by cases h), (fun p h => by cases h), (fun p h => by cases h)⟩
theorem GoodS.perm {q : Int} {W : Nat} {S S' : List En} (h : GoodS q W S) (hp : S.Perm S') : GoodS q W S' := by
  obtain ⟨h1, h2, h3, h4, h5⟩ := h
  exact ⟨(hp.pairwise_iff fun {_ _} hne => Ne.symm hne).1 h1, fun p hm => h2 p (hp.mem_iff.2 hm), fun p hm => h3 p (hp.mem_iff.2 hm), fun p hm => h4 p (hp.mem_iff.2 hm), fun p hm => (h5 p (hp.mem_iff.2 hm)).imp id fun h => ⟨h.1, fun p' hp' => h.2 p' (hp.mem_iff.2 hp')⟩⟩
theorem key_one {S : List En} (h : S.Pairwise fun p p' => p.at_ ≠ p'.at_) {p p' : En} (hp : p ∈ S) (hp' : p' ∈ S) (he : p.at_ = p'.at_) : p = p' := by
  induction S with
  | nil => cases hp
  | cons x l ih =>
    obtain ⟨h1, h2⟩ := List.pairwise_cons.1 h
    rcases List.mem_cons.1 hp with e1 | hp1
    · rcases List.mem_cons.1 hp' with e2 | hp2
      · rw [e1, e2]
      · rw [e1] at he
        exact absurd he (h1 p' hp2)
    · rcases List.mem_cons.1 hp' with e2 | hp2
      · rw [e2] at he
        exact absurd he.symm (h1 p hp1)
      · exact ih h2 hp1 hp2
theorem emod_sub_cross (a b c d e q : Int) (h : e = 0) : ((a - b) % q - c * ((d - e) % q)) % q = (a - b - c * d) % q := by
  rw [h, Int.sub_zero]
  rw [Int.sub_emod, Int.emod_emod, Int.mul_emod, Int.emod_emod, ← Int.mul_emod, ← Int.sub_emod]
theorem step_at {q : Int} {o : List Int} {p : En} {W j : Nat} (h : p.row.length = W) : nth (stepL q o p) j = if j < o.length ∧ j < W then (nth o j - nth p.row j * nth o p.at_) % q else nth o j := by
  unfold stepL
  rw [lessL_at, h]
/-- two rows' parts may be taken off in either order. -/
theorem step_comm {q : Int} {W : Nat} {S : List En} (h : GoodS q W S) {p p' : En} (hp : p ∈ S) (hp' : p' ∈ S) (o : List Int) : stepL q (stepL q o p) p' = stepL q (stepL q o p') p := by
  by_cases hk : p.at_ = p'.at_
  · rw [key_one h.nd hp hp' hk]
  · apply nth_ext
    · rw [stepL_len, stepL_len, stepL_len, stepL_len]
    · intro j hj
      rw [stepL_len, stepL_len] at hj
      have e1 := h.len p hp
      have e2 := h.len p' hp'
      have s1 := fun z j => step_at (q := q) (o := z) (j := j) e1
      have s2 := fun z j => step_at (q := q) (o := z) (j := j) e2
      rw [s2 (stepL q o p) j, s1 (stepL q o p') j, stepL_len, stepL_len]
      by_cases hW : j < W
      · rw [if_pos ⟨hj, hW⟩, if_pos ⟨hj, hW⟩, s1 o j, s2 o j, if_pos ⟨hj, hW⟩, if_pos ⟨hj, hW⟩, s1 o p'.at_, s2 o p.at_]
        have c1 : nth p'.row j * (nth p.row p'.at_ * nth o p.at_) = 0 := by
          rcases h.piv p' hp' with hz | hz
          · rw [hz j, Int.zero_mul]
          · rw [hz.2 p hp hk, Int.zero_mul, Int.mul_zero]
        have c2 : nth p.row j * (nth p'.row p.at_ * nth o p'.at_) = 0 := by
          rcases h.piv p hp with hz | hz
          · rw [hz j, Int.zero_mul]
          · rw [hz.2 p' hp' (Ne.symm hk), Int.zero_mul, Int.mul_zero]
        have key : ∀ (x r r' y y' c : Int), r' * c = 0 → ((x - r * y) % q - r' * ((y' - c) % q)) % q = (x - r * y - r' * y') % q := by
          intro x r r' y y' c hc
          rw [Int.sub_emod, Int.emod_emod, Int.mul_emod, Int.emod_emod, ← Int.mul_emod, ← Int.sub_emod]
          congr 1
          rw [Int.mul_sub, hc, Int.sub_zero]
        have key2 : ∀ (x r r' y y' : Int), ((x - r * y) % q - r' * y') % q = (x - r * y - r' * y') % q := by
          intro x r r' y y'
          rw [Int.sub_emod, Int.emod_emod, ← Int.sub_emod]
        have hl : ((if p'.at_ < o.length ∧ p'.at_ < W then (nth o p'.at_ - nth p.row p'.at_ * nth o p.at_) % q else nth o p'.at_)) = (if p'.at_ < o.length then (nth o p'.at_ - nth p.row p'.at_ * nth o p.at_) % q else nth o p'.at_) := by
          have := h.lt p' hp'
          by_cases hh : p'.at_ < o.length
          · rw [if_pos ⟨hh, this⟩, if_pos hh]
          · rw [if_neg (fun e => hh e.1), if_neg hh]
        have hr : ((if p.at_ < o.length ∧ p.at_ < W then (nth o p.at_ - nth p'.row p.at_ * nth o p'.at_) % q else nth o p.at_)) = (if p.at_ < o.length then (nth o p.at_ - nth p'.row p.at_ * nth o p'.at_) % q else nth o p.at_) := by
          have := h.lt p hp
          by_cases hh : p.at_ < o.length
          · rw [if_pos ⟨hh, this⟩, if_pos hh]
          · rw [if_neg (fun e => hh e.1), if_neg hh]
        rw [hl, hr]
        have L : ((nth o j - nth p.row j * nth o p.at_) % q - nth p'.row j * (if p'.at_ < o.length then (nth o p'.at_ - nth p.row p'.at_ * nth o p.at_) % q else nth o p'.at_)) % q = (nth o j - nth p.row j * nth o p.at_ - nth p'.row j * nth o p'.at_) % q := by
          split
          · exact key _ _ _ _ _ _ c1
          · exact key2 _ _ _ _ _
        have R : ((nth o j - nth p'.row j * nth o p'.at_) % q - nth p.row j * (if p.at_ < o.length then (nth o p.at_ - nth p'.row p.at_ * nth o p'.at_) % q else nth o p.at_)) % q = (nth o j - nth p'.row j * nth o p'.at_ - nth p.row j * nth o p.at_) % q := by
          split
          · exact key _ _ _ _ _ _ c2
          · exact key2 _ _ _ _ _
        rw [L, R]
        congr 1
        omega
      · rw [if_neg (fun e => hW e.2), if_neg (fun e => hW e.2), s1 o j, s2 o j, if_neg (fun e => hW e.2), if_neg (fun e => hW e.2)]
theorem foldl_perm {q : Int} {W : Nat} : ∀ {S S' : List En}, S.Perm S' → GoodS q W S → ∀ o, S.foldl (stepL q) o = S'.foldl (stepL q) o := by
  intro S S' hp hG o
  refine List.Perm.foldl_eq' hp ?_ o
  intro p hp1 p' hp2 z
  exact step_comm hG hp1 hp2 z
/-- what is left: reduced, and 0 where a row of the others begins. -/
theorem foldl_red {q : Int} (hq : 0 < q) (S : List En) : ∀ o : List Int, RedL q o → RedL q (S.foldl (stepL q) o) := by
  induction S with
  | nil => intro o h; exact h
  | cons p S ih =>
    intro o h
    rw [List.foldl_cons]
    refine ih _ fun j => ?_
    unfold stepL
    rw [lessL_at]
    split
    · exact ⟨Int.emod_nonneg _ (by omega), Int.emod_lt_of_pos _ hq⟩
    · exact h j
theorem redL_red {q : Int} (hq : 0 < q) (W : Nat) (row : List Int) : RedL q (redL W q row) := by
  intro j
  by_cases h : j < max W row.length
  · unfold redL
    rw [tabL_at h]
    exact ⟨Int.emod_nonneg _ (by omega), Int.emod_lt_of_pos _ hq⟩
  · rw [nth_ge (by unfold redL; rw [tabL_len]; omega)]
    exact ⟨Int.le_refl 0, hq⟩
theorem leftL_red {q : Int} (hq : 0 < q) (W : Nat) (S : List En) (row : List Int) : RedL q (leftL q W S row) := foldl_red hq S _ (redL_red hq W row)
theorem foldl_zero {q : Int} {W : Nat} {S : List En} (hG : GoodS q W S) {p : En} (hp : p ∈ S) (h1 : nth p.row p.at_ = 1) (h2 : ∀ p' ∈ S, p'.at_ ≠ p.at_ → nth p'.row p.at_ = 0) :
    ∀ (l : List En) (o : List Int), (∀ x ∈ l, x ∈ S) → RedL q o → (p ∈ l ∨ nth o p.at_ = 0) → nth (l.foldl (stepL q) o) p.at_ = 0 := by
  intro l
  induction l with
  | nil => intro o _ _ h; rcases h with h | h; cases h; exact h
  | cons x l ih =>
    intro o hl hr h
    rw [List.foldl_cons]
    have hq : 0 < q := by have := hr 0; omega
    have hxS := hl x (List.mem_cons_self ..)
    have hr2 := foldl_red hq [x] o hr
    refine ih _ (fun y hy => hl y (List.mem_cons_of_mem _ hy)) hr2 ?_
    by_cases hx : x.at_ = p.at_
    · right
      obtain rfl := key_one hG.nd hxS hp hx
      unfold stepL
      rw [lessL_at]
      split
      · rw [h1, Int.one_mul, Int.sub_self]; simp
      · rename_i hn
        rw [nth_ge]
        rw [hG.len x hp] at hn
        have := hG.lt x hp
        omega
    · rcases h with h | h
      · rcases List.mem_cons.1 h with rfl | h
        · exact absurd rfl hx
        · exact .inl h
      · right
        unfold stepL
        rw [lessL_at]
        split
        · rw [h, h2 x hxS hx, Int.zero_mul, Int.sub_self]; simp
        · exact h
/-- an inverse, or 0. -/
structure InvOf (q : Int) (inv : Int → Int) : Prop where
  one : ∀ x, inv x = 0 ∨ x * inv x % q = 1
theorem put_good {q : Int} {inv : Int → Int} (hq : 0 < q) (hI : InvOf q inv) {W : Nat} {S : List En} (hG : GoodS q W S) {row : List Int} (hr : row.length ≤ W) : GoodS q W (putL q inv W S row) := by
  unfold putL
  have hlen : (leftL q W S row).length = W := by rw [leftL_len]; omega
  have hred := leftL_red hq W S row
  have hz : ∀ p ∈ S, (nth p.row p.at_ = 1 ∧ ∀ p' ∈ S, p'.at_ ≠ p.at_ → nth p'.row p.at_ = 0) → nth (leftL q W S row) p.at_ = 0 := fun p hp h => foldl_zero hG hp h.1 h.2 S _ (fun _ h => h) (redL_red hq W row) (.inl hp)
  generalize leftL q W S row = o at *
  cases hf : firstL o with
  | none => exact hG
  | some k =>
    obtain ⟨hk1, hk2⟩ := firstL_some hf
    rw [hlen] at hk1
    simp only
    have htl : (timesL q o (inv (nth o k))).length = W := by unfold timesL; rw [tabL_len, hlen]
    have hta : ∀ j, nth (timesL q o (inv (nth o k))) j = nth o j * inv (nth o k) % q := by
      intro j
      by_cases hj : j < o.length
      · unfold timesL; rw [tabL_at hj]
      · rw [nth_ge (by rw [htl]; omega), nth_ge (l := o) (by omega), Int.zero_mul]; simp
    have hr1 : ZeroL (timesL q o (inv (nth o k))) ∨ nth (timesL q o (inv (nth o k))) k = 1 := by
      rcases hI.one (nth o k) with h | h
      · left; intro j; rw [hta, h, Int.mul_zero]; simp
      · right; rw [hta]; exact h
    have hrz : ∀ p ∈ S, (nth p.row p.at_ = 1 ∧ ∀ p' ∈ S, p'.at_ ≠ p.at_ → nth p'.row p.at_ = 0) → nth (timesL q o (inv (nth o k))) p.at_ = 0 := fun p hp h => by rw [hta, hz p hp h, Int.zero_mul]; simp
    have hrr : RedL q (timesL q o (inv (nth o k))) := fun j => by rw [hta]; exact ⟨Int.emod_nonneg _ (by omega), Int.emod_lt_of_pos _ hq⟩
    generalize timesL q o (inv (nth o k)) = r at *
    have hmem : ∀ x ∈ (S.map fun p => (⟨p.at_, lessL q p.row r (nth p.row k)⟩ : En)).filter fun p => decide (p.at_ ≠ k), x.at_ ≠ k ∧ ∃ p ∈ S, x = ⟨p.at_, lessL q p.row r (nth p.row k)⟩ := by
      intro x hx
      obtain ⟨h1, h2⟩ := List.mem_filter.1 hx
      obtain ⟨p, hp, rfl⟩ := List.mem_map.1 h1
      exact ⟨by simpa using h2, p, hp, rfl⟩
    have hat : ∀ p ∈ S, ∀ j, nth (lessL q p.row r (nth p.row k)) j = if j < W then (nth p.row j - nth r j * nth p.row k) % q else 0 := by
      intro p hp j
      rw [lessL_at, hG.len p hp, htl]
      by_cases hj : j < W
      · rw [if_pos ⟨hj, hj⟩, if_pos hj]
      · rw [if_neg (fun e => hj e.1), if_neg hj, nth_ge (by rw [hG.len p hp]; omega)]
    refine ⟨?_, ?_, ?_, ?_, ?_⟩
    · refine List.pairwise_cons.2 ⟨fun x hx => Ne.symm (hmem x hx).1, ?_⟩
      refine List.Pairwise.filter _ ?_
      rw [List.pairwise_map]
      exact hG.nd
    · intro x hx
      rcases List.mem_cons.1 hx with rfl | hx
      · exact hk1
      · obtain ⟨_, p, hp, rfl⟩ := hmem x hx
        exact hG.lt p hp
    · intro x hx
      rcases List.mem_cons.1 hx with rfl | hx
      · exact htl
      · obtain ⟨_, p, hp, rfl⟩ := hmem x hx
        show (lessL q p.row r (nth p.row k)).length = W
        rw [lessL_len]; exact hG.len p hp
    · intro x hx
      rcases List.mem_cons.1 hx with rfl | hx
      · exact hrr
      · obtain ⟨_, p, hp, rfl⟩ := hmem x hx
        intro j
        show 0 ≤ nth (lessL q p.row r (nth p.row k)) j ∧ nth (lessL q p.row r (nth p.row k)) j < q
        rw [hat p hp]
        split
        · exact ⟨Int.emod_nonneg _ (by omega), Int.emod_lt_of_pos _ hq⟩
        · exact ⟨Int.le_refl 0, hq⟩
    · intro x hx
      rcases List.mem_cons.1 hx with rfl | hx
      · rcases hr1 with h | h
        · exact .inl h
        · refine .inr ⟨h, fun x' hx' hne => ?_⟩
          rcases List.mem_cons.1 hx' with rfl | hx'
          · exact absurd rfl hne
          · obtain ⟨_, p, hp, rfl⟩ := hmem x' hx'
            show nth (lessL q p.row r (nth p.row k)) k = 0
            rw [hat p hp, if_pos hk1, h, Int.one_mul, Int.sub_self]; simp
      · obtain ⟨hne, p, hp, rfl⟩ := hmem x hx
        rcases hG.piv p hp with h | h
        · left
          intro j
          show nth (lessL q p.row r (nth p.row k)) j = 0
          rw [hat p hp]
          split
          · rw [h j, h k, Int.mul_zero, Int.sub_self]; simp
          · rfl
        · right
          have h0 := hrz p hp h
          refine ⟨?_, fun x' hx' hne' => ?_⟩
          · show nth (lessL q p.row r (nth p.row k)) p.at_ = 1
            have h1 := hG.red p hp p.at_
            rw [h.1] at h1
            rw [hat p hp, if_pos (hG.lt p hp), h.1, h0, Int.zero_mul, Int.sub_zero]
            exact Int.emod_eq_of_lt (by omega) h1.2
          · rcases List.mem_cons.1 hx' with rfl | hx'
            · exact h0
            · obtain ⟨_, p', hp', rfl⟩ := hmem x' hx'
              show nth (lessL q p'.row r (nth p'.row k)) p.at_ = 0
              rw [hat p' hp', if_pos (hG.lt p hp), h.2 p' hp' hne', h0, Int.zero_mul, Int.sub_zero]; simp
theorem space_good {q : Int} {inv : Int → Int} (hq : 0 < q) (hI : InvOf q inv) {W : Nat} : ∀ (rows : List (List Int)) (S : List En), GoodS q W S → (∀ r ∈ rows, r.length ≤ W) → GoodS q W (rows.foldl (putL q inv W) S)
  | [], _, h, _ => h
  | r :: rows, S, h, hl => by
    rw [List.foldl_cons]
    exact space_good hq hI rows _ (put_good hq hI h (hl r (List.mem_cons_self ..))) fun x hx => hl x (List.mem_cons_of_mem _ hx)
theorem wideL_le (rows : List (List Int)) : ∀ r ∈ rows, r.length ≤ wideL rows := by
  have key : ∀ (rows : List (List Int)) (m : Nat), m ≤ rows.foldl (fun m r => max m r.length) m ∧ ∀ r ∈ rows, r.length ≤ rows.foldl (fun m r => max m r.length) m := by
    intro rows
    induction rows with
    | nil => intro m; exact ⟨Nat.le_refl _, fun r h => by cases h⟩
    | cons r rows ih =>
      intro m
      rw [List.foldl_cons]
      obtain ⟨h1, h2⟩ := ih (max m r.length)
      refine ⟨by omega, fun x hx => ?_⟩
      rcases List.mem_cons.1 hx with rfl | hx
      · omega
      · exact h2 x hx
  exact (key rows 0).2
/-- of as many rows at most as wide. -/
theorem good_len {q : Int} {W : Nat} {S : List En} (h : GoodS q W S) : S.length ≤ W := by
  have key : ∀ (n : Nat) (L : List Nat), L.Nodup → (∀ a ∈ L, a < n) → L.length ≤ n := by
    intro n
    induction n with
    | zero =>
      intro L _ h
      cases L with
      | nil => simp
      | cons a L => have := h a (List.mem_cons_self ..); omega
    | succ n ih =>
      intro L hn h
      by_cases hm : n ∈ L
      · have h1 := ih (L.erase n) (hn.erase _) fun a ha => by
          have h2 := (hn.mem_erase_iff).1 ha
          have h3 := h a h2.2
          have := h2.1
          omega
        have h4 := List.length_erase_of_mem hm
        omega
      · have := ih L hn fun a ha => by
          have h3 := h a ha
          have : a ≠ n := fun e => hm (e ▸ ha)
          omega
        omega
  have := key W (S.map En.at_) (by unfold List.Nodup; rw [List.pairwise_map]; exact h.nd) fun a ha => by
    obtain ⟨p, hp, rfl⟩ := List.mem_map.1 ha
    exact h.lt p hp
  rwa [List.length_map] at this
end Go.Proofs.YtgdfphcggjclkaaDoor
