/-
  What Decode tells, in plain terms: sets, fits, and that one polynomial fits. (No program in sight.)
-/
import Derived.Test.YtmmmdidbnjcooaaDoorRobF
namespace Go.Proofs.YtmmmdidbnjcooaaDoor
open Go.RowKit

theorem rising_len {n : Nat} : ∀ (r : List Nat) (a : Nat), r.Pairwise (· < ·) → (∀ i ∈ r, a ≤ i ∧ i < n) → r ≠ [] → a + r.length ≤ n
  | [], _, _, _, h => absurd rfl h
  | [x], a, _, h, _ => by have := h x (List.mem_singleton.2 rfl); simp; omega
  | x :: y :: r, a, hp, h, _ => by
    have h1 := h x (List.mem_cons_self ..)
    have h2 := List.pairwise_cons.1 hp
    have := rising_len (y :: r) (a + 1) h2.2 (fun i hi => ⟨by have := h2.1 i hi; omega, (h i (List.mem_cons_of_mem _ hi)).2⟩) (by simp)
    simp only [List.length_cons] at this ⊢
    omega
theorem setsL_mem : ∀ (m fr n : Nat) (s : List Nat), s ∈ setsL m fr n ↔ s.length = m ∧ s.Pairwise (· < ·) ∧ ∀ i ∈ s, fr ≤ i ∧ i < n
  | 0, fr, n, s => by
    simp only [setsL, List.mem_singleton]
    constructor
    · rintro rfl; exact ⟨rfl, List.Pairwise.nil, fun i h => by cases h⟩
    · rintro ⟨h, _⟩; exact List.eq_nil_of_length_eq_zero h
  | m + 1, fr, n, s => by
    simp only [setsL, List.mem_flatMap, List.mem_map, List.mem_range'_1]
    constructor
    · rintro ⟨i, ⟨h1, h2⟩, r, hr, rfl⟩
      obtain ⟨h3, h4, h5⟩ := (setsL_mem m (i + 1) n r).1 hr
      refine ⟨by simp [h3], List.pairwise_cons.2 ⟨fun j hj => (h5 j hj).1, h4⟩, fun j hj => ?_⟩
      rcases List.mem_cons.1 hj with rfl | hj
      · omega
      · have := h5 j hj; omega
    · rintro ⟨h1, h2, h3⟩
      cases s with
      | nil => cases h1
      | cons i r =>
        have h4 := List.pairwise_cons.1 h2
        have h5 := h3 i (List.mem_cons_self ..)
        simp only [List.length_cons, Nat.add_right_cancel_iff] at h1
        have h6 : ∀ j ∈ r, i + 1 ≤ j ∧ j < n := fun j hj => ⟨h4.1 j hj, (h3 j (List.mem_cons_of_mem _ hj)).2⟩
        refine ⟨i, ⟨h5.1, ?_⟩, r, (setsL_mem m (i + 1) n r).2 ⟨h1, h4.2, h6⟩, rfl⟩
        by_cases hr : r = []
        · subst hr; simp at h1; omega
        · have := rising_len r (i + 1) h4.2 h6 hr
          omega
theorem find_all {α β : Type} {f : α → Option β} {r : β} : ∀ {L : List α}, (∃ s ∈ L, f s = some r) → (∀ s ∈ L, ∀ r', f s = some r' → r' = r) → L.findSome? f = some r
  | [], ⟨s, h, _⟩, _ => by cases h
  | a :: L, ⟨s, hs, hf⟩, h => by
    rw [List.findSome?_cons]
    cases ha : f a with
    | some r' => simp only; rw [h a (List.mem_cons_self ..) r' ha]
    | none =>
      simp only
      rcases List.mem_cons.1 hs with rfl | hs
      · rw [ha] at hf; cases hf
      · exact find_all ⟨s, hs, hf⟩ fun s hs => h s (List.mem_cons_of_mem _ hs)

/-! ### Places that are apart -/
theorem un_ne {a q : Int} (h2 : 2 ≤ q) (h : Un a q) : a % q ≠ 0 := by
  rintro h0
  obtain ⟨x, hx⟩ := h
  rw [← mr_mul, h0, Int.mul_zero, Int.zero_emod, Int.emod_eq_of_lt (by omega) (by omega)] at hx
  omega
theorem apart_nodup {q : Int} (h2 : 2 ≤ q) {xs : List Int} (h : Apart xs q) : (mods xs q).Nodup := by
  unfold mods
  rw [List.Nodup, List.pairwise_map]
  refine h.imp fun {a b} hu => fun e => un_ne h2 hu ?_
  exact (emod_sub_congr e.symm rfl).trans (by rw [Int.sub_self, Int.zero_emod])
theorem eAll_apart {q : Int} (hq : okm q = true) (h2 : 2 ≤ q) {xs : List Int} (h : Apart xs q) (hl : xs.length ≤ 1024) : eAll xs q = 0 :=
  eAll_yes (by unfold eUnlike; rw [if_pos hq, if_pos hl, if_pos (apart_nodup h2 h)]) h
theorem apart_of_eAll {q : Int} {xs : List Int} (h : eAll xs q = 0) : Apart xs q := by
  by_cases h0 : eUnlike xs q = 0
  · by_cases h1 : Apart xs q
    · exact h1
    · rw [eAll_no h0 h1] at h; cases h
  · rw [eAll_bad h0] at h; exact absurd h h0
theorem apart_at {xs : List Int} {q : Int} (h : Apart xs q) {i j : Nat} (hij : i < j) (hj : j < xs.length) : Un (xs.getD j 0 - xs.getD i 0) q := by
  have := List.pairwise_iff_getElem.1 h i j (by omega) hj hij
  rw [List.getD_eq_getElem?_getD, List.getD_eq_getElem?_getD, List.getElem?_eq_getElem hj, List.getElem?_eq_getElem (show i < xs.length by omega)]
  exact this
theorem apart_pick {xs : List Int} {q : Int} (h : Apart xs q) {s : List Nat} (hs : s.Pairwise (· < ·)) (hl : ∀ i ∈ s, i < xs.length) : Apart (pick xs s) q := by
  unfold Apart pick
  rw [List.pairwise_map]
  exact hs.imp_of_mem fun {i j} _ hj hij => apart_at h hij (hl j hj)
theorem pick_len (xs : List Int) (s : List Nat) : (pick xs s).length = s.length := by simp [pick]

/-- a polynomial goes through point i. -/
def onB (l m c : List Int) (q : Int) (i : Nat) : Bool := !offB l m c q i
theorem onB_iff {l m c : List Int} {q : Int} {i : Nat} : onB l m c q i = true ↔ mEval c (l.getD i 0) q = m.getD i 0 % q := by
  unfold onB offB; simp
/-- two of as many coefficients that go through as many points as these are one. -/
theorem one_fit {xs ys c c' : List Int} {q : Int} (hq : okm q = true) (ha : Apart xs q) {u : List Nat} (hu : u.Pairwise (· < ·)) (hul : ∀ i ∈ u, i < xs.length) (hc : c.length = u.length) (hc' : c'.length = u.length)
    (hr : c.map (· % q) = c) (hr' : c'.map (· % q) = c') (h1 : ∀ i ∈ u, onB xs ys c q i = true) (h2 : ∀ i ∈ u, onB xs ys c' q i = true) : c = c' := by
  rw [← hr, ← hr']
  refine only_one (apart_pick ha hu hul) (by rw [pick_len, hc]) (by rw [pick_len, hc']) fun x hx => ?_
  obtain ⟨i, hi, rfl⟩ := List.mem_map.1 hx
  have e1 := onB_iff.1 (h1 i hi)
  have e2 := onB_iff.1 (h2 i hi)
  rw [mEval_ok hq] at e1 e2
  exact e1.trans e2.symm
/-- the polynomial through some points. -/
theorem tVal_spec {xs ys : List Int} {q : Int} (hq : okm q = true) (h2 : 2 ≤ q) (ha : Apart xs q) (_ : xs.length ≤ 1000) {s : List Nat} (hs : s.Pairwise (· < ·)) (hsl : ∀ i ∈ s, i < xs.length) (hsn : s.length ≤ 1000) :
    tErr (pick xs s) (pick ys s) q = 0 ∧ (tVal (pick xs s) (pick ys s) q).length = s.length ∧ (tVal (pick xs s) (pick ys s) q).map (· % q) = tVal (pick xs s) (pick ys s) q ∧ ∀ i ∈ s, onB xs ys (tVal (pick xs s) (pick ys s) q) q i = true := by
  have hap := apart_pick ha hs hsl
  have he : tErr (pick xs s) (pick ys s) q = 0 := by
    unfold tErr
    rw [if_pos (by rw [pick_len, pick_len]), eAll_apart hq h2 hap (by rw [pick_len]; omega)]
  refine ⟨he, by rw [tVal_len he, pick_len], by rw [tVal_ok he, pOut_red hq], fun i hi => ?_⟩
  rw [onB_iff, mEval_ok hq, tVal_ok he]
  obtain ⟨j, hj⟩ := List.getElem?_of_mem hi
  have hjl := (List.getElem?_eq_some_iff.1 hj).1
  have := pOut_ev hq (pick ys s) hap (pick xs s).length (Nat.le_refl _) j (xs.getD i 0) (by unfold pick; rw [List.getElem?_map, hj]; rfl)
  rw [this, if_pos (by rw [pick_len]; exact hjl)]
  unfold pick
  rw [List.getD_eq_getElem?_getD, List.getElem?_map, hj]; rfl
theorem filter_split {α : Type} (p g : α → Bool) : ∀ l : List α, (l.filter p).length ≤ (l.filter fun x => p x && g x).length + (l.filter fun x => !g x).length
  | [] => by simp
  | a :: l => by
    have := filter_split p g l
    simp only [List.filter_cons]
    cases p a <;> cases g a <;> simp <;> omega
theorem filter_not {α : Type} (p : α → Bool) : ∀ l : List α, (l.filter p).length + (l.filter fun x => !p x).length = l.length
  | [] => by simp
  | a :: l => by
    have := filter_not p l
    simp only [List.filter_cons]
    cases p a <;> simp <;> omega
theorem range_rising (n : Nat) (p : Nat → Bool) : ((List.range n).filter p).Pairwise (· < ·) := List.Pairwise.filter _ List.pairwise_lt_range
/-- so many through which it goes. -/
theorem on_len (l m c : List Int) (q : Int) : ((List.range l.length).filter (onB l m c q)).length + (offL l m c q).length = l.length := by
  have := filter_not (onB l m c q) (List.range l.length)
  rw [List.length_range] at this
  unfold offL offK
  have e : (fun x => !onB l m c q x) = offB l m c q := by funext x; simp [onB]
  rw [e] at this
  exact this
/-- a set that tells something. -/
theorem tryS_some {xs ys : List Int} {t q : Int} (hq : okm q = true) (h2 : 2 ≤ q) (ha : Apart xs q) (hl : xs.length ≤ 7) {s : List Nat} (hs : s.Pairwise (· < ·)) (hsl : ∀ i ∈ s, i < xs.length) (hsn : s.length ≤ 1000) {r : List Int × List Nat × Int} (h : tryS xs ys t q s = some r) :
    r = (tVal (pick xs s) (pick ys s) q, offL xs ys (tVal (pick xs s) (pick ys s) q) q, 0) ∧ (xs.length : Int) - (offL xs ys (tVal (pick xs s) (pick ys s) q) q).length > 2 * t := by
  unfold tryS at h
  rw [if_pos (tVal_spec hq h2 ha (by omega) hs hsl hsn).1] at h
  split at h
  · rename_i hgt
    exact ⟨(Option.some.inj h).symm, hgt⟩
  · cases h
/-- **One polynomial fits**: it goes through all points but t of them at most, and through 2 t + 1 at least. -/
theorem dec_one {xs ys c : List Int} {t : Nat} {q : Int} (ht : t ≤ 2) (hp : primeV q = true) (ha : Apart xs q) (hl : xs.length ≤ 7) (hlm : xs.length = ys.length) (hc : c.length = t + 1) (hr : c.map (· % q) = c)
    (hoff : (offL xs ys c q).length ≤ t) (hon : 2 * t + 1 + (offL xs ys c q).length ≤ xs.length) : decR xs ys t q = (c, offL xs ys c q, 0) := by
  obtain ⟨hq, h2⟩ := okm_prime hp
  have hO := on_len xs ys c q
  have key : ∀ s ∈ setsL (t + 1) 0 xs.length, ∀ r, tryS xs ys t q s = some r → r = (c, offL xs ys c q, 0) := by
    intro s hs r hr'
    obtain ⟨s1, s2, s3⟩ := (setsL_mem _ _ _ _).1 hs
    have hsl : ∀ i ∈ s, i < xs.length := fun i hi => (s3 i hi).2
    obtain ⟨rfl, hgt⟩ := tryS_some hq h2 ha hl s2 hsl (by omega) hr'
    obtain ⟨_, v1, v2, v3⟩ := tVal_spec (ys := ys) hq h2 ha (by omega) s2 hsl (by omega)
    generalize tVal (pick xs s) (pick ys s) q = V at *
    have hV := on_len xs ys V q
    have hsp := filter_split (onB xs ys V q) (onB xs ys c q) (List.range xs.length)
    have e : ((List.range xs.length).filter fun x => !onB xs ys c q x) = offL xs ys c q := by
      unfold offL offK
      congr 1
      funext x
      simp [onB]
    rw [e] at hsp
    have hlen : t + 1 ≤ ((List.range xs.length).filter fun x => onB xs ys V q x && onB xs ys c q x).length := by omega
    let u := ((List.range xs.length).filter fun x => onB xs ys V q x && onB xs ys c q x).take (t + 1)
    have hu : u.length = t + 1 := by simp only [u, List.length_take]; omega
    have hm : ∀ i ∈ u, i < xs.length ∧ onB xs ys V q i = true ∧ onB xs ys c q i = true := fun i hi => by
      have := List.mem_filter.1 (List.mem_of_mem_take hi)
      exact ⟨List.mem_range.1 this.1, by simpa using this.2⟩
    have : V = c := one_fit (u := u) hq ha ((range_rising _ _).sublist (List.take_sublist _ _)) (fun i hi => (hm i hi).1) (by omega) (by omega) v2 hr (fun i hi => (hm i hi).2.1) (fun i hi => (hm i hi).2.2)
    rw [this]
  have ex : ∃ s ∈ setsL (t + 1) 0 xs.length, tryS xs ys t q s = some (c, offL xs ys c q, 0) := by
    let s := ((List.range xs.length).filter (onB xs ys c q)).take (t + 1)
    have hs : s.length = t + 1 := by simp only [s, List.length_take]; omega
    have hsr : s.Pairwise (· < ·) := (range_rising _ _).sublist (List.take_sublist _ _)
    have hm : ∀ i ∈ s, i < xs.length ∧ onB xs ys c q i = true := fun i hi => by
      have := List.mem_filter.1 (List.mem_of_mem_take hi)
      exact ⟨List.mem_range.1 this.1, this.2⟩
    have hms : s ∈ setsL (t + 1) 0 xs.length := (setsL_mem _ _ _ _).2 ⟨hs, hsr, fun i hi => ⟨Nat.zero_le _, (hm i hi).1⟩⟩
    obtain ⟨v0, v1, v2, v3⟩ := tVal_spec (ys := ys) hq h2 ha (by omega) hsr (fun i hi => (hm i hi).1) (by omega)
    have hV : tVal (pick xs s) (pick ys s) q = c := one_fit hq ha hsr (fun i hi => (hm i hi).1) v1 (by omega) v2 hr v3 (fun i hi => (hm i hi).2)
    refine ⟨s, hms, ?_⟩
    unfold tryS
    rw [if_pos v0, hV, if_pos (by omega)]
  unfold decR
  rw [if_neg (by rw [hp, hlm]; simp; omega), if_neg (by omega), if_neg (by rw [eAll_apart hq h2 ha (by omega)]; simp)]
  rw [show ((t : Int).toNat) = t from rfl, find_all ex key]; rfl
end Go.Proofs.YtmmmdidbnjcooaaDoor
