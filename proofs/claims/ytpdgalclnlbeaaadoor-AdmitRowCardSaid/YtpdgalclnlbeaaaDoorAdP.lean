/-
  Admitted queries by a prime, plainly: what follows; in whatever row they are asked.
-/
import Derived.Test.YtpdgalclnlbeaaaDoorAdmQ7
import Derived.Test.YtpdgalclnlbeaaaDoorAdmQ8

namespace Go.Proofs.YtpdgalclnlbeaaaDoor
open Go Go.Lin Go.Psi
theorem rowsP_one (p : Par) (l : List Ask) (x : List Int) : rowsP p l [x] = rowsP p l [] ++ [rowS p x] := by simp [rowsP]
theorem rowsP_snoc (p : Par) (l : List Ask) (a : Ask) : rowsP p (l ++ [a]) [] = rowsP p l [] ++ [rowS p a.x] := by simp [rowsP]
theorem rankP_more {p : Par} (hv : primeV p.Q = true) (hp : Pr p.Q.toNat) (l : List Ask) (x : List Int) : rankV (rowsP p l [x]) p.Q = rankP p l + if followsP p l x = true then 0 else 1 := by
  rw [rowsP_one, rank_more hv hp]; rfl
theorem queryP_22 {p : Par} {l : List Ask} {id : Int} {x : List Int} (h : queryP p l id x = 0 ∨ queryP p l id x = 22) : queryP p l id x = 22 ↔ (rankV (rowsP p l [x]) p.Q : Int) > p.R := by
  have hE := queryE_or p x
  revert h
  unfold queryP
  split
  · intro h; rcases h with h | h <;> exact absurd h (by decide)
  split
  · rename_i h1
    simp only [wrongB, decide_eq_true_eq] at h1
    intro h; omega
  split
  · intro h; rcases h with h | h <;> exact absurd h (by decide)
  split
  · intro h; rcases h with h | h <;> exact absurd h (by decide)
  split
  · rename_i h4
    simp only [wrongB, decide_eq_true_eq] at h4
    intro _
    simp [h4]
  · rename_i h4
    simp only [wrongB, decide_eq_true_eq] at h4
    intro _
    simp; omega
/-- **What follows** what was asked takes nothing; what does not, takes one. -/
theorem follows_law {p : Par} {l : List Ask} {id : Int} {x : List Int} (hv : primeV p.Q = true) (hp : Pr p.Q.toNat) (h : queryP p l id x = 0 ∨ queryP p l id x = 22) :
    (followsP p l x = true → queryP p l id x = 0 ∨ (rankP p l : Int) > p.R) ∧ (followsP p l x = false → (queryP p l id x = 22 ↔ (rankP p l : Int) ≥ p.R)) := by
  have h1 := queryP_22 h
  rw [rankP_more hv hp] at h1
  constructor
  · intro hf
    rw [hf, if_pos rfl, Nat.add_zero] at h1
    rcases h with h | h
    · exact .inl h
    · exact .inr (h1.1 h)
  · intro hf
    rw [hf, if_neg (by decide)] at h1
    rw [h1]
    omega
theorem hangs_mono {q : Int} (hv : primeV q = true) (hp : Pr q.toNat) {f g : List (List Int)} (hs : ∀ r ∈ f, r ∈ g) {row : List Int} (h : hangsV f row q = true) : hangsV g row q = true := by
  obtain ⟨N, hN, hF⟩ := fq_of hv hp
  refine (hF.hangs hv g row).2 (Sp.mono (fun r hr => ?_) ((hF.hangs hv f row).1 h))
  obtain ⟨x, hx, rfl⟩ := List.mem_map.1 hr
  exact List.mem_map_of_mem (hs x hx)
theorem rank_le {q : Int} (hv : primeV q = true) (hp : Pr q.toNat) {f g : List (List Int)} (hs : ∀ r ∈ f, r ∈ g) : rankV f q ≤ rankV g q := by
  obtain ⟨N, hN, hF⟩ := fq_of hv hp
  refine (hF.rk hv f).le hF.fld (hF.rk hv g) fun r hr => ?_
  obtain ⟨x, hx, rfl⟩ := List.mem_map.1 hr
  exact Sp.mem (List.mem_map_of_mem (hs x hx))
/-- of as great a rank: what hangs on the one, hangs on the other. -/
theorem hangs_full {q : Int} (hv : primeV q = true) (hp : Pr q.toNat) {f g : List (List Int)} (hs : ∀ r ∈ f, r ∈ g) (hr : rankV g q ≤ rankV f q) {row : List Int} (h : hangsV g row q = true) : hangsV f row q = true := by
  refine Decidable.byContradiction fun hn => ?_
  have h1 := rank_more hv hp f row
  have h2 := rank_more hv hp g row
  rw [if_neg hn] at h1
  rw [if_pos h] at h2
  have h3 := rank_le hv hp (f := f ++ [row]) (g := g ++ [row]) fun r hr => by
    rcases List.mem_append.1 hr with k | k
    · exact List.mem_append_left _ (hs r k)
    · exact List.mem_append_right _ k
  omega
theorem play_sub (p : Par) (l : List Ask) : ∀ k, k ≤ l.length → (∀ a ∈ playL p (l.take k), a ∈ l.take k) ∧ (playL p (l.take k)).length ≤ k
  | 0, _ => by
    rw [List.take_zero]
    exact ⟨fun a ha => (by cases ha), Nat.le_refl _⟩
  | k + 1, hk => by
    obtain ⟨a, ha⟩ := get_of_lt (l := l) (k := k) (by omega)
    obtain ⟨h1, h2⟩ := play_sub p l k (by omega)
    rw [playL_snoc ha, take_snocR ha]
    unfold stepP
    split
    · refine ⟨fun b hb => ?_, by rw [List.length_append]; simp; omega⟩
      rcases List.mem_append.1 hb with h | h
      · exact List.mem_append_left _ (h1 b h)
      · exact List.mem_append_right _ h
    · exact ⟨fun b hb => List.mem_append_left _ (h1 b hb), by omega⟩
theorem rowsP_sub {p : Par} {s l : List Ask} (h : ∀ a ∈ s, a ∈ l) : ∀ r ∈ rowsP p s [], r ∈ rowsP p l [] := by
  intro r hr
  simp only [rowsP, List.map_nil, List.append_nil] at hr ⊢
  obtain ⟨a, ha, rfl⟩ := List.mem_map.1 hr
  exact List.mem_map_of_mem (h a ha)
/-- **In whatever row**: what is admitted is of the greatest rank that may be. -/
theorem play_rank {p : Par} (hv : primeV p.Q = true) (hp : Pr p.Q.toNat) (hR : 0 ≤ p.R) {l : List Ask} (hl : l.length ≤ 8) (hq : ∀ a ∈ l, queryE p a.x = 0 ∧ 1 ≤ a.id ∧ a.id ≤ 1099511627776) (hd : l.Pairwise fun a b => a.id ≠ b.id) :
    ∀ k, k ≤ l.length → ((rankP p (playL p (l.take k)) : Nat) : Int) = min p.R (rankP p (l.take k))
  | 0, _ => by
    rw [List.take_zero]
    have h0 : rankP p ([] : List Ask) = 0 := by
      have := (rank_bounds hv hp ([] : List (List Int))).1
      have e : rankP p ([] : List Ask) = rankV [] p.Q := rfl
      rw [e]
      simpa using this
    have e1 : playL p [] = [] := rfl
    rw [e1, h0]
    omega
  | k + 1, hk => by
    obtain ⟨a, ha⟩ := get_of_lt (l := l) (k := k) (by omega)
    have ih := play_rank hv hp hR hl hq hd k (by omega)
    obtain ⟨h1, h2⟩ := play_sub p l k (by omega)
    obtain ⟨q1, q2, q3⟩ := hq a (List.mem_of_getElem? ha)
    have hg : rankP p (l.take (k + 1)) = rankP p (l.take k) + if followsP p (l.take k) a.x = true then 0 else 1 := by
      rw [take_snocR ha]
      unfold rankP
      rw [rowsP_snoc, rank_more hv hp]; rfl
    have hsub := rowsP_sub (p := p) h1
    have hid : hasId (playL p (l.take k)) a.id = false := by
      unfold hasId
      rw [List.any_eq_false]
      intro b hb
      have hb2 := h1 b hb
      obtain ⟨j, hj⟩ := List.getElem?_of_mem hb2
      rw [List.getElem?_take] at hj
      split at hj
      · rename_i hjk
        have h3 := List.pairwise_iff_getElem.1 hd j k (by omega) (by omega) hjk
        obtain ⟨_, e1⟩ := List.getElem?_eq_some_iff.1 hj
        obtain ⟨_, e2⟩ := List.getElem?_eq_some_iff.1 ha
        rw [e1, e2] at h3
        simpa using h3
      · cases hj
    have hw : ∀ j, j < 4 → wrongB p (playL p (l.take k)) a.id a.x j = false := fun j hj => by
      match j, hj with
      | 0, _ => simp [wrongB, q1]; omega
      | 1, _ => simp [wrongB, q1]
      | 2, _ => simpa [wrongB] using hid
      | 3, _ => simp [wrongB]; omega
    have h4 : wrongB p (playL p (l.take k)) a.id a.x 4 = decide ((rankV (rowsP p (playL p (l.take k)) [a.x]) p.Q : Int) > p.R) := rfl
    have hm := rankP_more hv hp (playL p (l.take k)) a.x
    rw [hm] at h4
    rw [playL_snoc ha, hg]
    unfold stepP
    by_cases hf : followsP p (playL p (l.take k)) a.x = true
    · have hf2 : followsP p (l.take k) a.x = true := hangs_mono hv hp hsub hf
      rw [if_pos hf, Nat.add_zero] at h4 hm
      have hz : queryP p (playL p (l.take k)) a.id a.x = 0 := queryP_ok fun j hj => by
        rcases Nat.lt_or_ge j 4 with h | h
        · exact hw j h
        · obtain rfl : j = 4 := by omega
          rw [h4]
          simp; omega
      rw [if_pos hz, if_pos hf2, Nat.add_zero]
      have e : rankP p (playL p (l.take k) ++ [a]) = rankP p (playL p (l.take k)) := by
        unfold rankP
        rw [rowsP_snoc, ← rowsP_one]
        exact hm
      rw [e, ih]
    · rw [if_neg hf] at h4 hm
      by_cases hlt : ((rankP p (playL p (l.take k)) : Nat) : Int) < p.R
      · have hz : queryP p (playL p (l.take k)) a.id a.x = 0 := queryP_ok fun j hj => by
          rcases Nat.lt_or_ge j 4 with h | h
          · exact hw j h
          · obtain rfl : j = 4 := by omega
            rw [h4]
            simp; omega
        have hfull : rankP p (l.take k) ≤ rankP p (playL p (l.take k)) := by omega
        have hf2 : ¬ followsP p (l.take k) a.x = true := fun h => hf (hangs_full hv hp hsub hfull h)
        rw [if_pos hz, if_neg hf2]
        have e : rankP p (playL p (l.take k) ++ [a]) = rankP p (playL p (l.take k)) + 1 := by
          unfold rankP
          rw [rowsP_snoc, ← rowsP_one]
          exact hm
        rw [e]
        omega
      · have hz : queryP p (playL p (l.take k)) a.id a.x = 22 := queryP_at (k := 4) (by omega) hw (by rw [h4]; simp; omega)
        rw [if_neg (by rw [hz]; decide)]
        split <;> omega
/-- ranks of the same queries in another row. -/
theorem rankP_perm {p : Par} (hv : primeV p.Q = true) (hp : Pr p.Q.toNat) {l l' : List Ask} (h1 : ∀ a ∈ l, a ∈ l') (h2 : ∀ a ∈ l', a ∈ l) : rankP p l = rankP p l' :=
  Nat.le_antisymm (rank_le hv hp (rowsP_sub h1)) (rank_le hv hp (rowsP_sub h2))
end Go.Proofs.YtpdgalclnlbeaaaDoor
