/-
  What counts come to, as plain rows. (No program in sight, but for the counts' own words.)
-/
import Derived.Test.YtnngnekfgijejaaTalV
namespace Go.Proofs.Ytnngnekfgijejaa
open Go.RowKit Go.Maps Go.Shelf Go.Proofs

/-- was a vote's text had, or is it of another round or Kind? -/
def hadB (r k : Int) (ts : List ByteArray) (v : Vt) : Bool := (v.rd != r) || (v.kd != k) || ts.any fun t => t.toList == v.tx.toList
def txStep (r k : Int) (ts : List ByteArray) (v : Vt) : List ByteArray := if hadB r k ts v then ts else ts ++ [v.tx]
def txs (r k : Int) (L : List Vt) : List ByteArray := L.foldl (txStep r k) []
theorem txs_snoc (r k : Int) (L : List Vt) (v : Vt) : txs r k (L ++ [v]) = txStep r k (txs r k L) v := by simp [txs]
theorem txs_len (r k : Int) (L : List Vt) : (txs r k L).length ≤ L.length := by
  refine snoc_ind (motive := fun L => (txs r k L).length ≤ L.length) (by simp [txs]) (fun L v ih => ?_) L
  rw [txs_snoc, txStep, List.length_append, List.length_singleton]
  split
  · omega
  · rw [List.length_append, List.length_singleton]; omega
def Apart (ts : List ByteArray) : Prop := ts.Pairwise fun a b => (a.toList == b.toList) = false
theorem txs_apart (r k : Int) (L : List Vt) : Apart (txs r k L) := by
  refine snoc_ind (motive := fun L => Apart (txs r k L)) List.Pairwise.nil (fun L v ih => ?_) L
  rw [txs_snoc, txStep]
  cases h : hadB r k (txs r k L) v with
  | true => exact ih
  | false =>
    simp only [Bool.false_eq_true, if_false]
    refine List.pairwise_append.2 ⟨ih, List.pairwise_singleton _ _, fun a ha b hb => ?_⟩
    obtain rfl := List.mem_singleton.1 hb
    simp only [hadB, Bool.or_eq_false_iff] at h
    have := List.any_eq_false.1 h.2 a ha
    simpa using this
theorem txs_all (r k : Int) (L : List Vt) : ∀ v ∈ L, pAll r k v = true → ∃ t ∈ txs r k L, (t.toList == v.tx.toList) = true := by
  refine snoc_ind (motive := fun L => ∀ v ∈ L, pAll r k v = true → ∃ t ∈ txs r k L, (t.toList == v.tx.toList) = true) (fun v hv => by cases hv) (fun L v ih u hu hp => ?_) L
  rw [txs_snoc, txStep]
  cases h : hadB r k (txs r k L) v with
  | true =>
    simp only [if_true]
    rcases List.mem_append.1 hu with hu | hu
    · exact ih u hu hp
    · obtain rfl := List.mem_singleton.1 hu
      simp only [pAll, Bool.and_eq_true, beq_iff_eq] at hp
      simp only [hadB, hp.1, hp.2, bne_self_eq_false, Bool.false_or] at h
      obtain ⟨t, ht, he⟩ := List.any_eq_true.1 h
      exact ⟨t, ht, he⟩
  | false =>
    simp only [Bool.false_eq_true, if_false]
    rcases List.mem_append.1 hu with hu | hu
    · obtain ⟨t, ht, he⟩ := ih u hu hp
      exact ⟨t, List.mem_append_left _ ht, he⟩
    · obtain rfl := List.mem_singleton.1 hu
      exact ⟨u.tx, List.mem_append_right _ (List.mem_singleton.2 rfl), by simp⟩

def sumT (r k : Int) (L : List Vt) : List ByteArray → Nat
  | [] => 0
  | t :: ts => cntN (pCnt r k t) L + sumT r k L ts
theorem sumT_snoc (r k : Int) (L : List Vt) (ts : List ByteArray) (t : ByteArray) : sumT r k L (ts ++ [t]) = sumT r k L ts + cntN (pCnt r k t) L := by
  induction ts with
  | nil => simp [sumT]
  | cons a ts ih => simp only [List.cons_append, sumT, ih]; omega
theorem sumT_nil (r k : Int) (ts : List ByteArray) : sumT r k [] ts = 0 := by
  induction ts with
  | nil => rfl
  | cons a ts ih => simp [sumT, ih, cntN]
/-- how many texts a vote counts for. -/
def hitT (r k : Int) (v : Vt) : List ByteArray → Nat
  | [] => 0
  | t :: ts => (if pCnt r k t v = true then 1 else 0) + hitT r k v ts
theorem sumT_more (r k : Int) (L : List Vt) (v : Vt) (ts : List ByteArray) : sumT r k (L ++ [v]) ts = sumT r k L ts + hitT r k v ts := by
  induction ts with
  | nil => rfl
  | cons a ts ih => simp only [sumT, hitT, ih, cntN_snoc]; omega
theorem hitT_no (r k : Int) (v : Vt) (ts : List ByteArray) (h : ∀ t ∈ ts, pCnt r k t v = false) : hitT r k v ts = 0 := by
  induction ts with
  | nil => rfl
  | cons a ts ih =>
    rw [hitT, h a (List.mem_cons_self ..), ih fun t ht => h t (List.mem_cons_of_mem _ ht)]
    simp
theorem hitT_one (r k : Int) (v : Vt) : ∀ ts : List ByteArray, Apart ts → (∃ t ∈ ts, pCnt r k t v = true) → hitT r k v ts = 1
  | [], _, ⟨t, ht, _⟩ => by cases ht
  | a :: ts, h, ⟨t, ht, hp⟩ => by
    obtain ⟨h1, h2⟩ := List.pairwise_cons.1 h
    rw [hitT]
    by_cases ha : pCnt r k a v = true
    · rw [if_pos ha, hitT_no r k v ts fun b hb => ?_]
      have := h1 b hb
      simp only [pCnt, Bool.and_eq_true, beq_iff_eq] at ha
      rw [← Bool.not_eq_true]
      intro hb2
      simp only [pCnt, Bool.and_eq_true, beq_iff_eq] at hb2
      rw [← ha.2, ← hb2.2] at this
      simp at this
    · rcases List.mem_cons.1 ht with rfl | ht'
      · exact absurd hp ha
      · rw [if_neg ha, hitT_one r k v ts h2 ⟨t, ht', hp⟩]
theorem pCnt_all {r k : Int} {t : ByteArray} {v : Vt} (h : pCnt r k t v = true) : pAll r k v = true := by
  simp only [pCnt, Bool.and_eq_true] at h
  simp [pAll, h.1.1, h.1.2]
theorem sumT_eq (r k : Int) (ts : List ByteArray) (ha : Apart ts) (L : List Vt) : (∀ v ∈ L, pAll r k v = true → ∃ t ∈ ts, (t.toList == v.tx.toList) = true) → sumT r k L ts = cntN (pAll r k) L := by
  refine snoc_ind (motive := fun L => (∀ v ∈ L, pAll r k v = true → ∃ t ∈ ts, (t.toList == v.tx.toList) = true) → sumT r k L ts = cntN (pAll r k) L) (fun _ => sumT_nil r k ts) (fun L v ih h => ?_) L
  rw [sumT_more, cntN_snoc, ih fun u hu => h u (List.mem_append_left _ hu)]
  congr 1
  by_cases hp : pAll r k v = true
  · rw [if_pos hp]
    obtain ⟨t, ht, he⟩ := h v (by simp) hp
    refine hitT_one r k v ts ha ⟨t, ht, ?_⟩
    simp only [pAll, Bool.and_eq_true] at hp
    simp only [beq_iff_eq] at he
    simp [pCnt, hp.1, hp.2, he]
  · rw [if_neg hp]
    exact hitT_no r k v ts fun t _ => by
      rw [← Bool.not_eq_true]
      exact fun h => hp (pCnt_all h)
theorem sum_all (r k : Int) (L : List Vt) : sumT r k L (txs r k L) = cntN (pAll r k) L := sumT_eq r k _ (txs_apart r k L) L (txs_all r k L)

theorem filter_mono {α : Type} {p q : α → Bool} (l : List α) (h : ∀ a, p a = true → q a = true) : (l.filter p).length ≤ (l.filter q).length := by
  induction l with
  | nil => simp
  | cons a l ih =>
    rw [List.filter_cons, List.filter_cons]
    by_cases hp : p a = true
    · rw [if_pos hp, if_pos (h a hp)]; simp; exact ih
    · rw [if_neg hp]
      split
      · simp; omega
      · exact ih
theorem memN_mono {n : Nat} {p q : Vt → Bool} {L : List Vt} (h : ∀ v, p v = true → q v = true) : memN n p L ≤ memN n q L := by
  unfold memN
  refine filter_mono _ fun f hf => ?_
  rw [List.any_eq_true] at hf ⊢
  obtain ⟨v, hv, hc⟩ := hf
  simp only [Bool.and_eq_true] at hc
  exact ⟨v, hv, by simp [h v hc.1, hc.2]⟩
theorem memN_lt {n : Nat} {p : Vt → Bool} {L : List Vt} (h : Mays n L) : memN n p L ≤ n := by
  unfold memN
  rw [List.range_succ_eq_map, List.filter_cons]
  have h0 : (L.any fun v => p v && (v.fr == ((0 : Nat) : Int))) = false := by
    rw [List.any_eq_false]
    intro v hv hc
    simp only [Bool.and_eq_true, beq_iff_eq] at hc
    have := mays_fr h hv
    omega
  rw [h0]
  simp only [Bool.false_eq_true, if_false]
  refine Nat.le_trans (List.length_filter_le _ _) ?_
  simp
theorem memN_pos {n : Nat} {p : Vt → Bool} {L : List Vt} (h : Mays n L) : 0 < memN n p L ↔ ∃ v ∈ L, p v = true := by
  unfold memN
  rw [List.length_pos_iff_exists_mem]
  constructor
  · rintro ⟨f, hf⟩
    obtain ⟨v, hv, hc⟩ := List.any_eq_true.1 (List.mem_filter.1 hf).2
    simp only [Bool.and_eq_true] at hc
    exact ⟨v, hv, hc.1⟩
  · rintro ⟨v, hv, hp⟩
    have := mays_fr h hv
    refine ⟨v.fr.toNat, List.mem_filter.2 ⟨List.mem_range.2 (by omega), List.any_eq_true.2 ⟨v, hv, ?_⟩⟩⟩
    simp [hp]; omega

theorem mem_compactUp (zs : List Int) (x : Int) : ∀ m, m ≤ zs.length → (x ∈ Lib.compactUpTo zs.toArray m ↔ x ∈ zs.take m)
  | 0, _ => by simp [Lib.compactUpTo]
  | m + 1, h => by
    have ih := mem_compactUp zs x m (by omega)
    rw [Lib.compactUpTo_succ, List.mem_append, ih, List.take_add_one, List.mem_append]
    have hm : zs[m]? = some (zs[m]'(by omega)) := List.getElem?_eq_getElem (by omega)
    have ha : zs.toArray[m]! = zs[m]'(by omega) := by simp [show m < zs.length by omega]
    rw [hm]
    by_cases hk : Lib.keeps zs.toArray m = true
    · rw [if_pos hk, ha]; simp
    · rw [if_neg hk]
      constructor
      · rintro (h1 | h1)
        · exact .inl h1
        · cases h1
      · rintro (h1 | h1)
        · exact .inl h1
        · refine .inl ?_
          have he : x = zs[m]'(by omega) := by simpa using h1
          simp only [Lib.keeps, decide_eq_true_eq, not_or, Classical.not_not] at hk
          obtain ⟨h0, h2⟩ := hk
          have ha2 : zs.toArray[m - 1]! = zs[m - 1]'(by omega) := by simp [show m - 1 < zs.length by omega]
          rw [ha, ha2] at h2
          rw [he, h2]
          exact List.mem_take_iff_getElem.2 ⟨m - 1, by omega, rfl⟩
theorem mem_rnd (L : List Vt) (r : Int) : r ∈ rndL L ↔ ∃ v ∈ L, v.rd = r := by
  unfold rndL Lib.compact
  rw [mem_compactUp _ _ _ (Nat.le_refl _), List.take_of_length_le (Nat.le_refl _), rds, List.mem_map]
/-- two unlike texts. -/
theorem two_le (r k : Int) (x y : ByteArray) (hne : (x.toList == y.toList) = false) (L : List Vt) : cntN (pCnt r k x) L + cntN (pCnt r k y) L ≤ cntN (pAll r k) L := by
  refine snoc_ind (motive := fun L => cntN (pCnt r k x) L + cntN (pCnt r k y) L ≤ cntN (pAll r k) L) (by simp [cntN]) (fun L v ih => ?_) L
  rw [cntN_snoc, cntN_snoc, cntN_snoc]
  by_cases h1 : pCnt r k x v = true
  · have h2 : ¬ pCnt r k y v = true := by
      intro h2
      simp only [pCnt, Bool.and_eq_true, beq_iff_eq] at h1 h2
      rw [← h1.2, ← h2.2] at hne
      simp at hne
    rw [if_pos h1, if_neg h2, if_pos (pCnt_all h1)]
    omega
  · rw [if_neg h1]
    by_cases h2 : pCnt r k y v = true
    · rw [if_pos h2, if_pos (pCnt_all h2)]; omega
    · rw [if_neg h2]; omega
end Go.Proofs.Ytnngnekfgijejaa
