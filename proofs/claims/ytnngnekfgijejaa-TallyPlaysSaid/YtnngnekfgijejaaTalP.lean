/-
  Votes as plain lists: a row of votes in order, what is put into it, and how many are counted. (No program in sight.)
-/
namespace Go.Proofs.Ytnngnekfgijejaa

structure Vt where
  fr : Int
  rd : Int
  kd : Int
  va : Int
  tx : ByteArray
deriving DecidableEq

/-- the ends. -/
def mayE (v : Vt) (n : Int) : Bool := decide (v.fr < 1) || decide (v.fr > n) || decide (v.rd < 0) || decide (v.rd ≥ 100) || decide ((v.tx.size : Int) > 2048)
/-- by the kind. -/
def mayK (v : Vt) : Bool := if v.kd = 2 then !v.tx.toList.isEmpty && decide (v.va ≥ -1) && decide (v.va < v.rd) else if v.kd = 3 then (v.va == 0) else if v.kd = 4 then (v.va == 0) else false
/-- may it be? -/
def mayV (v : Vt) (n : Int) : Bool := !mayE v n && mayK v

/-- at one place. -/
def Vt.at_ (v : Vt) (r f k : Int) : Bool := v.rd == r && v.fr == f && v.kd == k
theorem Vt.at_iff {v : Vt} {r f k : Int} : v.at_ r f k = true ↔ v.rd = r ∧ v.fr = f ∧ v.kd = k := by simp [Vt.at_, and_assoc]

/-- ahead of another one. -/
def ahead (a b : Vt) : Bool := if a.rd = b.rd then (if a.fr = b.fr then decide (a.kd < b.kd) else decide (a.fr < b.fr)) else decide (a.rd < b.rd)
theorem ahead_iff {a b : Vt} : ahead a b = true ↔ a.rd < b.rd ∨ a.rd = b.rd ∧ (a.fr < b.fr ∨ a.fr = b.fr ∧ a.kd < b.kd) := by
  unfold ahead
  by_cases h1 : a.rd = b.rd
  · rw [if_pos h1]
    by_cases h2 : a.fr = b.fr
    · rw [if_pos h2]; simp; omega
    · rw [if_neg h2]; simp; omega
  · rw [if_neg h1]; simp; omega
theorem ahead_not {a b : Vt} : ahead a b = false ↔ ¬ (a.rd < b.rd ∨ a.rd = b.rd ∧ (a.fr < b.fr ∨ a.fr = b.fr ∧ a.kd < b.kd)) := by
  rw [← ahead_iff]; simp
theorem ahead_trans {a b c : Vt} (h1 : ahead a b = true) (h2 : ahead b c = true) : ahead a c = true := by
  rw [ahead_iff] at *; omega
theorem ahead_irr (a : Vt) : ahead a a = false := by rw [ahead_not]; omega
theorem ahead_asymm {a b : Vt} (h : ahead a b = true) : ahead b a = false := by
  rw [ahead_iff] at h; rw [ahead_not]; omega
/-- neither is ahead just where the places are one. -/
theorem ahead_tri (a b : Vt) : ahead a b = true ∨ ahead b a = true ∨ a.at_ b.rd b.fr b.kd = true := by
  rw [ahead_iff, ahead_iff, Vt.at_iff]; omega
theorem at_not_ahead {a b : Vt} (h : a.at_ b.rd b.fr b.kd = true) : ahead a b = false := by
  rw [Vt.at_iff] at h; rw [ahead_not]; omega

/-- in order, no two at one place. -/
def Srt (L : List Vt) : Prop := L.Pairwise fun a b => ahead a b = true

def hasV (L : List Vt) (v : Vt) : Bool := L.any fun u => u.at_ v.rd v.fr v.kd
theorem hasV_iff {L : List Vt} {v : Vt} : hasV L v = true ↔ ∃ u ∈ L, u.rd = v.rd ∧ u.fr = v.fr ∧ u.kd = v.kd := by
  simp only [hasV, List.any_eq_true, Vt.at_iff]
theorem hasV_no {L : List Vt} {v : Vt} : hasV L v = false ↔ ∀ u ∈ L, ¬ (u.rd = v.rd ∧ u.fr = v.fr ∧ u.kd = v.kd) := by
  rw [← Bool.not_eq_true, hasV_iff]
  constructor
  · exact fun h u hu hc => h ⟨u, hu, hc⟩
  · rintro h ⟨u, hu, hc⟩
    exact h u hu hc
theorem hasV_perm {L L' : List Vt} (h : L.Perm L') (v : Vt) : hasV L v = hasV L' v := by
  rw [Bool.eq_iff_iff, hasV_iff, hasV_iff]
  constructor
  · rintro ⟨u, hu, hc⟩; exact ⟨u, h.mem_iff.1 hu, hc⟩
  · rintro ⟨u, hu, hc⟩; exact ⟨u, h.mem_iff.2 hu, hc⟩

/-- those ahead of v, v, the others. -/
def ins (v : Vt) (L : List Vt) : List Vt := L.takeWhile (ahead · v) ++ v :: L.dropWhile (ahead · v)
theorem mem_takeWhile {p : Vt → Bool} {u : Vt} : ∀ {L : List Vt}, u ∈ L.takeWhile p → u ∈ L ∧ p u = true
  | [], h => by simp at h
  | x :: L, h => by
    rw [List.takeWhile_cons] at h
    split at h
    · rename_i hx
      rcases List.mem_cons.1 h with rfl | h
      · exact ⟨List.mem_cons_self .., hx⟩
      · exact ⟨List.mem_cons_of_mem _ (mem_takeWhile h).1, (mem_takeWhile h).2⟩
    · simp at h
theorem ins_perm (v : Vt) (L : List Vt) : (ins v L).Perm (v :: L) := by
  unfold ins
  refine List.perm_middle.trans ?_
  rw [List.takeWhile_append_dropWhile]
theorem mem_ins {v u : Vt} {L : List Vt} : u ∈ ins v L ↔ u = v ∨ u ∈ L := by
  rw [(ins_perm v L).mem_iff, List.mem_cons]
theorem dropWhile_head {p : Vt → Bool} : ∀ {L : List Vt} {u : Vt} {r : List Vt}, L.dropWhile p = u :: r → p u = false
  | [], _, _, h => by simp at h
  | x :: L, u, r, h => by
    rw [List.dropWhile_cons] at h
    split at h
    · exact dropWhile_head h
    · rename_i hx
      obtain ⟨rfl, _⟩ := List.cons.inj h
      simpa using hx
theorem srt_drop {p : Vt → Bool} {L : List Vt} (h : Srt L) : Srt (L.dropWhile p) := h.sublist (List.dropWhile_sublist p)
/-- what stands behind: none is ahead of v. -/
theorem rest_not {v : Vt} {L : List Vt} (h : Srt L) {u : Vt} (hu : u ∈ L.dropWhile (ahead · v)) : ahead u v = false := by
  cases hd : L.dropWhile (ahead · v) with
  | nil => rw [hd] at hu; simp at hu
  | cons x r =>
    have hx : ahead x v = false := dropWhile_head (p := fun a => ahead a v) hd
    have hs := srt_drop (p := (ahead · v)) h
    rw [hd] at hu hs
    rcases List.mem_cons.1 hu with rfl | hu
    · exact hx
    · cases hv : ahead u v
      · rfl
      · have := (List.pairwise_cons.1 hs).1 u hu
        rw [ahead_trans this hv] at hx; cases hx
theorem ins_srt {v : Vt} {L : List Vt} (h : Srt L) (hno : hasV L v = false) : Srt (ins v L) := by
  rw [hasV_no] at hno
  unfold ins Srt
  rw [List.pairwise_append]
  refine ⟨h.sublist (List.takeWhile_sublist _), ?_, ?_⟩
  · rw [List.pairwise_cons]
    refine ⟨fun u hu => ?_, srt_drop h⟩
    have h1 := rest_not h hu
    have hm : u ∈ L := (List.dropWhile_sublist _).subset hu
    rcases ahead_tri v u with h2 | h2 | h2
    · exact h2
    · rw [h2] at h1; cases h1
    · rw [Vt.at_iff] at h2
      exact absurd ⟨h2.1.symm, h2.2.1.symm, h2.2.2.symm⟩ (hno u hm)
  · intro a ha b hb
    have hav : ahead a v = true := (mem_takeWhile (p := (ahead · v)) ha).2
    rcases List.mem_cons.1 hb with rfl | hb
    · exact hav
    · have h1 := rest_not h hb
      have hm : b ∈ L := (List.dropWhile_sublist _).subset hb
      rcases ahead_tri v b with h2 | h2 | h2
      · exact ahead_trans hav h2
      · rw [h2] at h1; cases h1
      · rw [Vt.at_iff] at h2
        exact absurd ⟨h2.1.symm, h2.2.1.symm, h2.2.2.symm⟩ (hno b hm)
/-- two rows in order of the same votes are one. -/
theorem srt_unique : ∀ {L L' : List Vt}, Srt L → Srt L' → L.Perm L' → L = L'
  | [], L', _, _, h => (List.nil_perm.1 h).symm
  | a :: l, [], _, _, h => by simpa using h.length_eq
  | a :: l, b :: l', h1, h2, h => by
    have e : a = b := by
      by_cases e : a = b
      · exact e
      · have ha : a ∈ l' := by
          rcases List.mem_cons.1 (h.mem_iff.1 (List.mem_cons_self ..)) with h | h
          · exact absurd h e
          · exact h
        have hb : b ∈ l := by
          rcases List.mem_cons.1 (h.mem_iff.2 (List.mem_cons_self ..)) with h | h
          · exact absurd h.symm e
          · exact h
        have g1 := (List.pairwise_cons.1 h1).1 b hb
        have g2 := (List.pairwise_cons.1 h2).1 a ha
        rw [ahead_asymm g1] at g2; cases g2
    subst e
    rw [srt_unique (List.pairwise_cons.1 h1).2 (List.pairwise_cons.1 h2).2 ((List.perm_cons a).1 h)]

/-- what Put answers. -/
def putB (n : Int) (L : List Vt) (v : Vt) : Bool := mayV v n && !hasV L v
/-- and what it leaves. -/
def putL (n : Int) (L : List Vt) (v : Vt) : List Vt := if putB n L v then ins v L else L
theorem putL_srt {n : Int} {L : List Vt} {v : Vt} (h : Srt L) : Srt (putL n L v) := by
  unfold putL
  by_cases hp : putB n L v = true
  · rw [if_pos hp]
    refine ins_srt h ?_
    simp only [putB, Bool.and_eq_true, Bool.not_eq_true'] at hp
    exact hp.2
  · rw [if_neg hp]; exact h
def Mays (n : Int) (L : List Vt) : Prop := ∀ v ∈ L, mayV v n = true
theorem putL_mays {n : Int} {L : List Vt} {v : Vt} (h : Mays n L) : Mays n (putL n L v) := by
  unfold putL
  by_cases hp : putB n L v = true
  · rw [if_pos hp]
    simp only [putB, Bool.and_eq_true, Bool.not_eq_true'] at hp
    intro u hu
    rcases mem_ins.1 hu with rfl | hu
    · exact hp.1
    · exact h u hu
  · rw [if_neg hp]; exact h
theorem mays_fr {n : Int} {L : List Vt} (h : Mays n L) {v : Vt} (hv : v ∈ L) : 1 ≤ v.fr ∧ v.fr ≤ n := by
  have := h v hv
  simp only [mayV, mayE, Bool.and_eq_true, Bool.not_eq_true', Bool.or_eq_false_iff, decide_eq_false_iff_not] at this
  omega
theorem mays_rd {n : Int} {L : List Vt} (h : Mays n L) {v : Vt} (hv : v ∈ L) : 0 ≤ v.rd ∧ v.rd < 100 := by
  have := h v hv
  simp only [mayV, mayE, Bool.and_eq_true, Bool.not_eq_true', Bool.or_eq_false_iff, decide_eq_false_iff_not] at this
  omega

/-- how many members sent a vote that counts. -/
def memN (n : Nat) (p : Vt → Bool) (L : List Vt) : Nat := ((List.range (n + 1)).filter fun f : Nat => L.any fun v => p v && (v.fr == (f : Int))).length
theorem memN_perm {n : Nat} {p : Vt → Bool} {L L' : List Vt} (h : L.Perm L') : memN n p L = memN n p L' := by
  unfold memN
  congr 2
  funext f
  rw [Bool.eq_iff_iff, List.any_eq_true, List.any_eq_true]
  constructor
  · rintro ⟨u, hu, hc⟩; exact ⟨u, h.mem_iff.1 hu, hc⟩
  · rintro ⟨u, hu, hc⟩; exact ⟨u, h.mem_iff.2 hu, hc⟩
theorem memN_nil (n : Nat) (p : Vt → Bool) : memN n p [] = 0 := by simp [memN]
theorem memN_le (n : Nat) (p : Vt → Bool) (L : List Vt) : memN n p L ≤ n + 1 := by
  unfold memN
  have := List.length_filter_le (fun f : Nat => L.any fun v => p v && (v.fr == (f : Int))) (List.range (n + 1))
  simpa using this
theorem filter_count {α : Type} [DecidableEq α] (l : List α) (hl : l.Nodup) (a b : α → Bool) (x : α) (hx : x ∈ l) (ha : a x = false) (hb : b x = true) (hab : ∀ y ∈ l, y ≠ x → a y = b y) : (l.filter b).length = (l.filter a).length + 1 := by
  induction l with
  | nil => simp at hx
  | cons y l ih =>
    obtain ⟨hy, hl⟩ := List.nodup_cons.1 hl
    by_cases e : y = x
    · subst e
      have : l.filter b = l.filter a := List.filter_congr fun z hz => (hab z (List.mem_cons_of_mem _ hz) (fun e => hy (e ▸ hz))).symm
      rw [List.filter_cons, List.filter_cons, if_pos hb, if_neg (by simp [ha]), this]; rfl
    · have hx' : x ∈ l := by
        rcases List.mem_cons.1 hx with h | h
        · exact absurd h.symm e
        · exact h
      have := ih hl hx' fun z hz => hab z (List.mem_cons_of_mem _ hz)
      have hyab := hab y (List.mem_cons_self ..) e
      rw [List.filter_cons, List.filter_cons, hyab]
      split
      · simp [this]
      · exact this
/-- one more. -/
theorem memN_snoc {n : Nat} {p : Vt → Bool} {L : List Vt} {v : Vt} (hv : 1 ≤ v.fr ∧ v.fr ≤ (n : Int)) :
    memN n p (L ++ [v]) = memN n p L + if p v = true ∧ (∀ u ∈ L, p u = true → u.fr ≠ v.fr) then 1 else 0 := by
  unfold memN
  by_cases h : p v = true ∧ (∀ u ∈ L, p u = true → u.fr ≠ v.fr)
  · rw [if_pos h]
    refine filter_count _ List.nodup_range _ _ v.fr.toNat (by simp; omega) ?_ ?_ ?_
    · rw [List.any_eq_false]
      intro u hu hc
      simp only [Bool.and_eq_true, beq_iff_eq] at hc
      exact h.2 u hu hc.1 (by omega)
    · simp only [List.any_append, List.any_cons, List.any_nil, Bool.or_false, Bool.or_eq_true, Bool.and_eq_true, beq_iff_eq]
      exact .inr ⟨h.1, by omega⟩
    · intro f _ hf
      simp only [List.any_append, List.any_cons, List.any_nil, Bool.or_false]
      have : (v.fr == (f : Int)) = false := by simp; omega
      rw [this]; simp
  · rw [if_neg h, Nat.add_zero]
    congr 2
    funext f
    simp only [List.any_append, List.any_cons, List.any_nil, Bool.or_false]
    by_cases hp : p v = true
    · have : ∃ u ∈ L, p u = true ∧ u.fr = v.fr := by
        apply Classical.byContradiction
        intro hn
        exact h ⟨hp, fun u hu hpu he => hn ⟨u, hu, hpu, he⟩⟩
      obtain ⟨u, hu, hpu, he⟩ := this
      rw [Bool.eq_iff_iff]
      simp only [Bool.or_eq_true, List.any_eq_true, Bool.and_eq_true, beq_iff_eq]
      constructor
      · rintro (h | ⟨_, h⟩)
        · exact h
        · exact ⟨u, hu, hpu, by omega⟩
      · exact fun h => .inl h
    · have : p v = false := by simpa using hp
      rw [this]; simp

/-- those that count. -/
def cntN (p : Vt → Bool) (L : List Vt) : Nat := (L.filter p).length
theorem cntN_snoc (p : Vt → Bool) (L : List Vt) (v : Vt) : cntN p (L ++ [v]) = cntN p L + if p v = true then 1 else 0 := by
  unfold cntN
  rw [List.filter_append, List.length_append]
  by_cases h : p v = true <;> simp [List.filter_cons, h]
theorem snoc_ind {α : Type} {motive : List α → Prop} (h0 : motive []) (h1 : ∀ l a, motive l → motive (l ++ [a])) (l : List α) : motive l := by
  have h : ∀ r : List α, motive r.reverse := by
    intro r
    induction r with
    | nil => exact h0
    | cons a r ih => rw [List.reverse_cons]; exact h1 _ _ ih
  have := h l.reverse
  rwa [List.reverse_reverse] at this
theorem srt_snoc {L : List Vt} {v : Vt} (h : Srt (L ++ [v])) : Srt L ∧ ∀ u ∈ L, ahead u v = true := by
  unfold Srt at h
  rw [List.pairwise_append] at h
  exact ⟨h.1, fun u hu => h.2.2 u hu v (by simp)⟩
theorem mays_snoc {n : Int} {L : List Vt} {v : Vt} (h : Mays n (L ++ [v])) : Mays n L ∧ 1 ≤ v.fr ∧ v.fr ≤ n :=
  ⟨fun u hu => h u (by simp [hu]), mays_fr h (by simp)⟩
/-- where a round and a Kind are asked, each counts for another member. -/
theorem memN_cnt {n : Nat} {p : Vt → Bool} {r k : Int} (hp : ∀ v, p v = true → v.rd = r ∧ v.kd = k) (L : List Vt) : Srt L → Mays n L → memN n p L = cntN p L := by
  refine snoc_ind (motive := fun L => Srt L → Mays n L → memN n p L = cntN p L) (fun _ _ => by simp [memN_nil, cntN]) (fun L v ih hs hm => ?_) L
  obtain ⟨h1, h2⟩ := srt_snoc hs
  obtain ⟨h3, h4⟩ := mays_snoc hm
  rw [memN_snoc h4, cntN_snoc, ih h1 h3]
  congr 1
  by_cases hv : p v = true
  · have hc : p v = true ∧ (∀ u ∈ L, p u = true → u.fr ≠ v.fr) := by
      refine ⟨hv, fun u hu hpu he => ?_⟩
      have a1 := hp _ hv
      have a2 := hp _ hpu
      have a3 := h2 u hu
      rw [ahead_iff] at a3
      omega
    rw [if_pos hv, if_pos hc]
  · rw [if_neg hv, if_neg (fun h => hv h.1)]

/-- does the vote at i count, as the reference counts? -/
def newAt (r : Int) (L : List Vt) (i : Nat) : Bool :=
  match L[i]? with
  | none => false
  | some v => (v.rd == r) && (i == 0 || match L[i - 1]? with
    | none => true
    | some u => !(u.rd == r) || !(u.fr == v.fr))
/-- as the reference counts: up to i. -/
def sentT (r : Int) (L : List Vt) : Nat → Nat
  | 0 => 0
  | i + 1 => sentT r L i + if newAt r L i = true then 1 else 0
theorem getLast_of {L : List Vt} (h : L ≠ []) : ∃ u, L[L.length - 1]? = some u ∧ u ∈ L ∧ L.getLast? = some u := by
  have hl : 0 < L.length := by
    cases L with
    | nil => exact absurd rfl h
    | cons _ _ => simp
  refine ⟨L[L.length - 1], List.getElem?_eq_getElem (by omega), List.getElem_mem _, ?_⟩
  rw [List.getLast?_eq_getElem?]
  exact List.getElem?_eq_getElem (by omega)
theorem le_last {L : List Vt} (h : Srt L) {u v : Vt} (hu : L[L.length - 1]? = some u) (hv : v ∈ L) : v = u ∨ ahead v u = true := by
  obtain ⟨i, hi⟩ := List.getElem?_of_mem hv
  have hl : i < L.length := (List.getElem?_eq_some_iff.1 hi).1
  by_cases e : i = L.length - 1
  · subst e; rw [hi] at hu; exact .inl (Option.some.inj hu)
  · refine .inr ?_
    have h1 := (List.getElem?_eq_some_iff.1 hi).2
    have h2 := (List.getElem?_eq_some_iff.1 hu).2
    have := List.pairwise_iff_getElem.1 h i (L.length - 1) hl (by omega) (by omega)
    rwa [h1, h2] at this
theorem newAt_take (r : Int) (L : List Vt) (v : Vt) (i : Nat) (h : i < L.length) : newAt r (L ++ [v]) i = newAt r L i := by
  unfold newAt
  rw [List.getElem?_append_left h, List.getElem?_append_left (by omega)]
theorem sentT_take (r : Int) (L : List Vt) (v : Vt) : ∀ i, i ≤ L.length → sentT r (L ++ [v]) i = sentT r L i
  | 0, _ => rfl
  | i + 1, h => by
    unfold sentT
    rw [sentT_take r L v i (by omega), newAt_take r L v i (by omega)]
theorem newAt_last (r : Int) (L : List Vt) (v : Vt) : newAt r (L ++ [v]) L.length = true ↔ v.rd = r ∧ (L = [] ∨ ∃ u, L[L.length - 1]? = some u ∧ (u.rd ≠ r ∨ u.fr ≠ v.fr)) := by
  unfold newAt
  rw [List.getElem?_append_right (Nat.le_refl _), Nat.sub_self]
  simp only [List.getElem?_cons_zero]
  by_cases h0 : L = []
  · subst h0; simp
  · obtain ⟨u, hu, _, _⟩ := getLast_of h0
    have hpos : L.length ≠ 0 := fun e => h0 (List.eq_nil_of_length_eq_zero e)
    rw [List.getElem?_append_left (by omega), hu]
    simp only [Bool.and_eq_true, beq_iff_eq, Bool.or_eq_true, Bool.not_eq_true', beq_eq_false_iff_ne]
    constructor
    · rintro ⟨h1, h2 | h2⟩
      · exact absurd h2 hpos
      · exact ⟨h1, .inr ⟨u, rfl, h2⟩⟩
    · rintro ⟨h1, h2 | ⟨u', hu', h2⟩⟩
      · exact absurd h2 h0
      · obtain rfl := Option.some.inj hu'
        exact ⟨h1, .inr h2⟩
/-- how many members sent anything in a round, by the row in order. -/
theorem memN_sent {n : Nat} (r : Int) (L : List Vt) : Srt L → Mays n L → memN n (fun v => v.rd == r) L = sentT r L L.length := by
  refine snoc_ind (motive := fun L => Srt L → Mays n L → memN n (fun v => v.rd == r) L = sentT r L L.length) (fun _ _ => by simp [memN_nil, sentT]) (fun L v ih hs hm => ?_) L
  obtain ⟨h1, h2⟩ := srt_snoc hs
  obtain ⟨h3, h4⟩ := mays_snoc hm
  rw [memN_snoc h4, ih h1 h3, List.length_append, List.length_singleton, sentT, sentT_take _ _ _ _ (Nat.le_refl _)]
  congr 2
  rw [newAt_last, beq_iff_eq, eq_iff_iff]
  constructor
  · rintro ⟨hv, hall⟩
    refine ⟨hv, ?_⟩
    by_cases h0 : L = []
    · exact .inl h0
    · obtain ⟨u, hu, hum, _⟩ := getLast_of h0
      refine .inr ⟨u, hu, ?_⟩
      by_cases e : u.rd = r
      · exact .inr (hall u hum (by simpa using e))
      · exact .inl e
  · rintro ⟨hv, hor⟩
    refine ⟨hv, fun u hu hur hf => ?_⟩
    rw [beq_iff_eq] at hur
    have h0 : L ≠ [] := fun e => by rw [e] at hu; simp at hu
    obtain ⟨z, hz, hzm, _⟩ := getLast_of h0
    rcases hor with h | ⟨z', hz', h'⟩
    · exact h0 h
    · rw [hz] at hz'
      obtain rfl := Option.some.inj hz'
      have a1 := h2 z hzm
      rw [ahead_iff] at a1
      rcases le_last h1 hz hu with e | e
      · subst e; omega
      · rw [ahead_iff] at e; omega

/-- where a vote stands. -/
def code (v : Vt) : Int := v.rd * 100 + v.fr * 10 + v.kd
theorem mays_kd {n : Int} {L : List Vt} (h : Mays n L) {v : Vt} (hv : v ∈ L) : 2 ≤ v.kd ∧ v.kd ≤ 4 := by
  have := h v hv
  simp only [mayV, mayK, Bool.and_eq_true] at this
  obtain ⟨_, h2⟩ := this
  split at h2
  · omega
  · split at h2
    · omega
    · split at h2
      · omega
      · cases h2
theorem code_lt {n : Int} {L : List Vt} (h : Mays n L) (hn : n ≤ 7) {u v : Vt} (hu : u ∈ L) (hv : v ∈ L) (ha : ahead u v = true) : code u < code v := by
  have a1 := mays_fr h hu; have a2 := mays_rd h hu; have a3 := mays_kd h hu
  have b1 := mays_fr h hv; have b2 := mays_rd h hv; have b3 := mays_kd h hv
  rw [ahead_iff] at ha
  unfold code
  omega
/-- there are not many. -/
theorem tly_len {n : Int} (hn : n ≤ 7) (L : List Vt) : Srt L → Mays n L → L.length ≤ 10000 := by
  have key : ∀ L : List Vt, Srt L → Mays n L → ∀ v, L.getLast? = some v → (L.length : Int) ≤ code v + 1 := by
    refine snoc_ind (fun _ _ v h => by simp at h) (fun L a ih hs hm v hv => ?_)
    rw [List.getLast?_append, List.getLast?_singleton] at hv
    have : a = v := by simpa using hv
    subst this
    obtain ⟨h1, h2⟩ := srt_snoc hs
    have h3 := (mays_snoc hm).1
    rw [List.length_append, List.length_singleton]
    by_cases h0 : L = []
    · subst h0
      have a1 := mays_fr hm (v := a) (by simp); have a2 := mays_rd hm (v := a) (by simp); have a3 := mays_kd hm (v := a) (by simp)
      unfold code; simp; omega
    · obtain ⟨u, _, hum, hul⟩ := getLast_of h0
      have h4 := ih h1 h3 u hul
      have h5 := code_lt hm hn (u := u) (v := a) (by simp [hum]) (by simp) (h2 u hum)
      omega
  intro hs hm
  by_cases h0 : L = []
  · subst h0; simp
  · obtain ⟨u, _, hum, hul⟩ := getLast_of h0
    have h1 := key L hs hm u hul
    have a1 := mays_fr hm hum; have a2 := mays_rd hm hum; have a3 := mays_kd hm hum
    unfold code at h1
    omega
end Go.Proofs.Ytnngnekfgijejaa
