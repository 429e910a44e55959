/-
  Parts of these texts that the statement needs: RegionI, RobW, PlyE, PoA, Lin.
-/
import Derived.Orders
import Derived.OwnWalk
import Derived.NoCompiler
import Derived.WalkKit
import Derived.Test.YtlbhmoiicbhgkaaDoorRobQ9
import Derived.Test.YtlbhmoiicbhgkaaDoorRobQ8

section
namespace Go.Rgi
/-- what is known of what an operation left: the very value; or what the invariant says of it. -/
inductive Know
  | is (v : Value)
  | sp
def Know.holds : Know → Value → Prop
  | .is v, u => u = v
  | .sp, _ => True
/-- what the operations of 'S' left, as far as they have come up. -/
abbrev Ghost := Nat → Option Value
def Ghost.upd (g : Ghost) (j : Nat) (v : Value) : Ghost := fun i => if i = j then some v else g i
/-- the newest lies first. -/
def look (Rs : List Know) (i : Nat) : Know := if i < Rs.length then Rs.getD (Rs.length - 1 - i) .sp else .sp
theorem look_cons (Rs : List Know) (k : Know) (i : Nat) (h : i < Rs.length) : look (k :: Rs) i = look Rs i := by
  unfold look
  rw [if_pos (by simp; omega), if_pos h]
  have : (k :: Rs).length - 1 - i = (Rs.length - 1 - i) + 1 := by simp; omega
  rw [this]; rfl
theorem look_new (Rs : List Know) (k : Know) : look (k :: Rs) Rs.length = k := by
  unfold look
  rw [if_pos (by simp)]
  simp
def predsOf (o : Oper) : List Nat := ((o.after.toList.filter fun e => Region.binds .any e).map (·.on)).eraseDups
theorem mem_preds {o : Oper} {i : Nat} : i ∈ predsOf o ↔ ∃ e ∈ o.after, Region.binds .any e = true ∧ e.on = i := by
  unfold predsOf
  rw [List.mem_eraseDups, List.mem_map]
  constructor
  · rintro ⟨e, he, rfl⟩
    rw [List.mem_filter] at he
    exact ⟨e, Array.mem_toList_iff.1 he.1, he.2, rfl⟩
  · rintro ⟨e, he, hb, rfl⟩
    exact ⟨e, List.mem_filter.2 ⟨Array.mem_toList_iff.2 he, hb⟩, rfl⟩
/-- l: some of those that o waits for, with all whose values it reads. -/
def fits (ds : List (Option Tmp)) (o : Oper) (l : List Nat) : Bool :=
  l.all (predsOf o).contains && (predsOf o).all fun i => l.contains i || match ds.getD i none with | some d => !(o.op.operands.any fun x => match x with | .tmp t => t == d | _ => false) | none => true
theorem fits_spec {ds : List (Option Tmp)} {o : Oper} {l : List Nat} (h : fits ds o l = true) : (∀ i ∈ l, i ∈ predsOf o) ∧ ∀ i ∈ predsOf o, ∀ d, ds.getD i none = some d → Operand.tmp d ∈ o.op.operands → i ∈ l := by
  simp only [fits, Bool.and_eq_true, List.all_eq_true, Bool.or_eq_true, List.contains_iff_mem] at h
  refine ⟨h.1, fun i hi d hd ho => ?_⟩
  rcases h.2 i hi with h | h
  · exact h
  · rw [hd] at h
    simp only [Bool.not_eq_true'] at h
    have : (o.op.operands.any fun x => match x with | .tmp t => t == d | _ => false) = true := Array.any_eq_true'.2 ⟨_, ho, by simp⟩
    rw [h] at this; cases this
def boolOf : Value → Option Bool
  | .bool b => some b
  | _ => none
def says (lk : Nat → Know) (o : Oper) : Option Bool :=
  match o.guard with
  | none => some true
  | some (g, want) => match lk g with
    | .is v => some (boolOf v == some want)
    | _ => none
def last (a : Act) : Option Tmp → Value
  | some d => (a.tmps[d]?).getD undef
  | none => undef
def from_ (ds : List (Option Tmp)) (lk : Nat → Know) (S : List Nat) (g : Ghost) : List Nat → Act → (Act → Prop) → Prop
  | [], a, G => G a
  | i :: l, a, G => match lk i with
    | .is v => from_ ds lk S g l (a.put (ds.getD i none) v) G
    | .sp => ∀ v, (S.contains i = true → g i = some v) → from_ ds lk S g l (a.put (ds.getD i none) v) G
def putAll (ds : List (Option Tmp)) (f : Nat → Value) : List Nat → Act → Act
  | [], a => a
  | i :: l, a => putAll ds f l (a.put (ds.getD i none) (f i))
section
variable {ds : List (Option Tmp)} {lk : Nat → Know} {S : List Nat} {g : Ghost} {f : Nat → Value} {G : Act → Prop}
theorem from_congr {lk' : Nat → Know} : ∀ {l : List Nat} {a : Act}, (∀ i ∈ l, lk i = lk' i) → from_ ds lk S g l a G → from_ ds lk' S g l a G
  | [], _, _, h => h
  | i :: l, a, he, h => by
    have h1 := he i (List.mem_cons_self ..)
    have h2 := fun j hj => he j (List.mem_cons_of_mem _ hj)
    unfold from_ at h ⊢
    rw [← h1]
    cases hk : lk i with
    | is v => rw [hk] at h; exact from_congr h2 h
    | sp => rw [hk] at h; exact fun v hv => from_congr h2 (h v hv)
theorem from_at : ∀ {l : List Nat} {a : Act}, from_ ds lk S g l a G → (∀ i ∈ l, (lk i).holds (f i) ∧ (S.contains i = true → g i = some (f i))) → G (putAll ds f l a)
  | [], _, h, _ => h
  | i :: l, a, h, hf => by
    have h1 := hf i (List.mem_cons_self ..)
    have h2 := fun j hj => hf j (List.mem_cons_of_mem _ hj)
    unfold from_ at h
    unfold putAll
    cases hk : lk i with
    | is v =>
      rw [hk] at h h1
      have h3 : f i = v := h1.1
      rw [h3]
      exact from_at h h2
    | sp =>
      rw [hk] at h
      exact from_at (h _ h1.2) h2
theorem from_mono {G' : Act → Prop} (hg : ∀ a, G a → G' a) : ∀ {l : List Nat} {a : Act}, from_ ds lk S g l a G → from_ ds lk S g l a G'
  | [], _, h => hg _ h
  | i :: l, a, h => by
    unfold from_ at h ⊢
    cases hk : lk i with
    | is v => rw [hk] at h; exact from_mono hg h
    | sp => rw [hk] at h; exact fun v hv => from_mono hg (h v hv)
theorem put_size (a : Act) (d : Option Tmp) (v : Value) : (a.put d v).tmps.size = a.tmps.size := by cases d <;> simp [Act.put]
theorem put_defers' (a : Act) (d : Option Tmp) (v : Value) : (a.put d v).defers = a.defers := by cases d <;> simp [Act.put]
theorem put_at_ne (a : Act) {d : Option Tmp} (v : Value) {t : Tmp} (h : d ≠ some t) : (a.put d v).tmps[t]? = a.tmps[t]? := by
  cases d with
  | none => rfl
  | some d => exact Array.getElem?_setIfInBounds_ne fun e => h (congrArg _ e)
theorem put_at_same (a : Act) (v : Value) {t : Tmp} (h : t < a.tmps.size) : (a.put (some t) v).tmps[t]? = some v := by
  simp [Act.put, h]
theorem putAll_size : ∀ (l : List Nat) (a : Act), (putAll ds f l a).tmps.size = a.tmps.size
  | [], _ => rfl
  | _ :: l, _ => (putAll_size l _).trans (put_size ..)
theorem putAll_defers : ∀ (l : List Nat) (a : Act), (putAll ds f l a).defers = a.defers
  | [], _ => rfl
  | _ :: l, _ => (putAll_defers l _).trans (put_defers' ..)
theorem putAll_ne {t : Tmp} : ∀ (l : List Nat) (a : Act), (∀ i ∈ l, ds.getD i none ≠ some t) → (putAll ds f l a).tmps[t]? = a.tmps[t]?
  | [], _, _ => rfl
  | i :: l, a, h => (putAll_ne l _ fun j hj => h j (List.mem_cons_of_mem _ hj)).trans (put_at_ne a _ (h i (List.mem_cons_self ..)))
theorem putAll_at {t : Tmp} {i : Nat} : ∀ (l : List Nat) (a : Act), t < a.tmps.size → i ∈ l → ds.getD i none = some t → (∀ j ∈ l, ds.getD j none = some t → j = i) → (putAll ds f l a).tmps[t]? = some (f i)
  | [], _, _, h, _, _ => by cases h
  | j :: l, a, hs, hi, hd, hu => by
    by_cases hin : i ∈ l
    · exact putAll_at l _ (by rw [put_size]; exact hs) hin hd fun k hk => hu k (List.mem_cons_of_mem _ hk)
    · obtain rfl : i = j := by
        rcases List.mem_cons.1 hi with h | h
        · exact h
        · exact absurd h hin
      refine (putAll_ne l _ fun k hk he => hin ?_).trans ?_
      · obtain rfl := hu k (List.mem_cons_of_mem _ hk) he
        exact hk
      · rw [hd]; exact put_at_same _ _ hs
end
/-- 'B': the invariant, by what the operations of 'S' have left. -/
structure Way where
  B : Ghost → World → Prop
  S : List Nat
/-- what is known when operation j has come up. -/
def Way.next (Y : Way) (g : Ghost) (j : Nat) (v : Value) : Ghost := if Y.S.contains j = true then g.upd j v else g
section
variable (P : Program) (Y : Way) (ds : List (Option Tmp)) (a0 : Act) (Q : Act → World → Prop)
def opGoal (lk : Nat → Know) (j : Nat) (o : Oper) (l : List Nat) (k : Know) : Prop :=
  ∀ g w, Y.B g w → g j = none → from_ ds lk Y.S g l a0 fun a => ∀ T : Exit → Act → World → Prop,
    (∀ a' w', a'.defers = a.defers → Y.B (Y.next g j (last a' o.dst)) w' → k.holds (last a' o.dst) → T .normal a' w') → wpList P #[] T [{ o with guard := none }] a w
def Good (lk : Nat → Know) (j : Nat) (o : Oper) (k : Know) : Prop :=
  (says lk o = some true ∧ ∃ l, fits ds o l = true ∧ opGoal P Y ds a0 lk j o l k) ∨ (says lk o = some false ∧ k = .is undef ∧ Y.S.contains j = false)
/-- all that are left, in the text's order. -/
def walk : List Oper → List Know → Prop
  | [], Rs => ∀ g w, Y.B g w → from_ ds (look Rs) Y.S g (List.range Rs.length) a0 fun a => Q a w
  | o :: rest, Rs => ∃ k : Know, Good P Y ds a0 (look Rs) Rs.length o k ∧ walk rest (k :: Rs)
end
/-- what is looked at once, closed. -/
def sane (ops : Array Oper) (ds : List (Option Tmp)) (size n : Nat) : Bool :=
  Region.noSelect ops && ds.length == ops.size &&
  (List.range ops.size).all fun j => match ops[j]? with
    | none => true
    | some o =>
      ds.getD j none == o.dst && (predsOf o).all (· < j) && (match o.dst with | some d => decide (d < size) | none => true) &&
      (match o.guard with | none => true | some (g, _) => (predsOf o).contains g && (ds.getD g none).isSome) &&
      (List.range n).all fun i => decide (n ≤ j) || match ds.getD i none with
        | none => true
        | some d => (i == j || o.dst != some d) && (!(o.looksAt ops).contains d || (predsOf o).contains i)
/-- from number n on each waits, at last, for all ahead of it. -/
def closes (ops : Array Oper) (n : Nat) : Bool :=
  (List.range ops.size).all fun j => decide (j < n) || match ops[j]? with
    | none => true
    | some o => o.guard.isNone && (List.range j).all fun i => (List.range (j + 1)).any fun i' => decide (i < i') && match ops[i']? with
      | none => false
      | some o' => (predsOf o').contains i
section
variable {P : Program} {Y : Way} {ds : List (Option Tmp)} {a0 : Act} {Q : Act → World → Prop} {ops : Array Oper}
structure Sane (ops : Array Oper) (ds : List (Option Tmp)) (size n : Nat) : Prop where
  nosel : ∀ (j : Nat) (o : Oper) cs b, ops[j]? = some o → o.op ≠ .select cs b
  len : ds.length = ops.size
  dst : ∀ {j : Nat} {o : Oper}, ops[j]? = some o → ds.getD j none = o.dst
  before : ∀ {j : Nat} {o : Oper}, ops[j]? = some o → ∀ i ∈ predsOf o, i < j
  small : ∀ {j : Nat} {o : Oper}, ops[j]? = some o → ∀ d, o.dst = some d → d < size
  guard : ∀ {j : Nat} {o : Oper}, ops[j]? = some o → ∀ g b, o.guard = some (g, b) → g ∈ predsOf o ∧ (ds.getD g none).isSome
  one : ∀ {j : Nat} {o : Oper}, ops[j]? = some o → j < n → ∀ i d, i < n → ds.getD i none = some d → o.dst = some d → i = j
  looks : ∀ {j : Nat} {o : Oper}, ops[j]? = some o → j < n → ∀ i d, i < n → ds.getD i none = some d → d ∈ o.looksAt ops → i ∈ predsOf o
theorem sane_spec {size n : Nat} (h : sane ops ds size n = true) : Sane ops ds size n := by
  simp only [sane, Bool.and_eq_true, List.all_eq_true, List.mem_range, beq_iff_eq] at h
  obtain ⟨⟨h1, h2⟩, h3⟩ := h
  have key := fun (j : Nat) (o : Oper) (hj : ops[j]? = some o) => by
    have := h3 j (Array.getElem?_eq_some_iff.1 hj).1
    simp only [hj, Bool.and_eq_true, beq_iff_eq, List.all_eq_true, decide_eq_true_eq, List.mem_range, Bool.or_eq_true] at this
    exact this
  refine ⟨Region.noSelect_spec h1, h2, fun hj => (key _ _ hj).1.1.1.1, fun hj => (key _ _ hj).1.1.1.2, fun hj d hd => ?_, fun hj g b hg => ?_, fun hj hjn i d hi hd ho => ?_, fun hj hjn i d hi hd ho => ?_⟩
  · have := (key _ _ hj).1.1.2; rw [hd] at this; simpa using this
  · have := (key _ _ hj).1.2; rw [hg] at this; simpa using this
  · have := ((key _ _ hj).2 i hi).resolve_left (by omega); rw [hd] at this; simp only [Bool.and_eq_true, Bool.or_eq_true, beq_iff_eq, bne_iff_ne, ne_eq] at this
    rcases this.1 with h | h
    · exact h
    · exact absurd ho h
  · have := ((key _ _ hj).2 i hi).resolve_left (by omega); rw [hd] at this
    simp only [Bool.and_eq_true, Bool.or_eq_true, Bool.not_eq_true', List.contains_iff_mem] at this
    rcases this.2 with h | h
    · exact absurd (List.contains_iff_mem.2 ho) (by rw [h]; simp)
    · exact h
theorem closes_spec {n : Nat} (h : closes ops n = true) : ∀ j o, n ≤ j → ops[j]? = some o → o.guard = none ∧ ∀ i, i < j → ∃ i' o', i < i' ∧ i' ≤ j ∧ ops[i']? = some o' ∧ i ∈ predsOf o' := by
  intro j o hj ho
  simp only [closes, List.all_eq_true, List.mem_range, Bool.or_eq_true, decide_eq_true_eq] at h
  have h1 := (h j (Array.getElem?_eq_some_iff.1 ho).1).resolve_left (by omega)
  simp only [ho, Bool.and_eq_true, List.all_eq_true, List.mem_range, List.any_eq_true, decide_eq_true_eq] at h1
  refine ⟨by simpa using h1.1, fun i hi => ?_⟩
  obtain ⟨i', h2, h3, h4⟩ := h1.2 i hi
  cases h5 : ops[i']? with
  | none => rw [h5] at h4; simp at h4
  | some o' =>
    rw [h5] at h4
    exact ⟨i', o', h3, by omega, h5, List.contains_iff_mem.1 h4⟩
theorem good_congr {lk lk' : Nat → Know} {j : Nat} {o : Oper} {k : Know} (hp : ∀ i ∈ predsOf o, lk i = lk' i) (hg : ∀ g b, o.guard = some (g, b) → g ∈ predsOf o) (h : Good P Y ds a0 lk j o k) : Good P Y ds a0 lk' j o k := by
  have hs : says lk o = says lk' o := by
    unfold says
    cases hgu : o.guard with
    | none => rfl
    | some gb => obtain ⟨g, b⟩ := gb; simp only [hp g (hg g b hgu)]
  rcases h with ⟨h1, l, hl, h2⟩ | ⟨h1, h2⟩
  · exact .inl ⟨hs ▸ h1, _, hl, fun g w hw hw1 => from_congr (fun i hi => hp i ((fits_spec hl).1 i hi)) (h2 g w hw hw1)⟩
  · exact .inr ⟨hs ▸ h1, h2⟩
theorem extract : ∀ (rest : List Oper) (Rs : List Know), (∀ j o, rest[j]? = some o → (∀ i ∈ predsOf o, i < Rs.length + j) ∧ ∀ g b, o.guard = some (g, b) → g ∈ predsOf o) → walk P Y ds a0 Q rest Rs →
    ∃ F : Nat → Know, (∀ i, i < Rs.length → F i = look Rs i) ∧ (∀ j o, rest[j]? = some o → Good P Y ds a0 F (Rs.length + j) o (F (Rs.length + j))) ∧ ∀ g w, Y.B g w → from_ ds F Y.S g (List.range (Rs.length + rest.length)) a0 fun a => Q a w
  | [], Rs, _, h => ⟨look Rs, fun _ _ => rfl, fun j o h => by simp at h, h⟩
  | o :: rest, Rs, hb, ⟨k, hg, h⟩ => by
    obtain ⟨F, h1, h2, h3⟩ := extract rest (k :: Rs) (fun j o' ho => by
      have := hb (j + 1) o' (by simpa using ho)
      exact ⟨fun i hi => by have := this.1 i hi; simp; omega, this.2⟩) h
    have hF : ∀ i, i < Rs.length → F i = look Rs i := fun i hi => (h1 i (by simp; omega)).trans (look_cons _ _ _ hi)
    refine ⟨F, hF, fun j o' ho => ?_, ?_⟩
    · cases j with
      | zero =>
        simp only [List.getElem?_cons_zero, Option.some.injEq] at ho
        subst ho
        have hbo := hb 0 o rfl
        rw [Nat.add_zero, h1 Rs.length (by simp), look_new]
        exact good_congr (fun i hi => (hF i (by have := hbo.1 i hi; omega)).symm) hbo.2 hg
      | succ j =>
        have := h2 j o' (by simpa using ho)
        have e : (k :: Rs).length + j = Rs.length + (j + 1) := by simp; omega
        rwa [e] at this
    · have e : (k :: Rs).length + rest.length = Rs.length + (o :: rest).length := by simp; omega
      rwa [e] at h3
/-- what has come up, as the invariant sees it. -/
def seen (S : List Nat) (listed : Array Bool) (f : Nat → Value) : Ghost := fun i => if S.contains i = true ∧ listed.getD i false = true then some (f i) else none
structure Inv (n : Nat) (ops : Array Oper) (ds : List (Option Tmp)) (Y : Way) (a0 : Act) (F : Nat → Know) (listed : Array Bool) (a : Act) (w : World) : Prop where
  defers : a.defers = a0.defers
  size : a.tmps.size = a0.tmps.size
  unlisted : ∀ j, n ≤ j → listed.getD j false = false
  down : ∀ j o, ops[j]? = some o → listed.getD j false = true → ∀ i ∈ predsOf o, listed.getD i false = true
  other : ∀ t, (∀ i, i < n → ds.getD i none = some t → listed.getD i false = false) → a.tmps[t]? = a0.tmps[t]?
  some_ : ∃ f : Nat → Value, Y.B (seen Y.S listed f) w ∧ ∀ i, i < n → listed.getD i false = true → (F i).holds (f i) ∧ ∀ d, ds.getD i none = some d → a.tmps[d]? = some (f i)
theorem count_lt (l : List Nat) (p q : Nat → Bool) (i : Nat) (hi : i ∈ l) (hp : p i = true) (hq : q i = false) (hle : ∀ j, q j = true → p j = true) : l.countP q < l.countP p := by
  induction l with
  | nil => cases hi
  | cons a l ih =>
    have hmono : l.countP q ≤ l.countP p := List.countP_mono_left fun j _ h => hle j h
    rw [List.countP_cons, List.countP_cons]
    rcases List.mem_cons.1 hi with rfl | hi
    · rw [hp, hq]; simp; omega
    · have := ih hi
      cases hqa : q a with
      | false => simp; split <;> omega
      | true => rw [hle a hqa]; simp; omega
theorem getD_set_same {listed : Array Bool} {j : Nat} {b : Bool} (h : j < listed.size) : (listed.setIfInBounds j true).getD j b = true := by simp [h]
/-- the tail: one behind the other. -/
theorem wp_tail {Q' : Exit → Act → World → Prop} {n : Nat} (S : Sane ops ds a0.tmps.size n) (hL : ∀ j o, n ≤ j → ops[j]? = some o → o.guard = none ∧ ∀ i, i < j → ∃ i' o', i < i' ∧ i' ≤ j ∧ ops[i']? = some o' ∧ i ∈ predsOf o') :
    ∀ (tail : List Oper) (m fuel : Nat) (listed : Array Bool) (a : Act) (w : World), n ≤ m → m + tail.length = ops.size → (∀ i, tail[i]? = ops[m + i]?) → tail.length ≤ fuel → (∀ i, i < ops.size → listed.getD i false = decide (i < m)) → listed.size = ops.size →
      wpList P #[] Q' (tail.map fun o => { o with guard := none }) a w → wpAny P .any ops Q' fuel listed a w
  | [], m, fuel, listed, a, w, hm, hlen, ht, hf, hl, hls, h => by
    refine wpAny_done ?_ h fuel
    rw [List.eq_nil_iff_forall_not_mem]
    intro i hi
    obtain ⟨h0, oi, hoi, _⟩ := mem_ready.1 hi
    have his := (Array.getElem?_eq_some_iff.1 hoi).1
    have h2 := hl i his
    simp only [List.length_nil] at hlen
    have h3 : i < listed.size := by omega
    have h4 : i < m := by omega
    simp [h3] at h0 h2
    rw [h0] at h2; simp [h4] at h2
  | o :: tail, m, fuel, listed, a, w, hm, hlen, ht, hf, hl, hls, h => by
    simp only [List.length_cons] at hlen hf
    have ho : ops[m]? = some o := by simpa using (ht 0).symm
    have hms : m < ops.size := by omega
    obtain ⟨fuel, rfl⟩ : ∃ k, fuel = k + 1 := ⟨fuel - 1, by omega⟩
    have hlm : ∀ i, i < m → listed.getD i false = true := fun i hi => by rw [hl i (by omega)]; simpa using hi
    have hready : m ∈ Region.ready .any ops listed := mem_ready.2 ⟨by
      have := hl m hms
      have h3 : m < listed.size := by omega
      simp [h3] at this ⊢; exact this, o, ho, fun e he hb => hlm _ (S.before ho _ (mem_preds.2 ⟨e, he, hb, rfl⟩))⟩
    refine ⟨fun h0 => absurd hready (by rw [h0]; simp), fun j hj => ?_⟩
    obtain ⟨hun, oj, hoj, hall⟩ := mem_ready.1 hj
    have hjs := (Array.getElem?_eq_some_iff.1 hoj).1
    have hjm : j = m := by
      have h2 := hl j hjs
      have h3 : j < listed.size := by omega
      have hge : m ≤ j := by
        rcases Nat.lt_or_ge j m with h4 | h4
        · have h5 := hlm j h4
          simp [h3] at hun h5; rw [hun] at h5; cases h5
        · exact h4
      rcases Nat.lt_or_ge m j with h4 | h4
      · -- m < j ready: then all ahead of it are listed: m too
        exfalso
        -- the successor of j - 1 ..: it is j itself, as i' in (j-1, j]
        have key : ∀ i, m ≤ i → i < j → False ∨ listed.getD i false = true := by
          intro i hi hij
          obtain ⟨i', o', h5, h6, h7, h8⟩ := (hL j oj (by omega) hoj).2 (j - 1) (by omega)
          obtain rfl : i' = j := by omega
          rw [hoj] at h7
          obtain rfl := Option.some.inj h7
          obtain ⟨e, he, hb, heq⟩ := mem_preds.1 h8
          have h9 := hall e he hb
          rw [heq, hl _ (by omega)] at h9
          simp at h9; omega
        rcases key m (Nat.le_refl _) h4 with h5 | h5
        · exact h5
        · rw [hl m hms] at h5; simp at h5
      · omega
    subst hjm
    rw [ho] at hoj
    obtain rfl := Option.some.inj hoj
    have hg := (hL j o hm ho).1
    unfold wpOp
    simp only [ho]
    have hw : Region.wanted o (yielded ops a.tmps) = true := by unfold Region.wanted; rw [hg]
    rw [if_pos hw]
    simp only [List.map_cons, wpList, Region.wanted, if_true] at h
    rcases h with h | h
    · refine .inl (Oper.wp_mono (fun a' w' h' => ?_) h)
      refine wp_tail S hL tail (j + 1) fuel _ a' w' (by omega) (by omega) (fun i => by have := ht (i + 1); simpa [Nat.add_assoc, Nat.add_comm 1 i] using this) (by omega) (fun i hi => ?_) (by simp [hls]) h'
      by_cases hij : j = i
      · subst hij
        rw [getD_set_same (by omega)]; simp
      · rw [getD_set_ne false hij, hl i hi]
        by_cases h1 : i < j
        · simp [h1]; omega
        · simp [h1]; omega
    · exact .inr h
theorem wp_any {F : Nat → Know} {n : Nat} {Q' : Exit → Act → World → Prop} (S : Sane ops ds a0.tmps.size n) (hn : n ≤ ops.size)
    (hG : ∀ j o, j < n → ops[j]? = some o → Good P Y ds a0 F j o (F j))
    (hL : ∀ j o, n ≤ j → ops[j]? = some o → o.guard = none ∧ ∀ i, i < j → ∃ i' o', i < i' ∧ i' ≤ j ∧ ops[i']? = some o' ∧ i ∈ predsOf o')
    (hQ : ∀ g w, Y.B g w → from_ ds F Y.S g (List.range n) a0 fun a => Q a w) 
    (tail : List Oper) (htl : n + tail.length = ops.size) (ht : ∀ i, tail[i]? = ops[n + i]?) (hQ' : ∀ a w, Q a w → wpList P #[] Q' (tail.map fun o => { o with guard := none }) a w) :
    ∀ (fuel : Nat) (listed : Array Bool) (a : Act) (w : World), listed.size = ops.size → (List.range ops.size).countP (fun i => !listed.getD i true) ≤ fuel → Inv n ops ds Y a0 F listed a w → wpAny P .any ops Q' fuel listed a w := by
  have full : ∀ (listed : Array Bool) (a : Act) (w : World), Inv n ops ds Y a0 F listed a w → (∀ i, i < n → listed.getD i false = true) → Q a w := by
    intro listed a w I all
    obtain ⟨f, hB, hf⟩ := I.some_
    have h := from_at (f := f) (hQ _ w hB) fun i hi => ⟨(hf i (List.mem_range.1 hi) (all _ (List.mem_range.1 hi))).1, fun hs => by
      unfold seen
      rw [if_pos ⟨hs, all _ (List.mem_range.1 hi)⟩]⟩
    have hea : putAll ds f (List.range n) a0 = a := by
      have ht : (putAll ds f (List.range n) a0).tmps = a.tmps := by
        apply Array.ext_getElem?
        intro t
        by_cases hex : ∃ i, i < n ∧ ds.getD i none = some t
        · obtain ⟨i, hi, hd⟩ := hex
          have ho : ops[i]? = some (ops[i]'(by omega)) := Array.getElem?_eq_getElem (by omega)
          have hod := S.dst ho
          rw [((hf i hi (all _ hi)).2 t hd)]
          refine putAll_at _ _ (S.small ho t (hod ▸ hd)) (List.mem_range.2 hi) hd fun j hj hdj => S.one ho hi j t (by have := List.mem_range.1 hj; omega) hdj (hod ▸ hd)
        · rw [putAll_ne _ _ fun i hi hd => hex ⟨i, List.mem_range.1 hi, hd⟩, I.other t fun i hi hd => absurd ⟨i, hi, hd⟩ hex]
      have hd := (putAll_defers (ds := ds) (f := f) (List.range n) a0).trans I.defers.symm
      generalize putAll ds f (List.range n) a0 = b at *
      cases a; cases b
      simp only at ht hd
      rw [ht, hd]
    rw [← hea]
    exact h
  -- all of the first n are listed: the tail
  have toTail : ∀ (fuel : Nat) (listed : Array Bool) (a : Act) (w : World), listed.size = ops.size → (List.range ops.size).countP (fun i => !listed.getD i true) ≤ fuel → Inv n ops ds Y a0 F listed a w → (∀ i, i < n → listed.getD i false = true) → wpAny P .any ops Q' fuel listed a w := by
    intro fuel listed a w hls hc I all
    have hl : ∀ i, i < ops.size → listed.getD i false = decide (i < n) := fun i hi => by
      rcases Nat.lt_or_ge i n with h | h
      · rw [all i h]; simp [h]
      · rw [I.unlisted i h]; simp; omega
    refine wp_tail S hL tail n fuel listed a w (Nat.le_refl _) htl ht ?_ hl hls (hQ' a w (full listed a w I all))
    -- as many are left as the tail is long
    have hcount : ∀ k, k ≤ ops.size → (List.range k).countP (fun i => !listed.getD i true) = k - n := by
      intro k
      induction k with
      | zero => intro _; simp
      | succ k ih =>
        intro hk
        rw [List.range_succ, List.countP_append, ih (by omega)]
        have h1 := hl k (by omega)
        have h2 : k < listed.size := by omega
        simp [h2] at h1
        rcases Nat.lt_or_ge k n with h | h
        · simp [h2, h1, h]; omega
        · have : ¬ k < n := by omega
          simp [h2, h1, this]; omega
    have := hcount ops.size (Nat.le_refl _)
    omega
  have stuck : ∀ (listed : Array Bool) (a : Act) (w : World), listed.size = ops.size → Inv n ops ds Y a0 F listed a w → Region.ready .any ops listed = [] → ∀ m j, j < m → j < ops.size → listed.getD j false = true := by
    intro listed a w hls I hr m
    induction m with
    | zero => intro j hj; omega
    | succ m ih =>
      intro j hj hjs
      have ho : ops[j]? = some ops[j] := Array.getElem?_eq_getElem hjs
      cases hl : listed.getD j true with
      | true =>
        have : j < listed.size := by omega
        simp [this] at hl ⊢; exact hl
      | false =>
        have : j ∈ Region.ready .any ops listed := mem_ready.2 ⟨hl, _, ho, fun e he hb => by
          have hlt := S.before ho e.on (mem_preds.2 ⟨e, he, hb, rfl⟩)
          exact ih e.on (by omega) (by omega)⟩
        rw [hr] at this; cases this
  intro fuel
  induction fuel with
  | zero =>
    intro listed a w hls hc I
    have hr : Region.ready .any ops listed = [] := by
      rw [List.eq_nil_iff_forall_not_mem]
      intro j hj
      obtain ⟨h0, o, ho, _⟩ := mem_ready.1 hj
      have := List.countP_eq_zero.1 (Nat.le_zero.1 hc) j (List.mem_range.2 (Array.getElem?_eq_some_iff.1 ho).1)
      rw [h0] at this; simp at this
    have all := stuck listed a w hls I hr
    exact toTail 0 listed a w hls hc I fun i hi => all _ i (Nat.lt_succ_self i) (by omega)
  | succ fuel ih =>
    intro listed a w hls hc I
    by_cases hfull : ∀ i, i < n → listed.getD i false = true
    case pos => exact toTail (fuel + 1) listed a w hls hc I hfull
    case neg =>
    refine ⟨fun hr => absurd (fun i hi => stuck listed a w hls I hr _ i (Nat.lt_succ_self i) (by omega)) hfull, fun j hj => ?_⟩
    obtain ⟨hun, o, ho, hall⟩ := mem_ready.1 hj
    have hjs : j < ops.size := (Array.getElem?_eq_some_iff.1 ho).1
    have hpl : ∀ i ∈ predsOf o, listed.getD i false = true := fun i hi => by
      obtain ⟨e, he, hb, rfl⟩ := mem_preds.1 hi
      exact hall e he hb
    have hjn : j < n := by
      rcases Nat.lt_or_ge j n with h | h
      · exact h
      · exfalso
        -- all ahead of it are listed
        have all : ∀ d i, i < j → j - i ≤ d → listed.getD i false = true := by
          intro d
          induction d with
          | zero => intro i hi hd; omega
          | succ d ihd =>
            intro i hi hd
            obtain ⟨i', o', h1, h2, h3, h4⟩ := (hL j o h ho).2 i hi
            rcases Nat.lt_or_ge i' j with h5 | h5
            · exact I.down i' o' h3 (ihd i' h5 (by omega)) i h4
            · obtain rfl : i' = j := by omega
              rw [ho] at h3
              obtain rfl := Option.some.inj h3
              exact hpl i h4
        exact hfull fun i hi => all _ i (by omega) (Nat.le_refl _)
    have hcount : (List.range ops.size).countP (fun i => !(listed.setIfInBounds j true).getD i true) ≤ fuel := by
      have := count_lt (List.range ops.size) (fun i => !listed.getD i true) (fun i => !(listed.setIfInBounds j true).getD i true) j (List.mem_range.2 hjs) (by rw [hun]; rfl) (by
        have : j < listed.size := by omega
        simp [this]) fun k hk => by
          by_cases hkj : j = k
          · subst hkj
            have : j < listed.size := by omega
            simp [this] at hk
          · rw [getD_set_ne true hkj] at hk; exact hk
      omega
    have hod := S.dst ho
    obtain ⟨f, hB, hf⟩ := I.some_
    have hps : ∀ i ∈ predsOf o, i < n := fun i hi => by have := S.before ho i hi; omega
    have hjl : j < listed.size := by omega
    have hjun : listed.getD j false = false := by simp [hjl] at hun ⊢; exact hun
    have hGj := hG j o hjn ho
    -- whatever it leaves: the next state is one of ours
    have next : ∀ w' a' v, Y.B (Y.next (seen Y.S listed f) j v) w' → (F j).holds v → a' = a.put o.dst v → Inv n ops ds Y a0 F (listed.setIfInBounds j true) a' w' := by
      intro w' a' v hw' hv ha
      subst ha
      refine ⟨(put_defers' ..).trans I.defers, (put_size ..).trans I.size, fun k hk => ?_, fun k ok hok hk i hi => ?_, fun t ht => ?_, fun i => if i = j then v else f i, ?_, fun i hi hl => ?_⟩
      · rw [getD_set_ne false (by omega)]; exact I.unlisted k hk
      · by_cases hkj : j = k
        · subst hkj
          rw [ho] at hok
          obtain rfl := Option.some.inj hok
          exact getD_set_true (hpl i hi)
        · rw [getD_set_ne false hkj] at hk
          exact getD_set_true (I.down k ok hok hk i hi)
      · rw [put_at_ne, I.other]
        · intro i hi hd
          have h1 := ht i hi hd
          by_cases hij : j = i
          · subst hij
            rw [getD_set_same hjl] at h1; cases h1
          · rw [getD_set_ne false hij] at h1; exact h1
        · intro hd
          have h1 := ht j hjn (hod.trans hd)
          rw [getD_set_same hjl] at h1; cases h1
      · have e : seen Y.S (listed.setIfInBounds j true) (fun i => if i = j then v else f i) = Y.next (seen Y.S listed f) j v := by
          funext i
          by_cases hij : i = j
          · subst hij
            by_cases hS : Y.S.contains i = true
            · have e1 : seen Y.S (listed.setIfInBounds i true) (fun k => if k = i then v else f k) i = some v := by
                unfold seen
                rw [if_pos ⟨hS, getD_set_same hjl⟩]
                simp
              have e2 : Y.next (seen Y.S listed f) i v i = some v := by
                unfold Way.next
                rw [if_pos hS]
                unfold Ghost.upd
                rw [if_pos rfl]
              exact e1.trans e2.symm
            · have e1 : seen Y.S (listed.setIfInBounds i true) (fun k => if k = i then v else f k) i = none := by
                unfold seen
                rw [if_neg fun h => hS h.1]
              have e2 : Y.next (seen Y.S listed f) i v i = none := by
                unfold Way.next
                rw [if_neg hS]
                unfold seen
                rw [if_neg fun h => hS h.1]
              exact e1.trans e2.symm
          · have e1 : seen Y.S (listed.setIfInBounds j true) (fun k => if k = j then v else f k) i = seen Y.S listed f i := by
              unfold seen
              simp only [getD_set_ne false (Ne.symm hij), if_neg hij]
            have e2 : Y.next (seen Y.S listed f) j v i = seen Y.S listed f i := by
              unfold Way.next
              split
              · unfold Ghost.upd
                rw [if_neg hij]
              · rfl
            exact e1.trans e2.symm
        rw [e]
        exact hw'
      · by_cases hij : i = j
        · subst hij
          simp only [if_true]
          refine ⟨hv, fun d hd => ?_⟩
          rw [hod] at hd
          rw [hd]
          exact put_at_same _ _ (by rw [I.size]; exact S.small ho d hd)
        · simp only [if_neg hij]
          rw [getD_set_ne false (Ne.symm hij)] at hl
          have h1 := hf i hi hl
          refine ⟨h1.1, fun d hd => ?_⟩
          rw [put_at_ne, h1.2 d hd]
          intro hd'
          exact hij (S.one ho hjn i d (by omega) hd hd')
    have goOn : ∀ w' a' v, Y.B (Y.next (seen Y.S listed f) j v) w' → (F j).holds v → a' = a.put o.dst v → wpAny P .any ops Q' fuel (listed.setIfInBounds j true) a' w' := fun w' a' v h1 h2 h3 =>
      ih _ _ _ (by simp [hls]) hcount (next w' a' v h1 h2 h3)
    -- what the guard says
    have hwant : ∀ b, says F o = some b → Region.wanted o (yielded ops a.tmps) = b := by
      intro b hb
      unfold says at hb
      unfold Region.wanted
      cases hgu : o.guard with
      | none => simp only [hgu] at hb; simpa using hb
      | some gw =>
        obtain ⟨g, want⟩ := gw
        obtain ⟨hgp, hgd⟩ := S.guard ho g want hgu
        simp only [hgu] at hb ⊢
        obtain ⟨d, hd⟩ := Option.isSome_iff_exists.1 hgd
        have hg1 := hf g (hps g hgp) (hpl g hgp)
        have hgs : g < ops.size := by have := hps g hgp; omega
        have hog : ops[g]? = some (ops[g]'hgs) := Array.getElem?_eq_getElem hgs
        have hgd' := S.dst hog
        cases hkn : F g with
        | sp => rw [hkn] at hb; simp at hb
        | is v =>
          rw [hkn] at hb hg1
          simp only [Know.holds] at hg1
          have hy : yielded ops a.tmps g = boolOf v := by
            unfold yielded
            rw [hog]
            simp only [Option.bind_some]
            rw [← hgd', hd]
            simp only [Option.bind_some]
            rw [hg1.2 d hd, hg1.1]
            cases v <;> rfl
          rw [hy]
          simpa using hb
    unfold wpOp
    simp only [ho]
    rcases hGj with ⟨hs, l, hl, hop⟩ | ⟨hs, hk, hk2⟩
    · obtain ⟨hl1, hl2⟩ := fits_spec hl
      rw [if_pos (hwant _ hs)]
      have hc := from_at (f := f) (hop _ w hB (by unfold seen; rw [if_neg]; rw [hjun]; simp)) fun i hi => ⟨(hf i (hps i (hl1 i hi)) (hpl i (hl1 i hi))).1, fun hs => by
        unfold seen
        rw [if_pos ⟨hs, hpl i (hl1 i hi)⟩]⟩
      obtain ⟨c, hcdef⟩ : ∃ c, putAll ds f l a0 = c := ⟨_, rfl⟩
      have hcsize : c.tmps.size = a0.tmps.size := by rw [← hcdef]; exact putAll_size _ _
      have agree : ∀ t, Operand.tmp t ∈ o.op.operands → a.tmps[t]? = c.tmps[t]? := by
        intro t ht
        have htl : t ∈ o.looksAt ops := List.mem_append_left _ (List.mem_filterMap.2 ⟨.tmp t, by simpa using ht, rfl⟩)
        rw [← hcdef]
        by_cases hex : ∃ i, i < n ∧ ds.getD i none = some t
        · obtain ⟨i, hi, hd⟩ := hex
          have hoi : ops[i]? = some (ops[i]'(by omega)) := Array.getElem?_eq_getElem (by omega)
          have hip := S.looks ho hjn i t (by omega) hd htl
          rw [(hf i hi (hpl i hip)).2 t hd]
          exact (putAll_at _ _ (S.small hoi t (S.dst hoi ▸ hd)) (hl2 i hip t hd ht) hd fun k hk hdk => S.one hoi hi k t (by have := hps k (hl1 k hk); omega) hdk (S.dst hoi ▸ hd)).symm
        · rw [putAll_ne _ _ fun i hi hd => hex ⟨i, hps i (hl1 i hi), hd⟩, I.other t fun i hi hd => absurd ⟨i, hi, hd⟩ hex]
      have heval : ∀ x ∈ o.op.operands, a.eval x = c.eval x := by
        intro x hx
        cases x with
        | tmp t =>
          have := agree t hx
          simp only [Act.eval, Array.getD_eq_getD_getElem?]
          rw [this]
        | _ => rfl
      have hexec : execOp a.eval o = execOp c.eval o := execOp_congr o (fun cs b => S.nosel j o cs b ho) heval
      rw [hcdef] at hc
      have hcl := hc (fun e a' w' => e = .normal ∧ a'.defers = c.defers ∧ Y.B (Y.next (seen Y.S listed f) j (last a' o.dst)) w' ∧ (F j).holds (last a' o.dst)) fun a' w' h1 h2 h3 => ⟨rfl, h1, h2, h3⟩
      simp only [wpList, Region.wanted, if_true] at hcl
      rcases hcl with hcl | ⟨_, hout⟩
      · refine .inl ?_
        have hlast : ∀ v, last (c.put o.dst v) o.dst = v ∨ (o.dst = none ∧ last (c.put o.dst v) o.dst = undef) := by
          intro v
          cases hd : o.dst with
          | none => exact .inr ⟨rfl, rfl⟩
          | some d =>
            refine .inl ?_
            change ((c.put (some d) v).tmps[d]?).getD undef = v
            rw [put_at_same _ _ (by rw [hcsize]; exact S.small ho d hd)]
            rfl
        have fin : ∀ v w', Y.B (Y.next (seen Y.S listed f) j (last (c.put o.dst v) o.dst)) w' → (F j).holds (last (c.put o.dst v) o.dst) → wpAny P .any ops Q' fuel (listed.setIfInBounds j true) (a.put o.dst v) w' := by
          intro v w' h1 h2
          rcases hlast v with h | ⟨hn, h⟩
          · rw [h] at h1 h2
            exact goOn w' _ v h1 h2 rfl
          · rw [h] at h1 h2
            refine goOn w' _ undef h1 h2 ?_
            rw [hn]; rfl
        unfold Oper.wp at hcl ⊢
        rw [hexec]
        have hx2 : execOp c.eval { o with guard := none } = execOp c.eval o := rfl
        rw [hx2] at hcl
        generalize (execOp c.eval o).run P w = r at hcl ⊢
        cases r with
        | halt x w' => cases x <;> simp [Oper.upon] at hcl
        | ok n w' =>
          cases n
          case value v => exact fin v w' hcl.2.2.1 hcl.2.2.2
          case skip => exact fin undef w' hcl.2.2.1 hcl.2.2.2
          case defer d =>
            have h1 := hcl.2.1
            rw [put_defers'] at h1
            have := congrArg List.length h1
            simp at this
          case row row args => exact Rows.mono hcl fun v w'' h => fin v w'' h.2.2.1 h.2.2.2
          case enter fn args =>
            refine Calls.mono hcl fun e w'' h => ?_
            cases e with
            | returned v => exact fin v w'' h.2.2.1 h.2.2.2
            | panicked ch => simp at h
            | outgrown => obtain ⟨_, _, h, _⟩ := h; cases h
          all_goals exact hcl.elim
      · obtain ⟨_, _, h, _⟩ := hout
        cases h
    · rw [if_neg (by rw [hwant _ hs]; simp)]
      exact goOn w _ undef (by unfold Way.next; rw [hk2]; exact hB) (by rw [hk]; rfl) rfl
/-- the first ones in whatever order, the tail behind them. -/
theorem any_region {Q' : Exit → Act → World → Prop} {l tail : List Oper} {a : Act} {w : World} (Y : Way) (ds : List (Option Tmp)) (size : Nat) (hs : sane (l ++ tail).toArray ds size l.length = true) (hc : closes (l ++ tail).toArray l.length = true) (hz : a.tmps.size = size)
    (hB : Y.B (fun _ => none) w.drew) (h : walk P Y ds a (fun a w => wpList P #[] Q' (tail.map fun o => { o with guard := none }) a w) l []) : wpAny P .any (l ++ tail).toArray Q' (l ++ tail).toArray.size (Array.replicate (l ++ tail).toArray.size false) a { w with drawn := w.drawn + 1 } := by
  subst hz
  have S := sane_spec hs
  have hpre : ∀ (j : Nat) (o : Oper), l[j]? = some o → (l ++ tail).toArray[j]? = some o := fun j o hj => by
    have := (List.getElem?_eq_some_iff.1 hj).1
    simpa [List.getElem?_append_left this] using hj
  obtain ⟨F, _, h2, h3⟩ := extract l [] (fun j o hj => ⟨fun i hi => by
    have := S.before (hpre j o hj) i hi
    simpa using this, fun g b hg => (S.guard (hpre j o hj) g b hg).1⟩) h
  have hsz : (l ++ tail).toArray.size = l.length + tail.length := by simp
  refine (wp_any (Y := Y) (Q := fun a w => wpList P #[] Q' (tail.map fun o => { o with guard := none }) a w) (F := F) (a0 := a) (n := l.length) S (by omega) (fun j o hj ho => ?_) (closes_spec hc) (fun g w' hw' => ?_) tail hsz.symm (fun i => ?_) (fun _ _ h => h) _ _ _ _ (by simp) ?_ ⟨rfl, rfl, fun j _ => ?_, fun j o _ hl => ?_, fun _ _ => rfl, fun _ => undef, ?_, fun i hi hl => ?_⟩)
  · have h4 : l[j]? = some l[j] := List.getElem?_eq_getElem hj
    have h5 := hpre j _ h4
    rw [h5] at ho
    obtain rfl := Option.some.inj ho
    have := h2 j _ h4
    simpa using this
  · have := h3 g w' hw'
    simpa using this
  · rw [List.getElem?_toArray, List.getElem?_append_right (by omega), Nat.add_sub_cancel_left]
  · have := List.countP_le_length (p := fun i => !(Array.replicate (l ++ tail).toArray.size false).getD i true) (l := List.range (l ++ tail).toArray.size)
    simpa using this
  · by_cases hj : j < (l ++ tail).toArray.size
    · simp at hj; simp [hj]
    · simp at hj; simp [show ¬ j < l.length + tail.length by omega]
  · by_cases hj : j < (l ++ tail).toArray.size
    · simp at hj; simp [hj] at hl
    · simp at hj; simp [show ¬ j < l.length + tail.length by omega] at hl
  · have e : seen Y.S (Array.replicate (l ++ tail).toArray.size false) (fun _ => undef) = fun _ => none := by
      funext i
      unfold seen
      rw [if_neg]
      intro h
      have h1 := h.2
      rw [Array.getD_eq_getD_getElem?] at h1
      by_cases hi : i < (l ++ tail).toArray.size
      · rw [Array.getElem?_eq_getElem (by simpa using hi)] at h1; simp at h1
      · rw [Array.getElem?_eq_none (by simpa using hi)] at h1; simp at h1
    rw [e]
    exact hB
  · have : i < l.length + tail.length := by omega
    simp [this] at hl
/-- **THE LAW**: at a region that draws its order: the first ones in whatever order, the tail behind them. -/
theorem wp_region {id : Nat} {Q' : Exit → Act → World → Prop} {l tail : List Oper} {a : Act} {w : World} (Y : Way) (ds : List (Option Tmp)) (size : Nat) (hm : P.follows .mixedOrders = true) (hs : sane (l ++ tail).toArray ds size l.length = true) (hc : closes (l ++ tail).toArray l.length = true) (hz : a.tmps.size = size)
    (hB : Y.B (fun _ => none) w.drew) (h : walk P Y ds a (fun a w => wpList P #[] Q' (tail.map fun o => { o with guard := none }) a w) l []) : (Code.region id (l ++ tail).toArray true).wp P Q' a w := by
  exact wp_region_any hm (any_region Y ds size hs hc hz hB h)
end
section
variable {P : Program} {Y : Way} {ds : List (Option Tmp)} {a0 : Act} {Q : Act → World → Prop} {Rs : List Know} {rest : List Oper}
section
variable {dst : Option Tmp} {op : Op} {type : TypeId} {pos : String} {after : Array Edge} {guard : Option (Nat × Bool)}
theorem op_is (v : Value) (l : List Nat) (hj : Y.S.contains Rs.length = false) (hs : says (look Rs) ⟨dst, op, type, pos, after, guard⟩ = some true) (hl : fits ds ⟨dst, op, type, pos, after, guard⟩ l = true)
    (h : ∀ g w, Y.B g w → from_ ds (look Rs) Y.S g l a0 fun a => ∀ T : Exit → Act → World → Prop, (∀ a' w', a'.defers = a.defers → Y.B g w' → last a' dst = v → T .normal a' w') → wpList P #[] T [⟨dst, op, type, pos, #[], none⟩] a w)
    (hr : walk P Y ds a0 Q rest (.is v :: Rs)) : walk P Y ds a0 Q (⟨dst, op, type, pos, after, guard⟩ :: rest) Rs := by
  refine ⟨.is v, .inl ⟨hs, l, hl, fun g w hw _ => ?_⟩, hr⟩
  have e : ∀ u, Y.next g Rs.length u = g := fun u => by unfold Way.next; rw [hj]; simp
  simp only [e]
  exact h g w hw
/-- one that the invariant tells of. -/
theorem op_sp (l : List Nat) (hj : Y.S.contains Rs.length = true) (hs : says (look Rs) ⟨dst, op, type, pos, after, guard⟩ = some true) (hl : fits ds ⟨dst, op, type, pos, after, guard⟩ l = true)
    (h : ∀ g w, Y.B g w → g Rs.length = none → from_ ds (look Rs) Y.S g l a0 fun a => ∀ T : Exit → Act → World → Prop, (∀ a' w', a'.defers = a.defers → Y.B (g.upd Rs.length (last a' dst)) w' → T .normal a' w') → wpList P #[] T [⟨dst, op, type, pos, #[], none⟩] a w)
    (hr : walk P Y ds a0 Q rest (.sp :: Rs)) : walk P Y ds a0 Q (⟨dst, op, type, pos, after, guard⟩ :: rest) Rs := by
  refine ⟨.sp, .inl ⟨hs, l, hl, fun g w hw hg => ?_⟩, hr⟩
  have e : ∀ u, Y.next g Rs.length u = g.upd Rs.length u := fun u => by unfold Way.next; rw [hj]; simp
  simp only [e]
  exact from_mono (fun a h T hT => h T fun a' w' h1 h2 => hT a' w' h1 h2 trivial) (h g w hw hg)
end
theorem from_is {lk : Nat → Know} {S : List Nat} {g : Ghost} {i : Nat} {l : List Nat} {a : Act} {G : Act → Prop} {v : Value} (d : Option Tmp) (hk : lk i = .is v) (hd : ds.getD i none = d) (h : from_ ds lk S g l (a.put d v) G) : from_ ds lk S g (i :: l) a G := by
  subst hd
  unfold from_
  rw [hk]
  exact h
theorem from_sp {lk : Nat → Know} {S : List Nat} {g : Ghost} {i : Nat} {l : List Nat} {a : Act} {G : Act → Prop} (d : Option Tmp) (hk : lk i = .sp) (hd : ds.getD i none = d) (hS : S.contains i = true) (h : ∀ v, g i = some v → from_ ds lk S g l (a.put d v) G) : from_ ds lk S g (i :: l) a G := by
  subst hd
  unfold from_
  rw [hk]
  exact fun v hv => h v (hv hS)
theorem from_nil {lk : Nat → Know} {S : List Nat} {g : Ghost} {a : Act} {G : Act → Prop} (h : G a) : from_ ds lk S g [] a G := h
theorem walk_nil (l : List Nat) (hl : List.range Rs.length = l) (h : ∀ g w, Y.B g w → from_ ds (look Rs) Y.S g l a0 fun a => Q a w) : walk P Y ds a0 Q [] Rs := by
  subst hl; exact h
end
/-- memory grows, and what there was stays. -/
def Keep (w w' : World) : Prop := Go.RowKit.Below w.heap.size w w'
theorem Keep.refl (w : World) : Keep w w := Go.RowKit.Below.refl _ w
theorem Keep.trans {a b c : World} (h : Keep a b) (k : Keep b c) : Keep a c := Go.RowKit.Below.trans h (Go.RowKit.Below.mono k h.size)
theorem keep_drew (w : World) : Keep w w.drew := ⟨rfl, rfl, rfl, Nat.le_refl _, fun _ _ => rfl⟩
end Go.Rgi
end

section
section
namespace Go.Proofs.YtlbhmoiicbhgkaaDoor
open Go.RowKit
/-- number i of those that are left without number o. -/
def skip (o i : Nat) : Nat := if i < o then i else i + 1
/-- the number that it has then. -/
def unskip (o i : Nat) : Nat := if i < o then i else i - 1
theorem skip_ne (o i : Nat) : skip o i ≠ o := by unfold skip; split <;> omega
theorem unskip_skip (o i : Nat) : unskip o (skip o i) = i := by
  unfold skip unskip
  by_cases h : i < o
  · rw [if_pos h, if_pos h]
  · rw [if_neg h, if_neg (by omega)]; omega
/-- where the sets from i on begin. -/
def from_o (o i : Nat) : Nat := if i ≤ o then i else i + 1
theorem setsL_step (m fr n : Nat) : setsL (m + 1) fr n = if fr < n then (setsL m (fr + 1) n).map (fr :: ·) ++ setsL (m + 1) (fr + 1) n else [] := by
  rw [setsL]
  by_cases h : fr + m < n
  · obtain ⟨k, hk⟩ : ∃ k, n - m - fr = k + 1 := ⟨n - m - fr - 1, by omega⟩
    rw [if_pos (by omega), hk, List.range'_succ, List.flatMap_cons, setsL, show n - m - (fr + 1) = k by omega]
  · rw [show n - m - fr = 0 by omega]
    split
    · rename_i hf
      cases m with
      | zero => omega
      | succ m =>
        rw [setsL, setsL, show n - m - (fr + 1) = 0 by omega, show n - (m + 1) - (fr + 1) = 0 by omega]
        simp
    · simp
theorem has_cons {o a : Nat} (h : a ≠ o) : ((fun s : List Nat => !s.contains o) ∘ (a :: ·)) = fun s : List Nat => !s.contains o := by
  funext s
  simp only [Function.comp, List.contains_cons]
  have : (o == a) = false := by simpa using fun e => h e.symm
  rw [this, Bool.false_or]
theorem has_self (o : Nat) (L : List (List Nat)) : (L.map (o :: ·)).filter (fun s : List Nat => !s.contains o) = [] := by
  rw [List.filter_eq_nil_iff]
  intro s hs
  obtain ⟨r, _, rfl⟩ := List.mem_map.1 hs
  simp
theorem map_cons_map (o a : Nat) (L : List (List Nat)) : (L.map (a :: ·)).map (·.map (skip o)) = (L.map (·.map (skip o))).map (skip o a :: ·) := by
  rw [List.map_map, List.map_map]
  rfl
theorem filter_cons_map {o a : Nat} (h : a ≠ o) (L : List (List Nat)) : (L.map (a :: ·)).filter (fun s : List Nat => !s.contains o) = (L.filter (fun s : List Nat => !s.contains o)).map (a :: ·) := by
  rw [List.filter_map, has_cons h]
theorem sets_skip (o : Nat) : ∀ (m d fr n : Nat), n + 1 - fr ≤ d → o ≤ n → (setsL m fr n).map (·.map (skip o)) = (setsL m (from_o o fr) (n + 1)).filter (fun s => !s.contains o)
  | 0, d, fr, n, _, _ => by simp [setsL]
  | m + 1, 0, fr, n, hd, ho => by
    rw [setsL_step, if_neg (by omega), setsL_step, if_neg (by unfold from_o; split <;> omega)]
    rfl
  | m + 1, d + 1, fr, n, hd, ho => by
    by_cases h1 : fr < o
    · have e : from_o o fr = fr := by unfold from_o; rw [if_pos (by omega)]
      have e1 : from_o o (fr + 1) = fr + 1 := by unfold from_o; rw [if_pos (by omega)]
      have s1 : skip o fr = fr := by unfold skip; rw [if_pos h1]
      have i1 := sets_skip o m d (fr + 1) n (by omega) ho
      have i2 := sets_skip o (m + 1) d (fr + 1) n (by omega) ho
      rw [e, setsL_step m fr n, setsL_step m fr (n + 1), if_pos (by omega), if_pos (by omega), List.map_append, List.filter_append, map_cons_map, filter_cons_map (by omega), i1, i2, s1, e1]
    · by_cases h2 : fr = o
      · subst h2
        have e : from_o fr fr = fr := by unfold from_o; rw [if_pos (by omega)]
        rw [e, setsL_step m fr (n + 1), if_pos (by omega), List.filter_append, has_self, List.nil_append]
        by_cases h3 : fr < n
        · have e1 : from_o fr (fr + 1) = fr + 1 + 1 := by unfold from_o; rw [if_neg (by omega)]
          have s1 : skip fr fr = fr + 1 := by unfold skip; rw [if_neg (by omega)]
          have i1 := sets_skip fr m d (fr + 1) n (by omega) ho
          have i2 := sets_skip fr (m + 1) d (fr + 1) n (by omega) ho
          rw [setsL_step m fr n, setsL_step m (fr + 1) (n + 1), if_pos h3, if_pos (by omega), List.map_append, List.filter_append, map_cons_map, filter_cons_map (by omega), i1, i2, s1, e1]
        · rw [setsL_step m fr n, setsL_step m (fr + 1) (n + 1), if_neg h3, if_neg (by omega)]
          rfl
      · have e : from_o o fr = fr + 1 := by unfold from_o; rw [if_neg (by omega)]
        have e1 : from_o o (fr + 1) = fr + 1 + 1 := by unfold from_o; rw [if_neg (by omega)]
        have s1 : skip o fr = fr + 1 := by unfold skip; rw [if_neg (by omega)]
        have i1 := sets_skip o m d (fr + 1) n (by omega) ho
        have i2 := sets_skip o (m + 1) d (fr + 1) n (by omega) ho
        rw [e, setsL_step m fr n, setsL_step m (fr + 1) (n + 1)]
        by_cases h3 : fr < n
        · rw [if_pos h3, if_pos (by omega), List.map_append, List.filter_append, map_cons_map, filter_cons_map (by omega), i1, i2, s1, e1]
        · rw [if_neg h3, if_neg (by omega)]
          rfl
theorem getD_erase (l : List Int) (o i : Nat) : (l.eraseIdx o).getD i 0 = l.getD (skip o i) 0 := by
  rw [List.getD_eq_getElem?_getD, List.getD_eq_getElem?_getD, List.getElem?_eraseIdx]
  unfold skip
  split <;> rfl
theorem pick_erase (l : List Int) (o : Nat) (s : List Nat) : pick (l.eraseIdx o) s = pick l (s.map (skip o)) := by
  unfold pick
  rw [List.map_map]
  exact List.map_congr_left fun i _ => getD_erase l o i
theorem range_skip_lt (o : Nat) : ∀ k, k ≤ o → (List.range k).map (skip o) = List.range k := fun k hk => by
  rw [List.map_congr_left (g := id) (fun i hi => by unfold skip; rw [if_pos (by have := List.mem_range.1 hi; omega)]; rfl), List.map_id]
theorem range_skip (o : Nat) : ∀ d, (List.range (o + d)).map (skip o) = (List.range (o + d + 1)).filter fun i => decide (i ≠ o)
  | 0 => by
    rw [Nat.add_zero, range_skip_lt o o (Nat.le_refl _), List.range_succ, List.filter_append, List.filter_eq_self.2 (fun i hi => by have := List.mem_range.1 hi; simp; omega)]
    simp
  | d + 1 => by
    rw [← Nat.add_assoc, List.range_succ, List.map_append, range_skip o d, List.range_succ (n := o + d + 1), List.filter_append]
    congr 1
    simp only [List.map_cons, List.map_nil, List.filter_cons, List.filter_nil]
    rw [if_pos (by simp; omega)]
    unfold skip
    rw [if_neg (by omega)]
/-- the others that are wrong. -/
def othersL (o : Nat) (ws : List Nat) : List Nat := (ws.filter fun i => decide (i ≠ o)).map (unskip o)
theorem off_erase {l m : List Int} (c : List Int) (q : Int) {o : Nat} (ho : o < l.length) : (offL (l.eraseIdx o) (m.eraseIdx o) c q).map (skip o) = (offL l m c q).filter fun i => decide (i ≠ o) := by
  unfold offL offK
  have hB : offB (l.eraseIdx o) (m.eraseIdx o) c q = offB l m c q ∘ skip o := by
    funext i
    unfold offB
    simp only [Function.comp, getD_erase]
  have hl : (l.eraseIdx o).length = o + (l.length - 1 - o) := by rw [List.length_eraseIdx_of_lt ho]; omega
  rw [hB, hl, ← List.filter_map, range_skip, List.filter_filter, List.filter_filter, show o + (l.length - 1 - o) + 1 = l.length by omega]
  congr 1
  funext i
  rw [Bool.and_comm]
theorem off_others {l m : List Int} (c : List Int) (q : Int) {o : Nat} (ho : o < l.length) : offL (l.eraseIdx o) (m.eraseIdx o) c q = othersL o (offL l m c q) := by
  unfold othersL
  rw [← off_erase c q ho, List.map_map]
  rw [List.map_congr_left (g := id) (fun i _ => by simp only [Function.comp, unskip_skip]; rfl), List.map_id]
theorem off_nodup (l m c : List Int) (q : Int) : (offL l m c q).Nodup := List.Pairwise.filter _ List.nodup_range
theorem filter_ne_len {o : Nat} : ∀ {L : List Nat}, L.Nodup → (L.filter fun i => decide (i ≠ o)).length + (if o ∈ L then 1 else 0) = L.length
  | [], _ => by simp
  | a :: L, h => by
    have hL := List.nodup_cons.1 h
    have := filter_ne_len (o := o) hL.2
    by_cases e : a = o
    · subst e
      rw [if_neg hL.1] at this
      rw [List.filter_cons, if_neg (by simp), if_pos (List.mem_cons_self ..), List.length_cons]
      omega
    · rw [List.filter_cons, if_pos (by simpa using e), List.length_cons, List.length_cons]
      simp only [List.mem_cons, show (o = a) = False from eq_false fun h => e h.symm, false_or]
      omega
theorem off_len_erase {l m : List Int} (c : List Int) (q : Int) {o : Nat} (ho : o < l.length) : (offL (l.eraseIdx o) (m.eraseIdx o) c q).length + (if o ∈ offL l m c q then 1 else 0) = (offL l m c q).length := by
  have := congrArg List.length (off_erase (m := m) c q ho)
  rw [List.length_map] at this
  rw [this, filter_ne_len (off_nodup l m c q)]
theorem try_none {xs ys : List Int} {t q : Int} {s : List Nat} (h0 : tErr (pick xs s) (pick ys s) q = 0) : tryS xs ys t q s = none ↔ ¬ (xs.length : Int) - (offL xs ys (tVal (pick xs s) (pick ys s) q) q).length > 2 * t := by
  unfold tryS
  rw [if_pos h0]
  by_cases h : (xs.length : Int) - (offL xs ys (tVal (pick xs s) (pick ys s) q) q).length > 2 * t
  · rw [if_pos h]; simp [h]
  · rw [if_neg h]; simp [h]
/-- **Without one that is told as wrong** the same polynomial is told, and the others are wrong. -/
theorem dec_without {xs ys c : List Int} {wrong : List Nat} {t q : Int} (h : decR xs ys t q = (c, wrong, 0)) {o : Nat} (ho : o ∈ wrong) : decR (xs.eraseIdx o) (ys.eraseIdx o) t q = (c, othersL o wrong, 0) ∧ o < xs.length := by
  unfold decR at h
  split at h
  · cases h
  rename_i h1
  split at h
  · cases h
  rename_i h2
  split at h
  · rename_i h3
    have := congrArg (fun r => r.2.2) h
    exact absurd this h3
  rename_i h3
  have h3 : eAll xs q = 0 := Decidable.not_not.1 h3
  have ht0 : 0 ≤ t := by omega
  have ht2 : t ≤ 2 := by omega
  have hlm : xs.length = ys.length := Decidable.not_not.1 fun e => h1 (.inr (.inr (.inl e)))
  have hp : primeV q = true := by cases e : primeV q with | true => rfl | false => exact absurd (.inr (.inr (.inr e))) h1
  obtain ⟨hq, hq2⟩ := okm_prime hp
  have hap := apart_of_eAll h3
  have hl : xs.length ≤ 7 := by omega
  cases hf : (setsL (t.toNat + 1) 0 xs.length).findSome? (tryS xs ys t q) with
  | none => rw [hf] at h; cases h
  | some r =>
  rw [hf] at h
  have h : r = (c, wrong, 0) := h
  subst h
  obtain ⟨l1, s, l2, hL, hs, hn⟩ := List.findSome?_eq_some_iff.1 hf
  have hm : ∀ u ∈ setsL (t.toNat + 1) 0 xs.length, tErr (pick xs u) (pick ys u) q = 0 ∧ u.Pairwise (· < ·) ∧ (∀ i ∈ u, i < xs.length) ∧ u.length ≤ 1000 := fun u hu => by
    obtain ⟨s1, s2, s3⟩ := (setsL_mem _ _ _ _).1 hu
    have hi : ∀ i ∈ u, i < xs.length := fun i hi => (s3 i hi).2
    exact ⟨(tVal_spec hq hq2 hap (by omega) s2 hi (by omega)).1, s2, hi, by omega⟩
  have hsm : s ∈ setsL (t.toNat + 1) 0 xs.length := by rw [hL]; simp
  obtain ⟨m1, m2, m3, m4⟩ := hm s hsm
  obtain ⟨hr, hgt⟩ := tryS_some hq hq2 hap hl m2 m3 m4 hs
  obtain ⟨_, v1, v2, v3⟩ := tVal_spec (ys := ys) hq hq2 hap (by omega) m2 m3 m4
  injection hr with hc hr
  injection hr with hw _
  subst hc
  subst hw
  generalize hV : tVal (pick xs s) (pick ys s) q = V at *
  have hox : o < xs.length := List.mem_range.1 (List.mem_filter.1 ho).1
  have hos : o ∉ s := fun hi => by
    have h5 := v3 o hi
    have h6 := (List.mem_filter.1 ho).2
    unfold onB at h5
    rw [h6] at h5
    cases h5
  have hel : (xs.eraseIdx o).length + 1 = xs.length := by rw [List.length_eraseIdx_of_lt hox]; omega
  have hel' : (ys.eraseIdx o).length + 1 = ys.length := by rw [List.length_eraseIdx_of_lt (by omega)]; omega
  have hap' : Apart (xs.eraseIdx o) q := List.Pairwise.sublist (List.eraseIdx_sublist xs o) hap
  have hsk := sets_skip o (t.toNat + 1) ((xs.eraseIdx o).length + 1) 0 (xs.eraseIdx o).length (by omega) (by omega)
  rw [show from_o o 0 = 0 by unfold from_o; rw [if_pos (by omega)], hel, hL, List.filter_append, List.filter_cons, if_pos (by simpa using hos)] at hsk
  obtain ⟨l1', l2', hL', e1, e2⟩ := List.map_eq_append_iff.1 hsk
  obtain ⟨s', l3', rfl, e3, e4⟩ := List.map_eq_cons_iff.1 e2
  refine ⟨?_, hox⟩
  unfold decR
  rw [if_neg (by rw [hp]; simp; omega), if_neg (by omega), if_neg (by rw [eAll_apart hq hq2 hap' (by omega)]; simp)]
  have hone : ∀ u : List Nat, tErr (pick (xs.eraseIdx o) u) (pick (ys.eraseIdx o) u) q = tErr (pick xs (u.map (skip o))) (pick ys (u.map (skip o))) q := fun u => by rw [pick_erase, pick_erase]
  have hval : ∀ u : List Nat, tVal (pick (xs.eraseIdx o) u) (pick (ys.eraseIdx o) u) q = tVal (pick xs (u.map (skip o))) (pick ys (u.map (skip o))) q := fun u => by rw [pick_erase, pick_erase]
  have hget : (setsL (t.toNat + 1) 0 (xs.eraseIdx o).length).findSome? (tryS (xs.eraseIdx o) (ys.eraseIdx o) t q) = some (V, othersL o (offL xs ys V q), 0) := by
    rw [List.findSome?_eq_some_iff]
    refine ⟨l1', s', l3', hL', ?_, fun u hu => ?_⟩
    · unfold tryS
      have hln := off_len_erase (m := ys) V q hox
      rw [off_others V q hox, if_pos ho] at hln
      rw [hone, hval, e3, if_pos m1, hV, off_others V q hox, if_pos (by omega)]
    · have hu1 : u.map (skip o) ∈ l1 := by
        have : u.map (skip o) ∈ l1'.map (·.map (skip o)) := List.mem_map.2 ⟨u, hu, rfl⟩
        rw [e1] at this
        exact (List.mem_filter.1 this).1
      have hu2 := hm (u.map (skip o)) (by rw [hL]; exact List.mem_append_left _ hu1)
      have hn1 := (try_none hu2.1).1 (hn _ hu1)
      rw [try_none (by rw [hone]; exact hu2.1), hval]
      generalize tVal (pick xs (u.map (skip o))) (pick ys (u.map (skip o))) q = V at *
      have hln := off_len_erase (m := ys) V q hox
      split at hln <;> omega
  rw [hget]; rfl
end Go.Proofs.YtlbhmoiicbhgkaaDoor
end
section
namespace Go.Proofs.YtlbhmoiicbhgkaaDoor
open Go Go.RowKit Go.Maps Go.Shelf Go.Proofs
attribute [local go_sem] Oper.semAt_some
/-- two rows of the call's own, of seven numbers at most, as long as one another. -/
structure PtsR (w : World) (base : Nat) (v1 v2 : Value) (X Y : List Int) : Prop where
  x : Own w base 24 v1 (X.map (.int .u64))
  y : Own w base 24 v2 (Y.map (.int .u64))
  ne : ∀ g, v1.ownBlock = some g → v2.ownBlock ≠ some g
  len : X.length = Y.length
  few : X.length ≤ 7
  ux : U64s X
  uy : U64s Y
theorem PtsR.below {w w' : World} {base : Nat} {v1 v2 : Value} {X Y : List Int} (h : PtsR w base v1 v2 X Y) (hb : Below w.heap.size w w') : PtsR w' base v1 v2 X Y := ⟨h.x.below hb, h.y.below hb, h.ne, h.len, h.few, h.ux, h.uy⟩
theorem PtsR.dr {w w' : World} {base : Nat} {v1 v2 : Value} {X Y : List Int} (h : PtsR w base v1 v2 X Y) (hb : Dr w w') : PtsR w' base v1 v2 X Y := ⟨h.x.dr hb, h.y.dr hb, h.ne, h.len, h.few, h.ux, h.uy⟩
theorem U64s.snoc {X : List Int} {z : Int} (h : U64s X) (hz : U64 z) : U64s (X ++ [z]) := fun x hx => by
  rcases List.mem_append.1 hx with hx | hx
  · exact h x hx
  · rw [List.mem_singleton.1 hx]; exact hz
def PointsR (w : World) (e : Ending) (w' : World) : Prop := ∃ v1 v2 X Y, e = .returned (.tuple #[v1, v2]) ∧ PtsR w' w.heap.size v1 v2 X Y ∧ Below w.heap.size w w'
end Go.Proofs.YtlbhmoiicbhgkaaDoor
end
section
namespace Go.Proofs.YtlbhmoiicbhgkaaDoor
open Go Go.RowKit Go.Maps Go.Shelf Go.Proofs
attribute [local go_sem] Oper.semAt_some
theorem dec_told {xs ys c : List Int} {wrong : List Nat} {t q : Int} (h : decR xs ys t q = (c, wrong, 0)) : wrong = offL xs ys c q ∧ xs.length ≤ 7 ∧ c.length ≤ 3 := by
  unfold decR at h
  split at h
  · cases h
  rename_i h1
  split at h
  · cases h
  rename_i h2
  split at h
  · rename_i h3
    have := congrArg (fun r => r.2.2) h
    exact absurd this h3
  rename_i h3
  have h3 : eAll xs q = 0 := Decidable.not_not.1 h3
  have hp : primeV q = true := by cases e : primeV q with | true => rfl | false => exact absurd (.inr (.inr (.inr e))) h1
  obtain ⟨hq, hq2⟩ := okm_prime hp
  have hap := apart_of_eAll h3
  have hl : xs.length ≤ 7 := by omega
  cases hf : (setsL (t.toNat + 1) 0 xs.length).findSome? (tryS xs ys t q) with
  | none => rw [hf] at h; cases h
  | some r =>
  rw [hf] at h
  have h : r = (c, wrong, 0) := h
  subst h
  obtain ⟨l1, s, l2, hL, hs, hn⟩ := List.findSome?_eq_some_iff.1 hf
  have hsm : s ∈ setsL (t.toNat + 1) 0 xs.length := by rw [hL]; simp
  obtain ⟨s1, s2, s3⟩ := (setsL_mem _ _ _ _).1 hsm
  have hi : ∀ i ∈ s, i < xs.length := fun i hi => (s3 i hi).2
  obtain ⟨_, v1, v2, v3⟩ := tVal_spec (ys := ys) hq hq2 hap (by omega) s2 hi (by omega)
  obtain ⟨hr, hgt⟩ := tryS_some hq hq2 hap hl s2 hi (by omega) hs
  injection hr with hc hr
  injection hr with hw _
  exact ⟨by rw [hw, hc], hl, by rw [hc, v1]; omega⟩
theorem othersL_snoc (o : Nat) (L : List Nat) (i : Nat) : othersL o (L ++ [i]) = othersL o L ++ if i = o then [] else [unskip o i] := by
  unfold othersL
  rw [List.filter_append, List.map_append]
  congr 1
  by_cases h : i = o
  · rw [if_pos h]; simp [h]
  · rw [if_neg h]; simp [h]
theorem othersL_len (o : Nat) (L : List Nat) : (othersL o L).length ≤ L.length := by
  unfold othersL
  rw [List.length_map]
  exact List.length_filter_le _ _
/-- a new row of none. -/
theorem own_zero {w : World} {g base : Nat} {e : TypeId} (h : Row1 w g e []) (hb : base ≤ g) : Own w base e (.slice (some ⟨g, 0, none⟩) 0 0) [] :=
  ⟨rfl, .inr ⟨g, 0, #[], rfl, hb, h, Nat.le_refl _, by unfold maxLen; omega, rfl, rfl⟩⟩
theorem own_slice {w : World} {base : Nat} {e : TypeId} {A : Option Addr} {c : Nat} {X : List Int} (h : Own w base e (.slice A X.length c) (X.map (.int .u64))) (hne : 0 < X.length) :
    ∃ g, A = some ⟨g, 0, none⟩ ∧ g < w.heap.size ∧ X.length ≤ c ∧ c ≤ 9223372036854775807 ∧ ∀ (k : Nat) (z : Int), X[k]? = some z → w.cell? ⟨g, k, none⟩ = some (.int .u64 z) := by
  obtain ⟨g, cap, e1, hb, hg, hc, _⟩ := h.row (by rw [List.length_map]; exact hne)
  injection e1 with e2 e3 e4
  refine ⟨g, e2, hg, ?_, ?_, fun k z hz => hc k _ (by rw [List.getElem?_map, hz]; rfl)⟩
  · rcases h.2 with ⟨h1, _⟩ | ⟨g', cap', cur, h1, _, _, hn, _⟩
    · injection h1 with _ h2 _
      omega
    · injection h1 with _ _ h2
      rw [List.length_map] at hn
      omega
  · rcases h.2 with ⟨h1, _⟩ | ⟨g', cap', cur, h1, _, _, _, hm, _⟩
    · injection h1 with _ h2 _
      omega
    · injection h1 with _ _ h2
      unfold maxLen at hm
      omega
/-- some numbers are put behind a row of the call's own. -/
theorem wpList_add_at {P : Program} {t e : TypeId} {z : Value} {bytes : Nat} (E : Elt P t e z bytes) (wr : World) {ops : Array Oper} {rest : List Oper} {o : Oper} {a : Act} {Q : Exit → Act → World → Prop}
    (hg : o.guard = none) (s x : Operand) (hop : o.op = .call { callee := .builtin .append, args := #[s, x], argTypes := #[t, t] })
    (base : Nat) {v : Value} {xs : List Value} (hown : Own wr base e v xs) (hs : a.eval s = v) (ad : Addr) (m c : Nat) (news : List Value) (hl : news.length = m) (hx : a.eval x = .slice (some ad) m c) (hu : ∀ j u, news[j]? = some u → wr.cell? (ad.add j) = some u) (h1 : ∀ u ∈ news, u.oneCell' = true)
    (hb : (xs.length + m) * bytes ≤ 140737488355328) (hm : xs.length + m ≤ 9223372036854775807) (hbase : base ≤ wr.heap.size)
    (hK : ∀ v' w', Own w' base e v' (xs ++ news) → wr.grownBy w' v.ownBlock → wpList P ops Q rest (a.put o.dst v') w') :
    wpList P ops Q (o :: rest) a wr := by
  obtain ⟨i, hi, hz, hsz, hby⟩ := E.info
  refine wpList_append_own_at (P := P) wr hg s x t hop base e i z 1 bytes E.under hi hz hsz hby E.one (by decide) v xs.length xs hs hown ad m c news hx (by omega) hu h1 (by unfold maxLen; omega) hb hbase ?_
  intro v' w' h2 h3 _ h5
  refine hK v' w' ?_ h3
  unfold Own; rw [List.length_append, hl]; exact h2
theorem addr_add (g off j : Nat) : (⟨g, off, none⟩ : Addr).add j = ⟨g, off + j, none⟩ := by unfold Addr.add; split <;> simp_all
/-- what is known while a row is made without one. -/
structure EraseB (w0 : World) (L1 L2 : List Value) (g : Rgi.Ghost) (w : World) : Prop where
  b : Below w0.heap.size w0 w
  lit : ∀ v, g 0 = some v → g 4 = none → Own w w0.heap.size 24 v []
  one : ∀ v, g 4 = some v → g 9 = none → Own w w0.heap.size 24 v L1
  two : ∀ v, g 9 = some v → Own w w0.heap.size 24 v (L1 ++ L2)
  ord : g 4 = none → g 9 = none
theorem EraseB.start (w0 : World) (L1 L2 : List Value) : EraseB w0 L1 L2 (fun _ => none) w0.drew :=
  ⟨⟨rfl, rfl, rfl, Nat.le_refl _, fun _ _ => rfl⟩, fun _ h => (by cases h), fun _ h => (by cases h), fun _ h => (by cases h), fun _ => rfl⟩
theorem EraseB.new {w0 w : World} {L1 L2 : List Value} {g : Rgi.Ghost} (h : EraseB w0 L1 L2 g w) : EraseB w0 L1 L2 (g.upd 0 (.slice (some ⟨w.heap.size, 0, none⟩) 0 0)) (w.alloc (.cells #[] 24)) := by
  have hb := below_alloc w (.cells #[] 24)
  refine ⟨below_next h.b h.b.size hb, fun v hv _ => ?_, fun v hv h9 => (h.one v hv h9).below hb, fun v hv => (h.two v hv).below hb, h.ord⟩
  obtain rfl : _ = v := Option.some.inj hv
  exact own_zero (row1_new w [] 24) h.b.size
theorem EraseB.put1 {w0 w w' : World} {L1 L2 : List Value} {g : Rgi.Ghost} (h : EraseB w0 L1 L2 g w) (hg : g 4 = none) {v v' : Value} (ho : Own w w0.heap.size 24 v []) (hw : w.grownBy w' v.ownBlock) (hn : Own w' w0.heap.size 24 v' L1) : EraseB w0 L1 L2 (g.upd 4 v') w' := by
  refine ⟨h.b.grown hw h.b.size fun k e => (ho.block k e).1, fun v _ h4 => (by cases h4), fun u hu _ => ?_, fun u hu => ?_, fun h4 => (by cases h4)⟩
  · obtain rfl : _ = u := Option.some.inj hu
    exact hn
  · have : g 9 = some u := hu
    rw [h.ord hg] at this
    cases this
theorem EraseB.put2 {w0 w w' : World} {L1 L2 : List Value} {g : Rgi.Ghost} (h : EraseB w0 L1 L2 g w) {v4 v v' : Value} (hg4 : g 4 = some v4) (ho : Own w w0.heap.size 24 v L1) (hw : w.grownBy w' v.ownBlock) (hn : Own w' w0.heap.size 24 v' (L1 ++ L2)) : EraseB w0 L1 L2 (g.upd 9 v') w' := by
  refine ⟨h.b.grown hw h.b.size fun k e => (ho.block k e).1, fun v _ h4 => ?_, fun u hu h9 => (by cases h9), fun u hu => ?_, fun h4 => ?_⟩
  · have : g 4 = none := h4
    rw [hg4] at this
    cases this
  · obtain rfl : _ = u := Option.some.inj hu
    exact hn
  · have : g 4 = none := h4
    rw [hg4] at this
    cases this
/-- those ahead of number o. -/
def takeV (X : List Int) (o : Nat) : List Value := (X.take o).map (.int .u64)
/-- those behind it. -/
def dropV (X : List Int) (o : Nat) : List Value := (X.drop (o + 1)).map (.int .u64)
theorem takeV_at {w : World} {g o : Nat} {X : List Int} (h : ∀ (k : Nat) (z : Int), X[k]? = some z → w.cell? ⟨g, k, none⟩ = some (.int .u64 z)) : ∀ (j : Nat) (u : Value), (takeV X o)[j]? = some u → w.cell? ((⟨g, 0, none⟩ : Addr).add j) = some u := by
  intro j u hu
  unfold takeV at hu
  rw [List.getElem?_map, List.getElem?_take] at hu
  split at hu
  · cases hx : X[j]? with
    | none => rw [hx] at hu; cases hu
    | some z =>
      rw [hx] at hu
      obtain rfl := Option.some.inj hu
      rw [addr_add, Nat.zero_add]
      exact h j z hx
  · cases hu
theorem dropV_at {w : World} {g o : Nat} {X : List Int} (h : ∀ (k : Nat) (z : Int), X[k]? = some z → w.cell? ⟨g, k, none⟩ = some (.int .u64 z)) : ∀ (j : Nat) (u : Value), (dropV X o)[j]? = some u → w.cell? ((⟨g, o + 1, none⟩ : Addr).add j) = some u := by
  intro j u hu
  unfold dropV at hu
  rw [List.getElem?_map, List.getElem?_drop] at hu
  cases hx : X[o + 1 + j]? with
  | none => rw [hx] at hu; cases hu
  | some z =>
    rw [hx] at hu
    obtain rfl := Option.some.inj hu
    rw [addr_add]
    exact h _ z hx
theorem take_drop_erase (X : List Int) (o : Nat) : takeV X o ++ dropV X o = (X.eraseIdx o).map (.int .u64) := by
  unfold takeV dropV
  rw [← List.map_append, List.eraseIdx_eq_take_drop_succ]
theorem u64_ones (L : List Int) : ∀ u ∈ L.map (Value.int .u64), u.oneCell' = true := fun u hu => by
  obtain ⟨x, _, rfl⟩ := List.mem_map.1 hu
  rfl
end Go.Proofs.YtlbhmoiicbhgkaaDoor
end
end

section
namespace Go.Proofs.YtlbhmoiicbhgkaaDoor
open Go.RowKit
attribute [local go_sem] Oper.semAt_some
/-- are two the same, modulo q? -/
def sameB (a b : List Int) (q : Int) : Bool := !okm q || (List.range (max a.length b.length)).all fun i => decide (cAt a i q = cAt b i q)
theorem sameB_yes {a b : List Int} {q : Int} (h : ∀ i, i < max a.length b.length → cAt a i q = cAt b i q) : sameB a b q = true := by
  unfold sameB
  rw [Bool.or_eq_true]
  exact .inr (List.all_eq_true.2 fun i hi => decide_eq_true (h i (List.mem_range.1 hi)))
open Go.RowKit
/-- the first k are the same. -/
def SameUptoN (la lb : List Int) (k : Nat) : Prop := ∀ i, i < k → la[i]? = lb[i]?
theorem SameUptoN.step {la lb : List Int} {k : Nat} {x : Int} (h : SameUptoN la lb k) (ha : la[k]? = some x) (hb : lb[k]? = some x) : SameUptoN la lb (k + 1) := by
  intro i hi
  rcases Nat.lt_or_ge i k with h' | h'
  · exact h i h'
  · obtain rfl : i = k := by omega
    rw [ha, hb]
theorem SameUptoN.all {la lb : List Int} (hl : la.length = lb.length) (h : SameUptoN la lb la.length) : la = lb := by
  apply List.ext_getElem?
  intro i
  rcases Nat.lt_or_ge i la.length with h' | h'
  · exact h i h'
  · rw [List.getElem?_eq_none h', List.getElem?_eq_none (by omega)]
open Go.RowKit
attribute [local go_sem] Oper.semAt_some
theorem Cells.more {w w' : World} {A : Option Addr} {xs : List Value} (h : Cells w A xs) (hb : Below w.heap.size w w') : Cells w' A xs := h.keep fun _p hp => hb.cell hp
end Go.Proofs.YtlbhmoiicbhgkaaDoor
end

section
namespace Go.Proofs.YtlbhmoiicbhgkaaDoor
open Go Go.RowKit Go.Maps Go.Shelf Go.Proofs
def somePrimes : List Int := [2, 3, 5, 7, 11, 13, 17, 101, 65537, 2147483647, 2305843009213693951]
theorem somePrimes_ok : ∀ p ∈ somePrimes, primeV p = true := by decide +kernel
/-- a prime. -/
def primeP (q : Int) : Int := if primeV q then q else somePrimes.getD (q % 11).toNat 0
theorem primeP_ok {q : Int} (_ : U64 q) : primeV (primeP q) = true := by
  unfold primeP
  split
  · assumption
  · have h2 : (q % 11).toNat < somePrimes.length := by show (q % 11).toNat < 11; omega
    rw [List.getD_eq_getElem?_getD, List.getElem?_eq_getElem h2]
    exact somePrimes_ok _ (List.getElem_mem h2)
theorem primeP_u64 {q : Int} (h : U64 q) : U64 (primeP q) := by
  have := primeV_ge (primeP_ok h)
  exact ⟨by omega, by omega⟩
def valuesL (c xs : List Int) (q : Int) : List Int := xs.map fun x => mEval c x q
theorem valuesL_u64 (c xs : List Int) (q : Int) : U64s (valuesL c xs q) := by
  intro z hz
  obtain ⟨x, _, rfl⟩ := List.mem_map.1 hz
  exact mEval_u64 ..
/-- is a place among others, modulo q? -/
def hasM (q : Int) (out : List Int) (x : Int) : Bool := out.any fun z => decide (z % q = x % q)
/-- places each once. -/
def uniqStep (most q : Int) (out : List Int) (x : Int) : List Int := if (out.length : Int) < most ∧ hasM q out x = false then out ++ [x] else out
def uniqL (xs : List Int) (most q : Int) : List Int := xs.foldl (uniqStep most q) []
theorem tmodR {z q : Int} (h : U64 z) : z.tmod q = z % q := Int.tmod_eq_emod_of_nonneg h.lo
end Go.Proofs.YtlbhmoiicbhgkaaDoor
end

section
namespace Go.Lin
/-- numbers modulo N of which each but 0 has an inverse. -/
structure Fld (N : Nat) [NeZero N] : Prop where
  one : (1 : Fin N) ≠ 0
  inv : ∀ x : Fin N, x ≠ 0 → ∃ y, x * y = 1
variable {N : Nat} [NeZero N]
abbrev V (N : Nat) := Nat → Fin N
/-- what hangs on rows. -/
inductive Sp (R : List (V N)) : V N → Prop
  | zero : Sp R (fun _ => 0)
  | add {r u v : V N} (c : Fin N) : r ∈ R → Sp R u → (∀ j, v j = c * r j + u j) → Sp R v
theorem Sp.of_eq {R : List (V N)} {u v : V N} (h : Sp R u) (e : ∀ j, v j = u j) : Sp R v := by
  have : v = u := funext e
  rw [this]; exact h
theorem Sp.mem {R : List (V N)} {r : V N} (h : r ∈ R) : Sp R r := .add 1 h .zero fun j => by grind
theorem Sp.comb {R : List (V N)} {u v w : V N} (c : Fin N) (hu : Sp R u) (hv : Sp R v) (e : ∀ j, w j = c * u j + v j) : Sp R w := by
  induction hu generalizing w with
  | zero => exact hv.of_eq fun j => by have := e j; grind
  | add d hr _ hd ih =>
    rename_i r u' u _
    exact Sp.add (u := fun j => c * u' j + v j) (c * d) hr (ih fun j => rfl) fun j => by
      have h1 := e j
      have h2 := hd j
      grind
theorem Sp.trans {R R' : List (V N)} (h : ∀ r ∈ R, Sp R' r) {v : V N} (hv : Sp R v) : Sp R' v := by
  induction hv with
  | zero => exact .zero
  | add c hr _ e ih => exact (h _ hr).comb c ih e
theorem Sp.mono {R R' : List (V N)} (h : ∀ r ∈ R, r ∈ R') {v : V N} (hv : Sp R v) : Sp R' v := Sp.trans (fun r hr => Sp.mem (h r hr)) hv
theorem Sp.nil {v : V N} (h : Sp [] v) (j : Nat) : v j = 0 := by
  cases h with
  | zero => rfl
  | add c hr _ _ => cases hr
theorem Sp.split {r : V N} {R : List (V N)} {v : V N} (h : Sp (r :: R) v) : ∃ c u, Sp R u ∧ ∀ j, v j = c * r j + u j := by
  induction h with
  | zero => exact ⟨0, fun _ => 0, .zero, fun j => by grind⟩
  | add c hr _ e ih =>
    obtain ⟨d, u, hu, h2⟩ := ih
    rename_i r' u' v' _
    rcases List.mem_cons.1 hr with rfl | hr
    · exact ⟨c + d, u, hu, fun j => by have := e j; have := h2 j; grind⟩
    · exact ⟨d, fun j => c * r' j + u j, .add c hr hu fun j => rfl, fun j => by have := e j; have := h2 j; grind⟩
/-- what all rows have 0 at, all that hangs on them has. -/
theorem Sp.at_zero {R : List (V N)} {v : V N} {k : Nat} (h : Sp R v) (hz : ∀ r ∈ R, r k = 0) : v k = 0 := by
  induction h with
  | zero => rfl
  | add c hr _ e ih => have := e k; have := hz _ hr; grind
/-- rows with a place each: 1 there, 0 where the others have theirs. -/
structure Ech (L : List (Nat × V N)) : Prop where
  one : ∀ e ∈ L, e.2 e.1 = 1
  off : L.Pairwise fun e e' => e.2 e'.1 = 0 ∧ e'.2 e.1 = 0
theorem Ech.nil : Ech ([] : List (Nat × V N)) := ⟨fun e h => (by cases h), .nil⟩
theorem Ech.tail {e : Nat × V N} {L : List (Nat × V N)} (h : Ech (e :: L)) : Ech L := ⟨fun x hx => h.one x (List.mem_cons_of_mem _ hx), (List.pairwise_cons.1 h.off).2⟩
theorem Ech.rep {L : List (Nat × V N)} (h : Ech L) {v : V N} (hv : Sp (L.map (·.2)) v) (j : Nat) : v j = (L.map fun e => v e.1 * e.2 j).sum := by
  induction L generalizing v with
  | nil => exact hv.nil j
  | cons e L ih =>
    obtain ⟨c, u, hu, h2⟩ := Sp.split hv
    have h3 := ih h.tail hu
    have ho := (List.pairwise_cons.1 h.off).1
    have h4 : u e.1 = 0 := hu.at_zero fun r hr => by
      obtain ⟨x, hx, rfl⟩ := List.mem_map.1 hr
      exact (ho x hx).2
    have h5 : v e.1 = c := by
      have h6 := h2 e.1
      have h7 := h.one e List.mem_cons_self
      grind
    rw [List.map_cons, List.sum_cons, h5, h2 j, h3]
    congr 1
    congr 1
    refine List.map_congr_left fun x hx => ?_
    have h6 := h2 x.1
    have h7 := (ho x hx).1
    grind
theorem Ech.zero {L : List (Nat × V N)} (h : Ech L) {v : V N} (hv : Sp (L.map (·.2)) v) (hz : ∀ e ∈ L, v e.1 = 0) (j : Nat) : v j = 0 := by
  rw [h.rep hv j]
  have : ∀ l : List (Nat × V N), (∀ e ∈ l, v e.1 = 0) → (l.map fun e => v e.1 * e.2 j).sum = 0 := by
    intro l
    induction l with
    | nil => intro _; rfl
    | cons e l ih =>
      intro h
      rw [List.map_cons, List.sum_cons, ih fun x hx => h x (List.mem_cons_of_mem _ hx), h e List.mem_cons_self]
      grind
  exact this L hz
/-- no more rows with places than the rows they hang on. -/
theorem Ech.le (F : Fld N) : ∀ (R : List (V N)) (L : List (Nat × V N)), Ech L → (∀ e ∈ L, Sp R e.2) → L.length ≤ R.length
  | [], L, h, hs => by
    cases L with
    | nil => simp
    | cons e L =>
      exfalso
      have h1 := h.one e List.mem_cons_self
      rw [(hs e List.mem_cons_self).nil] at h1
      exact F.one h1.symm
  | r :: R, L, h, hs => by
    by_cases hall : ∀ e ∈ L, Sp R e.2
    · have := Ech.le F R L h hall
      rw [List.length_cons]; omega
    · obtain ⟨e0, hn⟩ := Classical.not_forall.1 hall
      obtain ⟨he0, hne⟩ := Classical.not_imp.1 hn
      obtain ⟨A, B, rfl⟩ := List.append_of_mem he0
      obtain ⟨c0, u0, hu0, h0⟩ := (hs e0 he0).split
      have hc0 : c0 ≠ 0 := fun hc => hne (hu0.of_eq fun j => by have := h0 j; rw [hc] at this; grind)
      obtain ⟨y0, hy⟩ := F.inv c0 hc0
      have hk : ∀ e : Nat × V N, ∃ k, e ∈ A ++ e0 :: B → Sp R fun j => e.2 j - k * e0.2 j := by
        intro e
        by_cases he : e ∈ A ++ e0 :: B
        · obtain ⟨c, u, hu, h1⟩ := (hs e he).split
          refine ⟨c * y0, fun _ => Sp.comb (-(c * y0)) hu0 hu fun j => ?_⟩
          have h2 := h0 j
          have h3 := h1 j
          grind
        · exact ⟨0, fun h => absurd h he⟩
      have hp := List.pairwise_append.1 h.off
      have hp2 := List.pairwise_cons.1 hp.2.1
      have hoff : ∀ e ∈ A ++ B, e.2 e0.1 = 0 ∧ e0.2 e.1 = 0 := by
        intro e he
        rcases List.mem_append.1 he with h1 | h1
        · exact hp.2.2 e h1 e0 List.mem_cons_self
        · exact (hp2.1 e h1).symm
      have hsub : ∀ e ∈ A ++ B, e ∈ A ++ e0 :: B := by
        intro e he
        rcases List.mem_append.1 he with h1 | h1
        · exact List.mem_append_left _ h1
        · exact List.mem_append_right _ (List.mem_cons_of_mem _ h1)
      have hpw : (A ++ B).Pairwise fun e e' => e.2 e'.1 = 0 ∧ e'.2 e.1 = 0 :=
        List.pairwise_append.2 ⟨hp.1, hp2.2, fun a ha b hb => hp.2.2 a ha b (List.mem_cons_of_mem _ hb)⟩
      have hE : Ech ((A ++ B).map fun e => (e.1, fun j => e.2 j - Classical.choose (hk e) * e0.2 j)) := by
        refine ⟨fun x hx => ?_, ?_⟩
        · obtain ⟨e, he, rfl⟩ := List.mem_map.1 hx
          show e.2 e.1 - _ * e0.2 e.1 = 1
          have h1 := h.one e (hsub e he)
          have h2 := (hoff e he).2
          grind
        · rw [List.pairwise_map]
          refine hpw.imp_of_mem fun {a b} ha hb hab => ?_
          have h1 := (hoff a ha).2
          have h2 := (hoff b hb).2
          constructor
          · show a.2 b.1 - _ * e0.2 b.1 = 0
            have := hab.1
            grind
          · show b.2 a.1 - _ * e0.2 a.1 = 0
            have := hab.2
            grind
      have := Ech.le F R _ hE fun x hx => by
        obtain ⟨e, he, rfl⟩ := List.mem_map.1 hx
        exact Classical.choose_spec (hk e) (hsub e he)
      rw [List.length_map, List.length_append] at this
      rw [List.length_append, List.length_cons, List.length_cons]
      omega
/-- rows R have the rank n. -/
structure Bas (R : List (V N)) (L : List (Nat × V N)) : Prop where
  ech : Ech L
  sub : ∀ e ∈ L, Sp R e.2
  all : ∀ r ∈ R, Sp (L.map (·.2)) r
def Rk (R : List (V N)) (n : Nat) : Prop := ∃ L, Bas R L ∧ L.length = n
theorem Bas.sp {R : List (V N)} {L : List (Nat × V N)} (h : Bas R L) {v : V N} : Sp (L.map (·.2)) v ↔ Sp R v :=
  ⟨fun k => k.trans fun r hr => by obtain ⟨e, he, rfl⟩ := List.mem_map.1 hr; exact h.sub e he, fun k => k.trans h.all⟩
theorem Rk.le (F : Fld N) {R R' : List (V N)} {n m : Nat} (h : Rk R n) (h' : Rk R' m) (hs : ∀ r ∈ R, Sp R' r) : n ≤ m := by
  obtain ⟨L, hL, rfl⟩ := h
  obtain ⟨L', hL', rfl⟩ := h'
  have := Ech.le F (L'.map (·.2)) L hL.ech fun e he => hL'.sp.2 ((hL.sub e he).trans hs)
  rwa [List.length_map] at this
theorem Rk.eq (F : Fld N) {R R' : List (V N)} {n m : Nat} (h : Rk R n) (h' : Rk R' m) (hs : ∀ r ∈ R, Sp R' r) (hs' : ∀ r ∈ R', Sp R r) : n = m :=
  Nat.le_antisymm (h.le F h' hs) (h'.le F h hs')
theorem Rk.unique (F : Fld N) {R : List (V N)} {n m : Nat} (h : Rk R n) (h' : Rk R m) : n = m := h.eq F h' (fun _ hr => Sp.mem hr) fun _ hr => Sp.mem hr
theorem Rk.congr {R R' : List (V N)} {n : Nat} (h : Rk R n) (hs : ∀ r ∈ R, Sp R' r) (hs' : ∀ r ∈ R', Sp R r) : Rk R' n := by
  obtain ⟨L, hL, rfl⟩ := h
  exact ⟨L, ⟨hL.ech, fun e he => (hL.sub e he).trans hs, fun r hr => hL.sp.2 (hs' r hr)⟩, rfl⟩
theorem Rk.nil : Rk ([] : List (V N)) 0 := ⟨[], ⟨.nil, fun e h => (by cases h), fun r h => (by cases h)⟩, rfl⟩
/-- what is left of a row. -/
def red (L : List (Nat × V N)) (v : V N) : V N := fun j => v j - (L.map fun e => v e.1 * e.2 j).sum
theorem sum_sp (v : V N) : ∀ L : List (Nat × V N), Sp (L.map (·.2)) fun j => (L.map fun e => v e.1 * e.2 j).sum
  | [] => .zero
  | e :: L => Sp.add (v e.1) (List.mem_cons_self (l := L.map (·.2))) ((sum_sp v L).mono fun _r hr => List.mem_cons_of_mem _ hr) fun _j => rfl
theorem sum_at {L : List (Nat × V N)} (h : Ech L) (v : V N) {e : Nat × V N} (he : e ∈ L) : (L.map fun x => v x.1 * x.2 e.1).sum = v e.1 := by
  induction L with
  | nil => cases he
  | cons x L ih =>
    have ho := (List.pairwise_cons.1 h.off).1
    rw [List.map_cons, List.sum_cons]
    rcases List.mem_cons.1 he with rfl | he
    · have h1 : ∀ l : List (Nat × V N), (∀ x ∈ l, x.2 e.1 = 0) → (l.map fun x => v x.1 * x.2 e.1).sum = 0 := by
        intro l
        induction l with
        | nil => intro _; rfl
        | cons x l ih =>
          intro h
          rw [List.map_cons, List.sum_cons, ih fun y hy => h y (List.mem_cons_of_mem _ hy), h x List.mem_cons_self]
          grind
      rw [h1 L fun x hx => (ho x hx).2, h.one e List.mem_cons_self]
      grind
    · rw [ih h.tail he, (ho e he).1]
      grind
theorem red_at {L : List (Nat × V N)} (h : Ech L) (v : V N) {e : Nat × V N} (he : e ∈ L) : red L v e.1 = 0 := by
  unfold red
  rw [sum_at h v he]
  grind
theorem red_sp (L : List (Nat × V N)) (v : V N) (h : ∀ j, red L v j = 0) : Sp (L.map (·.2)) v := (sum_sp v L).of_eq fun j => by
  have := h j
  unfold red at this
  grind
theorem red_back {R : List (V N)} {L : List (Nat × V N)} (hL : Bas R L) (v : V N) : Sp (v :: R) (red L v) := by
  refine Sp.comb (-1) (hL.sp.1 (sum_sp v L) |>.mono fun r hr => List.mem_cons_of_mem _ hr) (Sp.mem (r := v) List.mem_cons_self) fun j => ?_
  unfold red
  grind
theorem Bas.snoc {R : List (V N)} {L : List (Nat × V N)} (hL : Bas R L) {v : V N} {k : Nat} {y : Fin N} (hy : red L v k * y = 1) :
    Bas (v :: R) ((k, fun j => y * red L v j) :: L.map fun e => (e.1, fun j => e.2 j - e.2 k * (y * red L v j))) := by
  have hv1 : Sp (v :: R) fun j => y * red L v j := Sp.comb y (red_back hL v) .zero fun j => by grind
  have h0 : ∀ e ∈ L, red L v e.1 = 0 := fun e he => red_at hL.ech v he
  refine ⟨⟨?_, ?_⟩, ?_, ?_⟩
  · intro x hx
    rcases List.mem_cons.1 hx with rfl | hx
    · show y * red L v k = 1
      grind
    · obtain ⟨e, he, rfl⟩ := List.mem_map.1 hx
      show e.2 e.1 - e.2 k * (y * red L v e.1) = 1
      have h1 := hL.ech.one e he
      have h2 := h0 e he
      grind
  · refine List.pairwise_cons.2 ⟨fun x hx => ?_, ?_⟩
    · obtain ⟨e, he, rfl⟩ := List.mem_map.1 hx
      constructor
      · show y * red L v e.1 = 0
        have := h0 e he
        grind
      · show e.2 k - e.2 k * (y * red L v k) = 0
        grind
    · rw [List.pairwise_map]
      refine hL.ech.off.imp_of_mem fun {a b} ha hb hab => ?_
      have h1 := h0 a ha
      have h2 := h0 b hb
      constructor
      · show a.2 b.1 - a.2 k * (y * red L v b.1) = 0
        have := hab.1
        grind
      · show b.2 a.1 - b.2 k * (y * red L v a.1) = 0
        have := hab.2
        grind
  · intro x hx
    rcases List.mem_cons.1 hx with rfl | hx
    · exact hv1
    · obtain ⟨e, he, rfl⟩ := List.mem_map.1 hx
      exact Sp.comb (-(e.2 k)) hv1 ((hL.sub e he).mono fun r hr => List.mem_cons_of_mem _ hr) fun j => by grind
  · have hback : ∀ u, Sp (L.map (·.2)) u → Sp (List.map (·.2) ((k, fun j => y * red L v j) :: L.map fun e => (e.1, fun j => e.2 j - e.2 k * (y * red L v j)))) u := by
      intro u hu
      refine hu.trans fun r hr => ?_
      obtain ⟨e, he, rfl⟩ := List.mem_map.1 hr
      refine Sp.comb (e.2 k) (u := fun j => y * red L v j) (Sp.mem ?_) (v := fun j => e.2 j - e.2 k * (y * red L v j)) (Sp.mem ?_) fun j => by grind
      · exact List.mem_cons_self
      · rw [List.map_cons, List.map_map]
        exact List.mem_cons_of_mem _ (List.mem_map.2 ⟨e, he, rfl⟩)
    intro r hr
    rcases List.mem_cons.1 hr with rfl | hr
    · refine Sp.comb (red L r k) (u := fun j => y * red L r j) (Sp.mem ?_) (hback _ (sum_sp r L)) fun j => ?_
      · exact List.mem_cons_self
      · unfold red at hy ⊢
        grind
    · exact hback _ (hL.all r hr)
theorem Rk.more (F : Fld N) {R : List (V N)} {n : Nat} (h : Rk R n) {v : V N} (hv : ¬ Sp R v) : Rk (v :: R) (n + 1) := by
  obtain ⟨L, hL, rfl⟩ := h
  have : ¬ ∀ j, red L v j = 0 := fun h => hv (hL.sp.1 (red_sp L v h))
  obtain ⟨k, hk⟩ := Classical.not_forall.1 this
  obtain ⟨y, hy⟩ := F.inv _ hk
  exact ⟨_, hL.snoc hy, by simp⟩
theorem Rk.same {R : List (V N)} {n : Nat} (h : Rk R n) {v : V N} (hv : Sp R v) : Rk (v :: R) n := h.congr (fun r hr => Sp.mem (List.mem_cons_of_mem _ hr)) fun r hr => by
  rcases List.mem_cons.1 hr with rfl | hr
  · exact hv
  · exact Sp.mem hr
end Go.Lin
end
