/-
  Parts of these texts that the statement needs: RegionI, Lits, AdL, Lin, RaQ.
-/
import Derived.Orders
import Derived.OwnWalk
import Derived.NoCompiler
import Derived.WalkKit
import Derived.Test.YtcojnjhffmhbiaaDoorAdmQ1
import Derived.Test.YtcojnjhffmhbiaaDoorAdmQ7
import Derived.Test.YtcojnjhffmhbiaaDoorAdmQ2
import Derived.Test.YtcojnjhffmhbiaaDoorPsA

section
namespace Go.Rgi
/-- what is known of what an operation left: the very value; or what the invariant says of it. -/
inductive Know
  | is (v : Value)
  | sp
def Know.holds : Know → Value → Prop
  | .is v, u => u = v
  | .sp, _ => True
/-- what the operations of 'S' left, as far as they have come up. -/
abbrev Ghost := Nat → Option Value
def Ghost.upd (g : Ghost) (j : Nat) (v : Value) : Ghost := fun i => if i = j then some v else g i
/-- the newest lies first. -/
def look (Rs : List Know) (i : Nat) : Know := if i < Rs.length then Rs.getD (Rs.length - 1 - i) .sp else .sp
theorem look_cons (Rs : List Know) (k : Know) (i : Nat) (h : i < Rs.length) : look (k :: Rs) i = look Rs i := by
  unfold look
  rw [if_pos (by simp; omega), if_pos h]
  have : (k :: Rs).length - 1 - i = (Rs.length - 1 - i) + 1 := by simp; omega
  rw [this]; rfl
theorem look_new (Rs : List Know) (k : Know) : look (k :: Rs) Rs.length = k := by
  unfold look
  rw [if_pos (by simp)]
  simp
def predsOf (o : Oper) : List Nat := ((o.after.toList.filter fun e => Region.binds .any e).map (·.on)).eraseDups
theorem mem_preds {o : Oper} {i : Nat} : i ∈ predsOf o ↔ ∃ e ∈ o.after, Region.binds .any e = true ∧ e.on = i := by
  unfold predsOf
  rw [List.mem_eraseDups, List.mem_map]
  constructor
  · rintro ⟨e, he, rfl⟩
    rw [List.mem_filter] at he
    exact ⟨e, Array.mem_toList_iff.1 he.1, he.2, rfl⟩
  · rintro ⟨e, he, hb, rfl⟩
    exact ⟨e, List.mem_filter.2 ⟨Array.mem_toList_iff.2 he, hb⟩, rfl⟩
/-- l: some of those that o waits for, with all whose values it reads. -/
def fits (ds : List (Option Tmp)) (o : Oper) (l : List Nat) : Bool :=
  l.all (predsOf o).contains && (predsOf o).all fun i => l.contains i || match ds.getD i none with | some d => !(o.op.operands.any fun x => match x with | .tmp t => t == d | _ => false) | none => true
theorem fits_spec {ds : List (Option Tmp)} {o : Oper} {l : List Nat} (h : fits ds o l = true) : (∀ i ∈ l, i ∈ predsOf o) ∧ ∀ i ∈ predsOf o, ∀ d, ds.getD i none = some d → Operand.tmp d ∈ o.op.operands → i ∈ l := by
  simp only [fits, Bool.and_eq_true, List.all_eq_true, Bool.or_eq_true, List.contains_iff_mem] at h
  refine ⟨h.1, fun i hi d hd ho => ?_⟩
  rcases h.2 i hi with h | h
  · exact h
  · rw [hd] at h
    simp only [Bool.not_eq_true'] at h
    have : (o.op.operands.any fun x => match x with | .tmp t => t == d | _ => false) = true := Array.any_eq_true'.2 ⟨_, ho, by simp⟩
    rw [h] at this; cases this
def boolOf : Value → Option Bool
  | .bool b => some b
  | _ => none
def says (lk : Nat → Know) (o : Oper) : Option Bool :=
  match o.guard with
  | none => some true
  | some (g, want) => match lk g with
    | .is v => some (boolOf v == some want)
    | _ => none
def last (a : Act) : Option Tmp → Value
  | some d => (a.tmps[d]?).getD undef
  | none => undef
def from_ (ds : List (Option Tmp)) (lk : Nat → Know) (S : List Nat) (g : Ghost) : List Nat → Act → (Act → Prop) → Prop
  | [], a, G => G a
  | i :: l, a, G => match lk i with
    | .is v => from_ ds lk S g l (a.put (ds.getD i none) v) G
    | .sp => ∀ v, (S.contains i = true → g i = some v) → from_ ds lk S g l (a.put (ds.getD i none) v) G
def putAll (ds : List (Option Tmp)) (f : Nat → Value) : List Nat → Act → Act
  | [], a => a
  | i :: l, a => putAll ds f l (a.put (ds.getD i none) (f i))
section
variable {ds : List (Option Tmp)} {lk : Nat → Know} {S : List Nat} {g : Ghost} {f : Nat → Value} {G : Act → Prop}
theorem from_congr {lk' : Nat → Know} : ∀ {l : List Nat} {a : Act}, (∀ i ∈ l, lk i = lk' i) → from_ ds lk S g l a G → from_ ds lk' S g l a G
  | [], _, _, h => h
  | i :: l, a, he, h => by
    have h1 := he i (List.mem_cons_self ..)
    have h2 := fun j hj => he j (List.mem_cons_of_mem _ hj)
    unfold from_ at h ⊢
    rw [← h1]
    cases hk : lk i with
    | is v => rw [hk] at h; exact from_congr h2 h
    | sp => rw [hk] at h; exact fun v hv => from_congr h2 (h v hv)
theorem from_at : ∀ {l : List Nat} {a : Act}, from_ ds lk S g l a G → (∀ i ∈ l, (lk i).holds (f i) ∧ (S.contains i = true → g i = some (f i))) → G (putAll ds f l a)
  | [], _, h, _ => h
  | i :: l, a, h, hf => by
    have h1 := hf i (List.mem_cons_self ..)
    have h2 := fun j hj => hf j (List.mem_cons_of_mem _ hj)
    unfold from_ at h
    unfold putAll
    cases hk : lk i with
    | is v =>
      rw [hk] at h h1
      have h3 : f i = v := h1.1
      rw [h3]
      exact from_at h h2
    | sp =>
      rw [hk] at h
      exact from_at (h _ h1.2) h2
theorem from_mono {G' : Act → Prop} (hg : ∀ a, G a → G' a) : ∀ {l : List Nat} {a : Act}, from_ ds lk S g l a G → from_ ds lk S g l a G'
  | [], _, h => hg _ h
  | i :: l, a, h => by
    unfold from_ at h ⊢
    cases hk : lk i with
    | is v => rw [hk] at h; exact from_mono hg h
    | sp => rw [hk] at h; exact fun v hv => from_mono hg (h v hv)
theorem put_size (a : Act) (d : Option Tmp) (v : Value) : (a.put d v).tmps.size = a.tmps.size := by cases d <;> simp [Act.put]
theorem put_defers' (a : Act) (d : Option Tmp) (v : Value) : (a.put d v).defers = a.defers := by cases d <;> simp [Act.put]
theorem put_at_ne (a : Act) {d : Option Tmp} (v : Value) {t : Tmp} (h : d ≠ some t) : (a.put d v).tmps[t]? = a.tmps[t]? := by
  cases d with
  | none => rfl
  | some d => exact Array.getElem?_setIfInBounds_ne fun e => h (congrArg _ e)
theorem put_at_same (a : Act) (v : Value) {t : Tmp} (h : t < a.tmps.size) : (a.put (some t) v).tmps[t]? = some v := by
  simp [Act.put, h]
theorem putAll_size : ∀ (l : List Nat) (a : Act), (putAll ds f l a).tmps.size = a.tmps.size
  | [], _ => rfl
  | _ :: l, _ => (putAll_size l _).trans (put_size ..)
theorem putAll_defers : ∀ (l : List Nat) (a : Act), (putAll ds f l a).defers = a.defers
  | [], _ => rfl
  | _ :: l, _ => (putAll_defers l _).trans (put_defers' ..)
theorem putAll_ne {t : Tmp} : ∀ (l : List Nat) (a : Act), (∀ i ∈ l, ds.getD i none ≠ some t) → (putAll ds f l a).tmps[t]? = a.tmps[t]?
  | [], _, _ => rfl
  | i :: l, a, h => (putAll_ne l _ fun j hj => h j (List.mem_cons_of_mem _ hj)).trans (put_at_ne a _ (h i (List.mem_cons_self ..)))
theorem putAll_at {t : Tmp} {i : Nat} : ∀ (l : List Nat) (a : Act), t < a.tmps.size → i ∈ l → ds.getD i none = some t → (∀ j ∈ l, ds.getD j none = some t → j = i) → (putAll ds f l a).tmps[t]? = some (f i)
  | [], _, _, h, _, _ => by cases h
  | j :: l, a, hs, hi, hd, hu => by
    by_cases hin : i ∈ l
    · exact putAll_at l _ (by rw [put_size]; exact hs) hin hd fun k hk => hu k (List.mem_cons_of_mem _ hk)
    · obtain rfl : i = j := by
        rcases List.mem_cons.1 hi with h | h
        · exact h
        · exact absurd h hin
      refine (putAll_ne l _ fun k hk he => hin ?_).trans ?_
      · obtain rfl := hu k (List.mem_cons_of_mem _ hk) he
        exact hk
      · rw [hd]; exact put_at_same _ _ hs
end
/-- 'B': the invariant, by what the operations of 'S' have left. -/
structure Way where
  B : Ghost → World → Prop
  S : List Nat
/-- what is known when operation j has come up. -/
def Way.next (Y : Way) (g : Ghost) (j : Nat) (v : Value) : Ghost := if Y.S.contains j = true then g.upd j v else g
section
variable (P : Program) (Y : Way) (ds : List (Option Tmp)) (a0 : Act) (Q : Act → World → Prop)
def opGoal (lk : Nat → Know) (j : Nat) (o : Oper) (l : List Nat) (k : Know) : Prop :=
  ∀ g w, Y.B g w → g j = none → from_ ds lk Y.S g l a0 fun a => ∀ T : Exit → Act → World → Prop,
    (∀ a' w', a'.defers = a.defers → Y.B (Y.next g j (last a' o.dst)) w' → k.holds (last a' o.dst) → T .normal a' w') → wpList P #[] T [{ o with guard := none }] a w
def Good (lk : Nat → Know) (j : Nat) (o : Oper) (k : Know) : Prop :=
  (says lk o = some true ∧ ∃ l, fits ds o l = true ∧ opGoal P Y ds a0 lk j o l k) ∨ (says lk o = some false ∧ k = .is undef ∧ Y.S.contains j = false)
/-- all that are left, in the text's order. -/
def walk : List Oper → List Know → Prop
  | [], Rs => ∀ g w, Y.B g w → from_ ds (look Rs) Y.S g (List.range Rs.length) a0 fun a => Q a w
  | o :: rest, Rs => ∃ k : Know, Good P Y ds a0 (look Rs) Rs.length o k ∧ walk rest (k :: Rs)
end
/-- what is looked at once, closed. -/
def sane (ops : Array Oper) (ds : List (Option Tmp)) (size n : Nat) : Bool :=
  Region.noSelect ops && ds.length == ops.size &&
  (List.range ops.size).all fun j => match ops[j]? with
    | none => true
    | some o =>
      ds.getD j none == o.dst && (predsOf o).all (· < j) && (match o.dst with | some d => decide (d < size) | none => true) &&
      (match o.guard with | none => true | some (g, _) => (predsOf o).contains g && (ds.getD g none).isSome) &&
      (List.range n).all fun i => decide (n ≤ j) || match ds.getD i none with
        | none => true
        | some d => (i == j || o.dst != some d) && (!(o.looksAt ops).contains d || (predsOf o).contains i)
/-- from number n on each waits, at last, for all ahead of it. -/
def closes (ops : Array Oper) (n : Nat) : Bool :=
  (List.range ops.size).all fun j => decide (j < n) || match ops[j]? with
    | none => true
    | some o => o.guard.isNone && (List.range j).all fun i => (List.range (j + 1)).any fun i' => decide (i < i') && match ops[i']? with
      | none => false
      | some o' => (predsOf o').contains i
section
variable {P : Program} {Y : Way} {ds : List (Option Tmp)} {a0 : Act} {Q : Act → World → Prop} {ops : Array Oper}
structure Sane (ops : Array Oper) (ds : List (Option Tmp)) (size n : Nat) : Prop where
  nosel : ∀ (j : Nat) (o : Oper) cs b, ops[j]? = some o → o.op ≠ .select cs b
  len : ds.length = ops.size
  dst : ∀ {j : Nat} {o : Oper}, ops[j]? = some o → ds.getD j none = o.dst
  before : ∀ {j : Nat} {o : Oper}, ops[j]? = some o → ∀ i ∈ predsOf o, i < j
  small : ∀ {j : Nat} {o : Oper}, ops[j]? = some o → ∀ d, o.dst = some d → d < size
  guard : ∀ {j : Nat} {o : Oper}, ops[j]? = some o → ∀ g b, o.guard = some (g, b) → g ∈ predsOf o ∧ (ds.getD g none).isSome
  one : ∀ {j : Nat} {o : Oper}, ops[j]? = some o → j < n → ∀ i d, i < n → ds.getD i none = some d → o.dst = some d → i = j
  looks : ∀ {j : Nat} {o : Oper}, ops[j]? = some o → j < n → ∀ i d, i < n → ds.getD i none = some d → d ∈ o.looksAt ops → i ∈ predsOf o
theorem sane_spec {size n : Nat} (h : sane ops ds size n = true) : Sane ops ds size n := by
  simp only [sane, Bool.and_eq_true, List.all_eq_true, List.mem_range, beq_iff_eq] at h
  obtain ⟨⟨h1, h2⟩, h3⟩ := h
  have key := fun (j : Nat) (o : Oper) (hj : ops[j]? = some o) => by
    have := h3 j (Array.getElem?_eq_some_iff.1 hj).1
    simp only [hj, Bool.and_eq_true, beq_iff_eq, List.all_eq_true, decide_eq_true_eq, List.mem_range, Bool.or_eq_true] at this
    exact this
  refine ⟨Region.noSelect_spec h1, h2, fun hj => (key _ _ hj).1.1.1.1, fun hj => (key _ _ hj).1.1.1.2, fun hj d hd => ?_, fun hj g b hg => ?_, fun hj hjn i d hi hd ho => ?_, fun hj hjn i d hi hd ho => ?_⟩
  · have := (key _ _ hj).1.1.2; rw [hd] at this; simpa using this
  · have := (key _ _ hj).1.2; rw [hg] at this; simpa using this
  · have := ((key _ _ hj).2 i hi).resolve_left (by omega); rw [hd] at this; simp only [Bool.and_eq_true, Bool.or_eq_true, beq_iff_eq, bne_iff_ne, ne_eq] at this
    rcases this.1 with h | h
    · exact h
    · exact absurd ho h
  · have := ((key _ _ hj).2 i hi).resolve_left (by omega); rw [hd] at this
    simp only [Bool.and_eq_true, Bool.or_eq_true, Bool.not_eq_true', List.contains_iff_mem] at this
    rcases this.2 with h | h
    · exact absurd (List.contains_iff_mem.2 ho) (by rw [h]; simp)
    · exact h
theorem closes_spec {n : Nat} (h : closes ops n = true) : ∀ j o, n ≤ j → ops[j]? = some o → o.guard = none ∧ ∀ i, i < j → ∃ i' o', i < i' ∧ i' ≤ j ∧ ops[i']? = some o' ∧ i ∈ predsOf o' := by
  intro j o hj ho
  simp only [closes, List.all_eq_true, List.mem_range, Bool.or_eq_true, decide_eq_true_eq] at h
  have h1 := (h j (Array.getElem?_eq_some_iff.1 ho).1).resolve_left (by omega)
  simp only [ho, Bool.and_eq_true, List.all_eq_true, List.mem_range, List.any_eq_true, decide_eq_true_eq] at h1
  refine ⟨by simpa using h1.1, fun i hi => ?_⟩
  obtain ⟨i', h2, h3, h4⟩ := h1.2 i hi
  cases h5 : ops[i']? with
  | none => rw [h5] at h4; simp at h4
  | some o' =>
    rw [h5] at h4
    exact ⟨i', o', h3, by omega, h5, List.contains_iff_mem.1 h4⟩
theorem good_congr {lk lk' : Nat → Know} {j : Nat} {o : Oper} {k : Know} (hp : ∀ i ∈ predsOf o, lk i = lk' i) (hg : ∀ g b, o.guard = some (g, b) → g ∈ predsOf o) (h : Good P Y ds a0 lk j o k) : Good P Y ds a0 lk' j o k := by
  have hs : says lk o = says lk' o := by
    unfold says
    cases hgu : o.guard with
    | none => rfl
    | some gb => obtain ⟨g, b⟩ := gb; simp only [hp g (hg g b hgu)]
  rcases h with ⟨h1, l, hl, h2⟩ | ⟨h1, h2⟩
  · exact .inl ⟨hs ▸ h1, _, hl, fun g w hw hw1 => from_congr (fun i hi => hp i ((fits_spec hl).1 i hi)) (h2 g w hw hw1)⟩
  · exact .inr ⟨hs ▸ h1, h2⟩
theorem extract : ∀ (rest : List Oper) (Rs : List Know), (∀ j o, rest[j]? = some o → (∀ i ∈ predsOf o, i < Rs.length + j) ∧ ∀ g b, o.guard = some (g, b) → g ∈ predsOf o) → walk P Y ds a0 Q rest Rs →
    ∃ F : Nat → Know, (∀ i, i < Rs.length → F i = look Rs i) ∧ (∀ j o, rest[j]? = some o → Good P Y ds a0 F (Rs.length + j) o (F (Rs.length + j))) ∧ ∀ g w, Y.B g w → from_ ds F Y.S g (List.range (Rs.length + rest.length)) a0 fun a => Q a w
  | [], Rs, _, h => ⟨look Rs, fun _ _ => rfl, fun j o h => by simp at h, h⟩
  | o :: rest, Rs, hb, ⟨k, hg, h⟩ => by
    obtain ⟨F, h1, h2, h3⟩ := extract rest (k :: Rs) (fun j o' ho => by
      have := hb (j + 1) o' (by simpa using ho)
      exact ⟨fun i hi => by have := this.1 i hi; simp; omega, this.2⟩) h
    have hF : ∀ i, i < Rs.length → F i = look Rs i := fun i hi => (h1 i (by simp; omega)).trans (look_cons _ _ _ hi)
    refine ⟨F, hF, fun j o' ho => ?_, ?_⟩
    · cases j with
      | zero =>
        simp only [List.getElem?_cons_zero, Option.some.injEq] at ho
        subst ho
        have hbo := hb 0 o rfl
        rw [Nat.add_zero, h1 Rs.length (by simp), look_new]
        exact good_congr (fun i hi => (hF i (by have := hbo.1 i hi; omega)).symm) hbo.2 hg
      | succ j =>
        have := h2 j o' (by simpa using ho)
        have e : (k :: Rs).length + j = Rs.length + (j + 1) := by simp; omega
        rwa [e] at this
    · have e : (k :: Rs).length + rest.length = Rs.length + (o :: rest).length := by simp; omega
      rwa [e] at h3
/-- what has come up, as the invariant sees it. -/
def seen (S : List Nat) (listed : Array Bool) (f : Nat → Value) : Ghost := fun i => if S.contains i = true ∧ listed.getD i false = true then some (f i) else none
structure Inv (n : Nat) (ops : Array Oper) (ds : List (Option Tmp)) (Y : Way) (a0 : Act) (F : Nat → Know) (listed : Array Bool) (a : Act) (w : World) : Prop where
  defers : a.defers = a0.defers
  size : a.tmps.size = a0.tmps.size
  unlisted : ∀ j, n ≤ j → listed.getD j false = false
  down : ∀ j o, ops[j]? = some o → listed.getD j false = true → ∀ i ∈ predsOf o, listed.getD i false = true
  other : ∀ t, (∀ i, i < n → ds.getD i none = some t → listed.getD i false = false) → a.tmps[t]? = a0.tmps[t]?
  some_ : ∃ f : Nat → Value, Y.B (seen Y.S listed f) w ∧ ∀ i, i < n → listed.getD i false = true → (F i).holds (f i) ∧ ∀ d, ds.getD i none = some d → a.tmps[d]? = some (f i)
theorem count_lt (l : List Nat) (p q : Nat → Bool) (i : Nat) (hi : i ∈ l) (hp : p i = true) (hq : q i = false) (hle : ∀ j, q j = true → p j = true) : l.countP q < l.countP p := by
  induction l with
  | nil => cases hi
  | cons a l ih =>
    have hmono : l.countP q ≤ l.countP p := List.countP_mono_left fun j _ h => hle j h
    rw [List.countP_cons, List.countP_cons]
    rcases List.mem_cons.1 hi with rfl | hi
    · rw [hp, hq]; simp; omega
    · have := ih hi
      cases hqa : q a with
      | false => simp; split <;> omega
      | true => rw [hle a hqa]; simp; omega
theorem getD_set_same {listed : Array Bool} {j : Nat} {b : Bool} (h : j < listed.size) : (listed.setIfInBounds j true).getD j b = true := by simp [h]
/-- the tail: one behind the other. -/
theorem wp_tail {Q' : Exit → Act → World → Prop} {n : Nat} (S : Sane ops ds a0.tmps.size n) (hL : ∀ j o, n ≤ j → ops[j]? = some o → o.guard = none ∧ ∀ i, i < j → ∃ i' o', i < i' ∧ i' ≤ j ∧ ops[i']? = some o' ∧ i ∈ predsOf o') :
    ∀ (tail : List Oper) (m fuel : Nat) (listed : Array Bool) (a : Act) (w : World), n ≤ m → m + tail.length = ops.size → (∀ i, tail[i]? = ops[m + i]?) → tail.length ≤ fuel → (∀ i, i < ops.size → listed.getD i false = decide (i < m)) → listed.size = ops.size →
      wpList P #[] Q' (tail.map fun o => { o with guard := none }) a w → wpAny P .any ops Q' fuel listed a w
  | [], m, fuel, listed, a, w, hm, hlen, ht, hf, hl, hls, h => by
    refine wpAny_done ?_ h fuel
    rw [List.eq_nil_iff_forall_not_mem]
    intro i hi
    obtain ⟨h0, oi, hoi, _⟩ := mem_ready.1 hi
    have his := (Array.getElem?_eq_some_iff.1 hoi).1
    have h2 := hl i his
    simp only [List.length_nil] at hlen
    have h3 : i < listed.size := by omega
    have h4 : i < m := by omega
    simp [h3] at h0 h2
    rw [h0] at h2; simp [h4] at h2
  | o :: tail, m, fuel, listed, a, w, hm, hlen, ht, hf, hl, hls, h => by
    simp only [List.length_cons] at hlen hf
    have ho : ops[m]? = some o := by simpa using (ht 0).symm
    have hms : m < ops.size := by omega
    obtain ⟨fuel, rfl⟩ : ∃ k, fuel = k + 1 := ⟨fuel - 1, by omega⟩
    have hlm : ∀ i, i < m → listed.getD i false = true := fun i hi => by rw [hl i (by omega)]; simpa using hi
    have hready : m ∈ Region.ready .any ops listed := mem_ready.2 ⟨by
      have := hl m hms
      have h3 : m < listed.size := by omega
      simp [h3] at this ⊢; exact this, o, ho, fun e he hb => hlm _ (S.before ho _ (mem_preds.2 ⟨e, he, hb, rfl⟩))⟩
    refine ⟨fun h0 => absurd hready (by rw [h0]; simp), fun j hj => ?_⟩
    obtain ⟨hun, oj, hoj, hall⟩ := mem_ready.1 hj
    have hjs := (Array.getElem?_eq_some_iff.1 hoj).1
    have hjm : j = m := by
      have h2 := hl j hjs
      have h3 : j < listed.size := by omega
      have hge : m ≤ j := by
        rcases Nat.lt_or_ge j m with h4 | h4
        · have h5 := hlm j h4
          simp [h3] at hun h5; rw [hun] at h5; cases h5
        · exact h4
      rcases Nat.lt_or_ge m j with h4 | h4
      · -- m < j ready: then all ahead of it are listed: m too
        exfalso
        -- the successor of j - 1 ..: it is j itself, as i' in (j-1, j]
        have key : ∀ i, m ≤ i → i < j → False ∨ listed.getD i false = true := by
          intro i hi hij
          obtain ⟨i', o', h5, h6, h7, h8⟩ := (hL j oj (by omega) hoj).2 (j - 1) (by omega)
          obtain rfl : i' = j := by omega
          rw [hoj] at h7
          obtain rfl := Option.some.inj h7
          obtain ⟨e, he, hb, heq⟩ := mem_preds.1 h8
          have h9 := hall e he hb
          rw [heq, hl _ (by omega)] at h9
          simp at h9; omega
        rcases key m (Nat.le_refl _) h4 with h5 | h5
        · exact h5
        · rw [hl m hms] at h5; simp at h5
      · omega
    subst hjm
    rw [ho] at hoj
    obtain rfl := Option.some.inj hoj
    have hg := (hL j o hm ho).1
    unfold wpOp
    simp only [ho]
    have hw : Region.wanted o (yielded ops a.tmps) = true := by unfold Region.wanted; rw [hg]
    rw [if_pos hw]
    simp only [List.map_cons, wpList, Region.wanted, if_true] at h
    rcases h with h | h
    · refine .inl (Oper.wp_mono (fun a' w' h' => ?_) h)
      refine wp_tail S hL tail (j + 1) fuel _ a' w' (by omega) (by omega) (fun i => by have := ht (i + 1); simpa [Nat.add_assoc, Nat.add_comm 1 i] using this) (by omega) (fun i hi => ?_) (by simp [hls]) h'
      by_cases hij : j = i
      · subst hij
        rw [getD_set_same (by omega)]; simp
      · rw [getD_set_ne false hij, hl i hi]
        by_cases h1 : i < j
        · simp [h1]; omega
        · simp [h1]; omega
    · exact .inr h
theorem wp_any {F : Nat → Know} {n : Nat} {Q' : Exit → Act → World → Prop} (S : Sane ops ds a0.tmps.size n) (hn : n ≤ ops.size)
    (hG : ∀ j o, j < n → ops[j]? = some o → Good P Y ds a0 F j o (F j))
    (hL : ∀ j o, n ≤ j → ops[j]? = some o → o.guard = none ∧ ∀ i, i < j → ∃ i' o', i < i' ∧ i' ≤ j ∧ ops[i']? = some o' ∧ i ∈ predsOf o')
    (hQ : ∀ g w, Y.B g w → from_ ds F Y.S g (List.range n) a0 fun a => Q a w) 
    (tail : List Oper) (htl : n + tail.length = ops.size) (ht : ∀ i, tail[i]? = ops[n + i]?) (hQ' : ∀ a w, Q a w → wpList P #[] Q' (tail.map fun o => { o with guard := none }) a w) :
    ∀ (fuel : Nat) (listed : Array Bool) (a : Act) (w : World), listed.size = ops.size → (List.range ops.size).countP (fun i => !listed.getD i true) ≤ fuel → Inv n ops ds Y a0 F listed a w → wpAny P .any ops Q' fuel listed a w := by
  have full : ∀ (listed : Array Bool) (a : Act) (w : World), Inv n ops ds Y a0 F listed a w → (∀ i, i < n → listed.getD i false = true) → Q a w := by
    intro listed a w I all
    obtain ⟨f, hB, hf⟩ := I.some_
    have h := from_at (f := f) (hQ _ w hB) fun i hi => ⟨(hf i (List.mem_range.1 hi) (all _ (List.mem_range.1 hi))).1, fun hs => by
      unfold seen
      rw [if_pos ⟨hs, all _ (List.mem_range.1 hi)⟩]⟩
    have hea : putAll ds f (List.range n) a0 = a := by
      have ht : (putAll ds f (List.range n) a0).tmps = a.tmps := by
        apply Array.ext_getElem?
        intro t
        by_cases hex : ∃ i, i < n ∧ ds.getD i none = some t
        · obtain ⟨i, hi, hd⟩ := hex
          have ho : ops[i]? = some (ops[i]'(by omega)) := Array.getElem?_eq_getElem (by omega)
          have hod := S.dst ho
          rw [((hf i hi (all _ hi)).2 t hd)]
          refine putAll_at _ _ (S.small ho t (hod ▸ hd)) (List.mem_range.2 hi) hd fun j hj hdj => S.one ho hi j t (by have := List.mem_range.1 hj; omega) hdj (hod ▸ hd)
        · rw [putAll_ne _ _ fun i hi hd => hex ⟨i, List.mem_range.1 hi, hd⟩, I.other t fun i hi hd => absurd ⟨i, hi, hd⟩ hex]
      have hd := (putAll_defers (ds := ds) (f := f) (List.range n) a0).trans I.defers.symm
      generalize putAll ds f (List.range n) a0 = b at *
      cases a; cases b
      simp only at ht hd
      rw [ht, hd]
    rw [← hea]
    exact h
  -- all of the first n are listed: the tail
  have toTail : ∀ (fuel : Nat) (listed : Array Bool) (a : Act) (w : World), listed.size = ops.size → (List.range ops.size).countP (fun i => !listed.getD i true) ≤ fuel → Inv n ops ds Y a0 F listed a w → (∀ i, i < n → listed.getD i false = true) → wpAny P .any ops Q' fuel listed a w := by
    intro fuel listed a w hls hc I all
    have hl : ∀ i, i < ops.size → listed.getD i false = decide (i < n) := fun i hi => by
      rcases Nat.lt_or_ge i n with h | h
      · rw [all i h]; simp [h]
      · rw [I.unlisted i h]; simp; omega
    refine wp_tail S hL tail n fuel listed a w (Nat.le_refl _) htl ht ?_ hl hls (hQ' a w (full listed a w I all))
    -- as many are left as the tail is long
    have hcount : ∀ k, k ≤ ops.size → (List.range k).countP (fun i => !listed.getD i true) = k - n := by
      intro k
      induction k with
      | zero => intro _; simp
      | succ k ih =>
        intro hk
        rw [List.range_succ, List.countP_append, ih (by omega)]
        have h1 := hl k (by omega)
        have h2 : k < listed.size := by omega
        simp [h2] at h1
        rcases Nat.lt_or_ge k n with h | h
        · simp [h2, h1, h]; omega
        · have : ¬ k < n := by omega
          simp [h2, h1, this]; omega
    have := hcount ops.size (Nat.le_refl _)
    omega
  have stuck : ∀ (listed : Array Bool) (a : Act) (w : World), listed.size = ops.size → Inv n ops ds Y a0 F listed a w → Region.ready .any ops listed = [] → ∀ m j, j < m → j < ops.size → listed.getD j false = true := by
    intro listed a w hls I hr m
    induction m with
    | zero => intro j hj; omega
    | succ m ih =>
      intro j hj hjs
      have ho : ops[j]? = some ops[j] := Array.getElem?_eq_getElem hjs
      cases hl : listed.getD j true with
      | true =>
        have : j < listed.size := by omega
        simp [this] at hl ⊢; exact hl
      | false =>
        have : j ∈ Region.ready .any ops listed := mem_ready.2 ⟨hl, _, ho, fun e he hb => by
          have hlt := S.before ho e.on (mem_preds.2 ⟨e, he, hb, rfl⟩)
          exact ih e.on (by omega) (by omega)⟩
        rw [hr] at this; cases this
  intro fuel
  induction fuel with
  | zero =>
    intro listed a w hls hc I
    have hr : Region.ready .any ops listed = [] := by
      rw [List.eq_nil_iff_forall_not_mem]
      intro j hj
      obtain ⟨h0, o, ho, _⟩ := mem_ready.1 hj
      have := List.countP_eq_zero.1 (Nat.le_zero.1 hc) j (List.mem_range.2 (Array.getElem?_eq_some_iff.1 ho).1)
      rw [h0] at this; simp at this
    have all := stuck listed a w hls I hr
    exact toTail 0 listed a w hls hc I fun i hi => all _ i (Nat.lt_succ_self i) (by omega)
  | succ fuel ih =>
    intro listed a w hls hc I
    by_cases hfull : ∀ i, i < n → listed.getD i false = true
    case pos => exact toTail (fuel + 1) listed a w hls hc I hfull
    case neg =>
    refine ⟨fun hr => absurd (fun i hi => stuck listed a w hls I hr _ i (Nat.lt_succ_self i) (by omega)) hfull, fun j hj => ?_⟩
    obtain ⟨hun, o, ho, hall⟩ := mem_ready.1 hj
    have hjs : j < ops.size := (Array.getElem?_eq_some_iff.1 ho).1
    have hpl : ∀ i ∈ predsOf o, listed.getD i false = true := fun i hi => by
      obtain ⟨e, he, hb, rfl⟩ := mem_preds.1 hi
      exact hall e he hb
    have hjn : j < n := by
      rcases Nat.lt_or_ge j n with h | h
      · exact h
      · exfalso
        -- all ahead of it are listed
        have all : ∀ d i, i < j → j - i ≤ d → listed.getD i false = true := by
          intro d
          induction d with
          | zero => intro i hi hd; omega
          | succ d ihd =>
            intro i hi hd
            obtain ⟨i', o', h1, h2, h3, h4⟩ := (hL j o h ho).2 i hi
            rcases Nat.lt_or_ge i' j with h5 | h5
            · exact I.down i' o' h3 (ihd i' h5 (by omega)) i h4
            · obtain rfl : i' = j := by omega
              rw [ho] at h3
              obtain rfl := Option.some.inj h3
              exact hpl i h4
        exact hfull fun i hi => all _ i (by omega) (Nat.le_refl _)
    have hcount : (List.range ops.size).countP (fun i => !(listed.setIfInBounds j true).getD i true) ≤ fuel := by
      have := count_lt (List.range ops.size) (fun i => !listed.getD i true) (fun i => !(listed.setIfInBounds j true).getD i true) j (List.mem_range.2 hjs) (by rw [hun]; rfl) (by
        have : j < listed.size := by omega
        simp [this]) fun k hk => by
          by_cases hkj : j = k
          · subst hkj
            have : j < listed.size := by omega
            simp [this] at hk
          · rw [getD_set_ne true hkj] at hk; exact hk
      omega
    have hod := S.dst ho
    obtain ⟨f, hB, hf⟩ := I.some_
    have hps : ∀ i ∈ predsOf o, i < n := fun i hi => by have := S.before ho i hi; omega
    have hjl : j < listed.size := by omega
    have hjun : listed.getD j false = false := by simp [hjl] at hun ⊢; exact hun
    have hGj := hG j o hjn ho
    -- whatever it leaves: the next state is one of ours
    have next : ∀ w' a' v, Y.B (Y.next (seen Y.S listed f) j v) w' → (F j).holds v → a' = a.put o.dst v → Inv n ops ds Y a0 F (listed.setIfInBounds j true) a' w' := by
      intro w' a' v hw' hv ha
      subst ha
      refine ⟨(put_defers' ..).trans I.defers, (put_size ..).trans I.size, fun k hk => ?_, fun k ok hok hk i hi => ?_, fun t ht => ?_, fun i => if i = j then v else f i, ?_, fun i hi hl => ?_⟩
      · rw [getD_set_ne false (by omega)]; exact I.unlisted k hk
      · by_cases hkj : j = k
        · subst hkj
          rw [ho] at hok
          obtain rfl := Option.some.inj hok
          exact getD_set_true (hpl i hi)
        · rw [getD_set_ne false hkj] at hk
          exact getD_set_true (I.down k ok hok hk i hi)
      · rw [put_at_ne, I.other]
        · intro i hi hd
          have h1 := ht i hi hd
          by_cases hij : j = i
          · subst hij
            rw [getD_set_same hjl] at h1; cases h1
          · rw [getD_set_ne false hij] at h1; exact h1
        · intro hd
          have h1 := ht j hjn (hod.trans hd)
          rw [getD_set_same hjl] at h1; cases h1
      · have e : seen Y.S (listed.setIfInBounds j true) (fun i => if i = j then v else f i) = Y.next (seen Y.S listed f) j v := by
          funext i
          by_cases hij : i = j
          · subst hij
            by_cases hS : Y.S.contains i = true
            · have e1 : seen Y.S (listed.setIfInBounds i true) (fun k => if k = i then v else f k) i = some v := by
                unfold seen
                rw [if_pos ⟨hS, getD_set_same hjl⟩]
                simp
              have e2 : Y.next (seen Y.S listed f) i v i = some v := by
                unfold Way.next
                rw [if_pos hS]
                unfold Ghost.upd
                rw [if_pos rfl]
              exact e1.trans e2.symm
            · have e1 : seen Y.S (listed.setIfInBounds i true) (fun k => if k = i then v else f k) i = none := by
                unfold seen
                rw [if_neg fun h => hS h.1]
              have e2 : Y.next (seen Y.S listed f) i v i = none := by
                unfold Way.next
                rw [if_neg hS]
                unfold seen
                rw [if_neg fun h => hS h.1]
              exact e1.trans e2.symm
          · have e1 : seen Y.S (listed.setIfInBounds j true) (fun k => if k = j then v else f k) i = seen Y.S listed f i := by
              unfold seen
              simp only [getD_set_ne false (Ne.symm hij), if_neg hij]
            have e2 : Y.next (seen Y.S listed f) j v i = seen Y.S listed f i := by
              unfold Way.next
              split
              · unfold Ghost.upd
                rw [if_neg hij]
              · rfl
            exact e1.trans e2.symm
        rw [e]
        exact hw'
      · by_cases hij : i = j
        · subst hij
          simp only [if_true]
          refine ⟨hv, fun d hd => ?_⟩
          rw [hod] at hd
          rw [hd]
          exact put_at_same _ _ (by rw [I.size]; exact S.small ho d hd)
        · simp only [if_neg hij]
          rw [getD_set_ne false (Ne.symm hij)] at hl
          have h1 := hf i hi hl
          refine ⟨h1.1, fun d hd => ?_⟩
          rw [put_at_ne, h1.2 d hd]
          intro hd'
          exact hij (S.one ho hjn i d (by omega) hd hd')
    have goOn : ∀ w' a' v, Y.B (Y.next (seen Y.S listed f) j v) w' → (F j).holds v → a' = a.put o.dst v → wpAny P .any ops Q' fuel (listed.setIfInBounds j true) a' w' := fun w' a' v h1 h2 h3 =>
      ih _ _ _ (by simp [hls]) hcount (next w' a' v h1 h2 h3)
    -- what the guard says
    have hwant : ∀ b, says F o = some b → Region.wanted o (yielded ops a.tmps) = b := by
      intro b hb
      unfold says at hb
      unfold Region.wanted
      cases hgu : o.guard with
      | none => simp only [hgu] at hb; simpa using hb
      | some gw =>
        obtain ⟨g, want⟩ := gw
        obtain ⟨hgp, hgd⟩ := S.guard ho g want hgu
        simp only [hgu] at hb ⊢
        obtain ⟨d, hd⟩ := Option.isSome_iff_exists.1 hgd
        have hg1 := hf g (hps g hgp) (hpl g hgp)
        have hgs : g < ops.size := by have := hps g hgp; omega
        have hog : ops[g]? = some (ops[g]'hgs) := Array.getElem?_eq_getElem hgs
        have hgd' := S.dst hog
        cases hkn : F g with
        | sp => rw [hkn] at hb; simp at hb
        | is v =>
          rw [hkn] at hb hg1
          simp only [Know.holds] at hg1
          have hy : yielded ops a.tmps g = boolOf v := by
            unfold yielded
            rw [hog]
            simp only [Option.bind_some]
            rw [← hgd', hd]
            simp only [Option.bind_some]
            rw [hg1.2 d hd, hg1.1]
            cases v <;> rfl
          rw [hy]
          simpa using hb
    unfold wpOp
    simp only [ho]
    rcases hGj with ⟨hs, l, hl, hop⟩ | ⟨hs, hk, hk2⟩
    · obtain ⟨hl1, hl2⟩ := fits_spec hl
      rw [if_pos (hwant _ hs)]
      have hc := from_at (f := f) (hop _ w hB (by unfold seen; rw [if_neg]; rw [hjun]; simp)) fun i hi => ⟨(hf i (hps i (hl1 i hi)) (hpl i (hl1 i hi))).1, fun hs => by
        unfold seen
        rw [if_pos ⟨hs, hpl i (hl1 i hi)⟩]⟩
      obtain ⟨c, hcdef⟩ : ∃ c, putAll ds f l a0 = c := ⟨_, rfl⟩
      have hcsize : c.tmps.size = a0.tmps.size := by rw [← hcdef]; exact putAll_size _ _
      have agree : ∀ t, Operand.tmp t ∈ o.op.operands → a.tmps[t]? = c.tmps[t]? := by
        intro t ht
        have htl : t ∈ o.looksAt ops := List.mem_append_left _ (List.mem_filterMap.2 ⟨.tmp t, by simpa using ht, rfl⟩)
        rw [← hcdef]
        by_cases hex : ∃ i, i < n ∧ ds.getD i none = some t
        · obtain ⟨i, hi, hd⟩ := hex
          have hoi : ops[i]? = some (ops[i]'(by omega)) := Array.getElem?_eq_getElem (by omega)
          have hip := S.looks ho hjn i t (by omega) hd htl
          rw [(hf i hi (hpl i hip)).2 t hd]
          exact (putAll_at _ _ (S.small hoi t (S.dst hoi ▸ hd)) (hl2 i hip t hd ht) hd fun k hk hdk => S.one hoi hi k t (by have := hps k (hl1 k hk); omega) hdk (S.dst hoi ▸ hd)).symm
        · rw [putAll_ne _ _ fun i hi hd => hex ⟨i, hps i (hl1 i hi), hd⟩, I.other t fun i hi hd => absurd ⟨i, hi, hd⟩ hex]
      have heval : ∀ x ∈ o.op.operands, a.eval x = c.eval x := by
        intro x hx
        cases x with
        | tmp t =>
          have := agree t hx
          simp only [Act.eval, Array.getD_eq_getD_getElem?]
          rw [this]
        | _ => rfl
      have hexec : execOp a.eval o = execOp c.eval o := execOp_congr o (fun cs b => S.nosel j o cs b ho) heval
      rw [hcdef] at hc
      have hcl := hc (fun e a' w' => e = .normal ∧ a'.defers = c.defers ∧ Y.B (Y.next (seen Y.S listed f) j (last a' o.dst)) w' ∧ (F j).holds (last a' o.dst)) fun a' w' h1 h2 h3 => ⟨rfl, h1, h2, h3⟩
      simp only [wpList, Region.wanted, if_true] at hcl
      rcases hcl with hcl | ⟨_, hout⟩
      · refine .inl ?_
        have hlast : ∀ v, last (c.put o.dst v) o.dst = v ∨ (o.dst = none ∧ last (c.put o.dst v) o.dst = undef) := by
          intro v
          cases hd : o.dst with
          | none => exact .inr ⟨rfl, rfl⟩
          | some d =>
            refine .inl ?_
            change ((c.put (some d) v).tmps[d]?).getD undef = v
            rw [put_at_same _ _ (by rw [hcsize]; exact S.small ho d hd)]
            rfl
        have fin : ∀ v w', Y.B (Y.next (seen Y.S listed f) j (last (c.put o.dst v) o.dst)) w' → (F j).holds (last (c.put o.dst v) o.dst) → wpAny P .any ops Q' fuel (listed.setIfInBounds j true) (a.put o.dst v) w' := by
          intro v w' h1 h2
          rcases hlast v with h | ⟨hn, h⟩
          · rw [h] at h1 h2
            exact goOn w' _ v h1 h2 rfl
          · rw [h] at h1 h2
            refine goOn w' _ undef h1 h2 ?_
            rw [hn]; rfl
        unfold Oper.wp at hcl ⊢
        rw [hexec]
        have hx2 : execOp c.eval { o with guard := none } = execOp c.eval o := rfl
        rw [hx2] at hcl
        generalize (execOp c.eval o).run P w = r at hcl ⊢
        cases r with
        | halt x w' => cases x <;> simp [Oper.upon] at hcl
        | ok n w' =>
          cases n
          case value v => exact fin v w' hcl.2.2.1 hcl.2.2.2
          case skip => exact fin undef w' hcl.2.2.1 hcl.2.2.2
          case defer d =>
            have h1 := hcl.2.1
            rw [put_defers'] at h1
            have := congrArg List.length h1
            simp at this
          case row row args => exact Rows.mono hcl fun v w'' h => fin v w'' h.2.2.1 h.2.2.2
          case enter fn args =>
            refine Calls.mono hcl fun e w'' h => ?_
            cases e with
            | returned v => exact fin v w'' h.2.2.1 h.2.2.2
            | panicked ch => simp at h
            | outgrown => obtain ⟨_, _, h, _⟩ := h; cases h
          all_goals exact hcl.elim
      · obtain ⟨_, _, h, _⟩ := hout
        cases h
    · rw [if_neg (by rw [hwant _ hs]; simp)]
      exact goOn w _ undef (by unfold Way.next; rw [hk2]; exact hB) (by rw [hk]; rfl) rfl
/-- the first ones in whatever order, the tail behind them. -/
theorem any_region {Q' : Exit → Act → World → Prop} {l tail : List Oper} {a : Act} {w : World} (Y : Way) (ds : List (Option Tmp)) (size : Nat) (hs : sane (l ++ tail).toArray ds size l.length = true) (hc : closes (l ++ tail).toArray l.length = true) (hz : a.tmps.size = size)
    (hB : Y.B (fun _ => none) w.drew) (h : walk P Y ds a (fun a w => wpList P #[] Q' (tail.map fun o => { o with guard := none }) a w) l []) : wpAny P .any (l ++ tail).toArray Q' (l ++ tail).toArray.size (Array.replicate (l ++ tail).toArray.size false) a { w with drawn := w.drawn + 1 } := by
  subst hz
  have S := sane_spec hs
  have hpre : ∀ (j : Nat) (o : Oper), l[j]? = some o → (l ++ tail).toArray[j]? = some o := fun j o hj => by
    have := (List.getElem?_eq_some_iff.1 hj).1
    simpa [List.getElem?_append_left this] using hj
  obtain ⟨F, _, h2, h3⟩ := extract l [] (fun j o hj => ⟨fun i hi => by
    have := S.before (hpre j o hj) i hi
    simpa using this, fun g b hg => (S.guard (hpre j o hj) g b hg).1⟩) h
  have hsz : (l ++ tail).toArray.size = l.length + tail.length := by simp
  refine (wp_any (Y := Y) (Q := fun a w => wpList P #[] Q' (tail.map fun o => { o with guard := none }) a w) (F := F) (a0 := a) (n := l.length) S (by omega) (fun j o hj ho => ?_) (closes_spec hc) (fun g w' hw' => ?_) tail hsz.symm (fun i => ?_) (fun _ _ h => h) _ _ _ _ (by simp) ?_ ⟨rfl, rfl, fun j _ => ?_, fun j o _ hl => ?_, fun _ _ => rfl, fun _ => undef, ?_, fun i hi hl => ?_⟩)
  · have h4 : l[j]? = some l[j] := List.getElem?_eq_getElem hj
    have h5 := hpre j _ h4
    rw [h5] at ho
    obtain rfl := Option.some.inj ho
    have := h2 j _ h4
    simpa using this
  · have := h3 g w' hw'
    simpa using this
  · rw [List.getElem?_toArray, List.getElem?_append_right (by omega), Nat.add_sub_cancel_left]
  · have := List.countP_le_length (p := fun i => !(Array.replicate (l ++ tail).toArray.size false).getD i true) (l := List.range (l ++ tail).toArray.size)
    simpa using this
  · by_cases hj : j < (l ++ tail).toArray.size
    · simp at hj; simp [hj]
    · simp at hj; simp [show ¬ j < l.length + tail.length by omega]
  · by_cases hj : j < (l ++ tail).toArray.size
    · simp at hj; simp [hj] at hl
    · simp at hj; simp [show ¬ j < l.length + tail.length by omega] at hl
  · have e : seen Y.S (Array.replicate (l ++ tail).toArray.size false) (fun _ => undef) = fun _ => none := by
      funext i
      unfold seen
      rw [if_neg]
      intro h
      have h1 := h.2
      rw [Array.getD_eq_getD_getElem?] at h1
      by_cases hi : i < (l ++ tail).toArray.size
      · rw [Array.getElem?_eq_getElem (by simpa using hi)] at h1; simp at h1
      · rw [Array.getElem?_eq_none (by simpa using hi)] at h1; simp at h1
    rw [e]
    exact hB
  · have : i < l.length + tail.length := by omega
    simp [this] at hl
/-- **THE LAW**: at a region that draws its order: the first ones in whatever order, the tail behind them. -/
theorem wp_region {id : Nat} {Q' : Exit → Act → World → Prop} {l tail : List Oper} {a : Act} {w : World} (Y : Way) (ds : List (Option Tmp)) (size : Nat) (hm : P.follows .mixedOrders = true) (hs : sane (l ++ tail).toArray ds size l.length = true) (hc : closes (l ++ tail).toArray l.length = true) (hz : a.tmps.size = size)
    (hB : Y.B (fun _ => none) w.drew) (h : walk P Y ds a (fun a w => wpList P #[] Q' (tail.map fun o => { o with guard := none }) a w) l []) : (Code.region id (l ++ tail).toArray true).wp P Q' a w := by
  exact wp_region_any hm (any_region Y ds size hs hc hz hB h)
end
section
variable {P : Program} {Y : Way} {ds : List (Option Tmp)} {a0 : Act} {Q : Act → World → Prop} {Rs : List Know} {rest : List Oper}
theorem op_skip {o : Oper} (hs : says (look Rs) o = some false) (hj : Y.S.contains Rs.length = false) (h : walk P Y ds a0 Q rest (.is undef :: Rs)) : walk P Y ds a0 Q (o :: rest) Rs :=
  ⟨.is undef, .inr ⟨hs, rfl, hj⟩, h⟩
section
variable {dst : Option Tmp} {op : Op} {type : TypeId} {pos : String} {after : Array Edge} {guard : Option (Nat × Bool)}
theorem op_is (v : Value) (l : List Nat) (hj : Y.S.contains Rs.length = false) (hs : says (look Rs) ⟨dst, op, type, pos, after, guard⟩ = some true) (hl : fits ds ⟨dst, op, type, pos, after, guard⟩ l = true)
    (h : ∀ g w, Y.B g w → from_ ds (look Rs) Y.S g l a0 fun a => ∀ T : Exit → Act → World → Prop, (∀ a' w', a'.defers = a.defers → Y.B g w' → last a' dst = v → T .normal a' w') → wpList P #[] T [⟨dst, op, type, pos, #[], none⟩] a w)
    (hr : walk P Y ds a0 Q rest (.is v :: Rs)) : walk P Y ds a0 Q (⟨dst, op, type, pos, after, guard⟩ :: rest) Rs := by
  refine ⟨.is v, .inl ⟨hs, l, hl, fun g w hw _ => ?_⟩, hr⟩
  have e : ∀ u, Y.next g Rs.length u = g := fun u => by unfold Way.next; rw [hj]; simp
  simp only [e]
  exact h g w hw
/-- one that the invariant tells of. -/
theorem op_sp (l : List Nat) (hj : Y.S.contains Rs.length = true) (hs : says (look Rs) ⟨dst, op, type, pos, after, guard⟩ = some true) (hl : fits ds ⟨dst, op, type, pos, after, guard⟩ l = true)
    (h : ∀ g w, Y.B g w → g Rs.length = none → from_ ds (look Rs) Y.S g l a0 fun a => ∀ T : Exit → Act → World → Prop, (∀ a' w', a'.defers = a.defers → Y.B (g.upd Rs.length (last a' dst)) w' → T .normal a' w') → wpList P #[] T [⟨dst, op, type, pos, #[], none⟩] a w)
    (hr : walk P Y ds a0 Q rest (.sp :: Rs)) : walk P Y ds a0 Q (⟨dst, op, type, pos, after, guard⟩ :: rest) Rs := by
  refine ⟨.sp, .inl ⟨hs, l, hl, fun g w hw hg => ?_⟩, hr⟩
  have e : ∀ u, Y.next g Rs.length u = g.upd Rs.length u := fun u => by unfold Way.next; rw [hj]; simp
  simp only [e]
  exact from_mono (fun a h T hT => h T fun a' w' h1 h2 => hT a' w' h1 h2 trivial) (h g w hw hg)
end
theorem from_is {lk : Nat → Know} {S : List Nat} {g : Ghost} {i : Nat} {l : List Nat} {a : Act} {G : Act → Prop} {v : Value} (d : Option Tmp) (hk : lk i = .is v) (hd : ds.getD i none = d) (h : from_ ds lk S g l (a.put d v) G) : from_ ds lk S g (i :: l) a G := by
  subst hd
  unfold from_
  rw [hk]
  exact h
theorem from_sp {lk : Nat → Know} {S : List Nat} {g : Ghost} {i : Nat} {l : List Nat} {a : Act} {G : Act → Prop} (d : Option Tmp) (hk : lk i = .sp) (hd : ds.getD i none = d) (hS : S.contains i = true) (h : ∀ v, g i = some v → from_ ds lk S g l (a.put d v) G) : from_ ds lk S g (i :: l) a G := by
  subst hd
  unfold from_
  rw [hk]
  exact fun v hv => h v (hv hS)
theorem from_nil {lk : Nat → Know} {S : List Nat} {g : Ghost} {a : Act} {G : Act → Prop} (h : G a) : from_ ds lk S g [] a G := h
theorem walk_nil (l : List Nat) (hl : List.range Rs.length = l) (h : ∀ g w, Y.B g w → from_ ds (look Rs) Y.S g l a0 fun a => Q a w) : walk P Y ds a0 Q [] Rs := by
  subst hl; exact h
end
/-- memory grows, and what there was stays. -/
def Keep (w w' : World) : Prop := Go.RowKit.Below w.heap.size w w'
theorem Keep.refl (w : World) : Keep w w := Go.RowKit.Below.refl _ w
theorem Keep.trans {a b c : World} (h : Keep a b) (k : Keep b c) : Keep a c := Go.RowKit.Below.trans h (Go.RowKit.Below.mono k h.size)
theorem keep_drew (w : World) : Keep w w.drew := ⟨rfl, rfl, rfl, Nat.le_refl _, fun _ _ => rfl⟩
end Go.Rgi
end

section
namespace Go.Proofs.YtcojnjhffmhbiaaDoor
open Go Go.RowKit
/-- 'L j': the row that operation j makes. -/
structure LitsB (w0 : World) (L : Nat → Option (TypeId × List Value)) (g : Rgi.Ghost) (w : World) : Prop where
  b : Below w0.heap.size w0 w
  row : ∀ (j : Nat) (e : TypeId) (xs : List Value), L j = some (e, xs) → ∀ v, g j = some v → ∃ a : Nat, v = .slice (some ⟨a, 0, none⟩) xs.length xs.length ∧ Row1 w a e xs ∧ w0.heap.size ≤ a
  ne : ∀ (j j' : Nat) (x x' : TypeId × List Value), j ≠ j' → L j = some x → L j' = some x' → ∀ v v', g j = some v → g j' = some v' → v.ownBlock ≠ v'.ownBlock
theorem LitsB.start (w0 : World) (L : Nat → Option (TypeId × List Value)) : LitsB w0 L (fun _ => none) w0.drew :=
  ⟨⟨rfl, rfl, rfl, Nat.le_refl _, fun _ _ => rfl⟩, fun _ _ _ _ _ h => (by cases h), fun _ _ _ _ _ _ _ _ _ h => (by cases h)⟩
theorem LitsB.keep {w0 w w' : World} {L : Nat → Option (TypeId × List Value)} {g : Rgi.Ghost} (h : LitsB w0 L g w) (hb : Below w.heap.size w w') : LitsB w0 L g w' :=
  ⟨below_next h.b h.b.size hb, fun j e xs hj v hv => by
    obtain ⟨a, h1, h2, h3⟩ := h.row j e xs hj v hv
    exact ⟨a, h1, h2.below hb, h3⟩, h.ne⟩
theorem LitsB.made {w0 w w' : World} {L : Nat → Option (TypeId × List Value)} {g : Rgi.Ghost} (h : LitsB w0 L g w) {j : Nat} {e : TypeId} {xs : List Value} (hj : L j = some (e, xs)) (hr : Row1 w' w.heap.size e xs) (hb : Below w.heap.size w w') :
    LitsB w0 L (g.upd j (.slice (some ⟨w.heap.size, 0, none⟩) xs.length xs.length)) w' := by
  have h' := h.keep hb
  have hlt : ∀ (i : Nat) (x : TypeId × List Value), L i = some x → ∀ v, g i = some v → ∃ a, v.ownBlock = some a ∧ a < w.heap.size := fun i x hi v hv => by
    obtain ⟨a, rfl, h2, _⟩ := h.row i x.1 x.2 hi v hv
    exact ⟨a, rfl, h2.lt⟩
  refine ⟨h'.b, fun i e' xs' hi v hv => ?_, fun i i' x x' hne hi hi' v v' hv hv' => ?_⟩
  · unfold Rgi.Ghost.upd at hv
    split at hv
    · rename_i he
      subst he
      rw [hj] at hi
      obtain ⟨rfl, rfl⟩ : e = e' ∧ xs = xs' := by simpa using hi
      obtain rfl := Option.some.inj hv
      exact ⟨_, rfl, hr, h.b.size⟩
    · exact h'.row i e' xs' hi v hv
  · unfold Rgi.Ghost.upd at hv hv'
    split at hv
    · rename_i he
      subst he
      rw [if_neg (Ne.symm hne)] at hv'
      obtain rfl := Option.some.inj hv
      obtain ⟨a, h1, h2⟩ := hlt i' x' hi' v' hv'
      rw [h1]
      intro he
      have : w.heap.size = a := Option.some.inj he
      omega
    · split at hv'
      · obtain rfl := Option.some.inj hv'
        obtain ⟨a, h1, h2⟩ := hlt i x hi v hv
        rw [h1]
        intro he
        have : a = w.heap.size := Option.some.inj he
        omega
      · exact h.ne i i' x x' hne hi hi' v v' hv hv'
theorem LitsB.new {w0 w : World} {L : Nat → Option (TypeId × List Value)} {g : Rgi.Ghost} (h : LitsB w0 L g w) {j : Nat} {e : TypeId} {xs : List Value} (hj : L j = some (e, xs)) :
    LitsB w0 L (g.upd j (.slice (some ⟨w.heap.size, 0, none⟩) xs.length xs.length)) (w.alloc (.cells xs.toArray e)) := h.made hj (row1_new w xs e) (below_alloc w _)
theorem LitsB.skip {w0 w : World} {L : Nat → Option (TypeId × List Value)} {g : Rgi.Ghost} (h : LitsB w0 L g w) {j : Nat} (hj : L j = none) (u : Value) : LitsB w0 L (g.upd j u) w := by
  have hs : ∀ (i : Nat) (x : TypeId × List Value), L i = some x → g.upd j u i = g i := fun i x hi => by
    unfold Rgi.Ghost.upd
    rw [if_neg]
    rintro rfl
    rw [hj] at hi
    cases hi
  refine ⟨h.b, fun i e xs hi v hv => h.row i e xs hi v ?_, fun i i' x x' hne hi hi' v v' hv hv' => h.ne i i' x x' hne hi hi' v v' ?_ ?_⟩
  · rw [← hs i _ hi]; exact hv
  · rw [← hs i _ hi]; exact hv
  · rw [← hs i' _ hi']; exact hv'
end Go.Proofs.YtcojnjhffmhbiaaDoor
end

section
namespace Go.Proofs.YtcojnjhffmhbiaaDoor
open Go Go.RowKit Go.Maps Go.Shelf Go.Proofs
abbrev pZ : Par := ⟨0, 0, 0, 0, 0, 0, 0, 0, 0, 0, 0, 0⟩
theorem par_frozen {w : World} {g : Nat} {e : TypeId} {xs : List Value} (h : Row1 w g e xs) : w.frozen? ⟨g, 0, none⟩ = false ∧ w.frozen? ⟨g, 1, none⟩ = false ∧ w.frozen? ⟨g, 2, none⟩ = false ∧ w.frozen? ⟨g, 3, none⟩ = false ∧ w.frozen? ⟨g, 4, none⟩ = false ∧ w.frozen? ⟨g, 5, none⟩ = false ∧ w.frozen? ⟨g, 6, none⟩ = false ∧ w.frozen? ⟨g, 7, none⟩ = false ∧ w.frozen? ⟨g, 8, none⟩ = false ∧ w.frozen? ⟨g, 9, none⟩ = false ∧ w.frozen? ⟨g, 10, none⟩ = false ∧ w.frozen? ⟨g, 11, none⟩ = false :=
  ⟨h.frozen 0, h.frozen 1, h.frozen 2, h.frozen 3, h.frozen 4, h.frozen 5, h.frozen 6, h.frozen 7, h.frozen 8, h.frozen 9, h.frozen 10, h.frozen 11⟩
/-- boxes, and what was laid in them: box j (4 to 7) by operation j + 4. -/
structure BoxB (w0 : World) (e : TypeId) (zs xs : List Value) (g : Rgi.Ghost) (w : World) : Prop where
  b : Below w0.heap.size w0 w
  row : ∀ j, 4 ≤ j ∧ j ≤ 7 → ∀ v, g j = some v → ∃ a : Nat, v = .pointer (some ⟨a, 0, none⟩) ∧ w0.heap.size ≤ a ∧ Row1 w a e (if (g (j + 4)).isSome = true then xs else zs)
  ne : ∀ i j, 4 ≤ i ∧ i < j ∧ j ≤ 7 → ∀ a a' : Nat, g i = some (.pointer (some ⟨a, 0, none⟩)) → g j = some (.pointer (some ⟨a', 0, none⟩)) → a ≠ a'
  ord : ∀ j, 4 ≤ j ∧ j ≤ 7 → g j = none → g (j + 4) = none
  last : g 11 = none
theorem BoxB.start (w0 : World) (e : TypeId) (zs xs : List Value) : BoxB w0 e zs xs (fun _ => none) w0.drew :=
  ⟨⟨rfl, rfl, rfl, Nat.le_refl _, fun _ _ => rfl⟩, fun _ _ _ h => (by cases h), fun _ _ _ _ _ h => (by cases h), fun _ _ _ => rfl, rfl⟩
theorem BoxB.new {w0 w : World} {e : TypeId} {zs xs : List Value} {g : Rgi.Ghost} (h : BoxB w0 e zs xs g w) {j : Nat} (hj : 4 ≤ j ∧ j ≤ 7) (hg : g j = none) : BoxB w0 e zs xs (g.upd j (.pointer (some ⟨w.heap.size, 0, none⟩))) (w.alloc (.cells zs.toArray e)) := by
  have hb := below_alloc w (.cells zs.toArray e)
  have hlt : ∀ i, 4 ≤ i ∧ i ≤ 7 → ∀ a : Nat, g i = some (.pointer (some ⟨a, 0, none⟩)) → a < w.heap.size := fun i hi a ha => by
    obtain ⟨a', e1, _, hr⟩ := h.row i hi _ ha
    injection e1 with e1
    injection e1 with e1
    injection e1 with e1 _ _
    subst e1
    exact hr.lt
  refine ⟨below_next h.b h.b.size hb, fun i hi v hv => ?_, fun i k hik a a' hi hk => ?_, fun i hi hn => ?_, by unfold Rgi.Ghost.upd; rw [if_neg (by omega)]; exact h.last⟩
  · have e4 : g.upd j (.pointer (some ⟨w.heap.size, 0, none⟩)) (i + 4) = g (i + 4) := by unfold Rgi.Ghost.upd; rw [if_neg (by omega)]
    rw [e4]
    unfold Rgi.Ghost.upd at hv
    split at hv
    · rename_i he
      subst he
      obtain rfl := Option.some.inj hv
      rw [h.ord i hi hg]
      exact ⟨_, rfl, h.b.size, row1_new w zs e⟩
    · obtain ⟨a, h1, h2, h3⟩ := h.row i hi v hv
      exact ⟨a, h1, h2, h3.below hb⟩
  · unfold Rgi.Ghost.upd at hi hk
    split at hi
    · rename_i he
      rw [if_neg (by omega)] at hk
      injection hi with hi
      injection hi with hi
      injection hi with hi
      injection hi with hi _ _
      have := hlt k (by omega) a' hk
      omega
    · split at hk
      · injection hk with hk
        injection hk with hk
        injection hk with hk
        injection hk with hk _ _
        have := hlt i (by omega) a hi
        omega
      · exact h.ne i k hik a a' hi hk
  · unfold Rgi.Ghost.upd at hn ⊢
    split at hn
    · cases hn
    · rw [if_neg (by omega)]
      exact h.ord i hi hn
theorem BoxB.box {w0 w : World} {e : TypeId} {zs xs : List Value} {g : Rgi.Ghost} (h : BoxB w0 e zs xs g w) (j : Nat) (hj : 4 ≤ j ∧ j ≤ 7) (v : Value) (hv : g j = some v) (hn : g (j + 4) = none) : ∃ a : Nat, v = .pointer (some ⟨a, 0, none⟩) ∧ w0.heap.size ≤ a ∧ Row1 w a e zs := by
  obtain ⟨a, h1, h2, h3⟩ := h.row j hj v hv
  rw [hn] at h3
  exact ⟨a, h1, h2, h3⟩
/-- params are laid in a box. -/
def parLaid (w : World) (a : Nat) (p : Par) : World :=
  (((((((((((w.setCell ⟨a, 0, none⟩ (.int .u64 p.P)).setCell ⟨a, 1, none⟩ (.int .u64 p.Q)).setCell ⟨a, 2, none⟩ (.int .u64 p.G)).setCell ⟨a, 3, none⟩ (.int .u64 p.H)).setCell ⟨a, 4, none⟩ (.int .i64 p.Nodes)).setCell ⟨a, 5, none⟩ (.int .i64 p.N)).setCell ⟨a, 6, none⟩ (.int .i64 p.T)).setCell ⟨a, 7, none⟩ (.int .i64 p.K)).setCell ⟨a, 8, none⟩ (.int .i64 p.D)).setCell ⟨a, 9, none⟩ (.int .i64 p.R)).setCell ⟨a, 10, none⟩ (.int .i64 p.M)).setCell ⟨a, 11, none⟩ (.int .i64 p.X)
theorem parLaid_row {w : World} {a : Nat} {e : TypeId} {p z : Par} (h : Row1 w a e (pcells z)) : Row1 (parLaid w a p) a e (pcells p) :=
  (((((((((((h.set 0 (.int .u64 p.P)).set 1 (.int .u64 p.Q)).set 2 (.int .u64 p.G)).set 3 (.int .u64 p.H)).set 4 (.int .i64 p.Nodes)).set 5 (.int .i64 p.N)).set 6 (.int .i64 p.T)).set 7 (.int .i64 p.K)).set 8 (.int .i64 p.D)).set 9 (.int .i64 p.R)).set 10 (.int .i64 p.M)).set 11 (.int .i64 p.X)
theorem parLaid_far {w : World} {a : Nat} {e : TypeId} {p : Par} {b : Nat} {xs : List Value} (h : Row1 w b e xs) (hne : a ≠ b) : Row1 (parLaid w a p) b e xs :=
  (((((((((((h.far (p := ⟨a, 0, none⟩) hne _).far (p := ⟨a, 1, none⟩) hne _).far (p := ⟨a, 2, none⟩) hne _).far (p := ⟨a, 3, none⟩) hne _).far (p := ⟨a, 4, none⟩) hne _).far (p := ⟨a, 5, none⟩) hne _).far (p := ⟨a, 6, none⟩) hne _).far (p := ⟨a, 7, none⟩) hne _).far (p := ⟨a, 8, none⟩) hne _).far (p := ⟨a, 9, none⟩) hne _).far (p := ⟨a, 10, none⟩) hne _).far (p := ⟨a, 11, none⟩) hne _
theorem parLaid_below {w0 w : World} {a : Nat} {p : Par} (h : Below w0.heap.size w0 w) (ha : w0.heap.size ≤ a) : Below w0.heap.size w0 (parLaid w a p) :=
  (((((((((((h.setCell (p := ⟨a, 0, none⟩) ha _).setCell (p := ⟨a, 1, none⟩) ha _).setCell (p := ⟨a, 2, none⟩) ha _).setCell (p := ⟨a, 3, none⟩) ha _).setCell (p := ⟨a, 4, none⟩) ha _).setCell (p := ⟨a, 5, none⟩) ha _).setCell (p := ⟨a, 6, none⟩) ha _).setCell (p := ⟨a, 7, none⟩) ha _).setCell (p := ⟨a, 8, none⟩) ha _).setCell (p := ⟨a, 9, none⟩) ha _).setCell (p := ⟨a, 10, none⟩) ha _).setCell (p := ⟨a, 11, none⟩) ha _
theorem BoxB.laid {w0 w : World} {e : TypeId} {zs : List Value} {p z : Par} {g : Rgi.Ghost} (h : BoxB w0 e zs (pcells p) g w) {j : Nat} (hj : 4 ≤ j ∧ j ≤ 6) {a : Nat} (ha : g j = some (.pointer (some ⟨a, 0, none⟩))) (hge : w0.heap.size ≤ a) (hr : Row1 w a e (pcells z)) :
    BoxB w0 e zs (pcells p) (g.upd (j + 4) undef) (parLaid w a p) := by
  have eu : ∀ i, i ≠ j + 4 → g.upd (j + 4) undef i = g i := fun i hi => by unfold Rgi.Ghost.upd; rw [if_neg hi]
  refine ⟨parLaid_below h.b hge, fun i hi v hv => ?_, fun i k hik b b' hi hk => ?_, fun i hi hn => ?_, by rw [eu 11 (by omega)]; exact h.last⟩
  · rw [eu i (by omega)] at hv
    obtain ⟨b, rfl, h2, h3⟩ := h.row i hi v hv
    by_cases hij : i = j
    · subst hij
      rw [ha] at hv
      injection hv with hv
      injection hv with hv
      injection hv with hv
      injection hv with hv _ _
      subst hv
      refine ⟨a, rfl, h2, ?_⟩
      have : g.upd (i + 4) undef (i + 4) = some undef := by unfold Rgi.Ghost.upd; rw [if_pos rfl]
      rw [this]
      exact parLaid_row hr
    · refine ⟨b, rfl, h2, ?_⟩
      rw [eu (i + 4) (by omega)]
      refine parLaid_far h3 ?_
      rcases Nat.lt_or_ge i j with hlt | hge'
      · exact fun e => h.ne i j ⟨by omega, hlt, by omega⟩ b a hv ha e.symm
      · exact h.ne j i ⟨by omega, by omega, by omega⟩ a b ha hv
  · rw [eu i (by omega)] at hi
    rw [eu k (by omega)] at hk
    exact h.ne i k hik b b' hi hk
  · rw [eu i (by omega)] at hn
    by_cases e : i = j
    · subst e
      rw [ha] at hn
      cases hn
    · rw [eu (i + 4) (by omega)]
      exact h.ord i hi hn
theorem BoxB.full {w0 w : World} {e : TypeId} {zs xs : List Value} {g : Rgi.Ghost} (h : BoxB w0 e zs xs g w) (j : Nat) (hj : 4 ≤ j ∧ j ≤ 7) (v u : Value) (hv : g j = some v) (hu : g (j + 4) = some u) : ∃ a : Nat, v = .pointer (some ⟨a, 0, none⟩) ∧ w0.heap.size ≤ a ∧ Row1 w a e xs := by
  obtain ⟨a, h1, h2, h3⟩ := h.row j hj v hv
  rw [hu] at h3
  exact ⟨a, h1, h2, h3⟩
theorem ok8 : AskOk (manyL 8) := askOk_of (by decide +kernel)
theorem ok7 : AskOk (manyL 7) := askOk_of (by decide +kernel)
/-- the rows of the last region. -/
def madeA : Nat → Option (TypeId × List Value) := fun j =>
  if j = 2 then some (2, [.int .i64 1, .int .i64 0]) else if j = 8 then some (2, [.int .i64 1, .int .i64 0]) else if j = 16 then some (2, [.int .i64 1, .int .i64 0])
  else if j = 22 then some (2, [.int .i64 1, .int .i64 0, .int .i64 0, .int .i64 0, .int .i64 0]) else if j = 51 then some (2, [.int .i64 1, .int .i64 1])
  else if j = 57 then some (2, [.int .i64 0, .int .i64 0]) else if j = 63 then some (2, [.int .i64 1, .int .i64 0]) else none
end Go.Proofs.YtcojnjhffmhbiaaDoor
end

section
namespace Go.Lin
/-- numbers modulo N of which each but 0 has an inverse. -/
structure Fld (N : Nat) [NeZero N] : Prop where
  one : (1 : Fin N) ≠ 0
  inv : ∀ x : Fin N, x ≠ 0 → ∃ y, x * y = 1
variable {N : Nat} [NeZero N]
abbrev V (N : Nat) := Nat → Fin N
/-- what hangs on rows. -/
inductive Sp (R : List (V N)) : V N → Prop
  | zero : Sp R (fun _ => 0)
  | add {r u v : V N} (c : Fin N) : r ∈ R → Sp R u → (∀ j, v j = c * r j + u j) → Sp R v
theorem Sp.of_eq {R : List (V N)} {u v : V N} (h : Sp R u) (e : ∀ j, v j = u j) : Sp R v := by
  have : v = u := funext e
  rw [this]; exact h
theorem Sp.mem {R : List (V N)} {r : V N} (h : r ∈ R) : Sp R r := .add 1 h .zero fun j => by grind
theorem Sp.comb {R : List (V N)} {u v w : V N} (c : Fin N) (hu : Sp R u) (hv : Sp R v) (e : ∀ j, w j = c * u j + v j) : Sp R w := by
  induction hu generalizing w with
  | zero => exact hv.of_eq fun j => by have := e j; grind
  | add d hr _ hd ih =>
    rename_i r u' u _
    exact Sp.add (u := fun j => c * u' j + v j) (c * d) hr (ih fun j => rfl) fun j => by
      have h1 := e j
      have h2 := hd j
      grind
theorem Sp.trans {R R' : List (V N)} (h : ∀ r ∈ R, Sp R' r) {v : V N} (hv : Sp R v) : Sp R' v := by
  induction hv with
  | zero => exact .zero
  | add c hr _ e ih => exact (h _ hr).comb c ih e
theorem Sp.mono {R R' : List (V N)} (h : ∀ r ∈ R, r ∈ R') {v : V N} (hv : Sp R v) : Sp R' v := Sp.trans (fun r hr => Sp.mem (h r hr)) hv
theorem Sp.nil {v : V N} (h : Sp [] v) (j : Nat) : v j = 0 := by
  cases h with
  | zero => rfl
  | add c hr _ _ => cases hr
theorem Sp.split {r : V N} {R : List (V N)} {v : V N} (h : Sp (r :: R) v) : ∃ c u, Sp R u ∧ ∀ j, v j = c * r j + u j := by
  induction h with
  | zero => exact ⟨0, fun _ => 0, .zero, fun j => by grind⟩
  | add c hr _ e ih =>
    obtain ⟨d, u, hu, h2⟩ := ih
    rename_i r' u' v' _
    rcases List.mem_cons.1 hr with rfl | hr
    · exact ⟨c + d, u, hu, fun j => by have := e j; have := h2 j; grind⟩
    · exact ⟨d, fun j => c * r' j + u j, .add c hr hu fun j => rfl, fun j => by have := e j; have := h2 j; grind⟩
/-- what all rows have 0 at, all that hangs on them has. -/
theorem Sp.at_zero {R : List (V N)} {v : V N} {k : Nat} (h : Sp R v) (hz : ∀ r ∈ R, r k = 0) : v k = 0 := by
  induction h with
  | zero => rfl
  | add c hr _ e ih => have := e k; have := hz _ hr; grind
/-- rows with a place each: 1 there, 0 where the others have theirs. -/
structure Ech (L : List (Nat × V N)) : Prop where
  one : ∀ e ∈ L, e.2 e.1 = 1
  off : L.Pairwise fun e e' => e.2 e'.1 = 0 ∧ e'.2 e.1 = 0
theorem Ech.nil : Ech ([] : List (Nat × V N)) := ⟨fun e h => (by cases h), .nil⟩
theorem Ech.tail {e : Nat × V N} {L : List (Nat × V N)} (h : Ech (e :: L)) : Ech L := ⟨fun x hx => h.one x (List.mem_cons_of_mem _ hx), (List.pairwise_cons.1 h.off).2⟩
theorem Ech.rep {L : List (Nat × V N)} (h : Ech L) {v : V N} (hv : Sp (L.map (·.2)) v) (j : Nat) : v j = (L.map fun e => v e.1 * e.2 j).sum := by
  induction L generalizing v with
  | nil => exact hv.nil j
  | cons e L ih =>
    obtain ⟨c, u, hu, h2⟩ := Sp.split hv
    have h3 := ih h.tail hu
    have ho := (List.pairwise_cons.1 h.off).1
    have h4 : u e.1 = 0 := hu.at_zero fun r hr => by
      obtain ⟨x, hx, rfl⟩ := List.mem_map.1 hr
      exact (ho x hx).2
    have h5 : v e.1 = c := by
      have h6 := h2 e.1
      have h7 := h.one e List.mem_cons_self
      grind
    rw [List.map_cons, List.sum_cons, h5, h2 j, h3]
    congr 1
    congr 1
    refine List.map_congr_left fun x hx => ?_
    have h6 := h2 x.1
    have h7 := (ho x hx).1
    grind
theorem Ech.zero {L : List (Nat × V N)} (h : Ech L) {v : V N} (hv : Sp (L.map (·.2)) v) (hz : ∀ e ∈ L, v e.1 = 0) (j : Nat) : v j = 0 := by
  rw [h.rep hv j]
  have : ∀ l : List (Nat × V N), (∀ e ∈ l, v e.1 = 0) → (l.map fun e => v e.1 * e.2 j).sum = 0 := by
    intro l
    induction l with
    | nil => intro _; rfl
    | cons e l ih =>
      intro h
      rw [List.map_cons, List.sum_cons, ih fun x hx => h x (List.mem_cons_of_mem _ hx), h e List.mem_cons_self]
      grind
  exact this L hz
/-- no more rows with places than the rows they hang on. -/
theorem Ech.le (F : Fld N) : ∀ (R : List (V N)) (L : List (Nat × V N)), Ech L → (∀ e ∈ L, Sp R e.2) → L.length ≤ R.length
  | [], L, h, hs => by
    cases L with
    | nil => simp
    | cons e L =>
      exfalso
      have h1 := h.one e List.mem_cons_self
      rw [(hs e List.mem_cons_self).nil] at h1
      exact F.one h1.symm
  | r :: R, L, h, hs => by
    by_cases hall : ∀ e ∈ L, Sp R e.2
    · have := Ech.le F R L h hall
      rw [List.length_cons]; omega
    · obtain ⟨e0, hn⟩ := Classical.not_forall.1 hall
      obtain ⟨he0, hne⟩ := Classical.not_imp.1 hn
      obtain ⟨A, B, rfl⟩ := List.append_of_mem he0
      obtain ⟨c0, u0, hu0, h0⟩ := (hs e0 he0).split
      have hc0 : c0 ≠ 0 := fun hc => hne (hu0.of_eq fun j => by have := h0 j; rw [hc] at this; grind)
      obtain ⟨y0, hy⟩ := F.inv c0 hc0
      have hk : ∀ e : Nat × V N, ∃ k, e ∈ A ++ e0 :: B → Sp R fun j => e.2 j - k * e0.2 j := by
        intro e
        by_cases he : e ∈ A ++ e0 :: B
        · obtain ⟨c, u, hu, h1⟩ := (hs e he).split
          refine ⟨c * y0, fun _ => Sp.comb (-(c * y0)) hu0 hu fun j => ?_⟩
          have h2 := h0 j
          have h3 := h1 j
          grind
        · exact ⟨0, fun h => absurd h he⟩
      have hp := List.pairwise_append.1 h.off
      have hp2 := List.pairwise_cons.1 hp.2.1
      have hoff : ∀ e ∈ A ++ B, e.2 e0.1 = 0 ∧ e0.2 e.1 = 0 := by
        intro e he
        rcases List.mem_append.1 he with h1 | h1
        · exact hp.2.2 e h1 e0 List.mem_cons_self
        · exact (hp2.1 e h1).symm
      have hsub : ∀ e ∈ A ++ B, e ∈ A ++ e0 :: B := by
        intro e he
        rcases List.mem_append.1 he with h1 | h1
        · exact List.mem_append_left _ h1
        · exact List.mem_append_right _ (List.mem_cons_of_mem _ h1)
      have hpw : (A ++ B).Pairwise fun e e' => e.2 e'.1 = 0 ∧ e'.2 e.1 = 0 :=
        List.pairwise_append.2 ⟨hp.1, hp2.2, fun a ha b hb => hp.2.2 a ha b (List.mem_cons_of_mem _ hb)⟩
      have hE : Ech ((A ++ B).map fun e => (e.1, fun j => e.2 j - Classical.choose (hk e) * e0.2 j)) := by
        refine ⟨fun x hx => ?_, ?_⟩
        · obtain ⟨e, he, rfl⟩ := List.mem_map.1 hx
          show e.2 e.1 - _ * e0.2 e.1 = 1
          have h1 := h.one e (hsub e he)
          have h2 := (hoff e he).2
          grind
        · rw [List.pairwise_map]
          refine hpw.imp_of_mem fun {a b} ha hb hab => ?_
          have h1 := (hoff a ha).2
          have h2 := (hoff b hb).2
          constructor
          · show a.2 b.1 - _ * e0.2 b.1 = 0
            have := hab.1
            grind
          · show b.2 a.1 - _ * e0.2 a.1 = 0
            have := hab.2
            grind
      have := Ech.le F R _ hE fun x hx => by
        obtain ⟨e, he, rfl⟩ := List.mem_map.1 hx
        exact Classical.choose_spec (hk e) (hsub e he)
      rw [List.length_map, List.length_append] at this
      rw [List.length_append, List.length_cons, List.length_cons]
      omega
/-- rows R have the rank n. -/
structure Bas (R : List (V N)) (L : List (Nat × V N)) : Prop where
  ech : Ech L
  sub : ∀ e ∈ L, Sp R e.2
  all : ∀ r ∈ R, Sp (L.map (·.2)) r
def Rk (R : List (V N)) (n : Nat) : Prop := ∃ L, Bas R L ∧ L.length = n
theorem Bas.sp {R : List (V N)} {L : List (Nat × V N)} (h : Bas R L) {v : V N} : Sp (L.map (·.2)) v ↔ Sp R v :=
  ⟨fun k => k.trans fun r hr => by obtain ⟨e, he, rfl⟩ := List.mem_map.1 hr; exact h.sub e he, fun k => k.trans h.all⟩
theorem Rk.le (F : Fld N) {R R' : List (V N)} {n m : Nat} (h : Rk R n) (h' : Rk R' m) (hs : ∀ r ∈ R, Sp R' r) : n ≤ m := by
  obtain ⟨L, hL, rfl⟩ := h
  obtain ⟨L', hL', rfl⟩ := h'
  have := Ech.le F (L'.map (·.2)) L hL.ech fun e he => hL'.sp.2 ((hL.sub e he).trans hs)
  rwa [List.length_map] at this
theorem Rk.eq (F : Fld N) {R R' : List (V N)} {n m : Nat} (h : Rk R n) (h' : Rk R' m) (hs : ∀ r ∈ R, Sp R' r) (hs' : ∀ r ∈ R', Sp R r) : n = m :=
  Nat.le_antisymm (h.le F h' hs) (h'.le F h hs')
theorem Rk.unique (F : Fld N) {R : List (V N)} {n m : Nat} (h : Rk R n) (h' : Rk R m) : n = m := h.eq F h' (fun _ hr => Sp.mem hr) fun _ hr => Sp.mem hr
theorem Rk.le_of (F : Fld N) {R R' : List (V N)} {n : Nat} (h : Rk R n) (hs : ∀ r ∈ R, Sp R' r) : n ≤ R'.length := by
  obtain ⟨L, hL, rfl⟩ := h
  exact Ech.le F R' L hL.ech fun e he => (hL.sub e he).trans hs
theorem Rk.le_len (F : Fld N) {R : List (V N)} {n : Nat} (h : Rk R n) : n ≤ R.length := h.le_of F fun _ hr => Sp.mem hr
theorem Rk.congr {R R' : List (V N)} {n : Nat} (h : Rk R n) (hs : ∀ r ∈ R, Sp R' r) (hs' : ∀ r ∈ R', Sp R r) : Rk R' n := by
  obtain ⟨L, hL, rfl⟩ := h
  exact ⟨L, ⟨hL.ech, fun e he => (hL.sub e he).trans hs, fun r hr => hL.sp.2 (hs' r hr)⟩, rfl⟩
theorem Rk.nil : Rk ([] : List (V N)) 0 := ⟨[], ⟨.nil, fun e h => (by cases h), fun r h => (by cases h)⟩, rfl⟩
/-- what is left of a row. -/
def red (L : List (Nat × V N)) (v : V N) : V N := fun j => v j - (L.map fun e => v e.1 * e.2 j).sum
theorem sum_sp (v : V N) : ∀ L : List (Nat × V N), Sp (L.map (·.2)) fun j => (L.map fun e => v e.1 * e.2 j).sum
  | [] => .zero
  | e :: L => Sp.add (v e.1) (List.mem_cons_self (l := L.map (·.2))) ((sum_sp v L).mono fun _r hr => List.mem_cons_of_mem _ hr) fun _j => rfl
theorem sum_at {L : List (Nat × V N)} (h : Ech L) (v : V N) {e : Nat × V N} (he : e ∈ L) : (L.map fun x => v x.1 * x.2 e.1).sum = v e.1 := by
  induction L with
  | nil => cases he
  | cons x L ih =>
    have ho := (List.pairwise_cons.1 h.off).1
    rw [List.map_cons, List.sum_cons]
    rcases List.mem_cons.1 he with rfl | he
    · have h1 : ∀ l : List (Nat × V N), (∀ x ∈ l, x.2 e.1 = 0) → (l.map fun x => v x.1 * x.2 e.1).sum = 0 := by
        intro l
        induction l with
        | nil => intro _; rfl
        | cons x l ih =>
          intro h
          rw [List.map_cons, List.sum_cons, ih fun y hy => h y (List.mem_cons_of_mem _ hy), h x List.mem_cons_self]
          grind
      rw [h1 L fun x hx => (ho x hx).2, h.one e List.mem_cons_self]
      grind
    · rw [ih h.tail he, (ho e he).1]
      grind
theorem red_at {L : List (Nat × V N)} (h : Ech L) (v : V N) {e : Nat × V N} (he : e ∈ L) : red L v e.1 = 0 := by
  unfold red
  rw [sum_at h v he]
  grind
theorem red_sp (L : List (Nat × V N)) (v : V N) (h : ∀ j, red L v j = 0) : Sp (L.map (·.2)) v := (sum_sp v L).of_eq fun j => by
  have := h j
  unfold red at this
  grind
theorem red_back {R : List (V N)} {L : List (Nat × V N)} (hL : Bas R L) (v : V N) : Sp (v :: R) (red L v) := by
  refine Sp.comb (-1) (hL.sp.1 (sum_sp v L) |>.mono fun r hr => List.mem_cons_of_mem _ hr) (Sp.mem (r := v) List.mem_cons_self) fun j => ?_
  unfold red
  grind
theorem Bas.snoc {R : List (V N)} {L : List (Nat × V N)} (hL : Bas R L) {v : V N} {k : Nat} {y : Fin N} (hy : red L v k * y = 1) :
    Bas (v :: R) ((k, fun j => y * red L v j) :: L.map fun e => (e.1, fun j => e.2 j - e.2 k * (y * red L v j))) := by
  have hv1 : Sp (v :: R) fun j => y * red L v j := Sp.comb y (red_back hL v) .zero fun j => by grind
  have h0 : ∀ e ∈ L, red L v e.1 = 0 := fun e he => red_at hL.ech v he
  refine ⟨⟨?_, ?_⟩, ?_, ?_⟩
  · intro x hx
    rcases List.mem_cons.1 hx with rfl | hx
    · show y * red L v k = 1
      grind
    · obtain ⟨e, he, rfl⟩ := List.mem_map.1 hx
      show e.2 e.1 - e.2 k * (y * red L v e.1) = 1
      have h1 := hL.ech.one e he
      have h2 := h0 e he
      grind
  · refine List.pairwise_cons.2 ⟨fun x hx => ?_, ?_⟩
    · obtain ⟨e, he, rfl⟩ := List.mem_map.1 hx
      constructor
      · show y * red L v e.1 = 0
        have := h0 e he
        grind
      · show e.2 k - e.2 k * (y * red L v k) = 0
        grind
    · rw [List.pairwise_map]
      refine hL.ech.off.imp_of_mem fun {a b} ha hb hab => ?_
      have h1 := h0 a ha
      have h2 := h0 b hb
      constructor
      · show a.2 b.1 - a.2 k * (y * red L v b.1) = 0
        have := hab.1
        grind
      · show b.2 a.1 - b.2 k * (y * red L v a.1) = 0
        have := hab.2
        grind
  · intro x hx
    rcases List.mem_cons.1 hx with rfl | hx
    · exact hv1
    · obtain ⟨e, he, rfl⟩ := List.mem_map.1 hx
      exact Sp.comb (-(e.2 k)) hv1 ((hL.sub e he).mono fun r hr => List.mem_cons_of_mem _ hr) fun j => by grind
  · have hback : ∀ u, Sp (L.map (·.2)) u → Sp (List.map (·.2) ((k, fun j => y * red L v j) :: L.map fun e => (e.1, fun j => e.2 j - e.2 k * (y * red L v j)))) u := by
      intro u hu
      refine hu.trans fun r hr => ?_
      obtain ⟨e, he, rfl⟩ := List.mem_map.1 hr
      refine Sp.comb (e.2 k) (u := fun j => y * red L v j) (Sp.mem ?_) (v := fun j => e.2 j - e.2 k * (y * red L v j)) (Sp.mem ?_) fun j => by grind
      · exact List.mem_cons_self
      · rw [List.map_cons, List.map_map]
        exact List.mem_cons_of_mem _ (List.mem_map.2 ⟨e, he, rfl⟩)
    intro r hr
    rcases List.mem_cons.1 hr with rfl | hr
    · refine Sp.comb (red L r k) (u := fun j => y * red L r j) (Sp.mem ?_) (hback _ (sum_sp r L)) fun j => ?_
      · exact List.mem_cons_self
      · unfold red at hy ⊢
        grind
    · exact hback _ (hL.all r hr)
theorem Rk.more (F : Fld N) {R : List (V N)} {n : Nat} (h : Rk R n) {v : V N} (hv : ¬ Sp R v) : Rk (v :: R) (n + 1) := by
  obtain ⟨L, hL, rfl⟩ := h
  have : ¬ ∀ j, red L v j = 0 := fun h => hv (hL.sp.1 (red_sp L v h))
  obtain ⟨k, hk⟩ := Classical.not_forall.1 this
  obtain ⟨y, hy⟩ := F.inv _ hk
  exact ⟨_, hL.snoc hy, by simp⟩
theorem Rk.same {R : List (V N)} {n : Nat} (h : Rk R n) {v : V N} (hv : Sp R v) : Rk (v :: R) n := h.congr (fun r hr => Sp.mem (List.mem_cons_of_mem _ hr)) fun r hr => by
  rcases List.mem_cons.1 hr with rfl | hr
  · exact hv
  · exact Sp.mem hr
theorem Rk.exists (F : Fld N) : ∀ R : List (V N), ∃ n, Rk R n
  | [] => ⟨0, .nil⟩
  | v :: R => by
    obtain ⟨n, hn⟩ := Rk.exists F R
    by_cases h : Sp R v
    · exact ⟨n, hn.same h⟩
    · exact ⟨n + 1, hn.more F h⟩
/-- THE LAW OF SHARES: a and b and c, and c, are no more than a and c, and b and c. -/
theorem Rk.shared (F : Fld N) (B C : List (V N)) : ∀ (A : List (V N)) {x y z c : Nat}, Rk (A ++ C) x → Rk (B ++ C) y → Rk (A ++ (B ++ C)) z → Rk C c → z + c ≤ x + y
  | [], x, y, z, c, hx, hy, hz, hc => by
    have h1 := hx.unique F hc
    have h2 := hy.unique F hz
    omega
  | a :: A, x, y, z, c, hx, hy, hz, hc => by
    obtain ⟨x', hx'⟩ := Rk.exists F (A ++ C)
    obtain ⟨z', hz'⟩ := Rk.exists F (A ++ (B ++ C))
    have ih := Rk.shared F B C A hx' hy hz' hc
    by_cases h : Sp (A ++ C) a
    · have h1 := hx.unique F (hx'.same h)
      have h2 : Sp (A ++ (B ++ C)) a := h.mono fun r hr => by
        rcases List.mem_append.1 hr with k | k
        · exact List.mem_append_left _ k
        · exact List.mem_append_right _ (List.mem_append_right _ k)
      have h3 := hz.unique F (hz'.same h2)
      omega
    · have h1 := hx.unique F (hx'.more F h)
      by_cases h2 : Sp (A ++ (B ++ C)) a
      · have h3 := hz.unique F (hz'.same h2)
        omega
      · have h3 := hz.unique F (hz'.more F h2)
        omega
/-- COLUMNS have no more rank than rows. -/
theorem Rk.turned (F : Fld N) {M : Nat → Nat → Fin N} {a b n m : Nat} (hb : ∀ i j, a ≤ i → M i j = 0) (hr : Rk ((List.range a).map M) n) (hc : Rk ((List.range b).map fun j i => M i j) m) : m ≤ n := by
  obtain ⟨L, hL, rfl⟩ := hr
  have := hc.le_of F (R' := L.map fun e i => M i e.1) fun r hr => by
    obtain ⟨j, _, rfl⟩ := List.mem_map.1 hr
    have key : ∀ l : List (Nat × V N), Sp (l.map fun e i => M i e.1) fun i => (l.map fun e => M i e.1 * e.2 j).sum := by
      intro l
      induction l with
      | nil => exact .zero
      | cons e l ih =>
        refine Sp.comb (e.2 j) (u := fun i => M i e.1) (Sp.mem List.mem_cons_self) (ih.mono fun r hr => List.mem_cons_of_mem _ hr) fun i => ?_
        rw [List.map_cons, List.sum_cons]
        grind
    refine (key L).of_eq fun i => ?_
    rcases Nat.lt_or_ge i a with h | h
    · exact hL.ech.rep (hL.all (M i) (List.mem_map.2 ⟨i, List.mem_range.2 h, rfl⟩)) j
    · rw [hb i j h]
      have : ∀ l : List (Nat × V N), (l.map fun e => M i e.1 * e.2 j).sum = 0 := by
        intro l
        induction l with
        | nil => rfl
        | cons e l ih => rw [List.map_cons, List.sum_cons, ih, hb i e.1 h]; grind
      rw [this]
  rwa [List.length_map] at this
end Go.Lin
end

section
namespace Go.Proofs.YtcojnjhffmhbiaaDoor
open Go.Lin Go.Psi
/-- a whole number modulo N. -/
def tf (N : Nat) [h : NeZero N] (x : Int) : Fin N := ⟨(x % N).toNat, by
  have h0 : N ≠ 0 := h.out
  have h1 := Int.emod_nonneg x (b := (N : Int)) (by omega)
  have h2 := Int.emod_lt_of_pos x (b := (N : Int)) (by omega)
  omega⟩
section
variable {N : Nat} [h0 : NeZero N]
theorem tf_val (x : Int) : ((tf N x).val : Int) = x % N := by
  have h : N ≠ 0 := h0.out
  have h1 := Int.emod_nonneg x (b := (N : Int)) (by omega)
  show ((x % N).toNat : Int) = x % N
  omega
theorem tf_eq {x y : Int} : tf N x = tf N y ↔ x % N = y % N := by
  constructor
  · intro h
    rw [← tf_val, ← tf_val, h]
  · intro h
    apply Fin.ext
    have h1 := tf_val (N := N) x
    have h2 := tf_val (N := N) y
    omega
theorem tf_mod (x : Int) : tf N (x % N) = tf N x := tf_eq.2 (Int.emod_emod _ _)
theorem tf_add (x y : Int) : tf N (x + y) = tf N x + tf N y := by
  apply Fin.ext
  have h1 : (((tf N x + tf N y : Fin N)).val : Int) = (x + y) % N := by
    rw [Fin.val_add, Int.natCast_emod, Int.natCast_add, tf_val, tf_val, ← Int.add_emod]
  have h2 := tf_val (N := N) (x + y)
  omega
theorem tf_mul (x y : Int) : tf N (x * y) = tf N x * tf N y := by
  apply Fin.ext
  have h1 : (((tf N x * tf N y : Fin N)).val : Int) = (x * y) % N := by
    rw [Fin.val_mul, Int.natCast_emod, Int.natCast_mul, tf_val, tf_val, ← Int.mul_emod]
  have h2 := tf_val (N := N) (x * y)
  omega
theorem tf_zero : tf N 0 = 0 := by
  apply Fin.ext
  have := tf_val (N := N) 0
  rw [Int.zero_emod] at this
  have h : ((0 : Fin N)).val = 0 := rfl
  omega
theorem tf_sub (x y : Int) : tf N (x - y) = tf N x - tf N y := by
  have h := tf_add (N := N) (x - y) y
  rw [Int.sub_add_cancel] at h
  grind
theorem tf_one : tf N 1 = 1 := by
  apply Fin.ext
  have h1 := tf_val (N := N) 1
  have h2 : ((1 : Fin N)).val = 1 % N := rfl
  have h3 : ((1 % N : Nat) : Int) = 1 % (N : Int) := by rw [Int.natCast_emod]; rfl
  omega
theorem tf_iff_zero {x : Int} : tf N x = 0 ↔ x % N = 0 := by
  rw [← tf_zero, tf_eq, Int.zero_emod]
theorem tf_self (a : Fin N) : tf N (a.val : Int) = a := by
  apply Fin.ext
  have h1 := tf_val (N := N) (a.val : Int)
  rw [Int.emod_eq_of_lt (by omega) (by have := a.isLt; omega)] at h1
  omega
theorem cg_tf {x y : Int} (h : Cg N x y) : tf N x = tf N y := by
  obtain ⟨k, hk⟩ := h
  rw [tf_eq, show x = y + N * k by omega, Int.add_mul_emod_self_left]
/-- a prime has inverses. -/
theorem fld_of {p : Nat} [NeZero p] (hp : Pr p) : Fld p := ⟨fun h => by
    have h1 := congrArg Fin.val h
    have h2 : ((1 : Fin p)).val = 1 % p := rfl
    have h3 : ((0 : Fin p)).val = 0 := rfl
    have := hp.1
    rw [h2, h3, Nat.mod_eq_of_lt (by omega)] at h1
    omega, fun x hx => by
    have hv : x.val ≠ 0 := fun h => hx (Fin.ext h)
    by_cases h2 : p = 2
    · subst h2
      refine ⟨1, Fin.ext ?_⟩
      have h1 : x.val = 1 := by have := x.isLt; omega
      have h3 : ((x * 1 : Fin 2)).val = x.val * 1 % 2 := rfl
      rw [h3, h1]; rfl
    · have hf := fermat hp (hp.odd h2) (a := x.val) (Pr.not_dvd_lt (by omega) x.isLt)
      have hp2 := hp.1
      refine ⟨tf p ((x.val : Int) ^ (p - 2)), ?_⟩
      have h4 := cg_tf hf
      rw [show p - 1 = (p - 2) + 1 by omega, Int.pow_succ, tf_mul, tf_self, tf_one] at h4
      grind⟩
/-- a row as a vector. -/
def vec (N : Nat) [NeZero N] (l : List Int) : V N := fun j => tf N (nth l j)
theorem vec_ge {l : List Int} {j : Nat} (h : l.length ≤ j) : vec N l j = 0 := by unfold vec; rw [nth_ge h, tf_zero]
theorem vec_red (W : Nat) (row : List Int) (j : Nat) : vec N (redL W N row) j = vec N row j := by
  unfold vec redL
  by_cases h : j < max W row.length
  · rw [tabL_at h, tf_mod]
  · rw [nth_ge (by rw [tabL_len]; omega), nth_ge (l := row) (by omega)]
theorem vec_less (row other : List Int) (t : Int) (h : other.length ≤ row.length) (j : Nat) : vec N (lessL N row other t) j = vec N row j - vec N other j * tf N t := by
  unfold vec
  rw [lessL_at]
  by_cases h1 : j < row.length ∧ j < other.length
  · rw [if_pos h1, tf_mod, tf_sub, tf_mul]
  · rw [if_neg h1, nth_ge (l := other) (by omega), tf_zero]
    grind
theorem vec_times (o : List Int) (b : Int) (j : Nat) : vec N (timesL N o b) j = tf N b * vec N o j := by
  unfold vec timesL
  by_cases h : j < o.length
  · rw [tabL_at h, tf_mod, tf_mul]; grind
  · rw [nth_ge (by rw [tabL_len]; omega), nth_ge (l := o) (by omega), tf_zero]
    grind
/-- rows with their places. -/
def sb (N : Nat) [NeZero N] (S : List En) : List (Nat × V N) := S.map fun p => (p.at_, vec N p.row)
theorem sb_mem {S : List En} {p : En} (h : p ∈ S) : (p.at_, vec N p.row) ∈ sb N S := List.mem_map.2 ⟨p, h, rfl⟩
theorem fold_vec {W : Nat} (j : Nat) : ∀ (l : List En) (o : List Int), Ech (sb N l) → (∀ p ∈ l, p.row.length = W) → W ≤ o.length →
    vec N (l.foldl (stepL N) o) j = vec N o j - ((sb N l).map fun e => vec N o e.1 * e.2 j).sum
  | [], o, _, _, _ => by
    show vec N o j = vec N o j - 0
    grind
  | p :: l, o, hE, hl, hW => by
    have hs : ∀ i, vec N (stepL N o p) i = vec N o i - vec N p.row i * vec N o p.at_ := fun i =>
      vec_less o p.row _ (by rw [hl p List.mem_cons_self]; exact hW) i
    have ih := fold_vec j l (stepL N o p) hE.tail (fun x hx => hl x (List.mem_cons_of_mem _ hx)) (by rw [stepL_len]; exact hW)
    rw [List.foldl_cons, ih, hs j]
    show _ = vec N o j - ((p.at_, vec N p.row) :: sb N l |>.map fun e => vec N o e.1 * e.2 j).sum
    rw [List.map_cons, List.sum_cons]
    have ho := (List.pairwise_cons.1 hE.off).1
    have : (sb N l).map (fun e => vec N (stepL N o p) e.1 * e.2 j) = (sb N l).map fun e => vec N o e.1 * e.2 j := by
      refine List.map_congr_left fun e he => ?_
      have h1 : vec N p.row e.1 = 0 := (ho e he).1
      rw [hs e.1, h1]
      grind
    rw [this]
    grind
theorem left_red {W : Nat} {S : List En} (hE : Ech (sb N S)) (hl : ∀ p ∈ S, p.row.length = W) (row : List Int) (j : Nat) : vec N (leftL N W S row) j = red (sb N S) (vec N row) j := by
  unfold leftL
  rw [fold_vec j S (redL W N row) hE hl (by unfold redL; rw [tabL_len]; omega), vec_red]
  unfold red
  congr 1
  congr 1
  exact List.map_congr_left fun e _ => by rw [vec_red]
theorem first_none {o : List Int} (h : firstL o = none) (j : Nat) : nth o j = 0 := by
  by_cases hj : j < o.length
  · unfold firstL at h
    rw [List.findIdx?_eq_none_iff] at h
    have := h (o[j]) (List.getElem_mem hj)
    rw [nth_lt hj]
    simpa using this
  · exact nth_ge (by omega)
theorem first_least {o : List Int} {k : Nat} (h : firstL o = some k) {j : Nat} (hj : j < k) : nth o j = 0 := by
  unfold firstL at h
  rw [List.findIdx?_eq_some_iff_getElem] at h
  obtain ⟨h1, _, h3⟩ := h
  have := h3 j hj
  rw [nth_lt (by omega)]
  simpa using this
theorem red_tf {o : List Int} (h : RedL N o) {j : Nat} : vec N o j = 0 ↔ nth o j = 0 := by
  unfold vec
  rw [tf_iff_zero, Int.emod_eq_of_lt (h j).1 (h j).2]
/-- an inverse of what is not 0. -/
def InvT (N : Nat) [NeZero N] (inv : Int → Int) : Prop := ∀ x, tf N x ≠ 0 → tf N x * tf N (inv x) = 1
/-- rows R come to S. -/
structure Come (N : Nat) [NeZero N] (W : Nat) (R : List (V N)) (S : List En) : Prop where
  good : GoodS N W S
  bas : Bas R (sb N S)
  low : ∀ p ∈ S, ∀ j, j < p.at_ → vec N p.row j = 0
theorem Come.nil (W : Nat) : Come N W [] [] := ⟨.nil _ _, ⟨.nil, fun e h => (by cases h), fun r h => (by cases h)⟩, fun p h => (by cases h)⟩
theorem Come.put {inv : Int → Int} (hI : InvOf N inv) (hT : InvT N inv) {W : Nat} {R : List (V N)} {S : List En} (h : Come N W R S) {row : List Int} (hr : row.length ≤ W) : Come N W (vec N row :: R) (putL N inv W S row) := by
  have h00 : N ≠ 0 := h0.out
  have hg := put_good (q := (N : Int)) (by omega) hI h.good hr
  have hleft := left_red h.bas.ech (fun p hp => h.good.len p hp) row
  have hred := leftL_red (q := (N : Int)) (by omega) W S row
  have hat := fun e (he : e ∈ sb N S) => red_at h.bas.ech (vec N row) he
  have hlen : (leftL N W S row).length = W := by rw [leftL_len]; omega
  refine ⟨hg, ?_, ?_⟩
  · unfold putL
    generalize leftL N W S row = o at *
    cases hf : firstL o with
    | none =>
      have hsp : Sp ((sb N S).map (·.2)) (vec N row) := red_sp _ _ fun j => by
        rw [← hleft]
        exact (red_tf hred).2 (first_none hf j)
      exact ⟨h.bas.ech, fun e he => (h.bas.sub e he).mono fun r hr => List.mem_cons_of_mem _ hr, fun r hr => by
        rcases List.mem_cons.1 hr with rfl | hr
        · exact hsp
        · exact h.bas.all r hr⟩
    | some k =>
      simp only
      obtain ⟨hk1, hk2⟩ := firstL_some hf
      have hk3 : vec N o k ≠ 0 := fun e => hk2 ((red_tf hred).1 e)
      have hy : red (sb N S) (vec N row) k * tf N (inv (nth o k)) = 1 := by rw [← hleft]; exact hT _ hk3
      have hne : ∀ p ∈ S, p.at_ ≠ k := fun p hp e => by
        have h1 := hat _ (sb_mem hp)
        simp only [e] at h1
        rw [← hleft] at h1
        exact hk3 h1
      have hfil : (S.map fun p => (⟨p.at_, lessL N p.row (timesL N o (inv (nth o k))) (nth p.row k)⟩ : En)).filter (fun p => decide (p.at_ ≠ k)) = S.map fun p => (⟨p.at_, lessL N p.row (timesL N o (inv (nth o k))) (nth p.row k)⟩ : En) := by
        refine List.filter_eq_self.2 fun x hx => ?_
        obtain ⟨p, hp, rfl⟩ := List.mem_map.1 hx
        exact decide_eq_true (hne p hp)
      rw [hfil]
      have hb := h.bas.snoc hy
      have e : sb N (⟨k, timesL N o (inv (nth o k))⟩ :: S.map fun p => (⟨p.at_, lessL N p.row (timesL N o (inv (nth o k))) (nth p.row k)⟩ : En))
          = (k, fun j => tf N (inv (nth o k)) * red (sb N S) (vec N row) j) :: (sb N S).map fun e => (e.1, fun j => e.2 j - e.2 k * (tf N (inv (nth o k)) * red (sb N S) (vec N row) j)) := by
        unfold sb
        rw [List.map_cons, List.map_map, List.map_map]
        refine List.cons_eq_cons.2 ⟨?_, List.map_congr_left fun p hp => ?_⟩
        · refine Prod.ext rfl (funext fun j => ?_)
          show vec N (timesL N o _) j = _
          rw [vec_times, hleft]
          rfl
        · refine Prod.ext rfl (funext fun j => ?_)
          show vec N (lessL N p.row (timesL N o _) _) j = vec N p.row j - vec N p.row k * _
          rw [vec_less _ _ _ (by unfold timesL; rw [tabL_len, hlen, h.good.len p hp]; exact Nat.le_refl _), vec_times, hleft]
          show _ - _ * vec N p.row k = _
          unfold sb
          grind
      rw [e]
      exact hb
  · unfold putL
    generalize leftL N W S row = o at *
    cases hf : firstL o with
    | none => exact h.low
    | some k =>
      simp only
      obtain ⟨hk1, hk2⟩ := firstL_some hf
      have hz : ∀ j, j < k → vec N (timesL N o (inv (nth o k))) j = 0 := fun j hj => by
        rw [vec_times]
        have : vec N o j = 0 := (red_tf hred).2 (first_least hf hj)
        rw [this]; grind
      intro x hx j hj
      rcases List.mem_cons.1 hx with rfl | hx
      · exact hz j hj
      · obtain ⟨p, hp, rfl⟩ := List.mem_map.1 (List.mem_filter.1 hx).1
        show vec N (lessL N p.row (timesL N o _) _) j = 0
        rw [vec_less _ _ _ (by unfold timesL; rw [tabL_len, hlen, h.good.len p hp]; exact Nat.le_refl _)]
        have h1 := h.low p hp j hj
        rw [h1]
        rcases Nat.lt_or_ge j k with h2 | h2
        · rw [hz j h2]; grind
        · have h3 : tf N (nth p.row k) = 0 := h.low p hp k (by have : j < p.at_ := hj; omega)
          rw [h3]; grind
theorem Come.all {inv : Int → Int} (hI : InvOf N inv) (hT : InvT N inv) {W : Nat} : ∀ (rows : List (List Int)) {R : List (V N)} {S : List En}, Come N W R S → (∀ r ∈ rows, r.length ≤ W) →
    Come N W ((rows.map (vec N)).reverse ++ R) (rows.foldl (putL N inv W) S)
  | [], _, _, h, _ => h
  | r :: rows, R, S, h, hl => by
    rw [List.foldl_cons, List.map_cons, List.reverse_cons, List.append_assoc]
    exact Come.all hI hT rows (h.put hI hT (hl r List.mem_cons_self)) fun x hx => hl x (List.mem_cons_of_mem _ hx)
theorem Bas.congr {R R' : List (V N)} {L : List (Nat × V N)} (h : Bas R L) (hs : ∀ r ∈ R, r ∈ R') (hs' : ∀ r ∈ R', r ∈ R) : Bas R' L :=
  ⟨h.ech, fun e he => (h.sub e he).mono hs, fun r hr => h.all r (hs' r hr)⟩
/-- the rows of a space are a basis. -/
theorem space_come {inv : Int → Int} (hI : InvOf N inv) (hT : InvT N inv) {W : Nat} {rows : List (List Int)} (hl : ∀ r ∈ rows, r.length ≤ W) : Come N W (rows.map (vec N)) (spaceL N inv W rows) := by
  obtain ⟨h1, h2, h3⟩ := Come.all hI hT rows (Come.nil W) hl
  refine ⟨h1, Bas.congr h2 (fun r hr => ?_) (fun r hr => ?_), h3⟩
  · rw [List.append_nil] at hr
    exact List.mem_reverse.1 hr
  · rw [List.append_nil]
    exact List.mem_reverse.2 hr
theorem rank_rk {inv : Int → Int} (hI : InvOf N inv) (hT : InvT N inv) (rows : List (List Int)) : Rk (rows.map (vec N)) (rankL N inv rows) :=
  ⟨_, (space_come hI hT (wideL_le rows)).bas, by unfold sb rankL; rw [List.length_map]⟩
theorem hangs_iff {inv : Int → Int} (hI : InvOf N inv) (hT : InvT N inv) (rows : List (List Int)) (row : List Int) : hangsL N inv rows row = true ↔ Sp (rows.map (vec N)) (vec N row) := by
  have h00 : N ≠ 0 := h0.out
  have hc := space_come hI hT (wideL_le rows)
  unfold hangsL
  generalize spaceL N inv (wideL rows) rows = S at *
  have hleft := left_red hc.bas.ech (fun p hp => hc.good.len p hp) row
  have hred := leftL_red (q := (N : Int)) (by omega) (wideL rows) S row
  have hat := fun e (he : e ∈ sb N S) => red_at hc.bas.ech (vec N row) he
  generalize leftL N (wideL rows) S row = o at *
  rw [← hc.bas.sp]
  cases hf : firstL o with
  | none => exact ⟨fun _ => red_sp _ _ fun j => by rw [← hleft]; exact (red_tf hred).2 (first_none hf j), fun _ => rfl⟩
  | some k =>
    refine ⟨fun h => (by cases h), fun h => ?_⟩
    exfalso
    obtain ⟨_, hk2⟩ := firstL_some hf
    apply hk2
    rw [← red_tf hred, hleft]
    refine hc.bas.ech.zero (v := red (sb N S) (vec N row)) ?_ hat k
    refine Sp.comb (-1) (sum_sp (vec N row) (sb N S)) h fun j => ?_
    unfold red
    grind
end
end Go.Proofs.YtcojnjhffmhbiaaDoor
end
