/-
  Parts of these texts that the statement needs: Region, FxA, LitB, RaE, AdA, ArgB, Card, More, RangeT, RobL.
-/
import Derived.Orders
import Derived.OwnWalk
import Derived.NoCompiler
import Derived.WalkKit
import Derived.Test.YtlbhmoiicbhgkaaDoorRobQ3
import Derived.StillTailTactics
import Derived.Laws.CopyOwn
import Derived.Laws.AppendOwnNone
import Derived.Test.YtlbhmoiicbhgkaaDoorRobQ1
import Derived.Lib.SliceRun
import Derived.Deep.Slices
import Derived.Test.YtlbhmoiicbhgkaaDoorRobQ2
import Derived.Test.YtlbhmoiicbhgkaaDoorRows
import Derived.Test.YtlbhmoiicbhgkaaDoorCards
import Derived.Test.YtlbhmoiicbhgkaaDoorTie
import Derived.ProofKit
import Derived.LaidMore
import Derived.LaidHandle
import Derived.OpenShut
import Derived.Stop.Joined
import Derived.Stop.LaidErr
import Derived.Lib.LaidTab
import Derived.SevenTiedAt
import Derived.RangeFuncNested
import Derived.RangeFuncBound
import Derived.RangeFuncCalls
import Derived.RangeFuncLeaves
import Derived.RangeFuncFrom

section
namespace Go.Rg
/-- what is known of what an operation left: the very value; or a property that later worlds keep. -/
inductive Know
  | is (v : Value)
  | of (r : World → Value → Prop)
  | till (r : World → Value → Prop)
/-- 'pre': the one operation that turns memory has not come up yet. -/
def Know.holds (pre : Bool) : Know → World → Value → Prop
  | .is v, _, u => u = v
  | .of r, w, u => r w u
  | .till r, w, u => pre = true → r w u
/-- the newest lies first. -/
def look (Rs : List Know) (i : Nat) : Know := if i < Rs.length then Rs.getD (Rs.length - 1 - i) (.of fun _ _ => True) else .of fun _ _ => True
theorem look_cons (Rs : List Know) (k : Know) (i : Nat) (h : i < Rs.length) : look (k :: Rs) i = look Rs i := by
  unfold look
  rw [if_pos (by simp; omega), if_pos h]
  have : (k :: Rs).length - 1 - i = (Rs.length - 1 - i) + 1 := by simp; omega
  rw [this]; rfl
theorem look_new (Rs : List Know) (k : Know) : look (k :: Rs) Rs.length = k := by
  unfold look
  rw [if_pos (by simp)]
  simp
def predsOf (o : Oper) : List Nat := ((o.after.toList.filter fun e => Region.binds .any e).map (·.on)).eraseDups
theorem mem_preds {o : Oper} {i : Nat} : i ∈ predsOf o ↔ ∃ e ∈ o.after, Region.binds .any e = true ∧ e.on = i := by
  unfold predsOf
  rw [List.mem_eraseDups, List.mem_map]
  constructor
  · rintro ⟨e, he, rfl⟩
    rw [List.mem_filter] at he
    exact ⟨e, Array.mem_toList_iff.1 he.1, he.2, rfl⟩
  · rintro ⟨e, he, hb, rfl⟩
    exact ⟨e, List.mem_filter.2 ⟨Array.mem_toList_iff.2 he, hb⟩, rfl⟩
/-- l: some of those that o waits for, with all whose values it reads. -/
def fits (ds : List (Option Tmp)) (o : Oper) (l : List Nat) : Bool :=
  l.all (predsOf o).contains && (predsOf o).all fun i => l.contains i || match ds.getD i none with | some d => !(o.op.operands.any fun x => match x with | .tmp t => t == d | _ => false) | none => true
theorem fits_spec {ds : List (Option Tmp)} {o : Oper} {l : List Nat} (h : fits ds o l = true) : (∀ i ∈ l, i ∈ predsOf o) ∧ ∀ i ∈ predsOf o, ∀ d, ds.getD i none = some d → Operand.tmp d ∈ o.op.operands → i ∈ l := by
  simp only [fits, Bool.and_eq_true, List.all_eq_true, Bool.or_eq_true, List.contains_iff_mem] at h
  refine ⟨h.1, fun i hi d hd ho => ?_⟩
  rcases h.2 i hi with h | h
  · exact h
  · rw [hd] at h
    simp only [Bool.not_eq_true'] at h
    have : (o.op.operands.any fun x => match x with | .tmp t => t == d | _ => false) = true := Array.any_eq_true'.2 ⟨_, ho, by simp⟩
    rw [h] at this; cases this
def boolOf : Value → Option Bool
  | .bool b => some b
  | _ => none
def says (lk : Nat → Know) (o : Oper) : Option Bool :=
  match o.guard with
  | none => some true
  | some (g, want) => match lk g with
    | .is v => some (boolOf v == some want)
    | _ => none
def last (a : Act) : Option Tmp → Value
  | some d => (a.tmps[d]?).getD undef
  | none => undef
def from_ (ds : List (Option Tmp)) (lk : Nat → Know) (pre : Bool) (w : World) : List Nat → Act → (Act → Prop) → Prop
  | [], a, G => G a
  | i :: l, a, G => match lk i with
    | .is v => from_ ds lk pre w l (a.put (ds.getD i none) v) G
    | .of r => ∀ v, r w v → from_ ds lk pre w l (a.put (ds.getD i none) v) G
    | .till r => ∀ v, (pre = true → r w v) → from_ ds lk pre w l (a.put (ds.getD i none) v) G
def putAll (ds : List (Option Tmp)) (f : Nat → Value) : List Nat → Act → Act
  | [], a => a
  | i :: l, a => putAll ds f l (a.put (ds.getD i none) (f i))
section
variable {ds : List (Option Tmp)} {lk : Nat → Know} {pre : Bool} {w : World} {f : Nat → Value} {G : Act → Prop}
theorem from_congr {lk' : Nat → Know} : ∀ {l : List Nat} {a : Act}, (∀ i ∈ l, lk i = lk' i) → from_ ds lk pre w l a G → from_ ds lk' pre w l a G
  | [], _, _, h => h
  | i :: l, a, he, h => by
    have h1 := he i (List.mem_cons_self ..)
    have h2 := fun j hj => he j (List.mem_cons_of_mem _ hj)
    unfold from_ at h ⊢
    rw [← h1]
    cases hk : lk i with
    | is v => rw [hk] at h; exact from_congr h2 h
    | of r => rw [hk] at h; exact fun v hv => from_congr h2 (h v hv)
    | till r => rw [hk] at h; exact fun v hv => from_congr h2 (h v hv)
theorem from_at : ∀ {l : List Nat} {a : Act}, from_ ds lk pre w l a G → (∀ i ∈ l, (lk i).holds pre w (f i)) → G (putAll ds f l a)
  | [], _, h, _ => h
  | i :: l, a, h, hf => by
    have h1 := hf i (List.mem_cons_self ..)
    have h2 := fun j hj => hf j (List.mem_cons_of_mem _ hj)
    unfold from_ at h
    unfold putAll
    cases hk : lk i with
    | is v =>
      rw [hk] at h h1
      simp only [Know.holds] at h1
      rw [h1]
      exact from_at h h2
    | of r =>
      rw [hk] at h h1
      exact from_at (h _ h1) h2
    | till r =>
      rw [hk] at h h1
      exact from_at (h _ h1) h2
theorem from_mono {G' : Act → Prop} (hg : ∀ a, G a → G' a) : ∀ {l : List Nat} {a : Act}, from_ ds lk pre w l a G → from_ ds lk pre w l a G'
  | [], _, h => hg _ h
  | i :: l, a, h => by
    unfold from_ at h ⊢
    cases hk : lk i with
    | is v => rw [hk] at h; exact from_mono hg h
    | of r => rw [hk] at h; exact fun v hv => from_mono hg (h v hv)
    | till r => rw [hk] at h; exact fun v hv => from_mono hg (h v hv)
theorem put_size (a : Act) (d : Option Tmp) (v : Value) : (a.put d v).tmps.size = a.tmps.size := by cases d <;> simp [Act.put]
theorem put_defers' (a : Act) (d : Option Tmp) (v : Value) : (a.put d v).defers = a.defers := by cases d <;> simp [Act.put]
theorem put_at_ne (a : Act) {d : Option Tmp} (v : Value) {t : Tmp} (h : d ≠ some t) : (a.put d v).tmps[t]? = a.tmps[t]? := by
  cases d with
  | none => rfl
  | some d => exact Array.getElem?_setIfInBounds_ne fun e => h (congrArg _ e)
theorem put_at_same (a : Act) (v : Value) {t : Tmp} (h : t < a.tmps.size) : (a.put (some t) v).tmps[t]? = some v := by
  simp [Act.put, h]
theorem putAll_size : ∀ (l : List Nat) (a : Act), (putAll ds f l a).tmps.size = a.tmps.size
  | [], _ => rfl
  | _ :: l, _ => (putAll_size l _).trans (put_size ..)
theorem putAll_defers : ∀ (l : List Nat) (a : Act), (putAll ds f l a).defers = a.defers
  | [], _ => rfl
  | _ :: l, _ => (putAll_defers l _).trans (put_defers' ..)
theorem putAll_ne {t : Tmp} : ∀ (l : List Nat) (a : Act), (∀ i ∈ l, ds.getD i none ≠ some t) → (putAll ds f l a).tmps[t]? = a.tmps[t]?
  | [], _, _ => rfl
  | i :: l, a, h => (putAll_ne l _ fun j hj => h j (List.mem_cons_of_mem _ hj)).trans (put_at_ne a _ (h i (List.mem_cons_self ..)))
theorem putAll_at {t : Tmp} {i : Nat} : ∀ (l : List Nat) (a : Act), t < a.tmps.size → i ∈ l → ds.getD i none = some t → (∀ j ∈ l, ds.getD j none = some t → j = i) → (putAll ds f l a).tmps[t]? = some (f i)
  | [], _, _, h, _, _ => by cases h
  | j :: l, a, hs, hi, hd, hu => by
    by_cases hin : i ∈ l
    · exact putAll_at l _ (by rw [put_size]; exact hs) hin hd fun k hk => hu k (List.mem_cons_of_mem _ hk)
    · obtain rfl : i = j := by
        rcases List.mem_cons.1 hi with h | h
        · exact h
        · exact absurd h hin
      refine (putAll_ne l _ fun k hk he => hin ?_).trans ?_
      · obtain rfl := hu k (List.mem_cons_of_mem _ hk) he
        exact hk
      · rw [hd]; exact put_at_same _ _ hs
end
/-- what the region's operations do to memory, and what stays: 'K': all but one; 'M': that one, number 's'; 'B': stays throughout; 'B1': till that one comes up. -/
structure Way where
  K : World → World → Prop
  M : World → World → Prop
  B : World → Prop
  B1 : World → Prop
  s : Nat
structure Way.Fair (Y : Way) : Prop where
  bk : ∀ w w', Y.B w → Y.K w w' → Y.B w'
  bm : ∀ w w', Y.B w → Y.M w w' → Y.B w'
  b1 : ∀ w w', Y.B1 w → Y.K w w' → Y.B1 w'
def Know.stays (Y : Way) (j : Nat) : Know → Prop
  | .is _ => True
  | .of r => (∀ w w' v, Y.K w w' → r w v → r w' v) ∧ (j ≠ Y.s → ∀ w w' v, Y.M w w' → r w v → r w' v)
  | .till r => j ≠ Y.s ∧ ∀ w w' v, Y.K w w' → r w v → r w' v
section
variable (P : Program) (Y : Way) (ds : List (Option Tmp)) (a0 : Act) (Q : Act → World → Prop)
def opGoal (lk : Nat → Know) (j : Nat) (o : Oper) (l : List Nat) (k : Know) : Prop :=
  ∀ w, Y.B w → (j = Y.s → Y.B1 w) → from_ ds lk (j == Y.s) w l a0 fun a => ∀ T : Exit → Act → World → Prop,
    (∀ a' w', a'.defers = a.defers → (if j = Y.s then Y.M w w' else Y.K w w') → k.holds true w' (last a' o.dst) → T .normal a' w') → wpList P #[] T [{ o with guard := none }] a w
def Good (lk : Nat → Know) (j : Nat) (o : Oper) (k : Know) : Prop :=
  k.stays Y j ∧ ((says lk o = some true ∧ ∃ l, fits ds o l = true ∧ opGoal P Y ds a0 lk j o l k) ∨ (says lk o = some false ∧ k = .is undef))
/-- all that are left, in the text's order. -/
def walk : List Oper → List Know → Prop
  | [], Rs => ∀ w, Y.B w → from_ ds (look Rs) (decide (Rs.length ≤ Y.s)) w (List.range Rs.length) a0 fun a => Q a w
  | o :: rest, Rs => ∃ k : Know, Good P Y ds a0 (look Rs) Rs.length o k ∧ walk rest (k :: Rs)
end
/-- what is looked at once, closed. -/
def sane (ops : Array Oper) (ds : List (Option Tmp)) (size n : Nat) : Bool :=
  Region.noSelect ops && ds.length == ops.size &&
  (List.range ops.size).all fun j => match ops[j]? with
    | none => true
    | some o =>
      ds.getD j none == o.dst && (predsOf o).all (· < j) && (match o.dst with | some d => decide (d < size) | none => true) &&
      (match o.guard with | none => true | some (g, _) => (predsOf o).contains g && (ds.getD g none).isSome) &&
      (List.range n).all fun i => decide (n ≤ j) || match ds.getD i none with
        | none => true
        | some d => (i == j || o.dst != some d) && (!(o.looksAt ops).contains d || (predsOf o).contains i)
/-- from number n on each waits, at last, for all ahead of it. -/
def closes (ops : Array Oper) (n : Nat) : Bool :=
  (List.range ops.size).all fun j => decide (j < n) || match ops[j]? with
    | none => true
    | some o => o.guard.isNone && (List.range j).all fun i => (List.range (j + 1)).any fun i' => decide (i < i') && match ops[i']? with
      | none => false
      | some o' => (predsOf o').contains i
section
variable {P : Program} {Y : Way} {ds : List (Option Tmp)} {a0 : Act} {Q : Act → World → Prop} {ops : Array Oper}
structure Sane (ops : Array Oper) (ds : List (Option Tmp)) (size n : Nat) : Prop where
  nosel : ∀ (j : Nat) (o : Oper) cs b, ops[j]? = some o → o.op ≠ .select cs b
  len : ds.length = ops.size
  dst : ∀ {j : Nat} {o : Oper}, ops[j]? = some o → ds.getD j none = o.dst
  before : ∀ {j : Nat} {o : Oper}, ops[j]? = some o → ∀ i ∈ predsOf o, i < j
  small : ∀ {j : Nat} {o : Oper}, ops[j]? = some o → ∀ d, o.dst = some d → d < size
  guard : ∀ {j : Nat} {o : Oper}, ops[j]? = some o → ∀ g b, o.guard = some (g, b) → g ∈ predsOf o ∧ (ds.getD g none).isSome
  one : ∀ {j : Nat} {o : Oper}, ops[j]? = some o → j < n → ∀ i d, i < n → ds.getD i none = some d → o.dst = some d → i = j
  looks : ∀ {j : Nat} {o : Oper}, ops[j]? = some o → j < n → ∀ i d, i < n → ds.getD i none = some d → d ∈ o.looksAt ops → i ∈ predsOf o
theorem sane_spec {size n : Nat} (h : sane ops ds size n = true) : Sane ops ds size n := by
  simp only [sane, Bool.and_eq_true, List.all_eq_true, List.mem_range, beq_iff_eq] at h
  obtain ⟨⟨h1, h2⟩, h3⟩ := h
  have key := fun (j : Nat) (o : Oper) (hj : ops[j]? = some o) => by
    have := h3 j (Array.getElem?_eq_some_iff.1 hj).1
    simp only [hj, Bool.and_eq_true, beq_iff_eq, List.all_eq_true, decide_eq_true_eq, List.mem_range, Bool.or_eq_true] at this
    exact this
  refine ⟨Region.noSelect_spec h1, h2, fun hj => (key _ _ hj).1.1.1.1, fun hj => (key _ _ hj).1.1.1.2, fun hj d hd => ?_, fun hj g b hg => ?_, fun hj hjn i d hi hd ho => ?_, fun hj hjn i d hi hd ho => ?_⟩
  · have := (key _ _ hj).1.1.2; rw [hd] at this; simpa using this
  · have := (key _ _ hj).1.2; rw [hg] at this; simpa using this
  · have := ((key _ _ hj).2 i hi).resolve_left (by omega); rw [hd] at this; simp only [Bool.and_eq_true, Bool.or_eq_true, beq_iff_eq, bne_iff_ne, ne_eq] at this
    rcases this.1 with h | h
    · exact h
    · exact absurd ho h
  · have := ((key _ _ hj).2 i hi).resolve_left (by omega); rw [hd] at this
    simp only [Bool.and_eq_true, Bool.or_eq_true, Bool.not_eq_true', List.contains_iff_mem] at this
    rcases this.2 with h | h
    · exact absurd (List.contains_iff_mem.2 ho) (by rw [h]; simp)
    · exact h
theorem closes_spec {n : Nat} (h : closes ops n = true) : ∀ j o, n ≤ j → ops[j]? = some o → o.guard = none ∧ ∀ i, i < j → ∃ i' o', i < i' ∧ i' ≤ j ∧ ops[i']? = some o' ∧ i ∈ predsOf o' := by
  intro j o hj ho
  simp only [closes, List.all_eq_true, List.mem_range, Bool.or_eq_true, decide_eq_true_eq] at h
  have h1 := (h j (Array.getElem?_eq_some_iff.1 ho).1).resolve_left (by omega)
  simp only [ho, Bool.and_eq_true, List.all_eq_true, List.mem_range, List.any_eq_true, decide_eq_true_eq] at h1
  refine ⟨by simpa using h1.1, fun i hi => ?_⟩
  obtain ⟨i', h2, h3, h4⟩ := h1.2 i hi
  cases h5 : ops[i']? with
  | none => rw [h5] at h4; simp at h4
  | some o' =>
    rw [h5] at h4
    exact ⟨i', o', h3, by omega, h5, List.contains_iff_mem.1 h4⟩
theorem good_congr {lk lk' : Nat → Know} {j : Nat} {o : Oper} {k : Know} (hp : ∀ i ∈ predsOf o, lk i = lk' i) (hg : ∀ g b, o.guard = some (g, b) → g ∈ predsOf o) (h : Good P Y ds a0 lk j o k) : Good P Y ds a0 lk' j o k := by
  have hs : says lk o = says lk' o := by
    unfold says
    cases hgu : o.guard with
    | none => rfl
    | some gb => obtain ⟨g, b⟩ := gb; simp only [hp g (hg g b hgu)]
  refine ⟨h.1, ?_⟩
  rcases h.2 with ⟨h1, l, hl, h2⟩ | ⟨h1, h2⟩
  · exact .inl ⟨hs ▸ h1, _, hl, fun w hw hw1 => from_congr (fun i hi => hp i ((fits_spec hl).1 i hi)) (h2 w hw hw1)⟩
  · exact .inr ⟨hs ▸ h1, h2⟩
theorem extract : ∀ (rest : List Oper) (Rs : List Know), (∀ j o, rest[j]? = some o → (∀ i ∈ predsOf o, i < Rs.length + j) ∧ ∀ g b, o.guard = some (g, b) → g ∈ predsOf o) → walk P Y ds a0 Q rest Rs →
    ∃ F : Nat → Know, (∀ i, i < Rs.length → F i = look Rs i) ∧ (∀ j o, rest[j]? = some o → Good P Y ds a0 F (Rs.length + j) o (F (Rs.length + j))) ∧ ∀ w, Y.B w → from_ ds F (decide (Rs.length + rest.length ≤ Y.s)) w (List.range (Rs.length + rest.length)) a0 fun a => Q a w
  | [], Rs, _, h => ⟨look Rs, fun _ _ => rfl, fun j o h => by simp at h, h⟩
  | o :: rest, Rs, hb, ⟨k, hg, h⟩ => by
    obtain ⟨F, h1, h2, h3⟩ := extract rest (k :: Rs) (fun j o' ho => by
      have := hb (j + 1) o' (by simpa using ho)
      exact ⟨fun i hi => by have := this.1 i hi; simp; omega, this.2⟩) h
    have hF : ∀ i, i < Rs.length → F i = look Rs i := fun i hi => (h1 i (by simp; omega)).trans (look_cons _ _ _ hi)
    refine ⟨F, hF, fun j o' ho => ?_, ?_⟩
    · cases j with
      | zero =>
        simp only [List.getElem?_cons_zero, Option.some.injEq] at ho
        subst ho
        have hbo := hb 0 o rfl
        rw [Nat.add_zero, h1 Rs.length (by simp), look_new]
        exact good_congr (fun i hi => (hF i (by have := hbo.1 i hi; omega)).symm) hbo.2 hg
      | succ j =>
        have := h2 j o' (by simpa using ho)
        have e : (k :: Rs).length + j = Rs.length + (j + 1) := by simp; omega
        rwa [e] at this
    · have e : (k :: Rs).length + rest.length = Rs.length + (o :: rest).length := by simp; omega
      rwa [e] at h3
structure Inv (n : Nat) (ops : Array Oper) (ds : List (Option Tmp)) (Y : Way) (a0 : Act) (F : Nat → Know) (listed : Array Bool) (a : Act) (w : World) : Prop where
  base : Y.B w
  base1 : listed.getD Y.s false = false → Y.B1 w
  defers : a.defers = a0.defers
  size : a.tmps.size = a0.tmps.size
  unlisted : ∀ j, n ≤ j → listed.getD j false = false
  down : ∀ j o, ops[j]? = some o → listed.getD j false = true → ∀ i ∈ predsOf o, listed.getD i false = true
  other : ∀ t, (∀ i, i < n → ds.getD i none = some t → listed.getD i false = false) → a.tmps[t]? = a0.tmps[t]?
  some_ : ∃ f : Nat → Value, ∀ i, i < n → listed.getD i false = true → (F i).holds (!listed.getD Y.s false) w (f i) ∧ ∀ d, ds.getD i none = some d → a.tmps[d]? = some (f i)
theorem count_lt (l : List Nat) (p q : Nat → Bool) (i : Nat) (hi : i ∈ l) (hp : p i = true) (hq : q i = false) (hle : ∀ j, q j = true → p j = true) : l.countP q < l.countP p := by
  induction l with
  | nil => cases hi
  | cons a l ih =>
    have hmono : l.countP q ≤ l.countP p := List.countP_mono_left fun j _ h => hle j h
    rw [List.countP_cons, List.countP_cons]
    rcases List.mem_cons.1 hi with rfl | hi
    · rw [hp, hq]; simp; omega
    · have := ih hi
      cases hqa : q a with
      | false => simp; split <;> omega
      | true => rw [hle a hqa]; simp; omega
theorem getD_set_same {listed : Array Bool} {j : Nat} {b : Bool} (h : j < listed.size) : (listed.setIfInBounds j true).getD j b = true := by simp [h]
/-- the tail: one behind the other. -/
theorem wp_tail {Q' : Exit → Act → World → Prop} {n : Nat} (S : Sane ops ds a0.tmps.size n) (hL : ∀ j o, n ≤ j → ops[j]? = some o → o.guard = none ∧ ∀ i, i < j → ∃ i' o', i < i' ∧ i' ≤ j ∧ ops[i']? = some o' ∧ i ∈ predsOf o') :
    ∀ (tail : List Oper) (m fuel : Nat) (listed : Array Bool) (a : Act) (w : World), n ≤ m → m + tail.length = ops.size → (∀ i, tail[i]? = ops[m + i]?) → tail.length ≤ fuel → (∀ i, i < ops.size → listed.getD i false = decide (i < m)) → listed.size = ops.size →
      wpList P #[] Q' (tail.map fun o => { o with guard := none }) a w → wpAny P .any ops Q' fuel listed a w
  | [], m, fuel, listed, a, w, hm, hlen, ht, hf, hl, hls, h => by
    refine wpAny_done ?_ h fuel
    rw [List.eq_nil_iff_forall_not_mem]
    intro i hi
    obtain ⟨h0, oi, hoi, _⟩ := mem_ready.1 hi
    have his := (Array.getElem?_eq_some_iff.1 hoi).1
    have h2 := hl i his
    simp only [List.length_nil] at hlen
    have h3 : i < listed.size := by omega
    have h4 : i < m := by omega
    simp [h3] at h0 h2
    rw [h0] at h2; simp [h4] at h2
  | o :: tail, m, fuel, listed, a, w, hm, hlen, ht, hf, hl, hls, h => by
    simp only [List.length_cons] at hlen hf
    have ho : ops[m]? = some o := by simpa using (ht 0).symm
    have hms : m < ops.size := by omega
    obtain ⟨fuel, rfl⟩ : ∃ k, fuel = k + 1 := ⟨fuel - 1, by omega⟩
    have hlm : ∀ i, i < m → listed.getD i false = true := fun i hi => by rw [hl i (by omega)]; simpa using hi
    have hready : m ∈ Region.ready .any ops listed := mem_ready.2 ⟨by
      have := hl m hms
      have h3 : m < listed.size := by omega
      simp [h3] at this ⊢; exact this, o, ho, fun e he hb => hlm _ (S.before ho _ (mem_preds.2 ⟨e, he, hb, rfl⟩))⟩
    refine ⟨fun h0 => absurd hready (by rw [h0]; simp), fun j hj => ?_⟩
    obtain ⟨hun, oj, hoj, hall⟩ := mem_ready.1 hj
    have hjs := (Array.getElem?_eq_some_iff.1 hoj).1
    have hjm : j = m := by
      have h2 := hl j hjs
      have h3 : j < listed.size := by omega
      have hge : m ≤ j := by
        rcases Nat.lt_or_ge j m with h4 | h4
        · have h5 := hlm j h4
          simp [h3] at hun h5; rw [hun] at h5; cases h5
        · exact h4
      rcases Nat.lt_or_ge m j with h4 | h4
      · -- m < j ready: then all ahead of it are listed: m too
        exfalso
        -- the successor of j - 1 ..: it is j itself, as i' in (j-1, j]
        have key : ∀ i, m ≤ i → i < j → False ∨ listed.getD i false = true := by
          intro i hi hij
          obtain ⟨i', o', h5, h6, h7, h8⟩ := (hL j oj (by omega) hoj).2 (j - 1) (by omega)
          obtain rfl : i' = j := by omega
          rw [hoj] at h7
          obtain rfl := Option.some.inj h7
          obtain ⟨e, he, hb, heq⟩ := mem_preds.1 h8
          have h9 := hall e he hb
          rw [heq, hl _ (by omega)] at h9
          simp at h9; omega
        rcases key m (Nat.le_refl _) h4 with h5 | h5
        · exact h5
        · rw [hl m hms] at h5; simp at h5
      · omega
    subst hjm
    rw [ho] at hoj
    obtain rfl := Option.some.inj hoj
    have hg := (hL j o hm ho).1
    unfold wpOp
    simp only [ho]
    have hw : Region.wanted o (yielded ops a.tmps) = true := by unfold Region.wanted; rw [hg]
    rw [if_pos hw]
    simp only [List.map_cons, wpList, Region.wanted, if_true] at h
    rcases h with h | h
    · refine .inl (Oper.wp_mono (fun a' w' h' => ?_) h)
      refine wp_tail S hL tail (j + 1) fuel _ a' w' (by omega) (by omega) (fun i => by have := ht (i + 1); simpa [Nat.add_assoc, Nat.add_comm 1 i] using this) (by omega) (fun i hi => ?_) (by simp [hls]) h'
      by_cases hij : j = i
      · subst hij
        rw [getD_set_same (by omega)]; simp
      · rw [getD_set_ne false hij, hl i hi]
        by_cases h1 : i < j
        · simp [h1]; omega
        · simp [h1]; omega
    · exact .inr h
theorem wp_any {F : Nat → Know} {n : Nat} {Q' : Exit → Act → World → Prop} (S : Sane ops ds a0.tmps.size n) (HY : Y.Fair) (hn : n ≤ ops.size)
    (hG : ∀ j o, j < n → ops[j]? = some o → Good P Y ds a0 F j o (F j))
    (hL : ∀ j o, n ≤ j → ops[j]? = some o → o.guard = none ∧ ∀ i, i < j → ∃ i' o', i < i' ∧ i' ≤ j ∧ ops[i']? = some o' ∧ i ∈ predsOf o')
    (hQ : ∀ w, Y.B w → from_ ds F (decide (n ≤ Y.s)) w (List.range n) a0 fun a => Q a w) 
    (tail : List Oper) (htl : n + tail.length = ops.size) (ht : ∀ i, tail[i]? = ops[n + i]?) (hQ' : ∀ a w, Q a w → wpList P #[] Q' (tail.map fun o => { o with guard := none }) a w) :
    ∀ (fuel : Nat) (listed : Array Bool) (a : Act) (w : World), listed.size = ops.size → (List.range ops.size).countP (fun i => !listed.getD i true) ≤ fuel → Inv n ops ds Y a0 F listed a w → wpAny P .any ops Q' fuel listed a w := by
  have full : ∀ (listed : Array Bool) (a : Act) (w : World), Inv n ops ds Y a0 F listed a w → (∀ i, i < n → listed.getD i false = true) → Q a w := by
    intro listed a w I all
    obtain ⟨f, hf⟩ := I.some_
    have hpre : (!listed.getD Y.s false) = decide (n ≤ Y.s) := by
      rcases Nat.lt_or_ge Y.s n with h | h
      · rw [all _ h]; simp; omega
      · rw [I.unlisted _ h]; simp; omega
    have h := from_at (f := f) (hQ w I.base) fun i hi => by
      have := (hf i (List.mem_range.1 hi) (all _ (List.mem_range.1 hi))).1
      rwa [hpre] at this
    have hea : putAll ds f (List.range n) a0 = a := by
      have ht : (putAll ds f (List.range n) a0).tmps = a.tmps := by
        apply Array.ext_getElem?
        intro t
        by_cases hex : ∃ i, i < n ∧ ds.getD i none = some t
        · obtain ⟨i, hi, hd⟩ := hex
          have ho : ops[i]? = some (ops[i]'(by omega)) := Array.getElem?_eq_getElem (by omega)
          have hod := S.dst ho
          rw [((hf i hi (all _ hi)).2 t hd)]
          refine putAll_at _ _ (S.small ho t (hod ▸ hd)) (List.mem_range.2 hi) hd fun j hj hdj => S.one ho hi j t (by have := List.mem_range.1 hj; omega) hdj (hod ▸ hd)
        · rw [putAll_ne _ _ fun i hi hd => hex ⟨i, List.mem_range.1 hi, hd⟩, I.other t fun i hi hd => absurd ⟨i, hi, hd⟩ hex]
      have hd := (putAll_defers (ds := ds) (f := f) (List.range n) a0).trans I.defers.symm
      generalize putAll ds f (List.range n) a0 = b at *
      cases a; cases b
      simp only at ht hd
      rw [ht, hd]
    rw [← hea]
    exact h
  -- all of the first n are listed: the tail
  have toTail : ∀ (fuel : Nat) (listed : Array Bool) (a : Act) (w : World), listed.size = ops.size → (List.range ops.size).countP (fun i => !listed.getD i true) ≤ fuel → Inv n ops ds Y a0 F listed a w → (∀ i, i < n → listed.getD i false = true) → wpAny P .any ops Q' fuel listed a w := by
    intro fuel listed a w hls hc I all
    have hl : ∀ i, i < ops.size → listed.getD i false = decide (i < n) := fun i hi => by
      rcases Nat.lt_or_ge i n with h | h
      · rw [all i h]; simp [h]
      · rw [I.unlisted i h]; simp; omega
    refine wp_tail S hL tail n fuel listed a w (Nat.le_refl _) htl ht ?_ hl hls (hQ' a w (full listed a w I all))
    -- as many are left as the tail is long
    have hcount : ∀ k, k ≤ ops.size → (List.range k).countP (fun i => !listed.getD i true) = k - n := by
      intro k
      induction k with
      | zero => intro _; simp
      | succ k ih =>
        intro hk
        rw [List.range_succ, List.countP_append, ih (by omega)]
        have h1 := hl k (by omega)
        have h2 : k < listed.size := by omega
        simp [h2] at h1
        rcases Nat.lt_or_ge k n with h | h
        · simp [h2, h1, h]; omega
        · have : ¬ k < n := by omega
          simp [h2, h1, this]; omega
    have := hcount ops.size (Nat.le_refl _)
    omega
  have stuck : ∀ (listed : Array Bool) (a : Act) (w : World), listed.size = ops.size → Inv n ops ds Y a0 F listed a w → Region.ready .any ops listed = [] → ∀ m j, j < m → j < ops.size → listed.getD j false = true := by
    intro listed a w hls I hr m
    induction m with
    | zero => intro j hj; omega
    | succ m ih =>
      intro j hj hjs
      have ho : ops[j]? = some ops[j] := Array.getElem?_eq_getElem hjs
      cases hl : listed.getD j true with
      | true =>
        have : j < listed.size := by omega
        simp [this] at hl ⊢; exact hl
      | false =>
        have : j ∈ Region.ready .any ops listed := mem_ready.2 ⟨hl, _, ho, fun e he hb => by
          have hlt := S.before ho e.on (mem_preds.2 ⟨e, he, hb, rfl⟩)
          exact ih e.on (by omega) (by omega)⟩
        rw [hr] at this; cases this
  intro fuel
  induction fuel with
  | zero =>
    intro listed a w hls hc I
    have hr : Region.ready .any ops listed = [] := by
      rw [List.eq_nil_iff_forall_not_mem]
      intro j hj
      obtain ⟨h0, o, ho, _⟩ := mem_ready.1 hj
      have := List.countP_eq_zero.1 (Nat.le_zero.1 hc) j (List.mem_range.2 (Array.getElem?_eq_some_iff.1 ho).1)
      rw [h0] at this; simp at this
    have all := stuck listed a w hls I hr
    exact toTail 0 listed a w hls hc I fun i hi => all _ i (Nat.lt_succ_self i) (by omega)
  | succ fuel ih =>
    intro listed a w hls hc I
    by_cases hfull : ∀ i, i < n → listed.getD i false = true
    case pos => exact toTail (fuel + 1) listed a w hls hc I hfull
    case neg =>
    refine ⟨fun hr => absurd (fun i hi => stuck listed a w hls I hr _ i (Nat.lt_succ_self i) (by omega)) hfull, fun j hj => ?_⟩
    obtain ⟨hun, o, ho, hall⟩ := mem_ready.1 hj
    have hjs : j < ops.size := (Array.getElem?_eq_some_iff.1 ho).1
    have hpl : ∀ i ∈ predsOf o, listed.getD i false = true := fun i hi => by
      obtain ⟨e, he, hb, rfl⟩ := mem_preds.1 hi
      exact hall e he hb
    have hjn : j < n := by
      rcases Nat.lt_or_ge j n with h | h
      · exact h
      · exfalso
        -- all ahead of it are listed
        have all : ∀ d i, i < j → j - i ≤ d → listed.getD i false = true := by
          intro d
          induction d with
          | zero => intro i hi hd; omega
          | succ d ihd =>
            intro i hi hd
            obtain ⟨i', o', h1, h2, h3, h4⟩ := (hL j o h ho).2 i hi
            rcases Nat.lt_or_ge i' j with h5 | h5
            · exact I.down i' o' h3 (ihd i' h5 (by omega)) i h4
            · obtain rfl : i' = j := by omega
              rw [ho] at h3
              obtain rfl := Option.some.inj h3
              exact hpl i h4
        exact hfull fun i hi => all _ i (by omega) (Nat.le_refl _)
    have hcount : (List.range ops.size).countP (fun i => !(listed.setIfInBounds j true).getD i true) ≤ fuel := by
      have := count_lt (List.range ops.size) (fun i => !listed.getD i true) (fun i => !(listed.setIfInBounds j true).getD i true) j (List.mem_range.2 hjs) (by rw [hun]; rfl) (by
        have : j < listed.size := by omega
        simp [this]) fun k hk => by
          by_cases hkj : j = k
          · subst hkj
            have : j < listed.size := by omega
            simp [this] at hk
          · rw [getD_set_ne true hkj] at hk; exact hk
      omega
    have hod := S.dst ho
    obtain ⟨f, hf⟩ := I.some_
    have hps : ∀ i ∈ predsOf o, i < n := fun i hi => by have := S.before ho i hi; omega
    have hjl : j < listed.size := by omega
    have hjun : listed.getD j false = false := by simp [hjl] at hun ⊢; exact hun
    have hGj := hG j o hjn ho
    -- whatever it leaves: the next state is one of ours
    have next : ∀ w' a' v, ((if j = Y.s then Y.M w w' else Y.K w w') ∨ w' = w) → (F j).holds true w' v → a' = a.put o.dst v → Inv n ops ds Y a0 F (listed.setIfInBounds j true) a' w' := by
      intro w' a' v hw' hv ha
      subst ha
      refine ⟨?_, fun hs => ?_, (put_defers' ..).trans I.defers, (put_size ..).trans I.size, fun k hk => ?_, fun k ok hok hk i hi => ?_, fun t ht => ?_, fun i => if i = j then v else f i, fun i hi hl => ?_⟩
      · rcases hw' with h | rfl
        · split at h
          · exact HY.bm _ _ I.base h
          · exact HY.bk _ _ I.base h
        · exact I.base
      · have hjs' : j ≠ Y.s := by
          rintro rfl
          rw [getD_set_same hjl] at hs; cases hs
        rw [getD_set_ne false hjs'] at hs
        rcases hw' with h | rfl
        · rw [if_neg hjs'] at h
          exact HY.b1 _ _ (I.base1 hs) h
        · exact I.base1 hs
      · rw [getD_set_ne false (by omega)]; exact I.unlisted k hk
      · by_cases hkj : j = k
        · subst hkj
          rw [ho] at hok
          obtain rfl := Option.some.inj hok
          exact getD_set_true (hpl i hi)
        · rw [getD_set_ne false hkj] at hk
          exact getD_set_true (I.down k ok hok hk i hi)
      · rw [put_at_ne, I.other]
        · intro i hi hd
          have h1 := ht i hi hd
          by_cases hij : j = i
          · subst hij
            rw [getD_set_same hjl] at h1; cases h1
          · rw [getD_set_ne false hij] at h1; exact h1
        · intro hd
          have h1 := ht j hjn (hod.trans hd)
          rw [getD_set_same hjl] at h1; cases h1
      · by_cases hij : i = j
        · subst hij
          simp only [if_true]
          refine ⟨?_, fun d hd => ?_⟩
          · cases hk : F i with
            | is u => rw [hk] at hv; exact hv
            | of r => rw [hk] at hv; exact hv
            | till r => rw [hk] at hv; exact fun _ => hv rfl
          · rw [hod] at hd
            rw [hd]
            exact put_at_same _ _ (by rw [I.size]; exact S.small ho d hd)
        · simp only [if_neg hij]
          rw [getD_set_ne false (Ne.symm hij)] at hl
          have h1 := hf i hi hl
          refine ⟨?_, fun d hd => ?_⟩
          · have hst := (hG i _ hi (Array.getElem?_eq_getElem (by omega))).1
            have h2 := h1.1
            cases hk : F i with
            | is u => rw [hk] at h2; exact h2
            | of r =>
              rw [hk] at h2 hst
              rcases hw' with h | rfl
              · split at h
                · exact hst.2 (by omega) _ _ _ h h2
                · exact hst.1 _ _ _ h h2
              · exact h2
            | till r =>
              rw [hk] at h2 hst
              intro hpre
              have hjs' : j ≠ Y.s := by
                rintro rfl
                rw [getD_set_same hjl] at hpre; cases hpre
              rw [getD_set_ne false hjs'] at hpre
              rcases hw' with h | rfl
              · rw [if_neg hjs'] at h
                exact hst.2 _ _ _ h (h2 hpre)
              · exact h2 hpre
          · rw [put_at_ne, h1.2 d hd]
            intro hd'
            exact hij (S.one ho hjn i d (by omega) hd hd')
    have goOn : ∀ w' a' v, ((if j = Y.s then Y.M w w' else Y.K w w') ∨ w' = w) → (F j).holds true w' v → a' = a.put o.dst v → wpAny P .any ops Q' fuel (listed.setIfInBounds j true) a' w' := fun w' a' v h1 h2 h3 =>
      ih _ _ _ (by simp [hls]) hcount (next w' a' v h1 h2 h3)
    -- what the guard says
    have hwant : ∀ b, says F o = some b → Region.wanted o (yielded ops a.tmps) = b := by
      intro b hb
      unfold says at hb
      unfold Region.wanted
      cases hgu : o.guard with
      | none => simp only [hgu] at hb; simpa using hb
      | some gw =>
        obtain ⟨g, want⟩ := gw
        obtain ⟨hgp, hgd⟩ := S.guard ho g want hgu
        simp only [hgu] at hb ⊢
        obtain ⟨d, hd⟩ := Option.isSome_iff_exists.1 hgd
        have hg1 := hf g (hps g hgp) (hpl g hgp)
        have hgs : g < ops.size := by have := hps g hgp; omega
        have hog : ops[g]? = some (ops[g]'hgs) := Array.getElem?_eq_getElem hgs
        have hgd' := S.dst hog
        cases hkn : F g with
        | of r => rw [hkn] at hb; simp at hb
        | till r => rw [hkn] at hb; simp at hb
        | is v =>
          rw [hkn] at hb hg1
          simp only [Know.holds] at hg1
          have hy : yielded ops a.tmps g = boolOf v := by
            unfold yielded
            rw [hog]
            simp only [Option.bind_some]
            rw [← hgd', hd]
            simp only [Option.bind_some]
            rw [hg1.2 d hd, hg1.1]
            cases v <;> rfl
          rw [hy]
          simpa using hb
    unfold wpOp
    simp only [ho]
    rcases hGj.2 with ⟨hs, l, hl, hop⟩ | ⟨hs, hk⟩
    · obtain ⟨hl1, hl2⟩ := fits_spec hl
      rw [if_pos (hwant _ hs)]
      have hb1 : j = Y.s → Y.B1 w := fun h => I.base1 (h ▸ hjun)
      -- the frame that it is shown in
      have hc := from_at (f := f) (hop w I.base hb1) fun i hi => by
        have h1 := (hf i (hps i (hl1 i hi)) (hpl i (hl1 i hi))).1
        cases hk : F i with
        | is u => rw [hk] at h1; exact h1
        | of r => rw [hk] at h1; exact h1
        | till r =>
          rw [hk] at h1
          intro hpre
          have : j = Y.s := by simpa using hpre
          exact h1 (by rw [← this, hjun]; rfl)
      obtain ⟨c, hcdef⟩ : ∃ c, putAll ds f l a0 = c := ⟨_, rfl⟩
      have hcsize : c.tmps.size = a0.tmps.size := by rw [← hcdef]; exact putAll_size _ _
      have agree : ∀ t, Operand.tmp t ∈ o.op.operands → a.tmps[t]? = c.tmps[t]? := by
        intro t ht
        have htl : t ∈ o.looksAt ops := List.mem_append_left _ (List.mem_filterMap.2 ⟨.tmp t, by simpa using ht, rfl⟩)
        rw [← hcdef]
        by_cases hex : ∃ i, i < n ∧ ds.getD i none = some t
        · obtain ⟨i, hi, hd⟩ := hex
          have hoi : ops[i]? = some (ops[i]'(by omega)) := Array.getElem?_eq_getElem (by omega)
          have hip := S.looks ho hjn i t (by omega) hd htl
          rw [(hf i hi (hpl i hip)).2 t hd]
          exact (putAll_at _ _ (S.small hoi t (S.dst hoi ▸ hd)) (hl2 i hip t hd ht) hd fun k hk hdk => S.one hoi hi k t (by have := hps k (hl1 k hk); omega) hdk (S.dst hoi ▸ hd)).symm
        · rw [putAll_ne _ _ fun i hi hd => hex ⟨i, hps i (hl1 i hi), hd⟩, I.other t fun i hi hd => absurd ⟨i, hi, hd⟩ hex]
      have heval : ∀ x ∈ o.op.operands, a.eval x = c.eval x := by
        intro x hx
        cases x with
        | tmp t =>
          have := agree t hx
          simp only [Act.eval, Array.getD_eq_getD_getElem?]
          rw [this]
        | _ => rfl
      have hexec : execOp a.eval o = execOp c.eval o := execOp_congr o (fun cs b => S.nosel j o cs b ho) heval
      rw [hcdef] at hc
      have hcl := hc (fun e a' w' => e = .normal ∧ a'.defers = c.defers ∧ (if j = Y.s then Y.M w w' else Y.K w w') ∧ (F j).holds true w' (last a' o.dst)) fun a' w' h1 h2 h3 => ⟨rfl, h1, h2, h3⟩
      simp only [wpList, Region.wanted, if_true] at hcl
      rcases hcl with hcl | ⟨_, hout⟩
      · refine .inl ?_
        have hlast : ∀ v, last (c.put o.dst v) o.dst = v ∨ (o.dst = none ∧ last (c.put o.dst v) o.dst = undef) := by
          intro v
          cases hd : o.dst with
          | none => exact .inr ⟨rfl, rfl⟩
          | some d =>
            refine .inl ?_
            change ((c.put (some d) v).tmps[d]?).getD undef = v
            rw [put_at_same _ _ (by rw [hcsize]; exact S.small ho d hd)]
            rfl
        have fin : ∀ v w', (if j = Y.s then Y.M w w' else Y.K w w') → (F j).holds true w' (last (c.put o.dst v) o.dst) → wpAny P .any ops Q' fuel (listed.setIfInBounds j true) (a.put o.dst v) w' := by
          intro v w' h1 h2
          rcases hlast v with h | ⟨hn, h⟩
          · rw [h] at h2
            exact goOn w' _ v (.inl h1) h2 rfl
          · rw [h] at h2
            refine goOn w' _ undef (.inl h1) h2 ?_
            rw [hn]; rfl
        unfold Oper.wp at hcl ⊢
        rw [hexec]
        have hx2 : execOp c.eval { o with guard := none } = execOp c.eval o := rfl
        rw [hx2] at hcl
        generalize (execOp c.eval o).run P w = r at hcl ⊢
        cases r with
        | halt x w' => cases x <;> simp [Oper.upon] at hcl
        | ok n w' =>
          cases n
          case value v => exact fin v w' hcl.2.2.1 hcl.2.2.2
          case skip => exact fin undef w' hcl.2.2.1 hcl.2.2.2
          case defer d =>
            have h1 := hcl.2.1
            rw [put_defers'] at h1
            have := congrArg List.length h1
            simp at this
          case row row args => exact Rows.mono hcl fun v w'' h => fin v w'' h.2.2.1 h.2.2.2
          case enter fn args =>
            refine Calls.mono hcl fun e w'' h => ?_
            cases e with
            | returned v => exact fin v w'' h.2.2.1 h.2.2.2
            | panicked ch => simp at h
            | outgrown => obtain ⟨_, _, h, _⟩ := h; cases h
          all_goals exact hcl.elim
      · obtain ⟨_, _, h, _⟩ := hout
        cases h
    · rw [if_neg (by rw [hwant _ hs]; simp)]
      exact goOn w _ undef (.inr rfl) (by rw [hk]; rfl) rfl
/-- **THE LAW**: at a region that draws its order: the first ones in whatever order, the tail behind them. -/
theorem wp_region {id : Nat} {Q' : Exit → Act → World → Prop} {l tail : List Oper} {a : Act} {w : World} (Y : Way) (ds : List (Option Tmp)) (size : Nat) (hm : P.follows .mixedOrders = true) (hs : sane (l ++ tail).toArray ds size l.length = true) (hc : closes (l ++ tail).toArray l.length = true) (hz : a.tmps.size = size)
    (HY : Y.Fair) (hB : Y.B w.drew) (hB1 : Y.B1 w.drew) (h : walk P Y ds a (fun a w => wpList P #[] Q' (tail.map fun o => { o with guard := none }) a w) l []) : (Code.region id (l ++ tail).toArray true).wp P Q' a w := by
  subst hz
  have S := sane_spec hs
  have hpre : ∀ (j : Nat) (o : Oper), l[j]? = some o → (l ++ tail).toArray[j]? = some o := fun j o hj => by
    have := (List.getElem?_eq_some_iff.1 hj).1
    simpa [List.getElem?_append_left this] using hj
  obtain ⟨F, _, h2, h3⟩ := extract l [] (fun j o hj => ⟨fun i hi => by
    have := S.before (hpre j o hj) i hi
    simpa using this, fun g b hg => (S.guard (hpre j o hj) g b hg).1⟩) h
  have hsz : (l ++ tail).toArray.size = l.length + tail.length := by simp
  refine wp_region_any hm (wp_any (Q := fun a w => wpList P #[] Q' (tail.map fun o => { o with guard := none }) a w) (F := F) (a0 := a) (n := l.length) S HY (by omega) (fun j o hj ho => ?_) (closes_spec hc) (fun w' hw' => ?_) tail hsz.symm (fun i => ?_) (fun _ _ h => h) _ _ _ _ (by simp) ?_ ⟨hB, fun _ => hB1, rfl, rfl, fun j _ => ?_, fun j o _ hl => ?_, fun _ _ => rfl, fun _ => undef, fun i hi hl => ?_⟩)
  · have h4 : l[j]? = some l[j] := List.getElem?_eq_getElem hj
    have h5 := hpre j _ h4
    rw [h5] at ho
    obtain rfl := Option.some.inj ho
    have := h2 j _ h4
    simpa using this
  · have := h3 w' hw'
    simpa using this
  · rw [List.getElem?_toArray, List.getElem?_append_right (by omega), Nat.add_sub_cancel_left]
  · have := List.countP_le_length (p := fun i => !(Array.replicate (l ++ tail).toArray.size false).getD i true) (l := List.range (l ++ tail).toArray.size)
    simpa using this
  · by_cases hj : j < (l ++ tail).toArray.size
    · simp at hj; simp [hj]
    · simp at hj; simp [show ¬ j < l.length + tail.length by omega]
  · by_cases hj : j < (l ++ tail).toArray.size
    · simp at hj; simp [hj] at hl
    · simp at hj; simp [show ¬ j < l.length + tail.length by omega] at hl
  · have : i < l.length + tail.length := by omega
    simp [this] at hl
end
section
variable {P : Program} {Y : Way} {ds : List (Option Tmp)} {a0 : Act} {Q : Act → World → Prop} {Rs : List Know} {rest : List Oper}
section
variable {dst : Option Tmp} {op : Op} {type : TypeId} {pos : String} {after : Array Edge} {guard : Option (Nat × Bool)}
theorem op_is (v : Value) (l : List Nat) (hj : (Rs.length == Y.s) = false) (hs : says (look Rs) ⟨dst, op, type, pos, after, guard⟩ = some true) (hl : fits ds ⟨dst, op, type, pos, after, guard⟩ l = true)
    (h : ∀ w, Y.B w → from_ ds (look Rs) false w l a0 fun a => ∀ T : Exit → Act → World → Prop, (∀ a' w', a'.defers = a.defers → Y.K w w' → last a' dst = v → T .normal a' w') → wpList P #[] T [⟨dst, op, type, pos, #[], none⟩] a w)
    (hr : walk P Y ds a0 Q rest (.is v :: Rs)) : walk P Y ds a0 Q (⟨dst, op, type, pos, after, guard⟩ :: rest) Rs := by
  refine ⟨.is v, ⟨trivial, .inl ⟨hs, l, hl, fun w hw _ => ?_⟩⟩, hr⟩
  have hne : Rs.length ≠ Y.s := by simpa using hj
  simp only [hj, if_neg hne]
  exact h w hw
theorem op_of (r : World → Value → Prop) (l : List Nat) (hj : (Rs.length == Y.s) = false) (hk : ∀ w w' v, Y.K w w' → r w v → r w' v) (hm : ∀ w w' v, Y.M w w' → r w v → r w' v) (hs : says (look Rs) ⟨dst, op, type, pos, after, guard⟩ = some true) (hl : fits ds ⟨dst, op, type, pos, after, guard⟩ l = true)
    (h : ∀ w, Y.B w → from_ ds (look Rs) false w l a0 fun a => ∀ T : Exit → Act → World → Prop, (∀ a' w', a'.defers = a.defers → Y.K w w' → r w' (last a' dst) → T .normal a' w') → wpList P #[] T [⟨dst, op, type, pos, #[], none⟩] a w)
    (hr : walk P Y ds a0 Q rest (.of r :: Rs)) : walk P Y ds a0 Q (⟨dst, op, type, pos, after, guard⟩ :: rest) Rs := by
  refine ⟨.of r, ⟨⟨hk, fun _ => hm⟩, .inl ⟨hs, l, hl, fun w hw _ => ?_⟩⟩, hr⟩
  have hne : Rs.length ≠ Y.s := by simpa using hj
  simp only [hj, if_neg hne]
  exact h w hw
theorem op_till (r : World → Value → Prop) (l : List Nat) (hj : (Rs.length == Y.s) = false) (hk : ∀ w w' v, Y.K w w' → r w v → r w' v) (hs : says (look Rs) ⟨dst, op, type, pos, after, guard⟩ = some true) (hl : fits ds ⟨dst, op, type, pos, after, guard⟩ l = true)
    (h : ∀ w, Y.B w → from_ ds (look Rs) false w l a0 fun a => ∀ T : Exit → Act → World → Prop, (∀ a' w', a'.defers = a.defers → Y.K w w' → r w' (last a' dst) → T .normal a' w') → wpList P #[] T [⟨dst, op, type, pos, #[], none⟩] a w)
    (hr : walk P Y ds a0 Q rest (.till r :: Rs)) : walk P Y ds a0 Q (⟨dst, op, type, pos, after, guard⟩ :: rest) Rs := by
  have hne : Rs.length ≠ Y.s := by simpa using hj
  refine ⟨.till r, ⟨⟨hne, hk⟩, .inl ⟨hs, l, hl, fun w hw _ => ?_⟩⟩, hr⟩
  simp only [hj, if_neg hne]
  refine from_mono (fun a h T hT => h T fun a' w' h1 h2 h3 => hT a' w' h1 h2 fun _ => h3) (h w hw)
/-- the one that turns memory. -/
theorem op_turn (r : World → Value → Prop) (l : List Nat) (hj : Rs.length = Y.s) (hk : ∀ w w' v, Y.K w w' → r w v → r w' v) (hs : says (look Rs) ⟨dst, op, type, pos, after, guard⟩ = some true) (hl : fits ds ⟨dst, op, type, pos, after, guard⟩ l = true)
    (h : ∀ w, Y.B w → Y.B1 w → from_ ds (look Rs) true w l a0 fun a => ∀ T : Exit → Act → World → Prop, (∀ a' w', a'.defers = a.defers → Y.M w w' → r w' (last a' dst) → T .normal a' w') → wpList P #[] T [⟨dst, op, type, pos, #[], none⟩] a w)
    (hr : walk P Y ds a0 Q rest (.of r :: Rs)) : walk P Y ds a0 Q (⟨dst, op, type, pos, after, guard⟩ :: rest) Rs := by
  refine ⟨.of r, ⟨⟨hk, fun h => absurd hj h⟩, .inl ⟨hs, l, hl, fun w hw hw1 => ?_⟩⟩, hr⟩
  have hb : (Rs.length == Y.s) = true := by simpa using hj
  simp only [hb, if_pos hj]
  exact h w hw (hw1 hj)
end
theorem from_is {lk : Nat → Know} {pre : Bool} {w : World} {i : Nat} {l : List Nat} {a : Act} {G : Act → Prop} {v : Value} (d : Option Tmp) (hk : lk i = .is v) (hd : ds.getD i none = d) (h : from_ ds lk pre w l (a.put d v) G) : from_ ds lk pre w (i :: l) a G := by
  subst hd
  unfold from_
  rw [hk]
  exact h
theorem from_of {lk : Nat → Know} {pre : Bool} {w : World} {i : Nat} {l : List Nat} {a : Act} {G : Act → Prop} {r : World → Value → Prop} (d : Option Tmp) (hk : lk i = .of r) (hd : ds.getD i none = d) (h : ∀ v, r w v → from_ ds lk pre w l (a.put d v) G) : from_ ds lk pre w (i :: l) a G := by
  subst hd
  unfold from_
  rw [hk]
  exact h
theorem from_till {lk : Nat → Know} {w : World} {i : Nat} {l : List Nat} {a : Act} {G : Act → Prop} {r : World → Value → Prop} (d : Option Tmp) (hk : lk i = .till r) (hd : ds.getD i none = d) (h : ∀ v, r w v → from_ ds lk true w l (a.put d v) G) : from_ ds lk true w (i :: l) a G := by
  subst hd
  unfold from_
  rw [hk]
  exact fun v hv => h v (hv rfl)
theorem from_gone {lk : Nat → Know} {pre : Bool} {w : World} {i : Nat} {l : List Nat} {a : Act} {G : Act → Prop} {r : World → Value → Prop} (d : Option Tmp) (hk : lk i = .till r) (hd : ds.getD i none = d) (h : ∀ v, from_ ds lk pre w l (a.put d v) G) : from_ ds lk pre w (i :: l) a G := by
  subst hd
  unfold from_
  rw [hk]
  exact fun v _ => h v
theorem from_nil {lk : Nat → Know} {pre : Bool} {w : World} {a : Act} {G : Act → Prop} (h : G a) : from_ ds lk pre w [] a G := h
theorem walk_nil (l : List Nat) (hl : List.range Rs.length = l) (h : ∀ w, Y.B w → from_ ds (look Rs) (decide (Rs.length ≤ Y.s)) w l a0 fun a => Q a w) : walk P Y ds a0 Q [] Rs := by
  subst hl; exact h
end
/-- memory grows, and what there was stays. -/
def Keep (w w' : World) : Prop := Go.RowKit.Below w.heap.size w w'
theorem Keep.refl (w : World) : Keep w w := Go.RowKit.Below.refl _ w
theorem Keep.trans {a b c : World} (h : Keep a b) (k : Keep b c) : Keep a c := Go.RowKit.Below.trans h (Go.RowKit.Below.mono k h.size)
theorem keep_drew (w : World) : Keep w w.drew := ⟨rfl, rfl, rfl, Nat.le_refl _, fun _ _ => rfl⟩
/-- the plain way: memory grows. -/
def grows (w0 : World) (n : Nat) : Way := ⟨Keep, Keep, Keep w0, fun _ => True, n⟩
theorem grows_fair (w0 : World) (n : Nat) : (grows w0 n).Fair := ⟨fun _ _ h k => h.trans k, fun _ _ h k => h.trans k, fun _ _ _ _ => trivial⟩
end Go.Rg
end

section
namespace Go.Proofs.YtlbhmoiicbhgkaaDoor
open Go Go.RowKit Go.Shelf Go.Proofs
def NewNums (xs : List Int) (w : World) (e : Ending) (w' : World) : Prop := ∃ v, e = .returned v ∧ Own w' w.heap.size 24 v (xs.map (.int .u64)) ∧ Below w.heap.size w w'
theorem take_snoc' {α : Type} {l : List α} {k : Nat} {x : α} (h : l[k]? = some x) : l.take (k + 1) = l.take k ++ [x] := take_snocR h
/-- the params, as numbers. -/
structure Par where
  (P Q G H Nodes N T K D R M X : Int)
structure Par.ok (p : Par) : Prop where
  P : U64 p.P
  Q : U64 p.Q
  G : U64 p.G
  H : U64 p.H
  Nodes : I64 p.Nodes
  N : I64 p.N
  T : I64 p.T
  K : I64 p.K
  D : I64 p.D
  R : I64 p.R
  M : I64 p.M
  X : I64 p.X
/-- do they fit? -/
def fits (p : Par) : Bool := decide (p.K ≥ 0) && (decide (p.K ≤ 2) && (decide (p.D ≥ 0) && (decide (p.D ≤ 4) && (decide (p.M ≥ 0) && (decide (p.M ≤ 1048576) && (decide (p.X ≥ 0) && decide (p.X ≤ 1048576)))))))
def I64s (l : List Int) : Prop := ∀ z ∈ l, I64 z
theorem I64s.at_ {l : List Int} (h : I64s l) {k : Nat} {z : Int} (hk : l[k]? = some z) : I64 z := h z (List.mem_of_getElem? hk)
/-- lists of int64s, as rows. -/
def RowI (w : World) (v : Value) (l : List Int) : Prop := ∃ A c, v = .slice A l.length c ∧ Cells w A (l.map (.int .i64)) ∧ l.length ≤ 9223372036854775807
theorem RowI.keep {w w' : World} {v : Value} {l : List Int} (h : RowI w v l) (hk : ∀ p : Addr, p.block < w.heap.size → w'.cell? p = w.cell? p) : RowI w' v l := by
  obtain ⟨A, c, rfl, h1, h2⟩ := h
  exact ⟨A, c, rfl, h1.keep hk, h2⟩
def GridI (w : World) (A : Option Addr) (f : List (List Int)) : Prop :=
  ∃ vs : List Value, Cells w A vs ∧ vs.length = f.length ∧ ∀ (i : Nat) (l : List Int), f[i]? = some l → ∃ v, vs[i]? = some v ∧ RowI w v l
theorem GridI.keep {w w' : World} {A : Option Addr} {f : List (List Int)} (h : GridI w A f) (hk : ∀ p : Addr, p.block < w.heap.size → w'.cell? p = w.cell? p) : GridI w' A f := by
  obtain ⟨vs, h1, h2, h3⟩ := h
  exact ⟨vs, h1.keep hk, h2, fun i l hl => let ⟨v, a, b⟩ := h3 i l hl; ⟨v, a, b.keep hk⟩⟩
theorem GridI.below {w w' : World} {A : Option Addr} {f : List (List Int)} (h : GridI w A f) (hb : Below w.heap.size w w') : GridI w' A f := h.keep fun _ hp => hb.cell hp
theorem GridI.at_ {w : World} {A : Option Addr} {f : List (List Int)} (h : GridI w A f) {k : Nat} {l : List Int} (hk : f[k]? = some l) :
    ∃ b off A' c, A = some ⟨b, off, none⟩ ∧ w.cell? ⟨b, off + k, none⟩ = some (.slice A' l.length c) ∧ Cells w A' (l.map (.int .i64)) ∧ l.length ≤ 9223372036854775807 := by
  obtain ⟨vs, h1, h2, h3⟩ := h
  obtain ⟨v, hv, A', c, rfl, hc, hl⟩ := h3 k l hk
  obtain ⟨b, off, rfl, hcell⟩ := h1.at_ hv
  exact ⟨b, off, A', c, rfl, hcell, hc, hl⟩
def Ints (f : List (List Int)) : Prop := ∀ l ∈ f, I64s l
theorem Ints.at_ {f : List (List Int)} (h : Ints f) {k : Nat} {l : List Int} (hk : f[k]? = some l) : I64s l := h l (List.mem_of_getElem? hk)
end Go.Proofs.YtlbhmoiicbhgkaaDoor
end

section
namespace Go.Proofs.YtlbhmoiicbhgkaaDoor
open Go.RowKit
/-- blocks that are known whole (F: for long; L: the newest ahead), and that nothing but new blocks has come since w0. -/
structure Bun (w0 w : World) (F L : List (Nat × TypeId × List Value)) : Prop where
  b : Below w0.heap.size w0 w
  old : ∀ x ∈ F, Row1 w x.1 x.2.1 x.2.2
  rows : ∀ x ∈ L, Row1 w x.1 x.2.1 x.2.2
section
variable {w0 w w' : World} {F L L' : List (Nat × TypeId × List Value)}
theorem Bun.nil (w : World) : Bun w w [] [] := ⟨Below.refl _ _, (fun x h => by cases h), (fun x h => by cases h)⟩
theorem Bun.of (h : Below w0.heap.size w0 w) : Bun w0 w [] [] := ⟨h, (fun x h => by cases h), (fun x h => by cases h)⟩
theorem Bun.more (h : Bun w0 w F L) (hb : Below w.heap.size w w') : Bun w0 w' F L := ⟨below_next h.b h.b.size hb, fun x hx => (h.old x hx).below hb, fun x hx => (h.rows x hx).below hb⟩
theorem Bun.row (h : Bun w0 w F L) {i g : Nat} {e : TypeId} {xs : List Value} (hi : L[i]? = some (g, e, xs)) : Row1 w g e xs := h.rows _ (List.mem_of_getElem? hi)
theorem Bun.drop (h : Bun w0 w F L) : Bun w0 w F [] := ⟨h.b, h.old, fun x hx => by cases hx⟩
theorem Bun.keep (h : Bun w0 w F L) : Bun w0 w (L ++ F) [] := ⟨h.b, fun x hx => (List.mem_append.1 hx).elim (h.rows x) (h.old x), fun x hx => by cases hx⟩
theorem Bun.alloc (h : Bun w0 w F L) (xs : List Value) (e : TypeId) : Bun w0 (w.alloc (.cells xs.toArray e)) F ((w.heap.size, e, xs) :: L) :=
  ⟨below_next h.b h.b.size (below_alloc w _), fun x hx => (h.old x hx).alloc _, fun x hx => by
    rcases List.mem_cons.1 hx with rfl | hx
    · exact row1_new w xs e
    · exact (h.rows x hx).alloc _⟩
end
def isStore : Op → Bool
  | .store .. => true
  | _ => false
/-- the block that was laid last gets a name (behind its store). -/
theorem wpList_named {P : Program} {w0 w : World} {F L : List (Nat × TypeId × List Value)} (hB : Bun w0 w F L) {ops : Array Oper} {o : Oper} {rest : List Oper} {a : Act} {Q : Exit → Act → World → Prop} {xs : List Value} {e : TypeId} (_ : isStore o.op = false)
    (h : ∀ w' g, Bun w0 w' F ((g, e, xs) :: L) → Below w.heap.size w w' → w.heap.size = g → wpList P ops Q (o :: rest) a w') : wpList P ops Q (o :: rest) a (w.alloc (.cells xs.toArray e)) :=
  h _ _ (hB.alloc xs e) (below_alloc w _) rfl
/-- rows of equal length, one behind the other. -/
theorem flat_at {α : Type} (h : α → List Value) (n : Nat) (hn : ∀ t, (h t).length = n) : ∀ (l : List α) (k i : Nat), i < n → (l.flatMap h)[k * n + i]? = (l[k]?).bind fun t => (h t)[i]?
  | [], k, i, _ => by simp
  | t :: l, 0, i, hi => by
    rw [List.flatMap_cons, Nat.zero_mul, Nat.zero_add, List.getElem?_append_left (by rw [hn]; exact hi)]
    rfl
  | t :: l, k + 1, i, hi => by
    rw [List.flatMap_cons, List.getElem?_append_right (by rw [hn, Nat.succ_mul]; omega), hn, show (k + 1) * n + i - n = k * n + i by rw [Nat.succ_mul]; omega, flat_at h n hn l k i hi]
    rfl
end Go.Proofs.YtlbhmoiicbhgkaaDoor
end

section
namespace Go.Proofs.YtlbhmoiicbhgkaaDoor
open Go Go.RowKit Go.Maps Go.Shelf Go.Proofs
theorem elt_rows : Elt Tryd.prog 22 23 (.slice none 0 0) 24 := Elt.of Tryd.underlying22 (by kernel_rfl) rfl
/-- rows of the call's own, each in a block of its own. -/
structure RowsAt (w : World) (base : Nat) (v : Value) (n : Nat) (L : List (List Int)) (bs : List Nat) : Prop where
  own : Own w base 23 v (bs.map fun b => Value.slice (some ⟨b, 0, none⟩) n n)
  len : bs.length = L.length
  row : ∀ (i : Nat) (b : Nat) (l : List Int), bs[i]? = some b → L[i]? = some l → l.length = n ∧ Row1 w b 24 (u64v l)
  lo : ∀ b ∈ bs, base ≤ b
theorem own_ne_row {w : World} {base b : Nat} {e e' : TypeId} {v : Value} {xs ys : List Value} (h : Own w base e v xs) (k : Row1 w b e' ys) (hne : e ≠ e') : some b ≠ v.ownBlock := by
  rcases h.2 with ⟨rfl, _⟩ | ⟨g, cap, cur, rfl, _, hg, _⟩
  · intro e1; cases e1
  · intro e1
    simp only [Value.ownBlock, Option.some.injEq] at e1
    subst e1
    unfold Row1 at k
    rw [hg] at k
    simp only [Option.some.injEq, Obj.cells.injEq] at k
    exact hne k.2.1
theorem RowsAt.below {w w' : World} {base n : Nat} {v : Value} {L : List (List Int)} {bs : List Nat} (h : RowsAt w base v n L bs) (hb : Below w.heap.size w w') : RowsAt w' base v n L bs :=
  ⟨h.own.below hb, h.len, fun i b l h1 h2 => ⟨(h.row i b l h1 h2).1, (h.row i b l h1 h2).2.below hb⟩, h.lo⟩
theorem RowsAt.grid {w : World} {base n : Nat} {v : Value} {L : List (List Int)} {bs : List Nat} (h : RowsAt w base v n L bs) (hn : n ≤ 9223372036854775807) : ∃ A c, v = .slice A L.length c ∧ Grid w A L := by
  obtain ⟨A, cap, rfl, hc⟩ := h.own.form
  refine ⟨A, cap, by rw [List.length_map, h.len], _, hc, by rw [List.length_map, h.len], fun i l hl => ?_⟩
  have hi : i < bs.length := by rw [h.len]; exact (List.getElem?_eq_some_iff.1 hl).1
  obtain ⟨h1, h2⟩ := h.row i _ l (List.getElem?_eq_getElem hi) hl
  refine ⟨.slice (some ⟨bs[i], 0, none⟩) n n, by rw [List.getElem?_map, List.getElem?_eq_getElem hi]; rfl, some ⟨bs[i], 0, none⟩, n, by rw [h1], h2.cells, by omega⟩
theorem RowsAt.push {w w' : World} {base n b : Nat} {v v' : Value} {L : List (List Int)} {bs : List Nat} {l : List Int} (h : RowsAt w base v n L bs) (hk : ∀ k, k < w.heap.size → some k ≠ v.ownBlock → w'.heap[k]? = w.heap[k]?) (ho : Own w' base 23 v' ((bs.map fun b => Value.slice (some ⟨b, 0, none⟩) n n) ++ [.slice (some ⟨b, 0, none⟩) n n])) (hl : l.length = n) (hr : Row1 w b 24 (u64v l)) (hb : base ≤ b) : RowsAt w' base v' n (L ++ [l]) (bs ++ [b]) := by
  have keep : ∀ (b : Nat) (ys : List Value), Row1 w b 24 ys → Row1 w' b 24 ys := fun b ys k => k.keep (hk b k.lt (own_ne_row h.own k (by decide)))
  refine ⟨by rw [List.map_append]; exact ho, by rw [List.length_append, List.length_append, h.len]; rfl, fun i b' l' h1 h2 => ?_, fun b' hb' => ?_⟩
  · by_cases hi : i < bs.length
    · rw [List.getElem?_append_left hi] at h1
      rw [List.getElem?_append_left (by rw [← h.len]; exact hi)] at h2
      obtain ⟨a1, a2⟩ := h.row i b' l' h1 h2
      exact ⟨a1, keep _ _ a2⟩
    · rw [List.getElem?_append_right (by omega)] at h1
      rw [List.getElem?_append_right (by rw [← h.len]; omega), ← h.len] at h2
      have hi2 : i - bs.length = 0 := by
        have := (List.getElem?_eq_some_iff.1 h1).1
        simp at this
        omega
      rw [hi2] at h1 h2
      obtain rfl := Option.some.inj h1
      obtain rfl := Option.some.inj h2
      exact ⟨hl, keep _ _ hr⟩
  · rcases List.mem_append.1 hb' with h1 | h1
    · exact h.lo b' h1
    · obtain rfl := List.mem_singleton.1 h1
      exact hb
end Go.Proofs.YtlbhmoiicbhgkaaDoor
end

section
namespace Go.Proofs.YtlbhmoiicbhgkaaDoor
open Go Go.RowKit Go.Maps Go.Shelf Go.Proofs
/-- a query. -/
structure Ask where
  id : Int
  x : List Int
/-- a query as two cells. -/
structure AskV where
  id : Int
  v : Value
abbrev acl (a : AskV) : List Value := [.int .i64 a.id, a.v]
theorem flatA_at (l : List AskV) (k : Nat) : (l.flatMap acl)[k * 2]? = (l[k]?).map (fun a => Value.int .i64 a.id) ∧ (l.flatMap acl)[k * 2 + 1]? = (l[k]?).map AskV.v := by
  have h0 := flat_at acl 2 (fun _ => rfl) l k 0 (by decide)
  have h1 := flat_at acl 2 (fun _ => rfl) l k 1 (by decide)
  rw [Nat.add_zero] at h0
  rw [h0, h1]
  cases l[k]? <;> exact ⟨rfl, rfl⟩
/-- these cells read as these queries. -/
def AsksV (w : World) (vs : List AskV) (l : List Ask) : Prop := vs.length = l.length ∧ ∀ (i : Nat) (a : Ask), l[i]? = some a → ∃ u, vs[i]? = some u ∧ u.id = a.id ∧ RowI w u.v a.x
/-- the slice at A reads as these queries. -/
def Asks (w : World) (A : Option Addr) (l : List Ask) : Prop := ∃ vs : List AskV, Cells w A (vs.flatMap acl) ∧ AsksV w vs l
theorem AsksV.keep {w w' : World} {vs : List AskV} {l : List Ask} (h : AsksV w vs l) (hk : ∀ p : Addr, p.block < w.heap.size → w'.cell? p = w.cell? p) : AsksV w' vs l :=
  ⟨h.1, fun i a hi => let ⟨u, h1, h2, h3⟩ := h.2 i a hi; ⟨u, h1, h2, h3.keep hk⟩⟩
theorem Asks.below {w w' : World} {A : Option Addr} {l : List Ask} (h : Asks w A l) (hb : Below w.heap.size w w') : Asks w' A l := by
  obtain ⟨vs, h1, h2⟩ := h
  exact ⟨vs, h1.below hb, h2.keep fun _ hp => hb.cell hp⟩
theorem Asks.dr {w w' : World} {A : Option Addr} {l : List Ask} (h : Asks w A l) (hd : Dr w w') : Asks w' A l := by
  obtain ⟨n, rfl⟩ := hd; exact h
theorem Asks.at_ {w : World} {A : Option Addr} {l : List Ask} (h : Asks w A l) {k : Nat} {a : Ask} (hk : l[k]? = some a) :
    ∃ b off A' c, A = some ⟨b, off, none⟩ ∧ w.cell? ⟨b, off + k * 2, none⟩ = some (.int .i64 a.id) ∧ w.cell? ⟨b, off + k * 2 + 1, none⟩ = some (.slice A' a.x.length c) ∧ Cells w A' (a.x.map (.int .i64)) ∧ a.x.length ≤ 9223372036854775807 := by
  obtain ⟨vs, h1, _, h3⟩ := h
  obtain ⟨u, hu, hid, A', c, hv, hc, hl⟩ := h3 k a hk
  obtain ⟨f1, f2⟩ := flatA_at vs k
  rw [hu] at f1 f2
  obtain ⟨b, off, rfl, hcell⟩ := h1.at_ f1
  obtain ⟨b2, off2, e2, hcell2⟩ := h1.at_ f2
  cases e2
  refine ⟨b, off, A', c, rfl, by rw [hcell]; show some (Value.int .i64 u.id) = _; rw [hid], ?_, hc, hl⟩
  rw [← hv, Nat.add_assoc]; exact hcell2
/-- the first of them. -/
theorem Asks.take {w : World} {A : Option Addr} {l : List Ask} (h : Asks w A l) (k : Nat) : Asks w A (l.take k) := by
  obtain ⟨vs, h1, h2, h3⟩ := h
  refine ⟨vs.take k, ?_, by rw [List.length_take, List.length_take, h2], fun i a hi => ?_⟩
  · have e : vs.flatMap acl = (vs.take k).flatMap acl ++ (vs.drop k).flatMap acl := by rw [← List.flatMap_append, List.take_append_drop]
    rcases h1 with h | ⟨b, off, rfl, hc⟩
    · rw [e] at h
      exact .inl (List.append_eq_nil_iff.1 h).1
    · refine .inr ⟨b, off, rfl, fun i u hu => hc i u ?_⟩
      rw [e, List.getElem?_append_left (List.getElem?_eq_some_iff.1 hu).1]
      exact hu
  · rw [List.getElem?_take] at hi
    split at hi
    · rename_i hik
      obtain ⟨u, hu, h4⟩ := h3 i a hi
      exact ⟨u, by rw [List.getElem?_take, if_pos hik]; exact hu, h4⟩
    · cases hi
/-- what queries are. -/
structure AskOk (l : List Ask) : Prop where
  few : l.length ≤ 1000
  id : ∀ a ∈ l, I64 a.id
  x : ∀ a ∈ l, I64s a.x
  len : ∀ a ∈ l, a.x.length ≤ 1000000
theorem AskOk.take {l : List Ask} (h : AskOk l) (k : Nat) : AskOk (l.take k) := ⟨by have := h.few; rw [List.length_take]; omega, fun a ha => h.id a (List.mem_of_mem_take ha), fun a ha => h.x a (List.mem_of_mem_take ha), fun a ha => h.len a (List.mem_of_mem_take ha)⟩
theorem OwnRows.grid {w : World} {base : Nat} {e0 e : TypeId} {v : Value} {f : List (List Int)} (h : OwnRows w base e0 e v (f.map u64v)) : ∃ A c, v = .slice A f.length c ∧ Grid w A f := by
  obtain ⟨vs, h1, h2, h3⟩ := h
  obtain ⟨A, c, rfl, hc⟩ := h1.form
  have hl : vs.length = f.length := by rw [h2, List.length_map]
  refine ⟨A, c, by rw [hl], vs, hc, hl, fun i l hi => ?_⟩
  obtain ⟨u, hu⟩ := get_of_lt (l := vs) (k := i) (by rw [hl]; exact (List.getElem?_eq_some_iff.1 hi).1)
  obtain ⟨A', c', rfl, hcs, hln⟩ := (h3 i u (u64v l) hu (by rw [List.getElem?_map, hi]; rfl)).form
  rw [List.length_map] at hln
  exact ⟨_, hu, A', c', by rw [List.length_map], hcs, hln⟩
end Go.Proofs.YtlbhmoiicbhgkaaDoor
end

section
namespace Go.Proofs.YtlbhmoiicbhgkaaDoor
open Go.ChangeShapes Go.WideShapes Go.ChangeAt Go.RowKit Go.Deep
section
variable {H : Type} {enc : TypeId × Value → H}
set_option maxRecDepth 100000 in
theorem words_at {fuel : Nat} {v : Value} {x : DataW H × List MemPlace} {w : World} (h : DataW.trod enc Tryd.prog w 0 (fun _ => true) true fuel 23 [v] = some x) :
    ∃ (A : Option Addr) (l : List Int) (c : Nat), v = .slice A l.length c ∧ Cells w A (l.map (.int .u64)) ∧ l.length ≤ 9223372036854775807 ∧ U64s l := by
  obtain ⟨A, l, c, h1, h2, h3, h4⟩ := nums_at Tryd.underlying23 Tryd.underlying24 (by kernel_rfl) h
  exact ⟨A, l, c, h1, h2, h3, fun z hz => u64_of (h4 z hz)⟩
set_option maxRecDepth 100000 in
/-- a value of one cell. -/
theorem one_of {w : World} {base : Nat} {spare : Nat → Bool} {held : Bool} {t : TypeId} {v : Value} {d : DataW H} {p : List MemPlace} {r : Reach} {b0 : Nat} {e : TypeId} (ht : Tryd.prog.underlying t = some (.slice e)) (hv : Value.okWide Tryd.prog w r b0 t v) (h : DataW.Trod enc Tryd.prog w base spare held t v d p) :
    ∃ fuel, DataW.trod enc Tryd.prog w base spare held fuel t [v] = some (d, p) := by
  obtain ⟨fuel, hf⟩ := h
  obtain ⟨a, n, c, rfl⟩ := okWide_slice ht hv
  exact ⟨fuel, hf⟩
end
end Go.Proofs.YtlbhmoiicbhgkaaDoor
end

section
namespace Go.Proofs.YtlbhmoiicbhgkaaDoor
open Go.ChangeShapes Go.WideShapes Go.ChangeAt Go.RowKit
abbrev laidB : List (String × DataW Unit) := [("math/bits.deBruijn64tab", Rows.laid_math_bits_deBruijn64tab), ("consistory/mod.tried", Rows.laid_consistory_mod_tried)]
theorem tabs_of_laid {W : World} (h : laidMetH Tryd.prog laidB W) : Tabs W := by
  rw [MakeChecks.laidMetH_plain _ _ _ (by kernel_rfl)] at h
  have h1 : Lib.TabIs Tryd.prog W "math/bits.deBruijn64tab" .u8 (Lib.deBruijn64tab.map (fun n : Nat => (n : Int))) :=
    Lib.tabIs_of_head (g := 1) (n := 64) (t := 125) (e := 5) (by kernel_rfl) (by kernel_rfl) (by kernel_rfl) (by kernel_rfl) (by kernel_rfl) (by kernel_rfl) h
  have h2 : Lib.TabIs Tryd.prog W "consistory/mod.tried" .u64 triedL :=
    Lib.tabIs_of_head (g := 0) (n := 12) (t := 111) (e := 24) (by kernel_rfl) (by kernel_rfl) (by kernel_rfl) (by kernel_rfl) (by kernel_rfl) (by kernel_rfl) h.tail
  refine ⟨fun j hj => ?_, fun k z hz => ?_⟩
  · have := h1.cell (g := 1) (by kernel_rfl) j (by simpa using hj)
    rw [this]
    simp [List.getD_eq_getElem?_getD, List.getElem?_map, List.getElem?_eq_getElem hj]
  · have hk := (List.getElem?_eq_some_iff.1 hz).1
    have := h2.cell (g := 0) (by kernel_rfl) k hk
    rw [this, List.getD_eq_getElem?_getD, hz]; rfl
set_option maxRecDepth 100000 in
theorem door_met (os : Os) (args : Array Value) : laidMetH Tryd.prog laidB ((World.doorLaid Tryd.prog 400 os).forCall (fun _ _ => 0) ⟨#[], args, []⟩).memory :=
  laidMetH_of_parts3 (fuel := 8) (laidMet_of_run' 8 (by kernel_rfl) (by kernel_rfl)) (by kernel_rfl) (by kernel_rfl)
theorem own_knob : ownKnob Tryd.prog.godebug = none := by kernel_rfl
end Go.Proofs.YtlbhmoiicbhgkaaDoor
end

section
namespace Go.Proofs.YtlbhmoiicbhgkaaDoor
open Go Go.RowKit
/-- 'append(s, l...)': l may be nothing. -/
theorem wp_more {P : Program} {t e : TypeId} {z : Value} {bytes : Nat} (E : Elt P t e z bytes) (wr : World) {o : Oper} {a : Act} {K : Act → World → Prop} {Q : Exit → Act → World → Prop}
    (s x : Operand) (hop : o.op = .call { callee := .builtin .append, args := #[s, x], argTypes := #[t, t] })
    (base : Nat) {v : Value} {xs : List Value} (hown : Own wr base e v xs) (hs : a.eval s = v) {A : Option Addr} {c : Nat} {news : List Value} (hnew : Cells wr A news) (hx : a.eval x = .slice A news.length c) (h1 : ∀ u ∈ news, u.oneCell' = true)
    (hb : (xs.length + news.length) * bytes ≤ 140737488355328) (hm : xs.length + news.length ≤ 9223372036854775807) (hbase : base ≤ wr.heap.size)
    (hK : ∀ v' w', Own w' base e v' (xs ++ news) → Below base wr w' → K (a.put o.dst v') w') :
    o.wp P a wr K Q := by
  obtain ⟨i, hi, hz, hsz, hby⟩ := E.info
  by_cases h0 : news = []
  · subst h0
    have hsrc : Src P i.size t (.slice A ([] : List Value).length c) 0 [] wr := by
      cases A with
      | none => exact Src.ofNil wr E.under c
      | some A => exact Src.ofSlice wr E.under A 0 c [] (by simp) (fun j u hu => by simp at hu) (fun u hu => by cases hu)
    have key : ∀ (A0 : Option Addr) (n cap : Nat), v = .slice A0 n cap → n ≤ cap → o.wp P a wr K Q := fun A0 n cap e1 hle => by
      have hrun := run_append_nothing (P := P) wr t t o.type e i E.under hi A0 n cap hle _ hsrc
      unfold Oper.wp
      rw [e1] at hs
      simp only [List.length_nil] at hx hrun
      simp [execOp, hop, resolve, invoke, builtin, hs, hx, hrun, Result.andThen]
      have := hK v wr (by rw [List.append_nil]; exact hown) (Below.refl _ _)
      rwa [e1] at this
    rcases hown.2 with ⟨h2, h3⟩ | ⟨g, cap, cur, h2, hb2, hg2, hn, hm2, hs2, ht⟩
    · exact key none 0 0 h2 (Nat.le_refl _)
    · refine key _ _ cap h2 ?_
      first | exact hn | exact hm2 | omega
  · rcases hnew with h | ⟨b, off, rfl, hc⟩
    · exact absurd h h0
    · refine wp_append_own (P := P) wr s x t hop base e i z 1 bytes E.under hi hz hsz hby E.one (by decide) v xs.length xs hs hown ⟨b, off, none⟩ news.length c news hx (by omega) (fun j u hu => ?_) h1 (by unfold maxLen; omega) hb hbase ?_
      · have hadd : (⟨b, off, none⟩ : Addr).add j = ⟨b, off + j, none⟩ := by unfold Addr.add; split <;> simp_all
        rw [hadd]
        exact hc j u hu
      · intro v' w' h2 h3 _
        refine hK v' w' ?_ ((Below.refl _ _).grown h3 hbase fun k hk => (hown.block k hk).1)
        unfold Own; rw [List.length_append]; exact h2
theorem wpList_more {P : Program} {t e : TypeId} {z : Value} {bytes : Nat} (E : Elt P t e z bytes) (wr : World) {ops : Array Oper} {rest : List Oper} {o : Oper} {a : Act} {Q : Exit → Act → World → Prop}
    (hg : Region.wanted o (yielded ops a.tmps) = true) (s x : Operand) (hop : o.op = .call { callee := .builtin .append, args := #[s, x], argTypes := #[t, t] })
    (base : Nat) {v : Value} {xs : List Value} (hown : Own wr base e v xs) (hs : a.eval s = v) {A : Option Addr} {c : Nat} {news : List Value} (hnew : Cells wr A news) (hx : a.eval x = .slice A news.length c) (h1 : ∀ u ∈ news, u.oneCell' = true)
    (hb : (xs.length + news.length) * bytes ≤ 140737488355328) (hm : xs.length + news.length ≤ 9223372036854775807) (hbase : base ≤ wr.heap.size)
    (hK : ∀ v' w', Own w' base e v' (xs ++ news) → Below base wr w' → wpList P ops Q rest (a.put o.dst v') w') :
    wpList P ops Q (o :: rest) a wr := by
  refine wpList_step fun K hK' => ?_
  rw [if_pos hg]
  exact wp_more E wr s x hop base hown hs hnew hx h1 hb hm hbase fun v' w' h2 h3 => hK' _ _ (hK v' w' h2 h3)
end Go.Proofs.YtlbhmoiicbhgkaaDoor
end

section
namespace Go.Proofs.YtlbhmoiicbhgkaaDoor
open Go.RowKit
/-- how a round's body ends: it goes on. -/
def GoesOn {α : Type} (Kp : World → World → Prop) (I : List α → World → Prop) (xs : List α) (A : World) (e : Exit) (_ : Act) (B : World) : Prop :=
  e = .normal ∧ KeepsOthers A B ∧ Kp A B ∧ A.heap.size ≤ B.heap.size ∧ I xs B
theorem wpIn_rangeAll {α : Type} {F : Fence} {n : Nat} {P : Program} {g : Operand} {ps : Array Tmp} {assign body : Code} {Q : Exit → Act → World → Prop} {a : Act} {w : World}
    (hro : F.round = none) (h1 : 1 ≤ n) {gf : Nat} {lb : Array Value} (hg : a.eval g = .func (.func gf) #[] lb) (hFg : F.fn gf) (eg : ∀ args w, (callFunc gf args).run P w = .ok (.enter gf args) w)
    {encs : α → Array Value} (hps : ∀ x, (encs x).size = ps.size) (I : List α → World → Prop) (Ok : α → World → Prop) (S : List α → Prop) (Kp : World → World → Prop)
    (hIb : ∀ xs A B, w.heap.size ≤ A.heap.size → I xs A → Below A.heap.size A B → I xs B)
    (hIp : ∀ xs A l o o', I xs A → w.heap.size ≤ l → A.heap[l]? = some o → o.isCells = false → I xs (A.putObj l o'))
    (hOp : ∀ x A l o o', Ok x A → w.heap.size ≤ l → A.heap[l]? = some o → o.isCells = false → Ok x (A.putObj l o'))
    (hKt : ∀ A B C : World, Kp A B → Kp B C → Kp A C)
    (hKp : ∀ (A : World) l o o', w.heap.size ≤ l → A.heap[l]? = some o → o.isCells = false → Kp A (A.putObj l o'))
    (h0 : I [] w)
    (hit : ∀ (l : Nat) (J : List α → World → Prop) (W : World), Below w.heap.size w W → (∀ xs A B, W.heap.size ≤ A.heap.size → J xs A → Below A.heap.size A B → J xs B) →
      (∀ pre x A, W.heap.size ≤ A.heap.size → J pre A → Ok x A → YieldAt F (n - 1 - 1) P l (encs x) A fun e B => e = .returned (.bool true) ∧ J (pre ++ [x]) B ∧ Kp A B ∧ A.heap.size ≤ B.heap.size) → J [] W →
      CallsIn F (n - 1) P gf (#[.func (.yield l) #[] #[]] ++ lb) W fun e B => (∃ v, e = .returned v) ∧ ∃ xs, S xs ∧ J xs B)
    (a₁ : α → Act)
    (hassign : ∀ (l : Nat) (x : α) (W : World) (K : Act → World → Prop), K (a₁ x) W →
      assign.wpIn (F.inRound l) (n - 1 - 1) P (Exit.then K (fun _ _ _ => False)) { tmps := (ps.zip (encs x)).foldl (fun t (p, v) => t.setIfInBounds p v) a.tmps, defers := [] } W)
    (hbody : ∀ (l : Nat) (pre : List α) (x : α) (A : World), w.heap.size ≤ A.heap.size → I pre A → Ok x A → body.wpIn (F.inRound l) (n - 1 - 1) P (GoesOn Kp I (pre ++ [x]) A) (a₁ x) A)
    (hdone : ∀ (D : Nat) (xs : List α) (A : World), w.heap.size ≤ D → S xs → I xs A → A.heap[D]? = some (.deferred (some [])) → Q .normal { a with defers := { target := .collected D, args := #[] } :: a.defers } A) :
    (Code.rangeFunc g ps assign body).wpIn F n P Q a w := by
  refine wpIn_rangeFunc fun fn hfn => ?_
  rw [hro]
  -- the record, in each of its states
  let R : LoopState → Loop := fun st => { state := st, pending := none, fn, tmps := a.tmps, params := ps, assign, body, defers := w.heap.size }
  let d := w.heap.size
  let l := w.heap.size + 1
  let W0 := (w.alloc (.deferred (some []))).alloc (.loop (R .ready))
  have hL0 : W0.heap[l]? = some (.loop (R .ready)) := by
    have := World.alloc_heap_new (w.alloc (.deferred (some []))) (.loop (R .ready))
    rwa [World.size_alloc] at this
  have hD0 : W0.heap[d]? = some (.deferred (some [])) := (Below.heap_alloc _ _ _ (by simp [d])).trans (World.alloc_heap_new w _)
  have hb0 : Below w.heap.size w W0 := ((Below.refl _ w).alloc (Nat.le_refl _) _).alloc (by simp) _
  have hI0 : I [] W0 := hIb _ _ _ (by simp) (hIb _ _ _ (Nat.le_refl _) h0 ((Below.refl _ w).alloc (Nat.le_refl _) _)) ((Below.refl _ _).alloc (Nat.le_refl _) _)
  have hs0 : W0.heap.size = w.heap.size + 2 := by simp [W0]
  refine ⟨l, [{ target := .collected d, args := #[] }], W0, { target := .fn (.func gf) lb, args := #[.func (.yield l) #[] #[]] }, W0, gf, #[.func (.yield l) #[] #[]] ++ lb, W0, run_enterLoop_outer _ _ _ _ _, ?_, ?_, ?_, fun _ => h1, ?_⟩
  · simp only [resolve, hg]
    simp [go_sem]
  · intro f' hf'
    simp [Target.leads] at hf'
    subst hf'
    exact hFg
  · simp [invoke, go_sem, eg]
  · refine (hit l (fun xs A => I xs A ∧ A.heap[l]? = some (.loop (R .ready)) ∧ A.heap[d]? = some (.deferred (some []))) W0 hb0 (fun xs A B hA hJ hb => ?_) (fun pre x A hA hJ hx => ?_) ⟨hI0, hL0, hD0⟩).mono ?_
    · exact ⟨hIb _ _ _ (by omega) hJ.1 hb, (hb.block _ (by omega)).trans hJ.2.1, (hb.block _ (by omega)).trans hJ.2.2⟩
    · obtain ⟨hi, hl, hd⟩ := hJ
      have hy := run_yield (P := P) (args := encs x) hl (hps x)
      refine ⟨fn, _, assign, body, hy, roundIn_of_wpIn hfn (hassign l x A _ ⟨_, run_beginRound hl rfl, ?_⟩)⟩
      have hll : l < A.heap.size := by omega
      have hi2 := hIp _ _ _ _ (.loop { R .ready with state := .busy }) hi (by omega) hl rfl
      have hx2 := hOp _ _ _ _ (.loop { R .ready with state := .busy }) hx (by omega) hl rfl
      have hk2 := hKp A l _ (.loop { R .ready with state := .busy }) (by omega) hl rfl
      have hl2 : (A.putObj l (.loop { R .ready with state := .busy })).heap[l]? = some (.loop { R .ready with state := .busy }) := World.putObj_heap_same hll
      have hd2 : (A.putObj l (.loop { R .ready with state := .busy })).heap[d]? = some (.deferred (some [])) := (World.putObj_heap_other (by omega)).trans hd
      refine wpIn_mono (hbody l pre x _ (by simp; omega) hi2 hx2) ?_
      rintro e a3 B ⟨rfl, ho, hkb, hsz, hib⟩
      rw [World.putObj_size] at hsz
      have hl3 := ho.same _ _ hl2 rfl
      have hd3 := ho.same _ _ hd2 rfl
      refine ⟨_, _, run_endRound none hl3, rfl, ⟨hIp _ _ _ _ _ hib (by omega) hl3 rfl, World.putObj_heap_same (by omega), (World.putObj_heap_other (by omega)).trans hd3⟩, hKt _ _ _ (hKt _ _ _ hk2 hkb) (hKp B l _ _ (by omega) hl3 rfl), by simp; omega⟩
    · rintro e B ⟨⟨v, rfl⟩, xs, hS, hi, hl, hd⟩
      have hll := (Array.getElem?_eq_some_iff.1 hl).1
      exact ⟨none, _, run_endLoop hl (by simp [R]), hdone d xs _ (Nat.le_refl _) hS (hIp _ _ _ _ _ hi (by omega) hl rfl) ((World.putObj_heap_other (by omega)).trans hd)⟩
end Go.Proofs.YtlbhmoiicbhgkaaDoor
end

section
namespace Go.Proofs.YtlbhmoiicbhgkaaDoor
open Go.RowKit
/-- what lies from N on stays. -/
def Up (N : Nat) (A B : World) : Prop := A.heap.size ≤ B.heap.size ∧ ∀ b, N ≤ b → b < A.heap.size → B.heap[b]? = A.heap[b]?
theorem Up.refl (N : Nat) (A : World) : Up N A A := ⟨Nat.le_refl _, fun _ _ _ => rfl⟩
theorem Up.trans {N : Nat} {A B C : World} (h : Up N A B) (k : Up N B C) : Up N A C := ⟨Nat.le_trans h.1 k.1, fun b h1 h2 => (k.2 b h1 (Nat.lt_of_lt_of_le h2 h.1)).trans (h.2 b h1 h2)⟩
theorem Up.from_ {N M : Nat} {A B : World} (h : Up N A B) (hm : N ≤ M) : Up M A B := ⟨h.1, fun b h1 h2 => h.2 b (Nat.le_trans hm h1) h2⟩
theorem Up.below {N : Nat} {A B : World} (h : Below A.heap.size A B) : Up N A B := ⟨h.size, fun b _ h2 => h.block b h2⟩
theorem Up.put {N l : Nat} {A : World} {o' : Obj} (hl : l < N) : Up N A (A.putObj l o') := ⟨by simp, fun b h1 _ => World.putObj_heap_other (by omega)⟩
/-- rows that lie from N on stay. -/
def CellsUp (N : Nat) (A B : World) : Prop := ∀ b arr e fz, N ≤ b → A.heap[b]? = some (.cells arr e fz) → B.heap[b]? = A.heap[b]?
theorem CellsUp.refl (N : Nat) (A : World) : CellsUp N A A := fun _ _ _ _ _ _ => rfl
theorem CellsUp.trans {N : Nat} {A B C : World} (h : CellsUp N A B) (k : CellsUp N B C) : CellsUp N A C := fun b arr e fz h1 h2 => (k b arr e fz h1 ((h b arr e fz h1 h2).trans h2)).trans (h b arr e fz h1 h2)
theorem CellsUp.from_ {N M : Nat} {A B : World} (h : CellsUp N A B) (hm : N ≤ M) : CellsUp M A B := fun b arr e fz h1 h2 => h b arr e fz (Nat.le_trans hm h1) h2
theorem CellsUp.below {N : Nat} {A B : World} (h : Below A.heap.size A B) : CellsUp N A B := fun b _ _ _ _ h2 => h.block b (Array.getElem?_eq_some_iff.1 h2).1
theorem CellsUp.of_up {N : Nat} {A B : World} (h : Up N A B) : CellsUp N A B := fun b _ _ _ h1 h2 => h.2 b h1 (Array.getElem?_eq_some_iff.1 h2).1
theorem CellsUp.put {N l : Nat} {A : World} {o o' : Obj} (hl : A.heap[l]? = some o) (hc : o.isCells = false) : CellsUp N A (A.putObj l o') := fun b arr e fz _ h2 => World.putObj_heap_other (fun e' => by
  subst e'
  rw [hl] at h2
  obtain rfl := Option.some.inj h2
  cases hc)
theorem Row1.up {N : Nat} {A B : World} {g : Nat} {e : TypeId} {xs : List Value} (h : Row1 A g e xs) (hu : CellsUp N A B) (hg : N ≤ g) : Row1 B g e xs := h.keep (hu g _ _ _ hg h)
theorem below_putR {n0 : Nat} {A : World} {l : Nat} (o' : Obj) (_ : n0 ≤ A.heap.size) (hn : n0 ≤ l) : Below n0 A (A.putObj l o') :=
  ⟨rfl, rfl, rfl, by simp, fun b hb => World.putObj_heap_other (by omega)⟩
/-- how a round may end. -/
def StopsPost {α : Type} (N0 N : Nat) (I : List α → World → Prop) (Ix : Code → List α → World → Prop) (xs : List α) (A : World) : Exit → Act → World → Prop
  | .normal, _, B => (Up N A B ∧ CellsUp N0 A B) ∧ I xs B
  | .ret, _, B => (Up N A B ∧ CellsUp N0 A B) ∧ Ix .ret xs B
  | .exit id, _, B => (Up N A B ∧ CellsUp N0 A B) ∧ Ix (.exit id) xs B
  | .goto _, _, _ => False
  | .panic _, _, _ => False
  | .outgrown, _, _ => False
/-- an iterator: whoever asks it in whatever way, it hands on, one by one, what S tells, or the first ones, till it is told to stop. -/
def SeqO {α : Type} (F : Fence) (n : Nat) (P : Program) (gf : Nat) (lb : Array Value) (encs : α → Array Value) (Ok : α → World → Prop) (S Sp : List α → Prop) (N0 : Nat) (w : World) : Prop :=
  ∀ (l : Nat) (J Jx : List α → World → Prop) (W : World), Below w.heap.size w W → (∀ xs A B, J xs A → Below W.heap.size A B → J xs B) → (∀ xs A B, Jx xs A → Below W.heap.size A B → CellsUp 0 A B → Jx xs B) →
    (∀ pre x A, W.heap.size ≤ A.heap.size → J pre A → Ok x A → YieldAt F (n - 1) P l (encs x) A fun e B => ((e = .returned (.bool true) ∧ J (pre ++ [x]) B) ∨ (e = .returned (.bool false) ∧ Jx (pre ++ [x]) B)) ∧ Up W.heap.size A B ∧ CellsUp N0 A B) →
    J [] W → CallsIn F n P gf (#[.func (.yield l) #[] #[]] ++ lb) W fun e B => (∃ v, e = .returned v) ∧ ((∃ xs, S xs ∧ J xs B) ∨ (∃ pre, Sp pre ∧ Jx pre B))
theorem wpIn_rangeStop {α : Type} {F : Fence} {n : Nat} {P : Program} {g : Operand} {ps : Array Tmp} {assign body : Code} {Q : Exit → Act → World → Prop} {a : Act} {w : World}
    (hro : F.round = none) (h1 : 1 ≤ n) {gf : Nat} {lb : Array Value} (hg : a.eval g = .func (.func gf) #[] lb) (hFg : F.fn gf) (eg : ∀ args w, (callFunc gf args).run P w = .ok (.enter gf args) w)
    {encs : α → Array Value} (hps : ∀ x, (encs x).size = ps.size) (I : List α → World → Prop) (Ix : Code → List α → World → Prop) (Ok : α → World → Prop) (S Sp : List α → Prop)
    (hIb : ∀ xs A B, I xs A → Below w.heap.size A B → I xs B) (hIxb : ∀ c xs A B, Ix c xs A → Below w.heap.size A B → CellsUp 0 A B → Ix c xs B)
    (hOp : ∀ x A l o o', Ok x A → w.heap.size ≤ l → A.heap[l]? = some o → o.isCells = false → Ok x (A.putObj l o'))
    (h0 : I [] w) {N0 : Nat} (hit : SeqO F (n - 1) P gf lb encs Ok S Sp N0 w)
    (a₁ : α → Act)
    (hassign : ∀ (l : Nat) (x : α) (W : World) (K : Act → World → Prop), K (a₁ x) W →
      assign.wpIn (F.inRound l) (n - 1 - 1) P (Exit.then K (fun _ _ _ => False)) { tmps := (ps.zip (encs x)).foldl (fun t (p, v) => t.setIfInBounds p v) a.tmps, defers := [] } W)
    (hbody : ∀ (l : Nat) (pre : List α) (x : α) (A : World), w.heap.size + 2 ≤ A.heap.size → I pre A → Ok x A → body.wpIn (F.inRound l) (n - 1 - 1) P (StopsPost N0 w.heap.size I Ix (pre ++ [x]) A) (a₁ x) A)
    (hdone : ∀ (D : Nat) (xs : List α) (A : World), w.heap.size ≤ D → w.heap.size ≤ A.heap.size → S xs → I xs A → A.heap[D]? = some (.deferred (some [])) → Q .normal { a with defers := { target := .collected D, args := #[] } :: a.defers } A)
    (hstop : ∀ (D : Nat) (c : Code) (pre : List α) (A : World), w.heap.size ≤ D → w.heap.size ≤ A.heap.size → Sp pre → Ix c pre A → A.heap[D]? = some (.deferred (some [])) → c.wpIn F n P Q { a with defers := { target := .collected D, args := #[] } :: a.defers } A) :
    (Code.rangeFunc g ps assign body).wpIn F n P Q a w := by
  refine wpIn_rangeFunc fun fn hfn => ?_
  rw [hro]
  let R : LoopState → Option Code → Loop := fun st pe => { state := st, pending := pe, fn, tmps := a.tmps, params := ps, assign, body, defers := w.heap.size }
  let d := w.heap.size
  let l := w.heap.size + 1
  let W0 := (w.alloc (.deferred (some []))).alloc (.loop (R .ready none))
  have hL0 : W0.heap[l]? = some (.loop (R .ready none)) := by
    have := World.alloc_heap_new (w.alloc (.deferred (some []))) (.loop (R .ready none))
    rwa [World.size_alloc] at this
  have hD0 : W0.heap[d]? = some (.deferred (some [])) := (Below.heap_alloc _ _ _ (by simp [d])).trans (World.alloc_heap_new w _)
  have hb0 : Below w.heap.size w W0 := ((Below.refl _ w).alloc (Nat.le_refl _) _).alloc (by simp) _
  have hI0 : I [] W0 := hIb _ _ _ h0 hb0
  have hs0 : W0.heap.size = w.heap.size + 2 := by simp [W0]
  refine ⟨l, [{ target := .collected d, args := #[] }], W0, { target := .fn (.func gf) lb, args := #[.func (.yield l) #[] #[]] }, W0, gf, #[.func (.yield l) #[] #[]] ++ lb, W0, run_enterLoop_outer _ _ _ _ _, ?_, ?_, ?_, fun _ => h1, ?_⟩
  · simp only [resolve, hg]
    simp [go_sem]
  · intro f' hf'
    simp [Target.leads] at hf'
    subst hf'
    exact hFg
  · simp [invoke, go_sem, eg]
  · refine (hit l (fun xs A => I xs A ∧ A.heap[l]? = some (.loop (R .ready none)) ∧ A.heap[d]? = some (.deferred (some [])) ∧ W0.heap.size ≤ A.heap.size)
      (fun xs A => ∃ c, Ix c xs A ∧ A.heap[l]? = some (.loop (R .done (some c))) ∧ A.heap[d]? = some (.deferred (some [])) ∧ W0.heap.size ≤ A.heap.size) W0 hb0 (fun xs A B hJ hb => ?_) (fun xs A B hJ hb hcu => ?_) (fun pre x A hA hJ hx => ?_) ⟨hI0, hL0, hD0, Nat.le_refl _⟩).mono ?_
    · exact ⟨hIb _ _ _ hJ.1 (hb.mono (by omega)), (hb.block _ (by omega)).trans hJ.2.1, (hb.block _ (by omega)).trans hJ.2.2.1, Nat.le_trans hJ.2.2.2 hb.size⟩
    · obtain ⟨c, hJ⟩ := hJ
      exact ⟨c, hIxb _ _ _ _ hJ.1 (hb.mono (by omega)) hcu, (hb.block _ (by omega)).trans hJ.2.1, (hb.block _ (by omega)).trans hJ.2.2.1, Nat.le_trans hJ.2.2.2 hb.size⟩
    · obtain ⟨hi, hl, hd, _⟩ := hJ
      have hy := run_yield (P := P) (args := encs x) hl (hps x)
      refine ⟨fn, _, assign, body, hy, roundIn_of_wpIn hfn (hassign l x A _ ⟨_, run_beginRound hl rfl, ?_⟩)⟩
      have hll : l < A.heap.size := by omega
      have hi2 := hIb _ _ _ hi (below_putR (l := l) (.loop { R .ready none with state := .busy }) (by omega) (by omega))
      have hx2 := hOp _ _ _ _ (.loop { R .ready none with state := .busy }) hx (by omega) hl rfl
      have hl2 : (A.putObj l (.loop { R .ready none with state := .busy })).heap[l]? = some (.loop { R .ready none with state := .busy }) := World.putObj_heap_same hll
      have hd2 : (A.putObj l (.loop { R .ready none with state := .busy })).heap[d]? = some (.deferred (some [])) := (World.putObj_heap_other (by omega)).trans hd
      refine wpIn_mono (hbody l pre x _ (by simp; omega) hi2 hx2) ?_
      intro e a3 B hp
      have fin : ∀ jump : Option Code, Up w.heap.size (A.putObj l (.loop { R .ready none with state := .busy })) B ∧ CellsUp N0 (A.putObj l (.loop { R .ready none with state := .busy })) B →
          (Instr.endRound l jump).run P B = .ok (.bool jump.isNone) (B.putObj l (.loop (R (if jump.isNone then .ready else .done) jump))) ∧ B.heap[l]? = some (.loop { R .ready none with state := .busy }) ∧
          (B.putObj l (.loop (R (if jump.isNone then .ready else .done) jump))).heap[l]? = some (.loop (R (if jump.isNone then .ready else .done) jump)) ∧
          (B.putObj l (.loop (R (if jump.isNone then .ready else .done) jump))).heap[d]? = some (.deferred (some [])) ∧ W0.heap.size ≤ (B.putObj l (.loop (R (if jump.isNone then .ready else .done) jump))).heap.size ∧
          Up W0.heap.size A (B.putObj l (.loop (R (if jump.isNone then .ready else .done) jump))) ∧ CellsUp N0 A (B.putObj l (.loop (R (if jump.isNone then .ready else .done) jump))) := fun jump hu0 => by
        obtain ⟨hu, hcu⟩ := hu0
        have hsz := hu.1
        rw [World.putObj_size] at hsz
        have hl3 := (hu.2 l (by omega) (by simpa using hll)).trans hl2
        have hd3 := (hu.2 d (Nat.le_refl _) (by simp; omega)).trans hd2
        refine ⟨run_endRound (P := P) jump hl3, hl3, World.putObj_heap_same (by omega), (World.putObj_heap_other (by omega)).trans hd3, by simp; omega, ?_⟩
        exact ⟨(Up.put (by omega)).trans ((hu.from_ (by omega)).trans (Up.put (by omega))), (CellsUp.put hl rfl).trans (hcu.trans (CellsUp.put hl3 rfl))⟩
      cases e with
      | normal =>
        obtain ⟨hu, hib⟩ := hp
        obtain ⟨hr, hl3, hl4, hd4, hs4, hu4⟩ := fin none hu
        exact ⟨_, _, hr, .inl ⟨rfl, hIb _ _ _ hib (below_putR _ (by have := (Array.getElem?_eq_some_iff.1 hl3).1; omega) (by omega)), hl4, hd4, hs4⟩, hu4⟩
      | ret =>
        obtain ⟨hu, hib⟩ := hp
        obtain ⟨hr, hl3, hl4, hd4, hs4, hu4⟩ := fin (some .ret) hu
        exact ⟨_, _, hr, .inr ⟨rfl, .ret, hIxb _ _ _ _ hib (below_putR _ (by have := (Array.getElem?_eq_some_iff.1 hl3).1; omega) (by omega)) (CellsUp.put hl3 rfl), hl4, hd4, hs4⟩, hu4⟩
      | exit id =>
        obtain ⟨hu, hib⟩ := hp
        obtain ⟨hr, hl3, hl4, hd4, hs4, hu4⟩ := fin (some (.exit id)) hu
        exact ⟨_, _, hr, .inr ⟨rfl, .exit id, hIxb _ _ _ _ hib (below_putR _ (by have := (Array.getElem?_eq_some_iff.1 hl3).1; omega) (by omega)) (CellsUp.put hl3 rfl), hl4, hd4, hs4⟩, hu4⟩
      | goto t => exact hp.elim
      | panic ch => exact hp.elim
      | outgrown => exact hp.elim
    · rintro e B ⟨⟨v, rfl⟩, (⟨xs, hS, hi, hl, hd, hsz⟩ | ⟨pre, hS, c, hi, hl, hd, hsz⟩)⟩
      · have hll := (Array.getElem?_eq_some_iff.1 hl).1
        exact ⟨none, _, run_endLoop hl (by simp [R]), hdone d xs _ (Nat.le_refl _) (by simp; omega) hS (hIb _ _ _ hi (below_putR _ (by omega) (by omega))) ((World.putObj_heap_other (by omega)).trans hd)⟩
      · have hll := (Array.getElem?_eq_some_iff.1 hl).1
        exact ⟨some c, _, run_endLoop hl (by simp [R]), hstop d c pre _ (Nat.le_refl _) (by simp; omega) hS (hIxb _ _ _ _ hi (below_putR _ (by omega) (by omega)) (CellsUp.put hl rfl)) ((World.putObj_heap_other (by omega)).trans hd)⟩
end Go.Proofs.YtlbhmoiicbhgkaaDoor
end
