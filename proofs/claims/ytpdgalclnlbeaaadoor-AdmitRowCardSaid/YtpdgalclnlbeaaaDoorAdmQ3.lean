/-
  Parts of these texts that the statement needs: RegionD, WaysD, RaA.
-/
import Derived.Orders
import Derived.OwnWalk
import Derived.NoCompiler
import Derived.WalkKit
import Derived.Test.YtpdgalclnlbeaaaDoorAdmQ1
import Derived.Test.YtpdgalclnlbeaaaDoorAdmQ2
import Derived.Laws.CopyOwn

section
namespace Go.Rgd
/-- what is known of what an operation left: the very value; or a property, by how many of those that turn memory have come up. -/
inductive Know
  | is (v : Value)
  | of (r : Nat → World → Value → Prop)
def Know.holds (p : Nat) : Know → World → Value → Prop
  | .is v, _, u => u = v
  | .of r, w, u => r p w u
/-- the newest lies first. -/
def look (Rs : List Know) (i : Nat) : Know := if i < Rs.length then Rs.getD (Rs.length - 1 - i) (.of fun _ _ _ => True) else .of fun _ _ _ => True
theorem look_cons (Rs : List Know) (k : Know) (i : Nat) (h : i < Rs.length) : look (k :: Rs) i = look Rs i := by
  unfold look
  rw [if_pos (by simp; omega), if_pos h]
  have : (k :: Rs).length - 1 - i = (Rs.length - 1 - i) + 1 := by simp; omega
  rw [this]; rfl
theorem look_new (Rs : List Know) (k : Know) : look (k :: Rs) Rs.length = k := by
  unfold look
  rw [if_pos (by simp)]
  simp
def predsOf (o : Oper) : List Nat := ((o.after.toList.filter fun e => Region.binds .any e).map (·.on)).eraseDups
theorem mem_preds {o : Oper} {i : Nat} : i ∈ predsOf o ↔ ∃ e ∈ o.after, Region.binds .any e = true ∧ e.on = i := by
  unfold predsOf
  rw [List.mem_eraseDups, List.mem_map]
  constructor
  · rintro ⟨e, he, rfl⟩
    rw [List.mem_filter] at he
    exact ⟨e, Array.mem_toList_iff.1 he.1, he.2, rfl⟩
  · rintro ⟨e, he, hb, rfl⟩
    exact ⟨e, List.mem_filter.2 ⟨Array.mem_toList_iff.2 he, hb⟩, rfl⟩
/-- l: some of those that o waits for, with all whose values it reads. -/
def fits (ds : List (Option Tmp)) (o : Oper) (l : List Nat) : Bool :=
  l.all (predsOf o).contains && (predsOf o).all fun i => l.contains i || match ds.getD i none with | some d => !(o.op.operands.any fun x => match x with | .tmp t => t == d | _ => false) | none => true
theorem fits_spec {ds : List (Option Tmp)} {o : Oper} {l : List Nat} (h : fits ds o l = true) : (∀ i ∈ l, i ∈ predsOf o) ∧ ∀ i ∈ predsOf o, ∀ d, ds.getD i none = some d → Operand.tmp d ∈ o.op.operands → i ∈ l := by
  simp only [fits, Bool.and_eq_true, List.all_eq_true, Bool.or_eq_true, List.contains_iff_mem] at h
  refine ⟨h.1, fun i hi d hd ho => ?_⟩
  rcases h.2 i hi with h | h
  · exact h
  · rw [hd] at h
    simp only [Bool.not_eq_true'] at h
    have : (o.op.operands.any fun x => match x with | .tmp t => t == d | _ => false) = true := Array.any_eq_true'.2 ⟨_, ho, by simp⟩
    rw [h] at this; cases this
def boolOf : Value → Option Bool
  | .bool b => some b
  | _ => none
def says (lk : Nat → Know) (o : Oper) : Option Bool :=
  match o.guard with
  | none => some true
  | some (g, want) => match lk g with
    | .is v => some (boolOf v == some want)
    | _ => none
def last (a : Act) : Option Tmp → Value
  | some d => (a.tmps[d]?).getD undef
  | none => undef
def from_ (ds : List (Option Tmp)) (lk : Nat → Know) (p : Nat) (w : World) : List Nat → Act → (Act → Prop) → Prop
  | [], a, G => G a
  | i :: l, a, G => match lk i with
    | .is v => from_ ds lk p w l (a.put (ds.getD i none) v) G
    | .of r => ∀ v, r p w v → from_ ds lk p w l (a.put (ds.getD i none) v) G
def putAll (ds : List (Option Tmp)) (f : Nat → Value) : List Nat → Act → Act
  | [], a => a
  | i :: l, a => putAll ds f l (a.put (ds.getD i none) (f i))
section
variable {ds : List (Option Tmp)} {lk : Nat → Know} {pre : Nat} {w : World} {f : Nat → Value} {G : Act → Prop}
theorem from_congr {lk' : Nat → Know} : ∀ {l : List Nat} {a : Act}, (∀ i ∈ l, lk i = lk' i) → from_ ds lk pre w l a G → from_ ds lk' pre w l a G
  | [], _, _, h => h
  | i :: l, a, he, h => by
    have h1 := he i (List.mem_cons_self ..)
    have h2 := fun j hj => he j (List.mem_cons_of_mem _ hj)
    unfold from_ at h ⊢
    rw [← h1]
    cases hk : lk i with
    | is v => rw [hk] at h; exact from_congr h2 h
    | of r => rw [hk] at h; exact fun v hv => from_congr h2 (h v hv)
theorem from_at : ∀ {l : List Nat} {a : Act}, from_ ds lk pre w l a G → (∀ i ∈ l, (lk i).holds pre w (f i)) → G (putAll ds f l a)
  | [], _, h, _ => h
  | i :: l, a, h, hf => by
    have h1 := hf i (List.mem_cons_self ..)
    have h2 := fun j hj => hf j (List.mem_cons_of_mem _ hj)
    unfold from_ at h
    unfold putAll
    cases hk : lk i with
    | is v =>
      rw [hk] at h h1
      simp only [Know.holds] at h1
      rw [h1]
      exact from_at h h2
    | of r =>
      rw [hk] at h h1
      exact from_at (h _ h1) h2
theorem from_mono {G' : Act → Prop} (hg : ∀ a, G a → G' a) : ∀ {l : List Nat} {a : Act}, from_ ds lk pre w l a G → from_ ds lk pre w l a G'
  | [], _, h => hg _ h
  | i :: l, a, h => by
    unfold from_ at h ⊢
    cases hk : lk i with
    | is v => rw [hk] at h; exact from_mono hg h
    | of r => rw [hk] at h; exact fun v hv => from_mono hg (h v hv)
theorem put_size (a : Act) (d : Option Tmp) (v : Value) : (a.put d v).tmps.size = a.tmps.size := by cases d <;> simp [Act.put]
theorem put_defers' (a : Act) (d : Option Tmp) (v : Value) : (a.put d v).defers = a.defers := by cases d <;> simp [Act.put]
theorem put_at_ne (a : Act) {d : Option Tmp} (v : Value) {t : Tmp} (h : d ≠ some t) : (a.put d v).tmps[t]? = a.tmps[t]? := by
  cases d with
  | none => rfl
  | some d => exact Array.getElem?_setIfInBounds_ne fun e => h (congrArg _ e)
theorem put_at_same (a : Act) (v : Value) {t : Tmp} (h : t < a.tmps.size) : (a.put (some t) v).tmps[t]? = some v := by
  simp [Act.put, h]
theorem putAll_size : ∀ (l : List Nat) (a : Act), (putAll ds f l a).tmps.size = a.tmps.size
  | [], _ => rfl
  | _ :: l, _ => (putAll_size l _).trans (put_size ..)
theorem putAll_defers : ∀ (l : List Nat) (a : Act), (putAll ds f l a).defers = a.defers
  | [], _ => rfl
  | _ :: l, _ => (putAll_defers l _).trans (put_defers' ..)
theorem putAll_ne {t : Tmp} : ∀ (l : List Nat) (a : Act), (∀ i ∈ l, ds.getD i none ≠ some t) → (putAll ds f l a).tmps[t]? = a.tmps[t]?
  | [], _, _ => rfl
  | i :: l, a, h => (putAll_ne l _ fun j hj => h j (List.mem_cons_of_mem _ hj)).trans (put_at_ne a _ (h i (List.mem_cons_self ..)))
theorem putAll_at {t : Tmp} {i : Nat} : ∀ (l : List Nat) (a : Act), t < a.tmps.size → i ∈ l → ds.getD i none = some t → (∀ j ∈ l, ds.getD j none = some t → j = i) → (putAll ds f l a).tmps[t]? = some (f i)
  | [], _, _, h, _, _ => by cases h
  | j :: l, a, hs, hi, hd, hu => by
    by_cases hin : i ∈ l
    · exact putAll_at l _ (by rw [put_size]; exact hs) hin hd fun k hk => hu k (List.mem_cons_of_mem _ hk)
    · obtain rfl : i = j := by
        rcases List.mem_cons.1 hi with h | h
        · exact h
        · exact absurd h hin
      refine (putAll_ne l _ fun k hk he => hin ?_).trans ?_
      · obtain rfl := hu k (List.mem_cons_of_mem _ hk) he
        exact hk
      · rw [hd]; exact put_at_same _ _ hs
end
/-- what the region's operations do to memory: 'K': all but those of 'cs', which come up one behind the other: the i-th does 'M i'; 'Ph p': what holds when p of these have come up. 'bds': of each operation, how many of them have come up at least, and at most, when it comes up. -/
structure Way where
  K : World → World → Prop
  M : Nat → World → World → Prop
  Ph : Nat → World → Prop
  cs : List Nat
  bds : List (Nat × Nat)
structure Way.Fair (Y : Way) : Prop where
  bk : ∀ p w w', Y.Ph p w → Y.K w w' → Y.Ph p w'
/-- known from 'lo' on, it stays. -/
def Know.stays (Y : Way) (lo : Nat) : Know → Prop
  | .is _ => True
  | .of r => (∀ p w w' v, lo ≤ p → Y.K w w' → r p w v → r p w' v) ∧ ∀ p w w' v, lo ≤ p → p < Y.cs.length → Y.Ph p w → Y.Ph (p + 1) w' → Y.M p w w' → r p w v → r (p + 1) w' v
section
variable (P : Program) (Y : Way) (ds : List (Option Tmp)) (a0 : Act) (Q : Act → World → Prop)
/-- one that turns nothing. -/
def opPlain (lk : Nat → Know) (lo hi : Nat) (o : Oper) (l : List Nat) (k : Know) : Prop :=
  ∀ p w, lo ≤ p → p ≤ hi → Y.Ph p w → from_ ds lk p w l a0 fun a => ∀ T : Exit → Act → World → Prop,
    (∀ a' w', a'.defers = a.defers → Y.K w w' → k.holds p w' (last a' o.dst) → T .normal a' w') → wpList P #[] T [{ o with guard := none }] a w
/-- the i-th that turns memory. -/
def opTurn (lk : Nat → Know) (i : Nat) (o : Oper) (l : List Nat) (k : Know) : Prop :=
  ∀ w, Y.Ph i w → from_ ds lk i w l a0 fun a => ∀ T : Exit → Act → World → Prop,
    (∀ a' w', a'.defers = a.defers → Y.M i w w' → Y.Ph (i + 1) w' → k.holds (i + 1) w' (last a' o.dst) → T .normal a' w') → wpList P #[] T [{ o with guard := none }] a w
inductive Good (lk : Nat → Know) (j : Nat) (o : Oper) (k : Know) : Prop
  | plain (lo hi : Nat) (l : List Nat) (hbd : Y.bds.getD j (0, 0) = (lo, hi)) (hj : Y.cs.contains j = false) (hst : k.stays Y lo) (hs : says lk o = some true) (hl : fits ds o l = true) (h : opPlain P Y ds a0 lk lo hi o l k)
  | turn (i : Nat) (l : List Nat) (hi : Y.cs[i]? = some j) (hst : k.stays Y (i + 1)) (hs : says lk o = some true) (hl : fits ds o l = true) (h : opTurn P Y ds a0 lk i o l k)
  | skip (hj : Y.cs.contains j = false) (hs : says lk o = some false) (hk : k = .is undef)
/-- all that are left, in the text's order. -/
def walk : List Oper → List Know → Prop
  | [], Rs => ∀ w, Y.Ph Y.cs.length w → from_ ds (look Rs) Y.cs.length w (List.range Rs.length) a0 fun a => Q a w
  | o :: rest, Rs => ∃ k : Know, Good P Y ds a0 (look Rs) Rs.length o k ∧ walk rest (k :: Rs)
end
/-- what is looked at once, closed. -/
def sane (ops : Array Oper) (ds : List (Option Tmp)) (size n : Nat) : Bool :=
  Region.noSelect ops && ds.length == ops.size &&
  (List.range ops.size).all fun j => match ops[j]? with
    | none => true
    | some o =>
      ds.getD j none == o.dst && (predsOf o).all (· < j) && (match o.dst with | some d => decide (d < size) | none => true) &&
      (match o.guard with | none => true | some (g, _) => (predsOf o).contains g && (ds.getD g none).isSome) &&
      (List.range n).all fun i => decide (n ≤ j) || match ds.getD i none with
        | none => true
        | some d => (i == j || o.dst != some d) && (!(o.looksAt ops).contains d || (predsOf o).contains i)
/-- tb: of each operation, some of those that it waits for, at once or by way of others. -/
def tabled (ops : Array Oper) (tb : List (List Nat)) : Bool :=
  (List.range ops.size).all fun j => match ops[j]? with
    | none => true
    | some o => (tb.getD j []).all fun i => (predsOf o).contains i || (predsOf o).any fun p => (tb.getD p []).contains i
/-- those that turn memory come up one behind the other. -/
def chained (cs : List Nat) (tb : List (List Nat)) (n : Nat) : Bool :=
  cs.all (· < n) && (List.range cs.length).all fun k => (List.range k).all fun i => decide (cs.getD i 0 < cs.getD k 0) && (tb.getD (cs.getD k 0) []).contains (cs.getD i 0)
def bounded (cs : List Nat) (tb : List (List Nat)) (bds : List (Nat × Nat)) (n : Nat) : Bool :=
  (List.range n).all fun j => cs.contains j || ((List.range (bds.getD j (0, 0)).1).all fun i => decide (i < cs.length) && (tb.getD j []).contains (cs.getD i 0)) && (decide (cs.length ≤ (bds.getD j (0, 0)).2) || (tb.getD (cs.getD (bds.getD j (0, 0)).2 0) []).contains j)
/-- from number n on each waits, at last, for all ahead of it. -/
def closes (ops : Array Oper) (n : Nat) : Bool :=
  (List.range ops.size).all fun j => decide (j < n) || match ops[j]? with
    | none => true
    | some o => o.guard.isNone && (List.range j).all fun i => (List.range (j + 1)).any fun i' => decide (i < i') && match ops[i']? with
      | none => false
      | some o' => (predsOf o').contains i
section
variable {P : Program} {Y : Way} {ds : List (Option Tmp)} {a0 : Act} {Q : Act → World → Prop} {ops : Array Oper}
structure Sane (ops : Array Oper) (ds : List (Option Tmp)) (size n : Nat) : Prop where
  nosel : ∀ (j : Nat) (o : Oper) cs b, ops[j]? = some o → o.op ≠ .select cs b
  len : ds.length = ops.size
  dst : ∀ {j : Nat} {o : Oper}, ops[j]? = some o → ds.getD j none = o.dst
  before : ∀ {j : Nat} {o : Oper}, ops[j]? = some o → ∀ i ∈ predsOf o, i < j
  small : ∀ {j : Nat} {o : Oper}, ops[j]? = some o → ∀ d, o.dst = some d → d < size
  guard : ∀ {j : Nat} {o : Oper}, ops[j]? = some o → ∀ g b, o.guard = some (g, b) → g ∈ predsOf o ∧ (ds.getD g none).isSome
  one : ∀ {j : Nat} {o : Oper}, ops[j]? = some o → j < n → ∀ i d, i < n → ds.getD i none = some d → o.dst = some d → i = j
  looks : ∀ {j : Nat} {o : Oper}, ops[j]? = some o → j < n → ∀ i d, i < n → ds.getD i none = some d → d ∈ o.looksAt ops → i ∈ predsOf o
theorem sane_spec {size n : Nat} (h : sane ops ds size n = true) : Sane ops ds size n := by
  simp only [sane, Bool.and_eq_true, List.all_eq_true, List.mem_range, beq_iff_eq] at h
  obtain ⟨⟨h1, h2⟩, h3⟩ := h
  have key := fun (j : Nat) (o : Oper) (hj : ops[j]? = some o) => by
    have := h3 j (Array.getElem?_eq_some_iff.1 hj).1
    simp only [hj, Bool.and_eq_true, beq_iff_eq, List.all_eq_true, decide_eq_true_eq, List.mem_range, Bool.or_eq_true] at this
    exact this
  refine ⟨Region.noSelect_spec h1, h2, fun hj => (key _ _ hj).1.1.1.1, fun hj => (key _ _ hj).1.1.1.2, fun hj d hd => ?_, fun hj g b hg => ?_, fun hj hjn i d hi hd ho => ?_, fun hj hjn i d hi hd ho => ?_⟩
  · have := (key _ _ hj).1.1.2; rw [hd] at this; simpa using this
  · have := (key _ _ hj).1.2; rw [hg] at this; simpa using this
  · have := ((key _ _ hj).2 i hi).resolve_left (by omega); rw [hd] at this; simp only [Bool.and_eq_true, Bool.or_eq_true, beq_iff_eq, bne_iff_ne, ne_eq] at this
    rcases this.1 with h | h
    · exact h
    · exact absurd ho h
  · have := ((key _ _ hj).2 i hi).resolve_left (by omega); rw [hd] at this
    simp only [Bool.and_eq_true, Bool.or_eq_true, Bool.not_eq_true', List.contains_iff_mem] at this
    rcases this.2 with h | h
    · exact absurd (List.contains_iff_mem.2 ho) (by rw [h]; simp)
    · exact h
theorem closes_spec {n : Nat} (h : closes ops n = true) : ∀ j o, n ≤ j → ops[j]? = some o → o.guard = none ∧ ∀ i, i < j → ∃ i' o', i < i' ∧ i' ≤ j ∧ ops[i']? = some o' ∧ i ∈ predsOf o' := by
  intro j o hj ho
  simp only [closes, List.all_eq_true, List.mem_range, Bool.or_eq_true, decide_eq_true_eq] at h
  have h1 := (h j (Array.getElem?_eq_some_iff.1 ho).1).resolve_left (by omega)
  simp only [ho, Bool.and_eq_true, List.all_eq_true, List.mem_range, List.any_eq_true, decide_eq_true_eq] at h1
  refine ⟨by simpa using h1.1, fun i hi => ?_⟩
  obtain ⟨i', h2, h3, h4⟩ := h1.2 i hi
  cases h5 : ops[i']? with
  | none => rw [h5] at h4; simp at h4
  | some o' =>
    rw [h5] at h4
    exact ⟨i', o', h3, by omega, h5, List.contains_iff_mem.1 h4⟩
theorem good_congr {lk lk' : Nat → Know} {j : Nat} {o : Oper} {k : Know} (hp : ∀ i ∈ predsOf o, lk i = lk' i) (hg : ∀ g b, o.guard = some (g, b) → g ∈ predsOf o) (h : Good P Y ds a0 lk j o k) : Good P Y ds a0 lk' j o k := by
  have hs : says lk o = says lk' o := by
    unfold says
    cases hgu : o.guard with
    | none => rfl
    | some gb => obtain ⟨g, b⟩ := gb; simp only [hp g (hg g b hgu)]
  cases h with
  | plain lo hi l hbd hj hst h1 hl h2 => exact .plain lo hi l hbd hj hst (hs ▸ h1) hl fun p w h3 h4 hw => from_congr (fun i hi => hp i ((fits_spec hl).1 i hi)) (h2 p w h3 h4 hw)
  | turn i l hi hst h1 hl h2 => exact .turn i l hi hst (hs ▸ h1) hl fun w hw => from_congr (fun i hi => hp i ((fits_spec hl).1 i hi)) (h2 w hw)
  | skip hj h1 hk => exact .skip hj (hs ▸ h1) hk
theorem extract : ∀ (rest : List Oper) (Rs : List Know), (∀ j o, rest[j]? = some o → (∀ i ∈ predsOf o, i < Rs.length + j) ∧ ∀ g b, o.guard = some (g, b) → g ∈ predsOf o) → walk P Y ds a0 Q rest Rs →
    ∃ F : Nat → Know, (∀ i, i < Rs.length → F i = look Rs i) ∧ (∀ j o, rest[j]? = some o → Good P Y ds a0 F (Rs.length + j) o (F (Rs.length + j))) ∧ ∀ w, Y.Ph Y.cs.length w → from_ ds F Y.cs.length w (List.range (Rs.length + rest.length)) a0 fun a => Q a w
  | [], Rs, _, h => ⟨look Rs, fun _ _ => rfl, fun j o h => by simp at h, h⟩
  | o :: rest, Rs, hb, ⟨k, hg, h⟩ => by
    obtain ⟨F, h1, h2, h3⟩ := extract rest (k :: Rs) (fun j o' ho => by
      have := hb (j + 1) o' (by simpa using ho)
      exact ⟨fun i hi => by have := this.1 i hi; simp; omega, this.2⟩) h
    have hF : ∀ i, i < Rs.length → F i = look Rs i := fun i hi => (h1 i (by simp; omega)).trans (look_cons _ _ _ hi)
    refine ⟨F, hF, fun j o' ho => ?_, ?_⟩
    · cases j with
      | zero =>
        simp only [List.getElem?_cons_zero, Option.some.injEq] at ho
        subst ho
        have hbo := hb 0 o rfl
        rw [Nat.add_zero, h1 Rs.length (by simp), look_new]
        exact good_congr (fun i hi => (hF i (by have := hbo.1 i hi; omega)).symm) hbo.2 hg
      | succ j =>
        have := h2 j o' (by simpa using ho)
        have e : (k :: Rs).length + j = Rs.length + (j + 1) := by simp; omega
        rwa [e] at this
    · have e : (k :: Rs).length + rest.length = Rs.length + (o :: rest).length := by simp; omega
      rwa [e] at h3
structure Inv (n : Nat) (ops : Array Oper) (ds : List (Option Tmp)) (Y : Way) (a0 : Act) (F : Nat → Know) (listed : Array Bool) (a : Act) (w : World) (p : Nat) : Prop where
  base : Y.Ph p w
  ple : p ≤ Y.cs.length
  ph : ∀ i c, Y.cs[i]? = some c → (listed.getD c false = true ↔ i < p)
  defers : a.defers = a0.defers
  size : a.tmps.size = a0.tmps.size
  unlisted : ∀ j, n ≤ j → listed.getD j false = false
  down : ∀ j o, ops[j]? = some o → listed.getD j false = true → ∀ i ∈ predsOf o, listed.getD i false = true
  other : ∀ t, (∀ i, i < n → ds.getD i none = some t → listed.getD i false = false) → a.tmps[t]? = a0.tmps[t]?
  some_ : ∃ f : Nat → Value, ∀ i, i < n → listed.getD i false = true → (F i).holds p w (f i) ∧ ∀ d, ds.getD i none = some d → a.tmps[d]? = some (f i)
structure Chain (ops : Array Oper) (Y : Way) (n : Nat) : Prop where
  small : ∀ (i c : Nat), Y.cs[i]? = some c → c < n
  less : ∀ (i k c d : Nat), Y.cs[i]? = some c → Y.cs[k]? = some d → i < k → c < d
  /-- all preds of j have come up: then those that bds tells of have; -/
  lo : ∀ (j : Nat) (o : Oper) (lo hi : Nat) (listed : Array Bool), j < n → Y.cs.contains j = false → ops[j]? = some o → Y.bds.getD j (0, 0) = (lo, hi) → (∀ (j : Nat) (o : Oper), ops[j]? = some o → listed.getD j false = true → ∀ i ∈ predsOf o, listed.getD i false = true) → (∀ i ∈ predsOf o, listed.getD i false = true) → ∀ i, i < lo → ∃ c, Y.cs[i]? = some c ∧ listed.getD c false = true
  hi : ∀ (j : Nat) (o : Oper) (lo hi : Nat) (listed : Array Bool), j < n → Y.cs.contains j = false → ops[j]? = some o → Y.bds.getD j (0, 0) = (lo, hi) → (∀ (j : Nat) (o : Oper), ops[j]? = some o → listed.getD j false = true → ∀ i ∈ predsOf o, listed.getD i false = true) → ∀ (c : Nat), Y.cs[hi]? = some c → listed.getD c false = true → listed.getD j false = true
  ahead : ∀ (i k c d : Nat) (o : Oper) (listed : Array Bool), Y.cs[i]? = some c → Y.cs[k]? = some d → i < k → ops[d]? = some o → (∀ (j : Nat) (o : Oper), ops[j]? = some o → listed.getD j false = true → ∀ i ∈ predsOf o, listed.getD i false = true) → (∀ i ∈ predsOf o, listed.getD i false = true) → listed.getD c false = true
theorem chain_spec {tb : List (List Nat)} {n : Nat} (hn : n ≤ ops.size) (hbef : ∀ {j : Nat} {o : Oper}, ops[j]? = some o → ∀ i ∈ predsOf o, i < j) (ht : tabled ops tb = true) (hc : chained Y.cs tb n = true) (hb : bounded Y.cs tb Y.bds n = true) : Chain ops Y n := by
  simp only [chained, Bool.and_eq_true, List.all_eq_true, List.mem_range, decide_eq_true_eq] at hc
  obtain ⟨hc1, hc2⟩ := hc
  have hmem : ∀ {i c : Nat}, Y.cs[i]? = some c → c ∈ Y.cs ∧ i < Y.cs.length ∧ Y.cs.getD i 0 = c := fun h => by
    obtain ⟨h1, h2⟩ := List.getElem?_eq_some_iff.1 h
    exact ⟨List.mem_of_getElem? h, h1, by simp [List.getD, h]⟩
  have reach : ∀ (listed : Array Bool), (∀ (j : Nat) (o : Oper), ops[j]? = some o → listed.getD j false = true → ∀ i ∈ predsOf o, listed.getD i false = true) → ∀ m j o, j < m → ops[j]? = some o → (∀ i ∈ predsOf o, listed.getD i false = true) → ∀ i ∈ tb.getD j [], listed.getD i false = true := by
    intro listed hd m
    induction m with
    | zero => intro j o hj; omega
    | succ m ih =>
      intro j o hj ho hp i hi
      simp only [tabled, List.all_eq_true, List.mem_range] at ht
      have h1 := ht j (Array.getElem?_eq_some_iff.1 ho).1
      simp only [ho, List.all_eq_true, Bool.or_eq_true, List.any_eq_true, List.contains_iff_mem] at h1
      rcases h1 i hi with h2 | ⟨p, h2, h3⟩
      · exact hp i h2
      · have hpj := hbef ho p h2
        have hps : p < ops.size := by have := (Array.getElem?_eq_some_iff.1 ho).1; omega
        exact ih p _ (by omega) (Array.getElem?_eq_getElem hps) (hd p _ (Array.getElem?_eq_getElem hps) (hp p h2)) i h3
  have hsm : ∀ (i c : Nat), Y.cs[i]? = some c → c < n := fun i c h => hc1 c (hmem h).1
  refine ⟨hsm, fun i k c d h1 h2 h3 => ?_, fun j o lo hi listed hj hcj ho hbd hd hp i hi' => ?_, fun j o lo hi listed hj hcj ho hbd hd c hcc hl => ?_, fun i k c d o listed h1 h2 h3 ho hd hp => ?_⟩
  · have := (hc2 k (hmem h2).2.1 i h3).1
    rwa [(hmem h1).2.2, (hmem h2).2.2] at this
  · simp only [bounded, List.all_eq_true, List.mem_range] at hb
    have h1 := hb j hj
    rw [hcj, hbd] at h1
    simp only [Bool.false_or, Bool.and_eq_true, List.all_eq_true, List.mem_range, decide_eq_true_eq, List.contains_iff_mem] at h1
    obtain ⟨h2, h3⟩ := h1.1 i hi'
    refine ⟨Y.cs[i], List.getElem?_eq_getElem h2, reach listed hd _ j o (Nat.lt_succ_self j) ho hp _ ?_⟩
    rwa [(hmem (List.getElem?_eq_getElem h2)).2.2] at h3
  · simp only [bounded, List.all_eq_true, List.mem_range] at hb
    have h1 := hb j hj
    rw [hcj, hbd] at h1
    simp only [Bool.false_or, Bool.and_eq_true, Bool.or_eq_true, decide_eq_true_eq, List.contains_iff_mem] at h1
    obtain ⟨h2, h3, h4⟩ := hmem hcc
    have h5 := h1.2.resolve_left (by omega)
    rw [h4] at h5
    have hcs : c < ops.size := by have := hsm _ _ hcc; omega
    exact reach listed hd _ c _ (Nat.lt_succ_self c) (Array.getElem?_eq_getElem hcs) (hd c _ (Array.getElem?_eq_getElem hcs) hl) j h5
  · have h4 := (hc2 k (hmem h2).2.1 i h3).2
    rw [(hmem h1).2.2, (hmem h2).2.2, List.contains_iff_mem] at h4
    exact reach listed hd _ d o (Nat.lt_succ_self d) ho hp c h4
theorem count_lt (l : List Nat) (p q : Nat → Bool) (i : Nat) (hi : i ∈ l) (hp : p i = true) (hq : q i = false) (hle : ∀ j, q j = true → p j = true) : l.countP q < l.countP p := by
  induction l with
  | nil => cases hi
  | cons a l ih =>
    have hmono : l.countP q ≤ l.countP p := List.countP_mono_left fun j _ h => hle j h
    rw [List.countP_cons, List.countP_cons]
    rcases List.mem_cons.1 hi with rfl | hi
    · rw [hp, hq]; simp; omega
    · have := ih hi
      cases hqa : q a with
      | false => simp; split <;> omega
      | true => rw [hle a hqa]; simp; omega
theorem getD_set_same {listed : Array Bool} {j : Nat} {b : Bool} (h : j < listed.size) : (listed.setIfInBounds j true).getD j b = true := by simp [h]
/-- the tail: one behind the other. -/
theorem wp_tail {Q' : Exit → Act → World → Prop} {n : Nat} (S : Sane ops ds a0.tmps.size n) (hL : ∀ j o, n ≤ j → ops[j]? = some o → o.guard = none ∧ ∀ i, i < j → ∃ i' o', i < i' ∧ i' ≤ j ∧ ops[i']? = some o' ∧ i ∈ predsOf o') :
    ∀ (tail : List Oper) (m fuel : Nat) (listed : Array Bool) (a : Act) (w : World), n ≤ m → m + tail.length = ops.size → (∀ i, tail[i]? = ops[m + i]?) → tail.length ≤ fuel → (∀ i, i < ops.size → listed.getD i false = decide (i < m)) → listed.size = ops.size →
      wpList P #[] Q' (tail.map fun o => { o with guard := none }) a w → wpAny P .any ops Q' fuel listed a w
  | [], m, fuel, listed, a, w, hm, hlen, ht, hf, hl, hls, h => by
    refine wpAny_done ?_ h fuel
    rw [List.eq_nil_iff_forall_not_mem]
    intro i hi
    obtain ⟨h0, oi, hoi, _⟩ := mem_ready.1 hi
    have his := (Array.getElem?_eq_some_iff.1 hoi).1
    have h2 := hl i his
    simp only [List.length_nil] at hlen
    have h3 : i < listed.size := by omega
    have h4 : i < m := by omega
    simp [h3] at h0 h2
    rw [h0] at h2; simp [h4] at h2
  | o :: tail, m, fuel, listed, a, w, hm, hlen, ht, hf, hl, hls, h => by
    simp only [List.length_cons] at hlen hf
    have ho : ops[m]? = some o := by simpa using (ht 0).symm
    have hms : m < ops.size := by omega
    obtain ⟨fuel, rfl⟩ : ∃ k, fuel = k + 1 := ⟨fuel - 1, by omega⟩
    have hlm : ∀ i, i < m → listed.getD i false = true := fun i hi => by rw [hl i (by omega)]; simpa using hi
    have hready : m ∈ Region.ready .any ops listed := mem_ready.2 ⟨by
      have := hl m hms
      have h3 : m < listed.size := by omega
      simp [h3] at this ⊢; exact this, o, ho, fun e he hb => hlm _ (S.before ho _ (mem_preds.2 ⟨e, he, hb, rfl⟩))⟩
    refine ⟨fun h0 => absurd hready (by rw [h0]; simp), fun j hj => ?_⟩
    obtain ⟨hun, oj, hoj, hall⟩ := mem_ready.1 hj
    have hjs := (Array.getElem?_eq_some_iff.1 hoj).1
    have hjm : j = m := by
      have h2 := hl j hjs
      have h3 : j < listed.size := by omega
      have hge : m ≤ j := by
        rcases Nat.lt_or_ge j m with h4 | h4
        · have h5 := hlm j h4
          simp [h3] at hun h5; rw [hun] at h5; cases h5
        · exact h4
      rcases Nat.lt_or_ge m j with h4 | h4
      · -- m < j ready: then all ahead of it are listed: m too
        exfalso
        -- the successor of j - 1 ..: it is j itself, as i' in (j-1, j]
        have key : ∀ i, m ≤ i → i < j → False ∨ listed.getD i false = true := by
          intro i hi hij
          obtain ⟨i', o', h5, h6, h7, h8⟩ := (hL j oj (by omega) hoj).2 (j - 1) (by omega)
          obtain rfl : i' = j := by omega
          rw [hoj] at h7
          obtain rfl := Option.some.inj h7
          obtain ⟨e, he, hb, heq⟩ := mem_preds.1 h8
          have h9 := hall e he hb
          rw [heq, hl _ (by omega)] at h9
          simp at h9; omega
        rcases key m (Nat.le_refl _) h4 with h5 | h5
        · exact h5
        · rw [hl m hms] at h5; simp at h5
      · omega
    subst hjm
    rw [ho] at hoj
    obtain rfl := Option.some.inj hoj
    have hg := (hL j o hm ho).1
    unfold wpOp
    simp only [ho]
    have hw : Region.wanted o (yielded ops a.tmps) = true := by unfold Region.wanted; rw [hg]
    rw [if_pos hw]
    simp only [List.map_cons, wpList, Region.wanted, if_true] at h
    rcases h with h | h
    · refine .inl (Oper.wp_mono (fun a' w' h' => ?_) h)
      refine wp_tail S hL tail (j + 1) fuel _ a' w' (by omega) (by omega) (fun i => by have := ht (i + 1); simpa [Nat.add_assoc, Nat.add_comm 1 i] using this) (by omega) (fun i hi => ?_) (by simp [hls]) h'
      by_cases hij : j = i
      · subst hij
        rw [getD_set_same (by omega)]; simp
      · rw [getD_set_ne false hij, hl i hi]
        by_cases h1 : i < j
        · simp [h1]; omega
        · simp [h1]; omega
    · exact .inr h
theorem wp_any {F : Nat → Know} {n : Nat} {Q' : Exit → Act → World → Prop} (S : Sane ops ds a0.tmps.size n) (C : Chain ops Y n) (HY : Y.Fair) (hn : n ≤ ops.size)
    (hG : ∀ j o, j < n → ops[j]? = some o → Good P Y ds a0 F j o (F j))
    (hL : ∀ j o, n ≤ j → ops[j]? = some o → o.guard = none ∧ ∀ i, i < j → ∃ i' o', i < i' ∧ i' ≤ j ∧ ops[i']? = some o' ∧ i ∈ predsOf o')
    (hQ : ∀ w, Y.Ph Y.cs.length w → from_ ds F Y.cs.length w (List.range n) a0 fun a => Q a w)
    (tail : List Oper) (htl : n + tail.length = ops.size) (ht : ∀ i, tail[i]? = ops[n + i]?) (hQ' : ∀ a w, Q a w → wpList P #[] Q' (tail.map fun o => { o with guard := none }) a w) :
    ∀ (fuel : Nat) (listed : Array Bool) (a : Act) (w : World) (p : Nat), listed.size = ops.size → (List.range ops.size).countP (fun i => !listed.getD i true) ≤ fuel → Inv n ops ds Y a0 F listed a w p → wpAny P .any ops Q' fuel listed a w := by
  have full : ∀ (listed : Array Bool) (a : Act) (w : World) (p : Nat), Inv n ops ds Y a0 F listed a w p → (∀ i, i < n → listed.getD i false = true) → Q a w := by
    intro listed a w p I all
    obtain ⟨f, hf⟩ := I.some_
    have hp : p = Y.cs.length := by
      rcases Nat.lt_or_ge p Y.cs.length with h | h
      · have h1 : Y.cs[p]? = some Y.cs[p] := List.getElem?_eq_getElem h
        have h2 := (I.ph p _ h1).1 (all _ (C.small _ _ h1))
        omega
      · have := I.ple; omega
    subst hp
    have h := from_at (f := f) (hQ w I.base) fun i hi => (hf i (List.mem_range.1 hi) (all _ (List.mem_range.1 hi))).1
    have hea : putAll ds f (List.range n) a0 = a := by
      have ht : (putAll ds f (List.range n) a0).tmps = a.tmps := by
        apply Array.ext_getElem?
        intro t
        by_cases hex : ∃ i, i < n ∧ ds.getD i none = some t
        · obtain ⟨i, hi, hd⟩ := hex
          have ho : ops[i]? = some (ops[i]'(by omega)) := Array.getElem?_eq_getElem (by omega)
          have hod := S.dst ho
          rw [((hf i hi (all _ hi)).2 t hd)]
          refine putAll_at _ _ (S.small ho t (hod ▸ hd)) (List.mem_range.2 hi) hd fun j hj hdj => S.one ho hi j t (by have := List.mem_range.1 hj; omega) hdj (hod ▸ hd)
        · rw [putAll_ne _ _ fun i hi hd => hex ⟨i, List.mem_range.1 hi, hd⟩, I.other t fun i hi hd => absurd ⟨i, hi, hd⟩ hex]
      have hd := (putAll_defers (ds := ds) (f := f) (List.range n) a0).trans I.defers.symm
      generalize putAll ds f (List.range n) a0 = b at *
      cases a; cases b
      simp only at ht hd
      rw [ht, hd]
    rw [← hea]
    exact h
  -- all of the first n are listed: the tail
  have toTail : ∀ (fuel : Nat) (listed : Array Bool) (a : Act) (w : World) (p : Nat), listed.size = ops.size → (List.range ops.size).countP (fun i => !listed.getD i true) ≤ fuel → Inv n ops ds Y a0 F listed a w p → (∀ i, i < n → listed.getD i false = true) → wpAny P .any ops Q' fuel listed a w := by
    intro fuel listed a w p hls hc I all
    have hl : ∀ i, i < ops.size → listed.getD i false = decide (i < n) := fun i hi => by
      rcases Nat.lt_or_ge i n with h | h
      · rw [all i h]; simp [h]
      · rw [I.unlisted i h]; simp; omega
    refine wp_tail S hL tail n fuel listed a w (Nat.le_refl _) htl ht ?_ hl hls (hQ' a w (full listed a w p I all))
    -- as many are left as the tail is long
    have hcount : ∀ k, k ≤ ops.size → (List.range k).countP (fun i => !listed.getD i true) = k - n := by
      intro k
      induction k with
      | zero => intro _; simp
      | succ k ih =>
        intro hk
        rw [List.range_succ, List.countP_append, ih (by omega)]
        have h1 := hl k (by omega)
        have h2 : k < listed.size := by omega
        simp [h2] at h1
        rcases Nat.lt_or_ge k n with h | h
        · simp [h2, h1, h]; omega
        · have : ¬ k < n := by omega
          simp [h2, h1, this]; omega
    have := hcount ops.size (Nat.le_refl _)
    omega
  have stuck : ∀ (listed : Array Bool) (a : Act) (w : World) (p : Nat), listed.size = ops.size → Inv n ops ds Y a0 F listed a w p → Region.ready .any ops listed = [] → ∀ m j, j < m → j < ops.size → listed.getD j false = true := by
    intro listed a w p hls I hr m
    induction m with
    | zero => intro j hj; omega
    | succ m ih =>
      intro j hj hjs
      have ho : ops[j]? = some ops[j] := Array.getElem?_eq_getElem hjs
      cases hl : listed.getD j true with
      | true =>
        have : j < listed.size := by omega
        simp [this] at hl ⊢; exact hl
      | false =>
        have : j ∈ Region.ready .any ops listed := mem_ready.2 ⟨hl, _, ho, fun e he hb => by
          have hlt := S.before ho e.on (mem_preds.2 ⟨e, he, hb, rfl⟩)
          exact ih e.on (by omega) (by omega)⟩
        rw [hr] at this; cases this
  intro fuel
  induction fuel with
  | zero =>
    intro listed a w p hls hc I
    have hr : Region.ready .any ops listed = [] := by
      rw [List.eq_nil_iff_forall_not_mem]
      intro j hj
      obtain ⟨h0, o, ho, _⟩ := mem_ready.1 hj
      have := List.countP_eq_zero.1 (Nat.le_zero.1 hc) j (List.mem_range.2 (Array.getElem?_eq_some_iff.1 ho).1)
      rw [h0] at this; simp at this
    have all := stuck listed a w p hls I hr
    exact toTail 0 listed a w p hls hc I fun i hi => all _ i (Nat.lt_succ_self i) (by omega)
  | succ fuel ih =>
    intro listed a w p hls hc I
    by_cases hfull : ∀ i, i < n → listed.getD i false = true
    case pos => exact toTail (fuel + 1) listed a w p hls hc I hfull
    case neg =>
    refine ⟨fun hr => absurd (fun i hi => stuck listed a w p hls I hr _ i (Nat.lt_succ_self i) (by omega)) hfull, fun j hj => ?_⟩
    obtain ⟨hun, o, ho, hall⟩ := mem_ready.1 hj
    have hjs : j < ops.size := (Array.getElem?_eq_some_iff.1 ho).1
    have hpl : ∀ i ∈ predsOf o, listed.getD i false = true := fun i hi => by
      obtain ⟨e, he, hb, rfl⟩ := mem_preds.1 hi
      exact hall e he hb
    have hjn : j < n := by
      rcases Nat.lt_or_ge j n with h | h
      · exact h
      · exfalso
        -- all ahead of it are listed
        have all : ∀ d i, i < j → j - i ≤ d → listed.getD i false = true := by
          intro d
          induction d with
          | zero => intro i hi hd; omega
          | succ d ihd =>
            intro i hi hd
            obtain ⟨i', o', h1, h2, h3, h4⟩ := (hL j o h ho).2 i hi
            rcases Nat.lt_or_ge i' j with h5 | h5
            · exact I.down i' o' h3 (ihd i' h5 (by omega)) i h4
            · obtain rfl : i' = j := by omega
              rw [ho] at h3
              obtain rfl := Option.some.inj h3
              exact hpl i h4
        exact hfull fun i hi => all _ i (by omega) (Nat.le_refl _)
    have hcount : (List.range ops.size).countP (fun i => !(listed.setIfInBounds j true).getD i true) ≤ fuel := by
      have := count_lt (List.range ops.size) (fun i => !listed.getD i true) (fun i => !(listed.setIfInBounds j true).getD i true) j (List.mem_range.2 hjs) (by rw [hun]; rfl) (by
        have : j < listed.size := by omega
        simp [this]) fun k hk => by
          by_cases hkj : j = k
          · subst hkj
            have : j < listed.size := by omega
            simp [this] at hk
          · rw [getD_set_ne true hkj] at hk; exact hk
      omega
    have hod := S.dst ho
    obtain ⟨f, hf⟩ := I.some_
    have hps : ∀ i ∈ predsOf o, i < n := fun i hi => by have := S.before ho i hi; omega
    have hjl : j < listed.size := by omega
    have hjun : listed.getD j false = false := by simp [hjl] at hun ⊢; exact hun
    have hGj := hG j o hjn ho
    -- what became of memory
    let Move : World → Nat → Prop := fun w' p' => (Y.cs.contains j = false ∧ p' = p ∧ (Y.K w w' ∨ w' = w)) ∨ (Y.cs[p]? = some j ∧ p' = p + 1 ∧ Y.M p w w' ∧ Y.Ph (p + 1) w')
    have inj : ∀ (i k : Nat), Y.cs[i]? = some j → Y.cs[k]? = some j → i = k := fun i k h1 h2 => by
      rcases Nat.lt_trichotomy i k with h | h | h
      · have := C.less _ _ _ _ h1 h2 h; omega
      · exact h
      · have := C.less _ _ _ _ h2 h1 h; omega
    -- whatever it leaves: the next state is one of ours
    have next : ∀ w' a' v p', Move w' p' → (F j).holds p' w' v → a' = a.put o.dst v → Inv n ops ds Y a0 F (listed.setIfInBounds j true) a' w' p' := by
      intro w' a' v p' hw' hv ha
      subst ha
      refine ⟨?_, ?_, fun i c hc => ?_, (put_defers' ..).trans I.defers, (put_size ..).trans I.size, fun k hk => ?_, fun k ok hok hk i hi => ?_, fun t ht => ?_, fun i => if i = j then v else f i, fun i hi hl => ?_⟩
      · rcases hw' with ⟨_, rfl, h | rfl⟩ | ⟨_, rfl, _, h⟩
        · exact HY.bk _ _ _ I.base h
        · exact I.base
        · exact h
      · rcases hw' with ⟨_, rfl, _⟩ | ⟨h, rfl, _⟩
        · exact I.ple
        · have := (List.getElem?_eq_some_iff.1 h).1; omega
      · have h0 := I.ph i c hc
        by_cases hcj : j = c
        · subst hcj
          rw [getD_set_same hjl]
          rcases hw' with ⟨h, _⟩ | ⟨h, rfl, _⟩
          · rw [List.contains_iff_mem.2 (List.mem_of_getElem? hc)] at h; cases h
          · obtain rfl := inj _ _ hc h
            simp
        · rw [getD_set_ne false hcj, h0]
          rcases hw' with ⟨_, rfl, _⟩ | ⟨h, rfl, _⟩
          · rfl
          · have : i ≠ p := fun e => by
              subst e
              rw [h] at hc
              exact hcj (Option.some.inj hc)
            omega
      · rw [getD_set_ne false (by omega)]; exact I.unlisted k hk
      · by_cases hkj : j = k
        · subst hkj
          rw [ho] at hok
          obtain rfl := Option.some.inj hok
          exact getD_set_true (hpl i hi)
        · rw [getD_set_ne false hkj] at hk
          exact getD_set_true (I.down k ok hok hk i hi)
      · rw [put_at_ne, I.other]
        · intro i hi hd
          have h1 := ht i hi hd
          by_cases hij : j = i
          · subst hij
            rw [getD_set_same hjl] at h1; cases h1
          · rw [getD_set_ne false hij] at h1; exact h1
        · intro hd
          have h1 := ht j hjn (hod.trans hd)
          rw [getD_set_same hjl] at h1; cases h1
      · by_cases hij : i = j
        · subst hij
          simp only [if_true]
          refine ⟨?_, fun d hd => ?_⟩
          · exact hv
          · rw [hod] at hd
            rw [hd]
            exact put_at_same _ _ (by rw [I.size]; exact S.small ho d hd)
        · simp only [if_neg hij]
          rw [getD_set_ne false (Ne.symm hij)] at hl
          have h1 := hf i hi hl
          refine ⟨?_, fun d hd => ?_⟩
          · have hoi : ops[i]? = some (ops[i]'(by omega)) := Array.getElem?_eq_getElem (by omega)
            -- known from lo on, and that many have come up
            have hst : ∃ lo, lo ≤ p ∧ (F i).stays Y lo := by
              cases hG i _ hi hoi with
              | plain lo hi' l hbd hcj hst _ _ _ =>
                refine ⟨lo, ?_, hst⟩
                rcases Nat.eq_zero_or_pos lo with h | h
                · omega
                · obtain ⟨c, h3, h4⟩ := C.lo i _ lo hi' listed hi hcj hoi hbd I.down (I.down i _ hoi hl) (lo - 1) (by omega)
                  have := (I.ph _ _ h3).1 h4
                  omega
              | turn i' l hi' hst _ _ _ =>
                exact ⟨i' + 1, (I.ph _ _ hi').1 hl, hst⟩
              | skip _ _ hk => exact ⟨0, Nat.zero_le _, by rw [hk]; trivial⟩
            obtain ⟨lo, hlo, hst⟩ := hst
            have h2 := h1.1
            cases hk : F i with
            | is u => rw [hk] at h2; exact h2
            | of r =>
              rw [hk] at h2 hst
              rcases hw' with ⟨_, rfl, h | rfl⟩ | ⟨hc, rfl, h3, h4⟩
              · exact hst.1 _ _ _ _ hlo h h2
              · exact h2
              · exact hst.2 _ _ _ _ hlo (List.getElem?_eq_some_iff.1 hc).1 I.base h4 h3 h2
          · rw [put_at_ne, h1.2 d hd]
            intro hd'
            exact hij (S.one ho hjn i d (by omega) hd hd')
    have goOn : ∀ w' a' v p', Move w' p' → (F j).holds p' w' v → a' = a.put o.dst v → wpAny P .any ops Q' fuel (listed.setIfInBounds j true) a' w' := fun w' a' v p' h1 h2 h3 =>
      ih _ _ _ _ (by simp [hls]) hcount (next w' a' v p' h1 h2 h3)
    -- what the guard says
    have hwant : ∀ b, says F o = some b → Region.wanted o (yielded ops a.tmps) = b := by
      intro b hb
      unfold says at hb
      unfold Region.wanted
      cases hgu : o.guard with
      | none => simp only [hgu] at hb; simpa using hb
      | some gw =>
        obtain ⟨g, want⟩ := gw
        obtain ⟨hgp, hgd⟩ := S.guard ho g want hgu
        simp only [hgu] at hb ⊢
        obtain ⟨d, hd⟩ := Option.isSome_iff_exists.1 hgd
        have hg1 := hf g (hps g hgp) (hpl g hgp)
        have hgs : g < ops.size := by have := hps g hgp; omega
        have hog : ops[g]? = some (ops[g]'hgs) := Array.getElem?_eq_getElem hgs
        have hgd' := S.dst hog
        cases hkn : F g with
        | of r => rw [hkn] at hb; simp at hb
        | is v =>
          rw [hkn] at hb hg1
          simp only [Know.holds] at hg1
          have hy : yielded ops a.tmps g = boolOf v := by
            unfold yielded
            rw [hog]
            simp only [Option.bind_some]
            rw [← hgd', hd]
            simp only [Option.bind_some]
            rw [hg1.2 d hd, hg1.1]
            cases v <;> rfl
          rw [hy]
          simpa using hb
    unfold wpOp
    simp only [ho]
    have step : ∀ (l : List Nat) (p' : Nat) (R : World → Prop), says F o = some true → fits ds o l = true → (∀ w', R w' → Move w' p') → (from_ ds F p w l a0 fun a => ∀ T : Exit → Act → World → Prop,
        (∀ a' w', a'.defers = a.defers → R w' → (F j).holds p' w' (last a' o.dst) → T .normal a' w') → wpList P #[] T [{ o with guard := none }] a w) →
        (if Region.wanted o (yielded ops a.tmps) = true then o.wp P a w (wpAny P .any ops Q' fuel (listed.setIfInBounds j true)) Q' ∨ o.asks P a w ∧ LetsOut Q' else wpAny P .any ops Q' fuel (listed.setIfInBounds j true) (a.put o.dst undef) w) := by
      intro l p' R hs hl hR hop
      obtain ⟨hl1, hl2⟩ := fits_spec hl
      rw [if_pos (hwant _ hs)]
      -- the frame that it is shown in
      have hc := from_at (f := f) hop fun i hi => (hf i (hps i (hl1 i hi)) (hpl i (hl1 i hi))).1
      obtain ⟨c, hcdef⟩ : ∃ c, putAll ds f l a0 = c := ⟨_, rfl⟩
      have hcsize : c.tmps.size = a0.tmps.size := by rw [← hcdef]; exact putAll_size _ _
      have agree : ∀ t, Operand.tmp t ∈ o.op.operands → a.tmps[t]? = c.tmps[t]? := by
        intro t ht
        have htl : t ∈ o.looksAt ops := List.mem_append_left _ (List.mem_filterMap.2 ⟨.tmp t, by simpa using ht, rfl⟩)
        rw [← hcdef]
        by_cases hex : ∃ i, i < n ∧ ds.getD i none = some t
        · obtain ⟨i, hi, hd⟩ := hex
          have hoi : ops[i]? = some (ops[i]'(by omega)) := Array.getElem?_eq_getElem (by omega)
          have hip := S.looks ho hjn i t (by omega) hd htl
          rw [(hf i hi (hpl i hip)).2 t hd]
          exact (putAll_at _ _ (S.small hoi t (S.dst hoi ▸ hd)) (hl2 i hip t hd ht) hd fun k hk hdk => S.one hoi hi k t (by have := hps k (hl1 k hk); omega) hdk (S.dst hoi ▸ hd)).symm
        · rw [putAll_ne _ _ fun i hi hd => hex ⟨i, hps i (hl1 i hi), hd⟩, I.other t fun i hi hd => absurd ⟨i, hi, hd⟩ hex]
      have heval : ∀ x ∈ o.op.operands, a.eval x = c.eval x := by
        intro x hx
        cases x with
        | tmp t =>
          have := agree t hx
          simp only [Act.eval, Array.getD_eq_getD_getElem?]
          rw [this]
        | _ => rfl
      have hexec : execOp a.eval o = execOp c.eval o := execOp_congr o (fun cs b => S.nosel j o cs b ho) heval
      rw [hcdef] at hc
      have hcl := hc (fun e a' w' => e = .normal ∧ a'.defers = c.defers ∧ R w' ∧ (F j).holds p' w' (last a' o.dst)) fun a' w' h1 h2 h3 => ⟨rfl, h1, h2, h3⟩
      simp only [wpList, Region.wanted, if_true] at hcl
      rcases hcl with hcl | ⟨_, hout⟩
      · refine .inl ?_
        have hlast : ∀ v, last (c.put o.dst v) o.dst = v ∨ (o.dst = none ∧ last (c.put o.dst v) o.dst = undef) := by
          intro v
          cases hd : o.dst with
          | none => exact .inr ⟨rfl, rfl⟩
          | some d =>
            refine .inl ?_
            change ((c.put (some d) v).tmps[d]?).getD undef = v
            rw [put_at_same _ _ (by rw [hcsize]; exact S.small ho d hd)]
            rfl
        have fin : ∀ v w', R w' → (F j).holds p' w' (last (c.put o.dst v) o.dst) → wpAny P .any ops Q' fuel (listed.setIfInBounds j true) (a.put o.dst v) w' := by
          intro v w' h1 h2
          rcases hlast v with h | ⟨hn, h⟩
          · rw [h] at h2
            exact goOn w' _ v p' (hR _ h1) h2 rfl
          · rw [h] at h2
            refine goOn w' _ undef p' (hR _ h1) h2 ?_
            rw [hn]; rfl
        unfold Oper.wp at hcl ⊢
        rw [hexec]
        have hx2 : execOp c.eval { o with guard := none } = execOp c.eval o := rfl
        rw [hx2] at hcl
        generalize (execOp c.eval o).run P w = r at hcl ⊢
        cases r with
        | halt x w' => cases x <;> simp [Oper.upon] at hcl
        | ok n w' =>
          cases n
          case value v => exact fin v w' hcl.2.2.1 hcl.2.2.2
          case skip => exact fin undef w' hcl.2.2.1 hcl.2.2.2
          case defer d =>
            have h1 := hcl.2.1
            rw [put_defers'] at h1
            have := congrArg List.length h1
            simp at this
          case row row args => exact Rows.mono hcl fun v w'' h => fin v w'' h.2.2.1 h.2.2.2
          case enter fn args =>
            refine Calls.mono hcl fun e w'' h => ?_
            cases e with
            | returned v => exact fin v w'' h.2.2.1 h.2.2.2
            | panicked ch => simp at h
            | outgrown => obtain ⟨_, _, h, _⟩ := h; cases h
          all_goals exact hcl.elim
      · obtain ⟨_, _, h, _⟩ := hout
        cases h
    cases hGj with
    | plain lo hi l hbd hcj hst hs hl hop =>
      have hlo : lo ≤ p := by
        rcases Nat.eq_zero_or_pos lo with h | h
        · omega
        · obtain ⟨c, h3, h4⟩ := C.lo j o lo hi listed hjn hcj ho hbd I.down hpl (lo - 1) (by omega)
          have := (I.ph _ _ h3).1 h4
          omega
      have hhi : p ≤ hi := by
        rcases Nat.lt_or_ge hi p with h | h
        · have hlt : hi < Y.cs.length := by have := I.ple; omega
          have h3 : Y.cs[hi]? = some Y.cs[hi] := List.getElem?_eq_getElem hlt
          have h4 := C.hi j o lo hi listed hjn hcj ho hbd I.down _ h3 ((I.ph _ _ h3).2 h)
          rw [hjun] at h4; cases h4
        · exact h
      exact step l p (fun w' => Y.K w w') hs hl (fun w' h => .inl ⟨hcj, rfl, .inl h⟩) (hop p w hlo hhi I.base)
    | turn i l hi hst hs hl hop =>
      have hip : i = p := by
        have h1 : ¬ i < p := fun h => by
          have := (I.ph _ _ hi).2 h
          rw [hjun] at this; cases this
        rcases Nat.lt_or_ge p i with h | h
        · have hlt : p < Y.cs.length := by have := (List.getElem?_eq_some_iff.1 hi).1; omega
          have h3 : Y.cs[p]? = some Y.cs[p] := List.getElem?_eq_getElem hlt
          have h4 := (I.ph _ _ h3).1 (C.ahead p i _ _ o listed h3 hi h ho I.down hpl)
          omega
        · omega
      subst hip
      exact step l (i + 1) (fun w' => Y.M i w w' ∧ Y.Ph (i + 1) w') hs hl (fun w' h => .inr ⟨hi, rfl, h.1, h.2⟩) (from_mono (fun a h T hT => h T fun a' w' h1 h2 h3 h4 => hT a' w' h1 ⟨h2, h3⟩ h4) (hop w I.base))
    | skip hcj hs hk =>
      rw [if_neg (by rw [hwant _ hs]; simp)]
      exact goOn w _ undef p (.inl ⟨hcj, rfl, .inr rfl⟩) (by rw [hk]; rfl) rfl
/-- the first ones in whatever order, the tail behind them. -/
theorem any_region {Q' : Exit → Act → World → Prop} {l tail : List Oper} {a : Act} {w : World} (Y : Way) (ds : List (Option Tmp)) (size : Nat) (tb : List (List Nat)) (hs : sane (l ++ tail).toArray ds size l.length = true) (ht : tabled (l ++ tail).toArray tb = true) (hch : chained Y.cs tb l.length = true) (hbd : bounded Y.cs tb Y.bds l.length = true) (hc : closes (l ++ tail).toArray l.length = true) (hz : a.tmps.size = size)
    (HY : Y.Fair) (hB : Y.Ph 0 w.drew) (h : walk P Y ds a (fun a w => wpList P #[] Q' (tail.map fun o => { o with guard := none }) a w) l []) : wpAny P .any (l ++ tail).toArray Q' (l ++ tail).toArray.size (Array.replicate (l ++ tail).toArray.size false) a { w with drawn := w.drawn + 1 } := by
  subst hz
  have S := sane_spec hs
  have hpre : ∀ (j : Nat) (o : Oper), l[j]? = some o → (l ++ tail).toArray[j]? = some o := fun j o hj => by
    have := (List.getElem?_eq_some_iff.1 hj).1
    simpa [List.getElem?_append_left this] using hj
  obtain ⟨F, _, h2, h3⟩ := extract l [] (fun j o hj => ⟨fun i hi => by
    have := S.before (hpre j o hj) i hi
    simpa using this, fun g b hg => (S.guard (hpre j o hj) g b hg).1⟩) h
  have hsz : (l ++ tail).toArray.size = l.length + tail.length := by simp
  refine (wp_any (Q := fun a w => wpList P #[] Q' (tail.map fun o => { o with guard := none }) a w) (F := F) (a0 := a) (n := l.length) S (chain_spec (by simp) S.before ht hch hbd) HY (by omega) (fun j o hj ho => ?_) (closes_spec hc) (fun w' hw' => ?_) tail hsz.symm (fun i => ?_) (fun _ _ h => h) _ _ _ _ 0 (by simp) ?_ ⟨hB, Nat.zero_le _, fun i c hcc => ?_, rfl, rfl, fun j _ => ?_, fun j o _ hl => ?_, fun _ _ => rfl, fun _ => undef, fun i hi hl => ?_⟩)
  · have h4 : l[j]? = some l[j] := List.getElem?_eq_getElem hj
    have h5 := hpre j _ h4
    rw [h5] at ho
    obtain rfl := Option.some.inj ho
    have := h2 j _ h4
    simpa using this
  · have := h3 w' hw'
    simpa using this
  · rw [List.getElem?_toArray, List.getElem?_append_right (by omega), Nat.add_sub_cancel_left]
  · have := List.countP_le_length (p := fun i => !(Array.replicate (l ++ tail).toArray.size false).getD i true) (l := List.range (l ++ tail).toArray.size)
    simpa using this
  · have hcl := (chain_spec (Y := Y) (n := l.length) (by simp) S.before ht hch hbd).small i c hcc
    have : c < l.length + tail.length := by omega
    simp [this]
  · by_cases hj : j < (l ++ tail).toArray.size
    · simp at hj; simp [hj]
    · simp at hj; simp [show ¬ j < l.length + tail.length by omega]
  · by_cases hj : j < (l ++ tail).toArray.size
    · simp at hj; simp [hj] at hl
    · simp at hj; simp [show ¬ j < l.length + tail.length by omega] at hl
  · have : i < l.length + tail.length := by omega
    simp [this] at hl
/-- **THE LAW**: at a region that draws its order: the first ones in whatever order, the tail behind them. -/
theorem wp_region {id : Nat} {Q' : Exit → Act → World → Prop} {l tail : List Oper} {a : Act} {w : World} (Y : Way) (ds : List (Option Tmp)) (size : Nat) (hm : P.follows .mixedOrders = true) (tb : List (List Nat)) (hs : sane (l ++ tail).toArray ds size l.length = true) (ht : tabled (l ++ tail).toArray tb = true) (hch : chained Y.cs tb l.length = true) (hbd : bounded Y.cs tb Y.bds l.length = true) (hc : closes (l ++ tail).toArray l.length = true) (hz : a.tmps.size = size)
    (HY : Y.Fair) (hB : Y.Ph 0 w.drew) (h : walk P Y ds a (fun a w => wpList P #[] Q' (tail.map fun o => { o with guard := none }) a w) l []) : (Code.region id (l ++ tail).toArray true).wp P Q' a w := by
  exact wp_region_any hm (any_region Y ds size tb hs ht hch hbd hc hz HY hB h)
end
section
variable {P : Program} {Y : Way} {ds : List (Option Tmp)} {a0 : Act} {Q : Act → World → Prop} {Rs : List Know} {rest : List Oper}
theorem op_skip {o : Oper} (hj : Y.cs.contains Rs.length = false) (hs : says (look Rs) o = some false) (h : walk P Y ds a0 Q rest (.is undef :: Rs)) : walk P Y ds a0 Q (o :: rest) Rs :=
  ⟨.is undef, .skip hj hs rfl, h⟩
section
variable {dst : Option Tmp} {op : Op} {type : TypeId} {pos : String} {after : Array Edge} {guard : Option (Nat × Bool)}
theorem op_is (v : Value) (l : List Nat) (lo hi : Nat) (hbd : Y.bds.getD Rs.length (0, 0) = (lo, hi)) (hj : Y.cs.contains Rs.length = false) (hs : says (look Rs) ⟨dst, op, type, pos, after, guard⟩ = some true) (hl : fits ds ⟨dst, op, type, pos, after, guard⟩ l = true)
    (h : ∀ p w, lo ≤ p → p ≤ hi → Y.Ph p w → from_ ds (look Rs) p w l a0 fun a => ∀ T : Exit → Act → World → Prop, (∀ a' w', a'.defers = a.defers → Y.K w w' → last a' dst = v → T .normal a' w') → wpList P #[] T [⟨dst, op, type, pos, #[], none⟩] a w)
    (hr : walk P Y ds a0 Q rest (.is v :: Rs)) : walk P Y ds a0 Q (⟨dst, op, type, pos, after, guard⟩ :: rest) Rs :=
  ⟨.is v, .plain lo hi l hbd hj trivial hs hl h, hr⟩
theorem op_of (r : Nat → World → Value → Prop) (l : List Nat) (lo hi : Nat) (hbd : Y.bds.getD Rs.length (0, 0) = (lo, hi)) (hj : Y.cs.contains Rs.length = false)
    (hk : ∀ p w w' v, lo ≤ p → Y.K w w' → r p w v → r p w' v) (hm : ∀ p w w' v, lo ≤ p → p < Y.cs.length → Y.Ph p w → Y.Ph (p + 1) w' → Y.M p w w' → r p w v → r (p + 1) w' v) (hs : says (look Rs) ⟨dst, op, type, pos, after, guard⟩ = some true) (hl : fits ds ⟨dst, op, type, pos, after, guard⟩ l = true)
    (h : ∀ p w, lo ≤ p → p ≤ hi → Y.Ph p w → from_ ds (look Rs) p w l a0 fun a => ∀ T : Exit → Act → World → Prop, (∀ a' w', a'.defers = a.defers → Y.K w w' → r p w' (last a' dst) → T .normal a' w') → wpList P #[] T [⟨dst, op, type, pos, #[], none⟩] a w)
    (hr : walk P Y ds a0 Q rest (.of r :: Rs)) : walk P Y ds a0 Q (⟨dst, op, type, pos, after, guard⟩ :: rest) Rs :=
  ⟨.of r, .plain lo hi l hbd hj ⟨hk, hm⟩ hs hl h, hr⟩
end
theorem from_is {lk : Nat → Know} {pre : Nat} {w : World} {i : Nat} {l : List Nat} {a : Act} {G : Act → Prop} {v : Value} (d : Option Tmp) (hk : lk i = .is v) (hd : ds.getD i none = d) (h : from_ ds lk pre w l (a.put d v) G) : from_ ds lk pre w (i :: l) a G := by
  subst hd
  unfold from_
  rw [hk]
  exact h
theorem from_of {lk : Nat → Know} {pre : Nat} {w : World} {i : Nat} {l : List Nat} {a : Act} {G : Act → Prop} {r : Nat → World → Value → Prop} (d : Option Tmp) (hk : lk i = .of r) (hd : ds.getD i none = d) (h : ∀ v, r pre w v → from_ ds lk pre w l (a.put d v) G) : from_ ds lk pre w (i :: l) a G := by
  subst hd
  unfold from_
  rw [hk]
  exact h
theorem from_nil {lk : Nat → Know} {pre : Nat} {w : World} {a : Act} {G : Act → Prop} (h : G a) : from_ ds lk pre w [] a G := h
theorem walk_nil (l : List Nat) (hl : List.range Rs.length = l) (h : ∀ w, Y.Ph Y.cs.length w → from_ ds (look Rs) Y.cs.length w l a0 fun a => Q a w) : walk P Y ds a0 Q [] Rs := by
  subst hl; exact h
end
/-- memory grows, and what there was stays. -/
def Keep (w w' : World) : Prop := Go.RowKit.Below w.heap.size w w'
theorem Keep.refl (w : World) : Keep w w := Go.RowKit.Below.refl _ w
theorem Keep.trans {a b c : World} (h : Keep a b) (k : Keep b c) : Keep a c := Go.RowKit.Below.trans h (Go.RowKit.Below.mono k h.size)
theorem keep_drew (w : World) : Keep w w.drew := ⟨rfl, rfl, rfl, Nat.le_refl _, fun _ _ => rfl⟩
end Go.Rgd
end

section
namespace Go.Rgd
open Go.RowKit Go.Proofs.YtpdgalclnlbeaaaDoor
/-- what lay in w0 stays. -/
def keep (w0 : World) (cs : List Nat) (bds : List (Nat × Nat)) : Way := ⟨Keep, fun _ _ _ => True, fun _ w => Below w0.heap.size w0 w, cs, bds⟩
theorem keep_fair {w0 : World} {cs : List Nat} {bds : List (Nat × Nat)} : (keep w0 cs bds).Fair := ⟨fun _ _ _ h1 hk => below_next h1 (Below.size h1) hk⟩
theorem keep_start (w0 : World) : Below w0.heap.size w0 w0.drew := keep_drew w0
end Go.Rgd
end

section
namespace Go.Proofs.YtpdgalclnlbeaaaDoor
open Go Go.RowKit Go.Maps Go.Shelf Go.Proofs
abbrev u64v (l : List Int) : List Value := l.map (Value.int .u64)
/-- numbers that are uint64s. -/
def U64s (l : List Int) : Prop := ∀ z ∈ l, U64 z
theorem U64s.nth {l : List Int} (h : U64s l) (j : Nat) : U64 (nth l j) := by
  by_cases hj : j < l.length
  · rw [nth_lt hj]; exact h _ (List.getElem_mem hj)
  · rw [nth_ge (by omega)]; exact ⟨by omega, by omega⟩
theorem u64v_at {l : List Int} {j : Nat} (h : j < l.length) : (u64v l)[j]? = some (.int .u64 (nth l j)) := by
  rw [List.getElem?_map, List.getElem?_eq_getElem h, nth_lt h]; rfl
theorem tabL_set {n : Nat} {f g : Nat → Int} {k : Nat} (hf : ∀ j, j ≠ k → f j = g j) : (u64v (tabL n f)).set k (.int .u64 (g k)) = u64v (tabL n g) := by
  apply List.ext_getElem?
  intro j
  rw [List.getElem?_set]
  by_cases hj : k = j
  · subst hj
    rw [if_pos rfl]
    by_cases hk : k < n
    · rw [if_pos (by simp [tabL, hk]), u64v_at (by rw [tabL_len]; exact hk), tabL_at hk]
    · rw [if_neg (by simp [tabL]; omega), List.getElem?_eq_none (by simp [tabL]; omega)]
  · rw [if_neg hj]
    by_cases hk : j < n
    · rw [u64v_at (by rw [tabL_len]; exact hk), u64v_at (by rw [tabL_len]; exact hk), tabL_at hk, tabL_at hk, hf j (Ne.symm hj)]
    · rw [List.getElem?_eq_none (by simp [tabL]; omega), List.getElem?_eq_none (by simp [tabL]; omega)]
theorem tabL_nth (l : List Int) : tabL l.length (nth l) = l := by
  apply nth_ext
  · exact tabL_len ..
  · intro j hj
    rw [tabL_len] at hj
    exact tabL_at hj
theorem tabL_congr {n : Nat} {f g : Nat → Int} (h : ∀ j, j < n → f j = g j) : tabL n f = tabL n g := by
  unfold tabL
  exact List.map_congr_left fun j hj => h j (List.mem_range.1 hj)
theorem sub_mul {q : Int} (h : okm q = true) (a x t : Int) : mSub a (mMul x t q) q = (a - x * t) % q := by
  rw [mSub_ok h, mMul_ok h, Int.sub_emod, Int.emod_emod, ← Int.sub_emod]
theorem grown_set (w : World) (b k : Nat) (u : Value) : w.grownBy (w.setCell ⟨b, k, none⟩ u) (some b) :=
  ⟨rfl, rfl, rfl, by simp [World.setCell], fun i _ hi => Below.heap_setCell w ⟨b, k, none⟩ u i (fun e => hi (by rw [e]))⟩
theorem grown_below' {w w' : World} {r : Option Nat} (hb : Below w.heap.size w w') : w.grownBy w' r := ⟨hb.os, hb.tape, hb.output, hb.size, fun i hi _ => hb.block i hi⟩
/-- a row, so far less. -/
def lessK (q : Int) (row other : List Int) (t : Int) (k : Nat) : List Int := tabL row.length fun j => if j < k then (nth row j - nth other j * t) % q else nth row j
theorem lessK_zero (q : Int) (row other : List Int) (t : Int) : lessK q row other t 0 = row := by
  unfold lessK
  rw [tabL_congr (g := nth row) fun j _ => if_neg (by omega), tabL_nth]
theorem lessK_len (q : Int) (row other : List Int) (t : Int) (k : Nat) : (lessK q row other t k).length = row.length := tabL_len ..
theorem lessK_all (q : Int) (row other : List Int) (t : Int) : lessK q row other t other.length = lessL q row other t := rfl
theorem lessK_at {q : Int} {row other : List Int} {t : Int} {k : Nat} (h : k < row.length) : nth (lessK q row other t k) k = nth row k := by
  unfold lessK
  rw [tabL_at h, if_neg (by omega)]
theorem lessK_set {q : Int} {row other : List Int} {t : Int} {k : Nat} : (u64v (lessK q row other t k)).set k (.int .u64 ((nth row k - nth other k * t) % q)) = u64v (lessK q row other t (k + 1)) := by
  unfold lessK
  have := tabL_set (n := row.length) (f := fun j => if j < k then (nth row j - nth other j * t) % q else nth row j) (g := fun j => if j < k + 1 then (nth row j - nth other j * t) % q else nth row j) (k := k) fun j hj => by
    by_cases h1 : j < k
    · simp only [if_pos h1, if_pos (show j < k + 1 by omega)]
    · simp only [if_neg h1, if_neg (show ¬ j < k + 1 by omega)]
  simp only [if_pos (Nat.lt_succ_self k)] at this
  exact this
abbrev spV (q : Int) (W gm : Nat) : List Value := [.int .u64 q, .int .i64 W, .map (some gm)]
set_option maxRecDepth 100000 in
set_option maxHeartbeats 2000000 in
theorem less_c (gs b c gm W : Nat) (q : Int) (row other : List Int) (t : Int) (w : World) (hg : Row1 w gs 63 (spV q W gm)) (hr : Row1 w b 22 (u64v row)) (ho : Row1 w c 22 (u64v other)) (hne : c ≠ b)
    (hq : okm q = true) (hru : U64s row) (hou : U64s other) (ht : U64 t) (hle : other.length ≤ row.length) (hl : row.length ≤ 1000000000) :
    Calls Tryd.prog 51 #[.pointer (some ⟨gs, 0, none⟩), .slice (some ⟨b, 0, none⟩) row.length row.length, .slice (some ⟨c, 0, none⟩) other.length other.length, .int .u64 t] w fun e w' => e = .returned (.tuple #[]) ∧ Row1 w' b 22 (u64v (lessL q row other t)) ∧ w.grownBy w' (some b) := by
  have hq1 := okm_pos hq
  have hq2 := okm_le hq
  have HQ := hid hq
  have hneg : gs ≠ b := by
    intro e
    subst e
    unfold Row1 at hg hr
    rw [hg] at hr
    simp at hr
  have HG := hid hg
  have HR := hid hr
  have HO := hid ho
  have HU := hid (⟨hru, hou⟩ : _ ∧ _)
  clear hg hr ho hru hou hq
  go_enter Tryd.func51, Tryd.ntmps51
  go_wp2
  go_loopw [12] (fun i wr => ∃ k : Nat, i = .int .i64 (k : Int) ∧ k ≤ other.length ∧ Hid (Row1 wr b 22 (u64v (lessK q row other t k)) ∧ w.grownBy wr (some b))) (fun i _ => other.length - (intOf i).toNat)
  case atStart => exact ⟨0, rfl, by omega, hid ⟨by rw [lessK_zero]; exact HR.out, grown_below' (Below.refl _ _)⟩⟩
  case round =>
    obtain ⟨k, rfl, hk, HI⟩ := hrel
    by_cases hlt : k < other.length
    · have HGr := hid (HG.out.keep (HI.out.2.block gs HG.out.lt (fun e => hneg (Option.some.inj e))))
      have HOr := hid (HO.out.keep (HI.out.2.block c HO.out.lt (fun e => hne (Option.some.inj e))))
      have co := HOr.out.cell (u64v_at hlt)
      have hx := HU.out.1.nth k
      have hy := HU.out.2.nth k
      obtain ⟨x1, x2⟩ := hx
      obtain ⟨y1, y2⟩ := hy
      have hkr : k < row.length := by omega
      have HX := hid (show (u64v (lessK q row other t k))[k]? = some (.int .u64 (nth row k)) by rw [u64v_at (by rw [lessK_len]; exact hkr), lessK_at hkr])
      have HS := hid (lessK_set (q := q) (row := row) (other := other) (t := t) (k := k))
      have HSM := hid (sub_mul HQ.out (nth row k) (nth other k) t)
      generalize nth row k = x at *
      generalize nth other k = y at *
      go_wp2_with (fail)
      refine Rgd.wp_region (l := [_, _, _, _, _, _, _, _, _, _, _, _, _, _, _, _, _, _, _]) (tail := [_]) (Rgd.keep wr [] [(0, 0), (0, 0), (0, 0), (0, 0), (0, 0), (0, 0), (0, 0), (0, 0), (0, 0), (0, 0), (0, 0), (0, 0), (0, 0), (0, 0), (0, 0), (0, 0), (0, 0), (0, 0), (0, 0)]) [some 17, some 18, some 19, some 20, some 21, some 22, some 23, some 24, some 25, some 26, some 27, some 28, some 29, some 30, some 31, some 32, some 33, some 34, some 35, none] 37 rfl [[], [], [], [], [2, 3], [2, 3, 4], [], [], [], [8], [8, 9], [8, 9, 10], [6, 7, 8, 9, 10, 11], [], [13], [13, 14], [13, 14, 15], [2, 3, 4, 5, 6, 7, 8, 9, 10, 11, 12, 13, 14, 15, 16], [0, 1, 2, 3, 4, 5, 6, 7, 8, 9, 10, 11, 12, 13, 14, 15, 16, 17]] (by kernel_rfl) (by kernel_rfl) (by kernel_rfl) (by kernel_rfl) (by kernel_rfl) rfl (Rgd.keep_fair) (Rgd.keep_start _) ?_
      refine' Rgd.op_is _ [] 0 0 rfl rfl rfl (by kernel_rfl) ?_ ?_
      rotate_left
      · intro p wx hp1 hp2 hb
        obtain rfl : p = 0 := by omega
        refine Rgd.from_nil fun T hT => ?_
        go_wp2
        refine hT _ _ rfl (by first | exact Rgd.Keep.refl _ | exact below_of_dr hw2 | exact hw2 | exact (Below.refl _ _).alloc (Nat.le_refl _) _) ?_
        simp only [Rgd.last, List.getElem?_toArray, List.getElem?_cons_succ, List.getElem?_cons_zero, Option.getD_some]
        rfl
      refine' Rgd.op_is _ [] 0 0 rfl rfl rfl (by kernel_rfl) ?_ ?_
      rotate_left
      · intro p wx hp1 hp2 hb
        obtain rfl : p = 0 := by omega
        refine Rgd.from_nil fun T hT => ?_
        go_wp2
        refine hT _ _ rfl (by first | exact Rgd.Keep.refl _ | exact below_of_dr hw2 | exact hw2 | exact (Below.refl _ _).alloc (Nat.le_refl _) _) ?_
        simp only [Rgd.last, List.getElem?_toArray, List.getElem?_cons_succ, List.getElem?_cons_zero, Option.getD_some]
        rfl
      refine' Rgd.op_is _ [] 0 0 rfl rfl rfl (by kernel_rfl) ?_ ?_
      rotate_left
      · intro p wx hp1 hp2 hb
        obtain rfl : p = 0 := by omega
        refine Rgd.from_nil fun T hT => ?_
        go_wp2
        refine hT _ _ rfl (by first | exact Rgd.Keep.refl _ | exact below_of_dr hw2 | exact hw2 | exact (Below.refl _ _).alloc (Nat.le_refl _) _) ?_
        simp only [Rgd.last, List.getElem?_toArray, List.getElem?_cons_succ, List.getElem?_cons_zero, Option.getD_some]
        rfl
      refine' Rgd.op_is _ [] 0 0 rfl rfl rfl (by kernel_rfl) ?_ ?_
      rotate_left
      · intro p wx hp1 hp2 hb
        obtain rfl : p = 0 := by omega
        refine Rgd.from_nil fun T hT => ?_
        go_wp2
        refine hT _ _ rfl (by first | exact Rgd.Keep.refl _ | exact below_of_dr hw2 | exact hw2 | exact (Below.refl _ _).alloc (Nat.le_refl _) _) ?_
        simp only [Rgd.last, List.getElem?_toArray, List.getElem?_cons_succ, List.getElem?_cons_zero, Option.getD_some]
        rfl
      refine' Rgd.op_is _ [2, 3] 0 0 rfl rfl rfl (by kernel_rfl) ?_ ?_
      rotate_left
      · intro p wx hp1 hp2 hb
        obtain rfl : p = 0 := by omega
        refine Rgd.from_is (some 19) rfl rfl ?_
        refine Rgd.from_is (some 20) rfl rfl ?_
        refine Rgd.from_nil fun T hT => ?_
        go_wp2
        refine hT _ _ rfl (by first | exact Rgd.Keep.refl _ | exact below_of_dr hw2 | exact hw2 | exact (Below.refl _ _).alloc (Nat.le_refl _) _) ?_
        simp only [Rgd.last, List.getElem?_toArray, List.getElem?_cons_succ, List.getElem?_cons_zero, Option.getD_some]
        rfl
      refine Rgd.op_is (.int .u64 x) [4] 0 0 rfl rfl rfl (by kernel_rfl) ?_ ?_
      · intro p wx hp1 hp2 hb
        obtain rfl : p = 0 := by omega
        refine Rgd.from_is (some 21) rfl rfl ?_
        refine Rgd.from_nil fun T hT => ?_
        have q3 := (HI.out.1.below hb).cell HX.out
        go_wp2
        exact hT _ _ rfl (by first | exact Rgd.Keep.refl _ | exact below_of_dr hw2 | exact hw2 | exact (Below.refl _ _).alloc (Nat.le_refl _) _) (by first | rfl | exact congrArg _ (by decide))
      refine' Rgd.op_is _ [] 0 0 rfl rfl rfl (by kernel_rfl) ?_ ?_
      rotate_left
      · intro p wx hp1 hp2 hb
        obtain rfl : p = 0 := by omega
        refine Rgd.from_nil fun T hT => ?_
        go_wp2
        refine hT _ _ rfl (by first | exact Rgd.Keep.refl _ | exact below_of_dr hw2 | exact hw2 | exact (Below.refl _ _).alloc (Nat.le_refl _) _) ?_
        simp only [Rgd.last, List.getElem?_toArray, List.getElem?_cons_succ, List.getElem?_cons_zero, Option.getD_some]
        rfl
      refine' Rgd.op_is _ [] 0 0 rfl rfl rfl (by kernel_rfl) ?_ ?_
      rotate_left
      · intro p wx hp1 hp2 hb
        obtain rfl : p = 0 := by omega
        refine Rgd.from_nil fun T hT => ?_
        go_wp2
        refine hT _ _ rfl (by first | exact Rgd.Keep.refl _ | exact below_of_dr hw2 | exact hw2 | exact (Below.refl _ _).alloc (Nat.le_refl _) _) ?_
        simp only [Rgd.last, List.getElem?_toArray, List.getElem?_cons_succ, List.getElem?_cons_zero, Option.getD_some]
        rfl
      refine' Rgd.op_is _ [] 0 0 rfl rfl rfl (by kernel_rfl) ?_ ?_
      rotate_left
      · intro p wx hp1 hp2 hb
        obtain rfl : p = 0 := by omega
        refine Rgd.from_nil fun T hT => ?_
        go_wp2
        refine hT _ _ rfl (by first | exact Rgd.Keep.refl _ | exact below_of_dr hw2 | exact hw2 | exact (Below.refl _ _).alloc (Nat.le_refl _) _) ?_
        simp only [Rgd.last, List.getElem?_toArray, List.getElem?_cons_succ, List.getElem?_cons_zero, Option.getD_some]
        rfl
      refine' Rgd.op_is _ [8] 0 0 rfl rfl rfl (by kernel_rfl) ?_ ?_
      rotate_left
      · intro p wx hp1 hp2 hb
        obtain rfl : p = 0 := by omega
        refine Rgd.from_is (some 25) rfl rfl ?_
        refine Rgd.from_nil fun T hT => ?_
        go_wp2
        refine hT _ _ rfl (by first | exact Rgd.Keep.refl _ | exact below_of_dr hw2 | exact hw2 | exact (Below.refl _ _).alloc (Nat.le_refl _) _) ?_
        simp only [Rgd.last, List.getElem?_toArray, List.getElem?_cons_succ, List.getElem?_cons_zero, Option.getD_some]
        rfl
      refine' Rgd.op_is _ [9] 0 0 rfl rfl rfl (by kernel_rfl) ?_ ?_
      rotate_left
      · intro p wx hp1 hp2 hb
        obtain rfl : p = 0 := by omega
        refine Rgd.from_is (some 26) rfl rfl ?_
        refine Rgd.from_nil fun T hT => ?_
        go_wp2
        refine hT _ _ rfl (by first | exact Rgd.Keep.refl _ | exact below_of_dr hw2 | exact hw2 | exact (Below.refl _ _).alloc (Nat.le_refl _) _) ?_
        simp only [Rgd.last, List.getElem?_toArray, List.getElem?_cons_succ, List.getElem?_cons_zero, Option.getD_some]
        rfl
      refine Rgd.op_is (.int .u64 q) [10] 0 0 rfl rfl rfl (by kernel_rfl) ?_ ?_
      · intro p wx hp1 hp2 hb
        obtain rfl : p = 0 := by omega
        refine Rgd.from_is (some 27) rfl rfl ?_
        refine Rgd.from_nil fun T hT => ?_
        have q3 := (HGr.out.below hb).cell (k := 0) rfl
        go_wp2
        exact hT _ _ rfl (by first | exact Rgd.Keep.refl _ | exact below_of_dr hw2 | exact hw2 | exact (Below.refl _ _).alloc (Nat.le_refl _) _) (by first | rfl | exact congrArg _ (by decide))
      refine Rgd.op_is (.int .u64 (mMul y t q)) [6, 7, 11] 0 0 rfl rfl rfl (by kernel_rfl) ?_ ?_
      · intro p wx hp1 hp2 hb
        obtain rfl : p = 0 := by omega
        refine Rgd.from_is (some 23) rfl rfl ?_
        refine Rgd.from_is (some 24) rfl rfl ?_
        refine Rgd.from_is (some 28) rfl rfl ?_
        refine Rgd.from_nil fun T hT => ?_
        go_wp2_with (fail)
        refine (mul_c y t q ⟨y1, y2⟩ ht ⟨by omega, by omega⟩ _).mono ?_
        rintro e wy ⟨rfl, hk⟩
        go_wp2
        exact hT _ _ rfl (below_of_dr hk) (by simp [Rgd.last])
      refine' Rgd.op_is _ [] 0 0 rfl rfl rfl (by kernel_rfl) ?_ ?_
      rotate_left
      · intro p wx hp1 hp2 hb
        obtain rfl : p = 0 := by omega
        refine Rgd.from_nil fun T hT => ?_
        go_wp2
        refine hT _ _ rfl (by first | exact Rgd.Keep.refl _ | exact below_of_dr hw2 | exact hw2 | exact (Below.refl _ _).alloc (Nat.le_refl _) _) ?_
        simp only [Rgd.last, List.getElem?_toArray, List.getElem?_cons_succ, List.getElem?_cons_zero, Option.getD_some]
        rfl
      refine' Rgd.op_is _ [13] 0 0 rfl rfl rfl (by kernel_rfl) ?_ ?_
      rotate_left
      · intro p wx hp1 hp2 hb
        obtain rfl : p = 0 := by omega
        refine Rgd.from_is (some 30) rfl rfl ?_
        refine Rgd.from_nil fun T hT => ?_
        go_wp2
        refine hT _ _ rfl (by first | exact Rgd.Keep.refl _ | exact below_of_dr hw2 | exact hw2 | exact (Below.refl _ _).alloc (Nat.le_refl _) _) ?_
        simp only [Rgd.last, List.getElem?_toArray, List.getElem?_cons_succ, List.getElem?_cons_zero, Option.getD_some]
        rfl
      refine' Rgd.op_is _ [14] 0 0 rfl rfl rfl (by kernel_rfl) ?_ ?_
      rotate_left
      · intro p wx hp1 hp2 hb
        obtain rfl : p = 0 := by omega
        refine Rgd.from_is (some 31) rfl rfl ?_
        refine Rgd.from_nil fun T hT => ?_
        go_wp2
        refine hT _ _ rfl (by first | exact Rgd.Keep.refl _ | exact below_of_dr hw2 | exact hw2 | exact (Below.refl _ _).alloc (Nat.le_refl _) _) ?_
        simp only [Rgd.last, List.getElem?_toArray, List.getElem?_cons_succ, List.getElem?_cons_zero, Option.getD_some]
        rfl
      refine Rgd.op_is (.int .u64 q) [15] 0 0 rfl rfl rfl (by kernel_rfl) ?_ ?_
      · intro p wx hp1 hp2 hb
        obtain rfl : p = 0 := by omega
        refine Rgd.from_is (some 32) rfl rfl ?_
        refine Rgd.from_nil fun T hT => ?_
        have q3 := (HGr.out.below hb).cell (k := 0) rfl
        go_wp2
        exact hT _ _ rfl (by first | exact Rgd.Keep.refl _ | exact below_of_dr hw2 | exact hw2 | exact (Below.refl _ _).alloc (Nat.le_refl _) _) (by first | rfl | exact congrArg _ (by decide))
      refine Rgd.op_is (.int .u64 ((x - y * t) % q)) [5, 12, 16] 0 0 rfl rfl rfl (by kernel_rfl) ?_ ?_
      · intro p wx hp1 hp2 hb
        obtain rfl : p = 0 := by omega
        refine Rgd.from_is (some 22) rfl rfl ?_
        refine Rgd.from_is (some 29) rfl rfl ?_
        refine Rgd.from_is (some 33) rfl rfl ?_
        refine Rgd.from_nil fun T hT => ?_
        go_wp2_with (fail)
        refine (sub_c x (mMul y t q) q ⟨x1, x2⟩ (mMul_u64 y t q) ⟨by omega, by omega⟩ _).mono ?_
        rintro e wy ⟨rfl, hk⟩
        rw [HSM.out]
        go_wp2
        exact hT _ _ rfl (below_of_dr hk) (by simp [Rgd.last])
      refine' Rgd.op_is _ [0, 1] 0 0 rfl rfl rfl (by kernel_rfl) ?_ ?_
      rotate_left
      · intro p wx hp1 hp2 hb
        obtain rfl : p = 0 := by omega
        refine Rgd.from_is (some 17) rfl rfl ?_
        refine Rgd.from_is (some 18) rfl rfl ?_
        refine Rgd.from_nil fun T hT => ?_
        go_wp2
        refine hT _ _ rfl (by first | exact Rgd.Keep.refl _ | exact below_of_dr hw2 | exact hw2 | exact (Below.refl _ _).alloc (Nat.le_refl _) _) ?_
        simp only [Rgd.last, List.getElem?_toArray, List.getElem?_cons_succ, List.getElem?_cons_zero, Option.getD_some]
        rfl
      refine Rgd.walk_nil [0, 1, 2, 3, 4, 5, 6, 7, 8, 9, 10, 11, 12, 13, 14, 15, 16, 17, 18] (by kernel_rfl) ?_
      intro wx hb
      refine Rgd.from_is (some 17) rfl rfl ?_
      refine Rgd.from_is (some 18) rfl rfl ?_
      refine Rgd.from_is (some 19) rfl rfl ?_
      refine Rgd.from_is (some 20) rfl rfl ?_
      refine Rgd.from_is (some 21) rfl rfl ?_
      refine Rgd.from_is (some 22) rfl rfl ?_
      refine Rgd.from_is (some 23) rfl rfl ?_
      refine Rgd.from_is (some 24) rfl rfl ?_
      refine Rgd.from_is (some 25) rfl rfl ?_
      refine Rgd.from_is (some 26) rfl rfl ?_
      refine Rgd.from_is (some 27) rfl rfl ?_
      refine Rgd.from_is (some 28) rfl rfl ?_
      refine Rgd.from_is (some 29) rfl rfl ?_
      refine Rgd.from_is (some 30) rfl rfl ?_
      refine Rgd.from_is (some 31) rfl rfl ?_
      refine Rgd.from_is (some 32) rfl rfl ?_
      refine Rgd.from_is (some 33) rfl rfl ?_
      refine Rgd.from_is (some 34) rfl rfl ?_
      refine Rgd.from_is (some 35) rfl rfl ?_
      refine Rgd.from_nil ?_
      simp only [List.map, Act.put, List.setIfInBounds_toArray, List.set_cons_zero, List.set_cons_succ]
      have hb : Below wr.heap.size wr wx := hb
      have hrx := HI.out.1.below hb
      have hfz := hrx.frozen k
      have hcx := hrx.cell HX.out
      have HN := hid (hrx.set k (.int .u64 ((x - y * t) % q)))
      rw [HS.out] at HN
      have HGN := hid (but_then (but_then HI.out.2 (grown_below' hb)) (grown_set wx b k (.int .u64 ((x - y * t) % q))))
      clear hrx
      go_wp2
      go_roundw
      case rel => exact ⟨k + 1, by go_num, by omega, hid ⟨HN.out, HGN.out⟩⟩
      case measure => simp [intOf]; omega
    · obtain rfl : k = other.length := by omega
      go_wp2
      go_end0
      exact ⟨rfl, by rw [← lessK_all]; exact HI.out.1, HI.out.2⟩
theorem elt_u64 : Elt Tryd.prog 44 22 (.int .u64 0) 8 := Elt.of Tryd.underlying44 (by kernel_rfl) rfl
theorem splice_row (N : Nat) (row : List Int) (h : row.length ≤ N) : splice (List.replicate N (Value.int .u64 0)) 0 (u64v row) = u64v (tabL N (nth row)) := by
  unfold splice
  apply List.ext_getElem?
  intro j
  rw [List.take_zero, List.nil_append, Nat.zero_add, List.length_map]
  by_cases h1 : j < row.length
  · rw [List.getElem?_append_left (by simpa using h1), u64v_at h1, u64v_at (by rw [tabL_len]; omega), tabL_at (by omega)]
  · rw [List.getElem?_append_right (by simpa using h1), List.length_map, List.getElem?_drop, List.getElem?_replicate]
    by_cases h2 : j < N
    · rw [if_pos (by omega), u64v_at (by rw [tabL_len]; exact h2), tabL_at h2, nth_ge (by omega)]
    · rw [if_neg (by omega), List.getElem?_eq_none (by simp [tabL]; omega)]
/-- a row, so far reduced. -/
def redK (N : Nat) (q : Int) (row : List Int) (k : Nat) : List Int := tabL N fun j => if j < k then nth row j % q else nth row j
theorem redK_zero (N : Nat) (q : Int) (row : List Int) : redK N q row 0 = tabL N (nth row) := tabL_congr fun j _ => if_neg (by omega)
theorem redK_all (W : Nat) (q : Int) (row : List Int) : redK (max W row.length) q row (max W row.length) = redL W q row := tabL_congr fun _j hj => if_pos hj
theorem redK_at {N : Nat} {q : Int} {row : List Int} {k : Nat} (h : k < N) : nth (redK N q row k) k = nth row k := by
  unfold redK
  rw [tabL_at h, if_neg (by omega)]
theorem redK_set {N : Nat} {q : Int} {row : List Int} {k : Nat} : (u64v (redK N q row k)).set k (.int .u64 (nth row k % q)) = u64v (redK N q row (k + 1)) := by
  unfold redK
  have := tabL_set (n := N) (f := fun j => if j < k then nth row j % q else nth row j) (g := fun j => if j < k + 1 then nth row j % q else nth row j) (k := k) fun j hj => by
    by_cases h1 : j < k
    · simp only [if_pos h1, if_pos (show j < k + 1 by omega)]
    · simp only [if_neg h1, if_neg (show ¬ j < k + 1 by omega)]
  simp only [if_pos (Nat.lt_succ_self k)] at this
  exact this
theorem below_set {w0 w : World} {b k : Nat} {u : Value} (h : Below w0.heap.size w0 w) (hb : w0.heap.size ≤ b) : Below w0.heap.size w0 (w.setCell ⟨b, k, none⟩ u) :=
  h.grown (grown_set w b k u) h.size fun j e => by cases e; exact hb
theorem copy_pos {w w1 : World} {A : Option Addr} {xs : List Value} {g : Nat} (hA : Cells w A xs) (hb : Below w.heap.size w w1) (h0 : 0 < xs.length) : (some (⟨g, 0, none⟩ : Addr)) = some ⟨g, 0, none⟩ ∧ ∃ ad : Addr, A = some ad ∧ ∀ j v, xs[j]? = some v → w1.cell? (ad.add j) = some v := by
  refine ⟨rfl, ?_⟩
  rcases hA.below hb with h | ⟨b, off, rfl, h⟩
  · rw [h] at h0; simp at h0
  · refine ⟨_, rfl, fun j v hv => ?_⟩
    have hadd : (⟨b, off, none⟩ : Addr).add j = ⟨b, off + j, none⟩ := by unfold Addr.add; split <;> simp_all
    rw [hadd]
    exact h j v hv
theorem u64_one (l : List Int) : ∀ v ∈ u64v l, v.oneCell' = true := by
  intro v hv
  obtain ⟨z, _, rfl⟩ := List.mem_map.1 hv
  rfl
set_option maxRecDepth 100000 in
set_option maxHeartbeats 2000000 in
theorem own_c (gs gm W : Nat) (q : Int) (A : Option Addr) (row : List Int) (c : Nat) (w : World) (hg : Row1 w gs 63 (spV q W gm)) (hA : Cells w A (u64v row)) (hq : okm q = true) (hru : U64s row) (hl : row.length ≤ 100000000) (hW : W ≤ 100000000) :
    Calls Tryd.prog 50 #[.pointer (some ⟨gs, 0, none⟩), .slice A row.length c] w fun e w' => ∃ b, e = .returned (.slice (some ⟨b, 0, none⟩) (max W row.length) (max W row.length)) ∧ w.heap.size ≤ b ∧ Row1 w' b 22 (u64v (redL W q row)) ∧ Below w.heap.size w w' := by
  have hq1 := okm_pos hq
  have hq2 := okm_le hq
  have hq0 : (q == 0) = false := by simp; omega
  have HG := hid hg
  have HA := hid hA
  have HU := hid hru
  have c1 := hg.cell (k := 1) rfl
  have HRA := hid (redK_all W q row)
  obtain ⟨N, hN⟩ : ∃ N, max W row.length = N := ⟨_, rfl⟩
  have hN2 : max (W : Int) (row.length : Int) = (N : Int) := by omega
  have hNr : row.length ≤ N := by omega
  have hNl : N ≤ 100000000 := by omega
  rw [hN] at HRA ⊢
  clear hg hA hru hN
  go_enter Tryd.func50, Tryd.ntmps50
  go_wp2_with (first
    | (at_make; refine wpList_make_row elt_u64 _ rfl _ _ rfl .i64 .i64 (N : Int) (N : Int) N rfl rfl rfl rfl (by omega) (by omega) ?_; intro w1 hr1 hs1 hb1)
    | (refine wpList_copy_splice (by rfl) (.tmp 15) (.tmp 16) 44 44 (by rfl) 22 Tryd.underlying44 (by kernel_rfl) _ _ N N row.length c rfl rfl w.heap.size 0 (List.replicate N (Value.int .u64 0)) 22 hr1 (u64v row) (by show (u64v row).length = min row.length N; rw [List.length_map]; omega) (copy_pos HA.out hb1) (by rw [List.length_map, List.length_replicate]; omega) (u64_one row) w.heap.size w hb1 (Nat.le_refl _) ?_; intro w2 hr2 hb2))
  have HB2 := hid hb2
  clear hr1 hs1 hb1 hb2
  go_wp2
  go_loopw [20] (fun i wr => ∃ k : Nat, i = .int .i64 (k : Int) ∧ k ≤ N ∧ Hid (Row1 wr w.heap.size 22 (u64v (redK N q row k)) ∧ Below w.heap.size w wr)) (fun i _ => N - (intOf i).toNat)
  case atStart => exact ⟨0, rfl, by omega, hid ⟨by rw [redK_zero, ← splice_row N row hNr]; exact hr2.out, HB2.out⟩⟩
  case round =>
    obtain ⟨k, rfl, hk, HI⟩ := hrel
    by_cases hlt : k < N
    · have HGr := hid (HG.out.below HI.out.2)
      obtain ⟨x1, x2⟩ := HU.out.nth k
      have HX := hid (show (u64v (redK N q row k))[k]? = some (.int .u64 (nth row k)) by rw [u64v_at (by unfold redK; rw [tabL_len]; exact hlt), redK_at hlt])
      have HS := hid (redK_set (N := N) (q := q) (row := row) (k := k))
      generalize nth row k = x at *
      go_wp2_with (fail)
      refine Rgd.wp_region (l := [_, _, _, _, _, _, _, _, _, _]) (tail := [_]) (Rgd.keep wr [] [(0, 0), (0, 0), (0, 0), (0, 0), (0, 0), (0, 0), (0, 0), (0, 0), (0, 0), (0, 0)]) [some 23, some 24, some 25, some 26, some 27, some 28, some 29, some 30, some 31, some 32, none] 35 rfl [[], [], [0, 1], [0, 1, 2], [], [4], [4, 5], [4, 5, 6], [0, 1, 2, 3, 4, 5, 6, 7], [0, 1, 2, 3, 4, 5, 6, 7, 8]] (by kernel_rfl) (by kernel_rfl) (by kernel_rfl) (by kernel_rfl) (by kernel_rfl) rfl (Rgd.keep_fair) (Rgd.keep_start _) ?_
      refine' Rgd.op_is _ [] 0 0 rfl rfl rfl (by kernel_rfl) ?_ ?_
      rotate_left
      · intro p wx hp1 hp2 hb
        obtain rfl : p = 0 := by omega
        refine Rgd.from_nil fun T hT => ?_
        go_wp2
        refine hT _ _ rfl (by first | exact Rgd.Keep.refl _ | exact below_of_dr hw2 | exact hw2 | exact (Below.refl _ _).alloc (Nat.le_refl _) _) ?_
        simp only [Rgd.last, List.getElem?_toArray, List.getElem?_cons_succ, List.getElem?_cons_zero, Option.getD_some]
        rfl
      refine' Rgd.op_is _ [] 0 0 rfl rfl rfl (by kernel_rfl) ?_ ?_
      rotate_left
      · intro p wx hp1 hp2 hb
        obtain rfl : p = 0 := by omega
        refine Rgd.from_nil fun T hT => ?_
        go_wp2
        refine hT _ _ rfl (by first | exact Rgd.Keep.refl _ | exact below_of_dr hw2 | exact hw2 | exact (Below.refl _ _).alloc (Nat.le_refl _) _) ?_
        simp only [Rgd.last, List.getElem?_toArray, List.getElem?_cons_succ, List.getElem?_cons_zero, Option.getD_some]
        rfl
      refine' Rgd.op_is _ [0, 1] 0 0 rfl rfl rfl (by kernel_rfl) ?_ ?_
      rotate_left
      · intro p wx hp1 hp2 hb
        obtain rfl : p = 0 := by omega
        refine Rgd.from_is (some 23) rfl rfl ?_
        refine Rgd.from_is (some 24) rfl rfl ?_
        refine Rgd.from_nil fun T hT => ?_
        go_wp2
        refine hT _ _ rfl (by first | exact Rgd.Keep.refl _ | exact below_of_dr hw2 | exact hw2 | exact (Below.refl _ _).alloc (Nat.le_refl _) _) ?_
        simp only [Rgd.last, List.getElem?_toArray, List.getElem?_cons_succ, List.getElem?_cons_zero, Option.getD_some]
        rfl
      refine Rgd.op_is (.int .u64 x) [2] 0 0 rfl rfl rfl (by kernel_rfl) ?_ ?_
      · intro p wx hp1 hp2 hb
        obtain rfl : p = 0 := by omega
        refine Rgd.from_is (some 25) rfl rfl ?_
        refine Rgd.from_nil fun T hT => ?_
        have q3 := (HI.out.1.below hb).cell HX.out
        go_wp2
        exact hT _ _ rfl (by first | exact Rgd.Keep.refl _ | exact below_of_dr hw2 | exact hw2 | exact (Below.refl _ _).alloc (Nat.le_refl _) _) (by first | rfl | exact congrArg _ (by decide))
      refine' Rgd.op_is _ [] 0 0 rfl rfl rfl (by kernel_rfl) ?_ ?_
      rotate_left
      · intro p wx hp1 hp2 hb
        obtain rfl : p = 0 := by omega
        refine Rgd.from_nil fun T hT => ?_
        go_wp2
        refine hT _ _ rfl (by first | exact Rgd.Keep.refl _ | exact below_of_dr hw2 | exact hw2 | exact (Below.refl _ _).alloc (Nat.le_refl _) _) ?_
        simp only [Rgd.last, List.getElem?_toArray, List.getElem?_cons_succ, List.getElem?_cons_zero, Option.getD_some]
        rfl
      refine' Rgd.op_is _ [4] 0 0 rfl rfl rfl (by kernel_rfl) ?_ ?_
      rotate_left
      · intro p wx hp1 hp2 hb
        obtain rfl : p = 0 := by omega
        refine Rgd.from_is (some 27) rfl rfl ?_
        refine Rgd.from_nil fun T hT => ?_
        go_wp2
        refine hT _ _ rfl (by first | exact Rgd.Keep.refl _ | exact below_of_dr hw2 | exact hw2 | exact (Below.refl _ _).alloc (Nat.le_refl _) _) ?_
        simp only [Rgd.last, List.getElem?_toArray, List.getElem?_cons_succ, List.getElem?_cons_zero, Option.getD_some]
        rfl
      refine' Rgd.op_is _ [5] 0 0 rfl rfl rfl (by kernel_rfl) ?_ ?_
      rotate_left
      · intro p wx hp1 hp2 hb
        obtain rfl : p = 0 := by omega
        refine Rgd.from_is (some 28) rfl rfl ?_
        refine Rgd.from_nil fun T hT => ?_
        go_wp2
        refine hT _ _ rfl (by first | exact Rgd.Keep.refl _ | exact below_of_dr hw2 | exact hw2 | exact (Below.refl _ _).alloc (Nat.le_refl _) _) ?_
        simp only [Rgd.last, List.getElem?_toArray, List.getElem?_cons_succ, List.getElem?_cons_zero, Option.getD_some]
        rfl
      refine Rgd.op_is (.int .u64 q) [6] 0 0 rfl rfl rfl (by kernel_rfl) ?_ ?_
      · intro p wx hp1 hp2 hb
        obtain rfl : p = 0 := by omega
        refine Rgd.from_is (some 29) rfl rfl ?_
        refine Rgd.from_nil fun T hT => ?_
        have q3 := (HGr.out.below hb).cell (k := 0) rfl
        go_wp2
        exact hT _ _ rfl (by first | exact Rgd.Keep.refl _ | exact below_of_dr hw2 | exact hw2 | exact (Below.refl _ _).alloc (Nat.le_refl _) _) (by first | rfl | exact congrArg _ (by decide))
      refine Rgd.op_is (.int .u64 (x % q)) [3, 7] 0 0 rfl rfl rfl (by kernel_rfl) ?_ ?_
      · intro p wx hp1 hp2 hb
        obtain rfl : p = 0 := by omega
        refine Rgd.from_is (some 26) rfl rfl ?_
        refine Rgd.from_is (some 30) rfl rfl ?_
        refine Rgd.from_nil fun T hT => ?_
        go_wp2
        exact hT _ _ rfl (by first | exact Rgd.Keep.refl _ | exact below_of_dr hw2 | exact hw2 | exact (Below.refl _ _).alloc (Nat.le_refl _) _) (by first | rfl | exact congrArg _ (by decide))
      refine' Rgd.op_is _ [0, 1] 0 0 rfl rfl rfl (by kernel_rfl) ?_ ?_
      rotate_left
      · intro p wx hp1 hp2 hb
        obtain rfl : p = 0 := by omega
        refine Rgd.from_is (some 23) rfl rfl ?_
        refine Rgd.from_is (some 24) rfl rfl ?_
        refine Rgd.from_nil fun T hT => ?_
        go_wp2
        refine hT _ _ rfl (by first | exact Rgd.Keep.refl _ | exact below_of_dr hw2 | exact hw2 | exact (Below.refl _ _).alloc (Nat.le_refl _) _) ?_
        simp only [Rgd.last, List.getElem?_toArray, List.getElem?_cons_succ, List.getElem?_cons_zero, Option.getD_some]
        rfl
      refine Rgd.walk_nil [0, 1, 2, 3, 4, 5, 6, 7, 8, 9] (by kernel_rfl) ?_
      intro wx hb
      refine Rgd.from_is (some 23) rfl rfl ?_
      refine Rgd.from_is (some 24) rfl rfl ?_
      refine Rgd.from_is (some 25) rfl rfl ?_
      refine Rgd.from_is (some 26) rfl rfl ?_
      refine Rgd.from_is (some 27) rfl rfl ?_
      refine Rgd.from_is (some 28) rfl rfl ?_
      refine Rgd.from_is (some 29) rfl rfl ?_
      refine Rgd.from_is (some 30) rfl rfl ?_
      refine Rgd.from_is (some 31) rfl rfl ?_
      refine Rgd.from_is (some 32) rfl rfl ?_
      refine Rgd.from_nil ?_
      simp only [List.map, Act.put, List.setIfInBounds_toArray, List.set_cons_zero, List.set_cons_succ]
      have hb : Below wr.heap.size wr wx := hb
      have hrx := HI.out.1.below hb
      have hfz := hrx.frozen k
      have hcx := hrx.cell HX.out
      have HN := hid (hrx.set k (.int .u64 (x % q)))
      rw [HS.out] at HN
      have HBN := hid (below_set (k := k) (u := .int .u64 (x % q)) (below_next HI.out.2 HI.out.2.size hb) (Nat.le_refl _))
      clear hrx
      go_wp2
      go_roundw
      case rel => exact ⟨k + 1, by go_num, by omega, hid ⟨HN.out, HBN.out⟩⟩
      case measure => simp [intOf]; omega
    · obtain rfl : k = N := by omega
      rw [HRA.out] at HI
      go_wp2
      go_ret
      exact ⟨_, rfl, Nat.le_refl _, HI.out.1, HI.out.2⟩
end Go.Proofs.YtpdgalclnlbeaaaDoor
end
