/-
  Parts of these texts that the statement needs: Region, FxA, LitB, RaE.
-/
import Derived.Orders
import Derived.OwnWalk
import Derived.NoCompiler
import Derived.WalkKit
import Derived.Test.YtpdgalclnlbeaaaDoorAdmQ4
import Derived.StillTailTactics
import Derived.Laws.CopyOwn
import Derived.Laws.AppendOwnNone
import Derived.Test.YtpdgalclnlbeaaaDoorAdmQ1

section
namespace Go.Rg
/-- what is known of what an operation left: the very value; or a property that later worlds keep. -/
inductive Know
  | is (v : Value)
  | of (r : World → Value → Prop)
  | till (r : World → Value → Prop)
/-- 'pre': the one operation that turns memory has not come up yet. -/
def Know.holds (pre : Bool) : Know → World → Value → Prop
  | .is v, _, u => u = v
  | .of r, w, u => r w u
  | .till r, w, u => pre = true → r w u
/-- the newest lies first. -/
def look (Rs : List Know) (i : Nat) : Know := if i < Rs.length then Rs.getD (Rs.length - 1 - i) (.of fun _ _ => True) else .of fun _ _ => True
theorem look_cons (Rs : List Know) (k : Know) (i : Nat) (h : i < Rs.length) : look (k :: Rs) i = look Rs i := by
  unfold look
  rw [if_pos (by simp; omega), if_pos h]
  have : (k :: Rs).length - 1 - i = (Rs.length - 1 - i) + 1 := by simp; omega
  rw [this]; rfl
theorem look_new (Rs : List Know) (k : Know) : look (k :: Rs) Rs.length = k := by
  unfold look
  rw [if_pos (by simp)]
  simp
def predsOf (o : Oper) : List Nat := ((o.after.toList.filter fun e => Region.binds .any e).map (·.on)).eraseDups
theorem mem_preds {o : Oper} {i : Nat} : i ∈ predsOf o ↔ ∃ e ∈ o.after, Region.binds .any e = true ∧ e.on = i := by
  unfold predsOf
  rw [List.mem_eraseDups, List.mem_map]
  constructor
  · rintro ⟨e, he, rfl⟩
    rw [List.mem_filter] at he
    exact ⟨e, Array.mem_toList_iff.1 he.1, he.2, rfl⟩
  · rintro ⟨e, he, hb, rfl⟩
    exact ⟨e, List.mem_filter.2 ⟨Array.mem_toList_iff.2 he, hb⟩, rfl⟩
/-- l: some of those that o waits for, with all whose values it reads. -/
def fits (ds : List (Option Tmp)) (o : Oper) (l : List Nat) : Bool :=
  l.all (predsOf o).contains && (predsOf o).all fun i => l.contains i || match ds.getD i none with | some d => !(o.op.operands.any fun x => match x with | .tmp t => t == d | _ => false) | none => true
theorem fits_spec {ds : List (Option Tmp)} {o : Oper} {l : List Nat} (h : fits ds o l = true) : (∀ i ∈ l, i ∈ predsOf o) ∧ ∀ i ∈ predsOf o, ∀ d, ds.getD i none = some d → Operand.tmp d ∈ o.op.operands → i ∈ l := by
  simp only [fits, Bool.and_eq_true, List.all_eq_true, Bool.or_eq_true, List.contains_iff_mem] at h
  refine ⟨h.1, fun i hi d hd ho => ?_⟩
  rcases h.2 i hi with h | h
  · exact h
  · rw [hd] at h
    simp only [Bool.not_eq_true'] at h
    have : (o.op.operands.any fun x => match x with | .tmp t => t == d | _ => false) = true := Array.any_eq_true'.2 ⟨_, ho, by simp⟩
    rw [h] at this; cases this
def boolOf : Value → Option Bool
  | .bool b => some b
  | _ => none
def says (lk : Nat → Know) (o : Oper) : Option Bool :=
  match o.guard with
  | none => some true
  | some (g, want) => match lk g with
    | .is v => some (boolOf v == some want)
    | _ => none
def last (a : Act) : Option Tmp → Value
  | some d => (a.tmps[d]?).getD undef
  | none => undef
def from_ (ds : List (Option Tmp)) (lk : Nat → Know) (pre : Bool) (w : World) : List Nat → Act → (Act → Prop) → Prop
  | [], a, G => G a
  | i :: l, a, G => match lk i with
    | .is v => from_ ds lk pre w l (a.put (ds.getD i none) v) G
    | .of r => ∀ v, r w v → from_ ds lk pre w l (a.put (ds.getD i none) v) G
    | .till r => ∀ v, (pre = true → r w v) → from_ ds lk pre w l (a.put (ds.getD i none) v) G
def putAll (ds : List (Option Tmp)) (f : Nat → Value) : List Nat → Act → Act
  | [], a => a
  | i :: l, a => putAll ds f l (a.put (ds.getD i none) (f i))
section
variable {ds : List (Option Tmp)} {lk : Nat → Know} {pre : Bool} {w : World} {f : Nat → Value} {G : Act → Prop}
theorem from_congr {lk' : Nat → Know} : ∀ {l : List Nat} {a : Act}, (∀ i ∈ l, lk i = lk' i) → from_ ds lk pre w l a G → from_ ds lk' pre w l a G
  | [], _, _, h => h
  | i :: l, a, he, h => by
    have h1 := he i (List.mem_cons_self ..)
    have h2 := fun j hj => he j (List.mem_cons_of_mem _ hj)
    unfold from_ at h ⊢
    rw [← h1]
    cases hk : lk i with
    | is v => rw [hk] at h; exact from_congr h2 h
    | of r => rw [hk] at h; exact fun v hv => from_congr h2 (h v hv)
    | till r => rw [hk] at h; exact fun v hv => from_congr h2 (h v hv)
theorem from_at : ∀ {l : List Nat} {a : Act}, from_ ds lk pre w l a G → (∀ i ∈ l, (lk i).holds pre w (f i)) → G (putAll ds f l a)
  | [], _, h, _ => h
  | i :: l, a, h, hf => by
    have h1 := hf i (List.mem_cons_self ..)
    have h2 := fun j hj => hf j (List.mem_cons_of_mem _ hj)
    unfold from_ at h
    unfold putAll
    cases hk : lk i with
    | is v =>
      rw [hk] at h h1
      simp only [Know.holds] at h1
      rw [h1]
      exact from_at h h2
    | of r =>
      rw [hk] at h h1
      exact from_at (h _ h1) h2
    | till r =>
      rw [hk] at h h1
      exact from_at (h _ h1) h2
theorem from_mono {G' : Act → Prop} (hg : ∀ a, G a → G' a) : ∀ {l : List Nat} {a : Act}, from_ ds lk pre w l a G → from_ ds lk pre w l a G'
  | [], _, h => hg _ h
  | i :: l, a, h => by
    unfold from_ at h ⊢
    cases hk : lk i with
    | is v => rw [hk] at h; exact from_mono hg h
    | of r => rw [hk] at h; exact fun v hv => from_mono hg (h v hv)
    | till r => rw [hk] at h; exact fun v hv => from_mono hg (h v hv)
theorem put_size (a : Act) (d : Option Tmp) (v : Value) : (a.put d v).tmps.size = a.tmps.size := by cases d <;> simp [Act.put]
theorem put_defers' (a : Act) (d : Option Tmp) (v : Value) : (a.put d v).defers = a.defers := by cases d <;> simp [Act.put]
theorem put_at_ne (a : Act) {d : Option Tmp} (v : Value) {t : Tmp} (h : d ≠ some t) : (a.put d v).tmps[t]? = a.tmps[t]? := by
  cases d with
  | none => rfl
  | some d => exact Array.getElem?_setIfInBounds_ne fun e => h (congrArg _ e)
theorem put_at_same (a : Act) (v : Value) {t : Tmp} (h : t < a.tmps.size) : (a.put (some t) v).tmps[t]? = some v := by
  simp [Act.put, h]
theorem putAll_size : ∀ (l : List Nat) (a : Act), (putAll ds f l a).tmps.size = a.tmps.size
  | [], _ => rfl
  | _ :: l, _ => (putAll_size l _).trans (put_size ..)
theorem putAll_defers : ∀ (l : List Nat) (a : Act), (putAll ds f l a).defers = a.defers
  | [], _ => rfl
  | _ :: l, _ => (putAll_defers l _).trans (put_defers' ..)
theorem putAll_ne {t : Tmp} : ∀ (l : List Nat) (a : Act), (∀ i ∈ l, ds.getD i none ≠ some t) → (putAll ds f l a).tmps[t]? = a.tmps[t]?
  | [], _, _ => rfl
  | i :: l, a, h => (putAll_ne l _ fun j hj => h j (List.mem_cons_of_mem _ hj)).trans (put_at_ne a _ (h i (List.mem_cons_self ..)))
theorem putAll_at {t : Tmp} {i : Nat} : ∀ (l : List Nat) (a : Act), t < a.tmps.size → i ∈ l → ds.getD i none = some t → (∀ j ∈ l, ds.getD j none = some t → j = i) → (putAll ds f l a).tmps[t]? = some (f i)
  | [], _, _, h, _, _ => by cases h
  | j :: l, a, hs, hi, hd, hu => by
    by_cases hin : i ∈ l
    · exact putAll_at l _ (by rw [put_size]; exact hs) hin hd fun k hk => hu k (List.mem_cons_of_mem _ hk)
    · obtain rfl : i = j := by
        rcases List.mem_cons.1 hi with h | h
        · exact h
        · exact absurd h hin
      refine (putAll_ne l _ fun k hk he => hin ?_).trans ?_
      · obtain rfl := hu k (List.mem_cons_of_mem _ hk) he
        exact hk
      · rw [hd]; exact put_at_same _ _ hs
end
/-- what the region's operations do to memory, and what stays: 'K': all but one; 'M': that one, number 's'; 'B': stays throughout; 'B1': till that one comes up. -/
structure Way where
  K : World → World → Prop
  M : World → World → Prop
  B : World → Prop
  B1 : World → Prop
  s : Nat
structure Way.Fair (Y : Way) : Prop where
  bk : ∀ w w', Y.B w → Y.K w w' → Y.B w'
  bm : ∀ w w', Y.B w → Y.M w w' → Y.B w'
  b1 : ∀ w w', Y.B1 w → Y.K w w' → Y.B1 w'
def Know.stays (Y : Way) (j : Nat) : Know → Prop
  | .is _ => True
  | .of r => (∀ w w' v, Y.K w w' → r w v → r w' v) ∧ (j ≠ Y.s → ∀ w w' v, Y.M w w' → r w v → r w' v)
  | .till r => j ≠ Y.s ∧ ∀ w w' v, Y.K w w' → r w v → r w' v
section
variable (P : Program) (Y : Way) (ds : List (Option Tmp)) (a0 : Act) (Q : Act → World → Prop)
def opGoal (lk : Nat → Know) (j : Nat) (o : Oper) (l : List Nat) (k : Know) : Prop :=
  ∀ w, Y.B w → (j = Y.s → Y.B1 w) → from_ ds lk (j == Y.s) w l a0 fun a => ∀ T : Exit → Act → World → Prop,
    (∀ a' w', a'.defers = a.defers → (if j = Y.s then Y.M w w' else Y.K w w') → k.holds true w' (last a' o.dst) → T .normal a' w') → wpList P #[] T [{ o with guard := none }] a w
def Good (lk : Nat → Know) (j : Nat) (o : Oper) (k : Know) : Prop :=
  k.stays Y j ∧ ((says lk o = some true ∧ ∃ l, fits ds o l = true ∧ opGoal P Y ds a0 lk j o l k) ∨ (says lk o = some false ∧ k = .is undef))
/-- all that are left, in the text's order. -/
def walk : List Oper → List Know → Prop
  | [], Rs => ∀ w, Y.B w → from_ ds (look Rs) (decide (Rs.length ≤ Y.s)) w (List.range Rs.length) a0 fun a => Q a w
  | o :: rest, Rs => ∃ k : Know, Good P Y ds a0 (look Rs) Rs.length o k ∧ walk rest (k :: Rs)
end
/-- what is looked at once, closed. -/
def sane (ops : Array Oper) (ds : List (Option Tmp)) (size n : Nat) : Bool :=
  Region.noSelect ops && ds.length == ops.size &&
  (List.range ops.size).all fun j => match ops[j]? with
    | none => true
    | some o =>
      ds.getD j none == o.dst && (predsOf o).all (· < j) && (match o.dst with | some d => decide (d < size) | none => true) &&
      (match o.guard with | none => true | some (g, _) => (predsOf o).contains g && (ds.getD g none).isSome) &&
      (List.range n).all fun i => decide (n ≤ j) || match ds.getD i none with
        | none => true
        | some d => (i == j || o.dst != some d) && (!(o.looksAt ops).contains d || (predsOf o).contains i)
/-- from number n on each waits, at last, for all ahead of it. -/
def closes (ops : Array Oper) (n : Nat) : Bool :=
  (List.range ops.size).all fun j => decide (j < n) || match ops[j]? with
    | none => true
    | some o => o.guard.isNone && (List.range j).all fun i => (List.range (j + 1)).any fun i' => decide (i < i') && match ops[i']? with
      | none => false
      | some o' => (predsOf o').contains i
section
variable {P : Program} {Y : Way} {ds : List (Option Tmp)} {a0 : Act} {Q : Act → World → Prop} {ops : Array Oper}
structure Sane (ops : Array Oper) (ds : List (Option Tmp)) (size n : Nat) : Prop where
  nosel : ∀ (j : Nat) (o : Oper) cs b, ops[j]? = some o → o.op ≠ .select cs b
  len : ds.length = ops.size
  dst : ∀ {j : Nat} {o : Oper}, ops[j]? = some o → ds.getD j none = o.dst
  before : ∀ {j : Nat} {o : Oper}, ops[j]? = some o → ∀ i ∈ predsOf o, i < j
  small : ∀ {j : Nat} {o : Oper}, ops[j]? = some o → ∀ d, o.dst = some d → d < size
  guard : ∀ {j : Nat} {o : Oper}, ops[j]? = some o → ∀ g b, o.guard = some (g, b) → g ∈ predsOf o ∧ (ds.getD g none).isSome
  one : ∀ {j : Nat} {o : Oper}, ops[j]? = some o → j < n → ∀ i d, i < n → ds.getD i none = some d → o.dst = some d → i = j
  looks : ∀ {j : Nat} {o : Oper}, ops[j]? = some o → j < n → ∀ i d, i < n → ds.getD i none = some d → d ∈ o.looksAt ops → i ∈ predsOf o
theorem sane_spec {size n : Nat} (h : sane ops ds size n = true) : Sane ops ds size n := by
  simp only [sane, Bool.and_eq_true, List.all_eq_true, List.mem_range, beq_iff_eq] at h
  obtain ⟨⟨h1, h2⟩, h3⟩ := h
  have key := fun (j : Nat) (o : Oper) (hj : ops[j]? = some o) => by
    have := h3 j (Array.getElem?_eq_some_iff.1 hj).1
    simp only [hj, Bool.and_eq_true, beq_iff_eq, List.all_eq_true, decide_eq_true_eq, List.mem_range, Bool.or_eq_true] at this
    exact this
  refine ⟨Region.noSelect_spec h1, h2, fun hj => (key _ _ hj).1.1.1.1, fun hj => (key _ _ hj).1.1.1.2, fun hj d hd => ?_, fun hj g b hg => ?_, fun hj hjn i d hi hd ho => ?_, fun hj hjn i d hi hd ho => ?_⟩
  · have := (key _ _ hj).1.1.2; rw [hd] at this; simpa using this
  · have := (key _ _ hj).1.2; rw [hg] at this; simpa using this
  · have := ((key _ _ hj).2 i hi).resolve_left (by omega); rw [hd] at this; simp only [Bool.and_eq_true, Bool.or_eq_true, beq_iff_eq, bne_iff_ne, ne_eq] at this
    rcases this.1 with h | h
    · exact h
    · exact absurd ho h
  · have := ((key _ _ hj).2 i hi).resolve_left (by omega); rw [hd] at this
    simp only [Bool.and_eq_true, Bool.or_eq_true, Bool.not_eq_true', List.contains_iff_mem] at this
    rcases this.2 with h | h
    · exact absurd (List.contains_iff_mem.2 ho) (by rw [h]; simp)
    · exact h
theorem closes_spec {n : Nat} (h : closes ops n = true) : ∀ j o, n ≤ j → ops[j]? = some o → o.guard = none ∧ ∀ i, i < j → ∃ i' o', i < i' ∧ i' ≤ j ∧ ops[i']? = some o' ∧ i ∈ predsOf o' := by
  intro j o hj ho
  simp only [closes, List.all_eq_true, List.mem_range, Bool.or_eq_true, decide_eq_true_eq] at h
  have h1 := (h j (Array.getElem?_eq_some_iff.1 ho).1).resolve_left (by omega)
  simp only [ho, Bool.and_eq_true, List.all_eq_true, List.mem_range, List.any_eq_true, decide_eq_true_eq] at h1
  refine ⟨by simpa using h1.1, fun i hi => ?_⟩
  obtain ⟨i', h2, h3, h4⟩ := h1.2 i hi
  cases h5 : ops[i']? with
  | none => rw [h5] at h4; simp at h4
  | some o' =>
    rw [h5] at h4
    exact ⟨i', o', h3, by omega, h5, List.contains_iff_mem.1 h4⟩
theorem good_congr {lk lk' : Nat → Know} {j : Nat} {o : Oper} {k : Know} (hp : ∀ i ∈ predsOf o, lk i = lk' i) (hg : ∀ g b, o.guard = some (g, b) → g ∈ predsOf o) (h : Good P Y ds a0 lk j o k) : Good P Y ds a0 lk' j o k := by
  have hs : says lk o = says lk' o := by
    unfold says
    cases hgu : o.guard with
    | none => rfl
    | some gb => obtain ⟨g, b⟩ := gb; simp only [hp g (hg g b hgu)]
  refine ⟨h.1, ?_⟩
  rcases h.2 with ⟨h1, l, hl, h2⟩ | ⟨h1, h2⟩
  · exact .inl ⟨hs ▸ h1, _, hl, fun w hw hw1 => from_congr (fun i hi => hp i ((fits_spec hl).1 i hi)) (h2 w hw hw1)⟩
  · exact .inr ⟨hs ▸ h1, h2⟩
theorem extract : ∀ (rest : List Oper) (Rs : List Know), (∀ j o, rest[j]? = some o → (∀ i ∈ predsOf o, i < Rs.length + j) ∧ ∀ g b, o.guard = some (g, b) → g ∈ predsOf o) → walk P Y ds a0 Q rest Rs →
    ∃ F : Nat → Know, (∀ i, i < Rs.length → F i = look Rs i) ∧ (∀ j o, rest[j]? = some o → Good P Y ds a0 F (Rs.length + j) o (F (Rs.length + j))) ∧ ∀ w, Y.B w → from_ ds F (decide (Rs.length + rest.length ≤ Y.s)) w (List.range (Rs.length + rest.length)) a0 fun a => Q a w
  | [], Rs, _, h => ⟨look Rs, fun _ _ => rfl, fun j o h => by simp at h, h⟩
  | o :: rest, Rs, hb, ⟨k, hg, h⟩ => by
    obtain ⟨F, h1, h2, h3⟩ := extract rest (k :: Rs) (fun j o' ho => by
      have := hb (j + 1) o' (by simpa using ho)
      exact ⟨fun i hi => by have := this.1 i hi; simp; omega, this.2⟩) h
    have hF : ∀ i, i < Rs.length → F i = look Rs i := fun i hi => (h1 i (by simp; omega)).trans (look_cons _ _ _ hi)
    refine ⟨F, hF, fun j o' ho => ?_, ?_⟩
    · cases j with
      | zero =>
        simp only [List.getElem?_cons_zero, Option.some.injEq] at ho
        subst ho
        have hbo := hb 0 o rfl
        rw [Nat.add_zero, h1 Rs.length (by simp), look_new]
        exact good_congr (fun i hi => (hF i (by have := hbo.1 i hi; omega)).symm) hbo.2 hg
      | succ j =>
        have := h2 j o' (by simpa using ho)
        have e : (k :: Rs).length + j = Rs.length + (j + 1) := by simp; omega
        rwa [e] at this
    · have e : (k :: Rs).length + rest.length = Rs.length + (o :: rest).length := by simp; omega
      rwa [e] at h3
structure Inv (n : Nat) (ops : Array Oper) (ds : List (Option Tmp)) (Y : Way) (a0 : Act) (F : Nat → Know) (listed : Array Bool) (a : Act) (w : World) : Prop where
  base : Y.B w
  base1 : listed.getD Y.s false = false → Y.B1 w
  defers : a.defers = a0.defers
  size : a.tmps.size = a0.tmps.size
  unlisted : ∀ j, n ≤ j → listed.getD j false = false
  down : ∀ j o, ops[j]? = some o → listed.getD j false = true → ∀ i ∈ predsOf o, listed.getD i false = true
  other : ∀ t, (∀ i, i < n → ds.getD i none = some t → listed.getD i false = false) → a.tmps[t]? = a0.tmps[t]?
  some_ : ∃ f : Nat → Value, ∀ i, i < n → listed.getD i false = true → (F i).holds (!listed.getD Y.s false) w (f i) ∧ ∀ d, ds.getD i none = some d → a.tmps[d]? = some (f i)
theorem count_lt (l : List Nat) (p q : Nat → Bool) (i : Nat) (hi : i ∈ l) (hp : p i = true) (hq : q i = false) (hle : ∀ j, q j = true → p j = true) : l.countP q < l.countP p := by
  induction l with
  | nil => cases hi
  | cons a l ih =>
    have hmono : l.countP q ≤ l.countP p := List.countP_mono_left fun j _ h => hle j h
    rw [List.countP_cons, List.countP_cons]
    rcases List.mem_cons.1 hi with rfl | hi
    · rw [hp, hq]; simp; omega
    · have := ih hi
      cases hqa : q a with
      | false => simp; split <;> omega
      | true => rw [hle a hqa]; simp; omega
theorem getD_set_same {listed : Array Bool} {j : Nat} {b : Bool} (h : j < listed.size) : (listed.setIfInBounds j true).getD j b = true := by simp [h]
/-- the tail: one behind the other. -/
theorem wp_tail {Q' : Exit → Act → World → Prop} {n : Nat} (S : Sane ops ds a0.tmps.size n) (hL : ∀ j o, n ≤ j → ops[j]? = some o → o.guard = none ∧ ∀ i, i < j → ∃ i' o', i < i' ∧ i' ≤ j ∧ ops[i']? = some o' ∧ i ∈ predsOf o') :
    ∀ (tail : List Oper) (m fuel : Nat) (listed : Array Bool) (a : Act) (w : World), n ≤ m → m + tail.length = ops.size → (∀ i, tail[i]? = ops[m + i]?) → tail.length ≤ fuel → (∀ i, i < ops.size → listed.getD i false = decide (i < m)) → listed.size = ops.size →
      wpList P #[] Q' (tail.map fun o => { o with guard := none }) a w → wpAny P .any ops Q' fuel listed a w
  | [], m, fuel, listed, a, w, hm, hlen, ht, hf, hl, hls, h => by
    refine wpAny_done ?_ h fuel
    rw [List.eq_nil_iff_forall_not_mem]
    intro i hi
    obtain ⟨h0, oi, hoi, _⟩ := mem_ready.1 hi
    have his := (Array.getElem?_eq_some_iff.1 hoi).1
    have h2 := hl i his
    simp only [List.length_nil] at hlen
    have h3 : i < listed.size := by omega
    have h4 : i < m := by omega
    simp [h3] at h0 h2
    rw [h0] at h2; simp [h4] at h2
  | o :: tail, m, fuel, listed, a, w, hm, hlen, ht, hf, hl, hls, h => by
    simp only [List.length_cons] at hlen hf
    have ho : ops[m]? = some o := by simpa using (ht 0).symm
    have hms : m < ops.size := by omega
    obtain ⟨fuel, rfl⟩ : ∃ k, fuel = k + 1 := ⟨fuel - 1, by omega⟩
    have hlm : ∀ i, i < m → listed.getD i false = true := fun i hi => by rw [hl i (by omega)]; simpa using hi
    have hready : m ∈ Region.ready .any ops listed := mem_ready.2 ⟨by
      have := hl m hms
      have h3 : m < listed.size := by omega
      simp [h3] at this ⊢; exact this, o, ho, fun e he hb => hlm _ (S.before ho _ (mem_preds.2 ⟨e, he, hb, rfl⟩))⟩
    refine ⟨fun h0 => absurd hready (by rw [h0]; simp), fun j hj => ?_⟩
    obtain ⟨hun, oj, hoj, hall⟩ := mem_ready.1 hj
    have hjs := (Array.getElem?_eq_some_iff.1 hoj).1
    have hjm : j = m := by
      have h2 := hl j hjs
      have h3 : j < listed.size := by omega
      have hge : m ≤ j := by
        rcases Nat.lt_or_ge j m with h4 | h4
        · have h5 := hlm j h4
          simp [h3] at hun h5; rw [hun] at h5; cases h5
        · exact h4
      rcases Nat.lt_or_ge m j with h4 | h4
      · -- m < j ready: then all ahead of it are listed: m too
        exfalso
        -- the successor of j - 1 ..: it is j itself, as i' in (j-1, j]
        have key : ∀ i, m ≤ i → i < j → False ∨ listed.getD i false = true := by
          intro i hi hij
          obtain ⟨i', o', h5, h6, h7, h8⟩ := (hL j oj (by omega) hoj).2 (j - 1) (by omega)
          obtain rfl : i' = j := by omega
          rw [hoj] at h7
          obtain rfl := Option.some.inj h7
          obtain ⟨e, he, hb, heq⟩ := mem_preds.1 h8
          have h9 := hall e he hb
          rw [heq, hl _ (by omega)] at h9
          simp at h9; omega
        rcases key m (Nat.le_refl _) h4 with h5 | h5
        · exact h5
        · rw [hl m hms] at h5; simp at h5
      · omega
    subst hjm
    rw [ho] at hoj
    obtain rfl := Option.some.inj hoj
    have hg := (hL j o hm ho).1
    unfold wpOp
    simp only [ho]
    have hw : Region.wanted o (yielded ops a.tmps) = true := by unfold Region.wanted; rw [hg]
    rw [if_pos hw]
    simp only [List.map_cons, wpList, Region.wanted, if_true] at h
    rcases h with h | h
    · refine .inl (Oper.wp_mono (fun a' w' h' => ?_) h)
      refine wp_tail S hL tail (j + 1) fuel _ a' w' (by omega) (by omega) (fun i => by have := ht (i + 1); simpa [Nat.add_assoc, Nat.add_comm 1 i] using this) (by omega) (fun i hi => ?_) (by simp [hls]) h'
      by_cases hij : j = i
      · subst hij
        rw [getD_set_same (by omega)]; simp
      · rw [getD_set_ne false hij, hl i hi]
        by_cases h1 : i < j
        · simp [h1]; omega
        · simp [h1]; omega
    · exact .inr h
theorem wp_any {F : Nat → Know} {n : Nat} {Q' : Exit → Act → World → Prop} (S : Sane ops ds a0.tmps.size n) (HY : Y.Fair) (hn : n ≤ ops.size)
    (hG : ∀ j o, j < n → ops[j]? = some o → Good P Y ds a0 F j o (F j))
    (hL : ∀ j o, n ≤ j → ops[j]? = some o → o.guard = none ∧ ∀ i, i < j → ∃ i' o', i < i' ∧ i' ≤ j ∧ ops[i']? = some o' ∧ i ∈ predsOf o')
    (hQ : ∀ w, Y.B w → from_ ds F (decide (n ≤ Y.s)) w (List.range n) a0 fun a => Q a w) 
    (tail : List Oper) (htl : n + tail.length = ops.size) (ht : ∀ i, tail[i]? = ops[n + i]?) (hQ' : ∀ a w, Q a w → wpList P #[] Q' (tail.map fun o => { o with guard := none }) a w) :
    ∀ (fuel : Nat) (listed : Array Bool) (a : Act) (w : World), listed.size = ops.size → (List.range ops.size).countP (fun i => !listed.getD i true) ≤ fuel → Inv n ops ds Y a0 F listed a w → wpAny P .any ops Q' fuel listed a w := by
  have full : ∀ (listed : Array Bool) (a : Act) (w : World), Inv n ops ds Y a0 F listed a w → (∀ i, i < n → listed.getD i false = true) → Q a w := by
    intro listed a w I all
    obtain ⟨f, hf⟩ := I.some_
    have hpre : (!listed.getD Y.s false) = decide (n ≤ Y.s) := by
      rcases Nat.lt_or_ge Y.s n with h | h
      · rw [all _ h]; simp; omega
      · rw [I.unlisted _ h]; simp; omega
    have h := from_at (f := f) (hQ w I.base) fun i hi => by
      have := (hf i (List.mem_range.1 hi) (all _ (List.mem_range.1 hi))).1
      rwa [hpre] at this
    have hea : putAll ds f (List.range n) a0 = a := by
      have ht : (putAll ds f (List.range n) a0).tmps = a.tmps := by
        apply Array.ext_getElem?
        intro t
        by_cases hex : ∃ i, i < n ∧ ds.getD i none = some t
        · obtain ⟨i, hi, hd⟩ := hex
          have ho : ops[i]? = some (ops[i]'(by omega)) := Array.getElem?_eq_getElem (by omega)
          have hod := S.dst ho
          rw [((hf i hi (all _ hi)).2 t hd)]
          refine putAll_at _ _ (S.small ho t (hod ▸ hd)) (List.mem_range.2 hi) hd fun j hj hdj => S.one ho hi j t (by have := List.mem_range.1 hj; omega) hdj (hod ▸ hd)
        · rw [putAll_ne _ _ fun i hi hd => hex ⟨i, List.mem_range.1 hi, hd⟩, I.other t fun i hi hd => absurd ⟨i, hi, hd⟩ hex]
      have hd := (putAll_defers (ds := ds) (f := f) (List.range n) a0).trans I.defers.symm
      generalize putAll ds f (List.range n) a0 = b at *
      cases a; cases b
      simp only at ht hd
      rw [ht, hd]
    rw [← hea]
    exact h
  -- all of the first n are listed: the tail
  have toTail : ∀ (fuel : Nat) (listed : Array Bool) (a : Act) (w : World), listed.size = ops.size → (List.range ops.size).countP (fun i => !listed.getD i true) ≤ fuel → Inv n ops ds Y a0 F listed a w → (∀ i, i < n → listed.getD i false = true) → wpAny P .any ops Q' fuel listed a w := by
    intro fuel listed a w hls hc I all
    have hl : ∀ i, i < ops.size → listed.getD i false = decide (i < n) := fun i hi => by
      rcases Nat.lt_or_ge i n with h | h
      · rw [all i h]; simp [h]
      · rw [I.unlisted i h]; simp; omega
    refine wp_tail S hL tail n fuel listed a w (Nat.le_refl _) htl ht ?_ hl hls (hQ' a w (full listed a w I all))
    -- as many are left as the tail is long
    have hcount : ∀ k, k ≤ ops.size → (List.range k).countP (fun i => !listed.getD i true) = k - n := by
      intro k
      induction k with
      | zero => intro _; simp
      | succ k ih =>
        intro hk
        rw [List.range_succ, List.countP_append, ih (by omega)]
        have h1 := hl k (by omega)
        have h2 : k < listed.size := by omega
        simp [h2] at h1
        rcases Nat.lt_or_ge k n with h | h
        · simp [h2, h1, h]; omega
        · have : ¬ k < n := by omega
          simp [h2, h1, this]; omega
    have := hcount ops.size (Nat.le_refl _)
    omega
  have stuck : ∀ (listed : Array Bool) (a : Act) (w : World), listed.size = ops.size → Inv n ops ds Y a0 F listed a w → Region.ready .any ops listed = [] → ∀ m j, j < m → j < ops.size → listed.getD j false = true := by
    intro listed a w hls I hr m
    induction m with
    | zero => intro j hj; omega
    | succ m ih =>
      intro j hj hjs
      have ho : ops[j]? = some ops[j] := Array.getElem?_eq_getElem hjs
      cases hl : listed.getD j true with
      | true =>
        have : j < listed.size := by omega
        simp [this] at hl ⊢; exact hl
      | false =>
        have : j ∈ Region.ready .any ops listed := mem_ready.2 ⟨hl, _, ho, fun e he hb => by
          have hlt := S.before ho e.on (mem_preds.2 ⟨e, he, hb, rfl⟩)
          exact ih e.on (by omega) (by omega)⟩
        rw [hr] at this; cases this
  intro fuel
  induction fuel with
  | zero =>
    intro listed a w hls hc I
    have hr : Region.ready .any ops listed = [] := by
      rw [List.eq_nil_iff_forall_not_mem]
      intro j hj
      obtain ⟨h0, o, ho, _⟩ := mem_ready.1 hj
      have := List.countP_eq_zero.1 (Nat.le_zero.1 hc) j (List.mem_range.2 (Array.getElem?_eq_some_iff.1 ho).1)
      rw [h0] at this; simp at this
    have all := stuck listed a w hls I hr
    exact toTail 0 listed a w hls hc I fun i hi => all _ i (Nat.lt_succ_self i) (by omega)
  | succ fuel ih =>
    intro listed a w hls hc I
    by_cases hfull : ∀ i, i < n → listed.getD i false = true
    case pos => exact toTail (fuel + 1) listed a w hls hc I hfull
    case neg =>
    refine ⟨fun hr => absurd (fun i hi => stuck listed a w hls I hr _ i (Nat.lt_succ_self i) (by omega)) hfull, fun j hj => ?_⟩
    obtain ⟨hun, o, ho, hall⟩ := mem_ready.1 hj
    have hjs : j < ops.size := (Array.getElem?_eq_some_iff.1 ho).1
    have hpl : ∀ i ∈ predsOf o, listed.getD i false = true := fun i hi => by
      obtain ⟨e, he, hb, rfl⟩ := mem_preds.1 hi
      exact hall e he hb
    have hjn : j < n := by
      rcases Nat.lt_or_ge j n with h | h
      · exact h
      · exfalso
        -- all ahead of it are listed
        have all : ∀ d i, i < j → j - i ≤ d → listed.getD i false = true := by
          intro d
          induction d with
          | zero => intro i hi hd; omega
          | succ d ihd =>
            intro i hi hd
            obtain ⟨i', o', h1, h2, h3, h4⟩ := (hL j o h ho).2 i hi
            rcases Nat.lt_or_ge i' j with h5 | h5
            · exact I.down i' o' h3 (ihd i' h5 (by omega)) i h4
            · obtain rfl : i' = j := by omega
              rw [ho] at h3
              obtain rfl := Option.some.inj h3
              exact hpl i h4
        exact hfull fun i hi => all _ i (by omega) (Nat.le_refl _)
    have hcount : (List.range ops.size).countP (fun i => !(listed.setIfInBounds j true).getD i true) ≤ fuel := by
      have := count_lt (List.range ops.size) (fun i => !listed.getD i true) (fun i => !(listed.setIfInBounds j true).getD i true) j (List.mem_range.2 hjs) (by rw [hun]; rfl) (by
        have : j < listed.size := by omega
        simp [this]) fun k hk => by
          by_cases hkj : j = k
          · subst hkj
            have : j < listed.size := by omega
            simp [this] at hk
          · rw [getD_set_ne true hkj] at hk; exact hk
      omega
    have hod := S.dst ho
    obtain ⟨f, hf⟩ := I.some_
    have hps : ∀ i ∈ predsOf o, i < n := fun i hi => by have := S.before ho i hi; omega
    have hjl : j < listed.size := by omega
    have hjun : listed.getD j false = false := by simp [hjl] at hun ⊢; exact hun
    have hGj := hG j o hjn ho
    -- whatever it leaves: the next state is one of ours
    have next : ∀ w' a' v, ((if j = Y.s then Y.M w w' else Y.K w w') ∨ w' = w) → (F j).holds true w' v → a' = a.put o.dst v → Inv n ops ds Y a0 F (listed.setIfInBounds j true) a' w' := by
      intro w' a' v hw' hv ha
      subst ha
      refine ⟨?_, fun hs => ?_, (put_defers' ..).trans I.defers, (put_size ..).trans I.size, fun k hk => ?_, fun k ok hok hk i hi => ?_, fun t ht => ?_, fun i => if i = j then v else f i, fun i hi hl => ?_⟩
      · rcases hw' with h | rfl
        · split at h
          · exact HY.bm _ _ I.base h
          · exact HY.bk _ _ I.base h
        · exact I.base
      · have hjs' : j ≠ Y.s := by
          rintro rfl
          rw [getD_set_same hjl] at hs; cases hs
        rw [getD_set_ne false hjs'] at hs
        rcases hw' with h | rfl
        · rw [if_neg hjs'] at h
          exact HY.b1 _ _ (I.base1 hs) h
        · exact I.base1 hs
      · rw [getD_set_ne false (by omega)]; exact I.unlisted k hk
      · by_cases hkj : j = k
        · subst hkj
          rw [ho] at hok
          obtain rfl := Option.some.inj hok
          exact getD_set_true (hpl i hi)
        · rw [getD_set_ne false hkj] at hk
          exact getD_set_true (I.down k ok hok hk i hi)
      · rw [put_at_ne, I.other]
        · intro i hi hd
          have h1 := ht i hi hd
          by_cases hij : j = i
          · subst hij
            rw [getD_set_same hjl] at h1; cases h1
          · rw [getD_set_ne false hij] at h1; exact h1
        · intro hd
          have h1 := ht j hjn (hod.trans hd)
          rw [getD_set_same hjl] at h1; cases h1
      · by_cases hij : i = j
        · subst hij
          simp only [if_true]
          refine ⟨?_, fun d hd => ?_⟩
          · cases hk : F i with
            | is u => rw [hk] at hv; exact hv
            | of r => rw [hk] at hv; exact hv
            | till r => rw [hk] at hv; exact fun _ => hv rfl
          · rw [hod] at hd
            rw [hd]
            exact put_at_same _ _ (by rw [I.size]; exact S.small ho d hd)
        · simp only [if_neg hij]
          rw [getD_set_ne false (Ne.symm hij)] at hl
          have h1 := hf i hi hl
          refine ⟨?_, fun d hd => ?_⟩
          · have hst := (hG i _ hi (Array.getElem?_eq_getElem (by omega))).1
            have h2 := h1.1
            cases hk : F i with
            | is u => rw [hk] at h2; exact h2
            | of r =>
              rw [hk] at h2 hst
              rcases hw' with h | rfl
              · split at h
                · exact hst.2 (by omega) _ _ _ h h2
                · exact hst.1 _ _ _ h h2
              · exact h2
            | till r =>
              rw [hk] at h2 hst
              intro hpre
              have hjs' : j ≠ Y.s := by
                rintro rfl
                rw [getD_set_same hjl] at hpre; cases hpre
              rw [getD_set_ne false hjs'] at hpre
              rcases hw' with h | rfl
              · rw [if_neg hjs'] at h
                exact hst.2 _ _ _ h (h2 hpre)
              · exact h2 hpre
          · rw [put_at_ne, h1.2 d hd]
            intro hd'
            exact hij (S.one ho hjn i d (by omega) hd hd')
    have goOn : ∀ w' a' v, ((if j = Y.s then Y.M w w' else Y.K w w') ∨ w' = w) → (F j).holds true w' v → a' = a.put o.dst v → wpAny P .any ops Q' fuel (listed.setIfInBounds j true) a' w' := fun w' a' v h1 h2 h3 =>
      ih _ _ _ (by simp [hls]) hcount (next w' a' v h1 h2 h3)
    -- what the guard says
    have hwant : ∀ b, says F o = some b → Region.wanted o (yielded ops a.tmps) = b := by
      intro b hb
      unfold says at hb
      unfold Region.wanted
      cases hgu : o.guard with
      | none => simp only [hgu] at hb; simpa using hb
      | some gw =>
        obtain ⟨g, want⟩ := gw
        obtain ⟨hgp, hgd⟩ := S.guard ho g want hgu
        simp only [hgu] at hb ⊢
        obtain ⟨d, hd⟩ := Option.isSome_iff_exists.1 hgd
        have hg1 := hf g (hps g hgp) (hpl g hgp)
        have hgs : g < ops.size := by have := hps g hgp; omega
        have hog : ops[g]? = some (ops[g]'hgs) := Array.getElem?_eq_getElem hgs
        have hgd' := S.dst hog
        cases hkn : F g with
        | of r => rw [hkn] at hb; simp at hb
        | till r => rw [hkn] at hb; simp at hb
        | is v =>
          rw [hkn] at hb hg1
          simp only [Know.holds] at hg1
          have hy : yielded ops a.tmps g = boolOf v := by
            unfold yielded
            rw [hog]
            simp only [Option.bind_some]
            rw [← hgd', hd]
            simp only [Option.bind_some]
            rw [hg1.2 d hd, hg1.1]
            cases v <;> rfl
          rw [hy]
          simpa using hb
    unfold wpOp
    simp only [ho]
    rcases hGj.2 with ⟨hs, l, hl, hop⟩ | ⟨hs, hk⟩
    · obtain ⟨hl1, hl2⟩ := fits_spec hl
      rw [if_pos (hwant _ hs)]
      have hb1 : j = Y.s → Y.B1 w := fun h => I.base1 (h ▸ hjun)
      -- the frame that it is shown in
      have hc := from_at (f := f) (hop w I.base hb1) fun i hi => by
        have h1 := (hf i (hps i (hl1 i hi)) (hpl i (hl1 i hi))).1
        cases hk : F i with
        | is u => rw [hk] at h1; exact h1
        | of r => rw [hk] at h1; exact h1
        | till r =>
          rw [hk] at h1
          intro hpre
          have : j = Y.s := by simpa using hpre
          exact h1 (by rw [← this, hjun]; rfl)
      obtain ⟨c, hcdef⟩ : ∃ c, putAll ds f l a0 = c := ⟨_, rfl⟩
      have hcsize : c.tmps.size = a0.tmps.size := by rw [← hcdef]; exact putAll_size _ _
      have agree : ∀ t, Operand.tmp t ∈ o.op.operands → a.tmps[t]? = c.tmps[t]? := by
        intro t ht
        have htl : t ∈ o.looksAt ops := List.mem_append_left _ (List.mem_filterMap.2 ⟨.tmp t, by simpa using ht, rfl⟩)
        rw [← hcdef]
        by_cases hex : ∃ i, i < n ∧ ds.getD i none = some t
        · obtain ⟨i, hi, hd⟩ := hex
          have hoi : ops[i]? = some (ops[i]'(by omega)) := Array.getElem?_eq_getElem (by omega)
          have hip := S.looks ho hjn i t (by omega) hd htl
          rw [(hf i hi (hpl i hip)).2 t hd]
          exact (putAll_at _ _ (S.small hoi t (S.dst hoi ▸ hd)) (hl2 i hip t hd ht) hd fun k hk hdk => S.one hoi hi k t (by have := hps k (hl1 k hk); omega) hdk (S.dst hoi ▸ hd)).symm
        · rw [putAll_ne _ _ fun i hi hd => hex ⟨i, hps i (hl1 i hi), hd⟩, I.other t fun i hi hd => absurd ⟨i, hi, hd⟩ hex]
      have heval : ∀ x ∈ o.op.operands, a.eval x = c.eval x := by
        intro x hx
        cases x with
        | tmp t =>
          have := agree t hx
          simp only [Act.eval, Array.getD_eq_getD_getElem?]
          rw [this]
        | _ => rfl
      have hexec : execOp a.eval o = execOp c.eval o := execOp_congr o (fun cs b => S.nosel j o cs b ho) heval
      rw [hcdef] at hc
      have hcl := hc (fun e a' w' => e = .normal ∧ a'.defers = c.defers ∧ (if j = Y.s then Y.M w w' else Y.K w w') ∧ (F j).holds true w' (last a' o.dst)) fun a' w' h1 h2 h3 => ⟨rfl, h1, h2, h3⟩
      simp only [wpList, Region.wanted, if_true] at hcl
      rcases hcl with hcl | ⟨_, hout⟩
      · refine .inl ?_
        have hlast : ∀ v, last (c.put o.dst v) o.dst = v ∨ (o.dst = none ∧ last (c.put o.dst v) o.dst = undef) := by
          intro v
          cases hd : o.dst with
          | none => exact .inr ⟨rfl, rfl⟩
          | some d =>
            refine .inl ?_
            change ((c.put (some d) v).tmps[d]?).getD undef = v
            rw [put_at_same _ _ (by rw [hcsize]; exact S.small ho d hd)]
            rfl
        have fin : ∀ v w', (if j = Y.s then Y.M w w' else Y.K w w') → (F j).holds true w' (last (c.put o.dst v) o.dst) → wpAny P .any ops Q' fuel (listed.setIfInBounds j true) (a.put o.dst v) w' := by
          intro v w' h1 h2
          rcases hlast v with h | ⟨hn, h⟩
          · rw [h] at h2
            exact goOn w' _ v (.inl h1) h2 rfl
          · rw [h] at h2
            refine goOn w' _ undef (.inl h1) h2 ?_
            rw [hn]; rfl
        unfold Oper.wp at hcl ⊢
        rw [hexec]
        have hx2 : execOp c.eval { o with guard := none } = execOp c.eval o := rfl
        rw [hx2] at hcl
        generalize (execOp c.eval o).run P w = r at hcl ⊢
        cases r with
        | halt x w' => cases x <;> simp [Oper.upon] at hcl
        | ok n w' =>
          cases n
          case value v => exact fin v w' hcl.2.2.1 hcl.2.2.2
          case skip => exact fin undef w' hcl.2.2.1 hcl.2.2.2
          case defer d =>
            have h1 := hcl.2.1
            rw [put_defers'] at h1
            have := congrArg List.length h1
            simp at this
          case row row args => exact Rows.mono hcl fun v w'' h => fin v w'' h.2.2.1 h.2.2.2
          case enter fn args =>
            refine Calls.mono hcl fun e w'' h => ?_
            cases e with
            | returned v => exact fin v w'' h.2.2.1 h.2.2.2
            | panicked ch => simp at h
            | outgrown => obtain ⟨_, _, h, _⟩ := h; cases h
          all_goals exact hcl.elim
      · obtain ⟨_, _, h, _⟩ := hout
        cases h
    · rw [if_neg (by rw [hwant _ hs]; simp)]
      exact goOn w _ undef (.inr rfl) (by rw [hk]; rfl) rfl
/-- **THE LAW**: at a region that draws its order: the first ones in whatever order, the tail behind them. -/
theorem wp_region {id : Nat} {Q' : Exit → Act → World → Prop} {l tail : List Oper} {a : Act} {w : World} (Y : Way) (ds : List (Option Tmp)) (size : Nat) (hm : P.follows .mixedOrders = true) (hs : sane (l ++ tail).toArray ds size l.length = true) (hc : closes (l ++ tail).toArray l.length = true) (hz : a.tmps.size = size)
    (HY : Y.Fair) (hB : Y.B w.drew) (hB1 : Y.B1 w.drew) (h : walk P Y ds a (fun a w => wpList P #[] Q' (tail.map fun o => { o with guard := none }) a w) l []) : (Code.region id (l ++ tail).toArray true).wp P Q' a w := by
  subst hz
  have S := sane_spec hs
  have hpre : ∀ (j : Nat) (o : Oper), l[j]? = some o → (l ++ tail).toArray[j]? = some o := fun j o hj => by
    have := (List.getElem?_eq_some_iff.1 hj).1
    simpa [List.getElem?_append_left this] using hj
  obtain ⟨F, _, h2, h3⟩ := extract l [] (fun j o hj => ⟨fun i hi => by
    have := S.before (hpre j o hj) i hi
    simpa using this, fun g b hg => (S.guard (hpre j o hj) g b hg).1⟩) h
  have hsz : (l ++ tail).toArray.size = l.length + tail.length := by simp
  refine wp_region_any hm (wp_any (Q := fun a w => wpList P #[] Q' (tail.map fun o => { o with guard := none }) a w) (F := F) (a0 := a) (n := l.length) S HY (by omega) (fun j o hj ho => ?_) (closes_spec hc) (fun w' hw' => ?_) tail hsz.symm (fun i => ?_) (fun _ _ h => h) _ _ _ _ (by simp) ?_ ⟨hB, fun _ => hB1, rfl, rfl, fun j _ => ?_, fun j o _ hl => ?_, fun _ _ => rfl, fun _ => undef, fun i hi hl => ?_⟩)
  · have h4 : l[j]? = some l[j] := List.getElem?_eq_getElem hj
    have h5 := hpre j _ h4
    rw [h5] at ho
    obtain rfl := Option.some.inj ho
    have := h2 j _ h4
    simpa using this
  · have := h3 w' hw'
    simpa using this
  · rw [List.getElem?_toArray, List.getElem?_append_right (by omega), Nat.add_sub_cancel_left]
  · have := List.countP_le_length (p := fun i => !(Array.replicate (l ++ tail).toArray.size false).getD i true) (l := List.range (l ++ tail).toArray.size)
    simpa using this
  · by_cases hj : j < (l ++ tail).toArray.size
    · simp at hj; simp [hj]
    · simp at hj; simp [show ¬ j < l.length + tail.length by omega]
  · by_cases hj : j < (l ++ tail).toArray.size
    · simp at hj; simp [hj] at hl
    · simp at hj; simp [show ¬ j < l.length + tail.length by omega] at hl
  · have : i < l.length + tail.length := by omega
    simp [this] at hl
end
section
variable {P : Program} {Y : Way} {ds : List (Option Tmp)} {a0 : Act} {Q : Act → World → Prop} {Rs : List Know} {rest : List Oper}
theorem op_skip {o : Oper} (hs : says (look Rs) o = some false) (h : walk P Y ds a0 Q rest (.is undef :: Rs)) : walk P Y ds a0 Q (o :: rest) Rs :=
  ⟨.is undef, ⟨trivial, .inr ⟨hs, rfl⟩⟩, h⟩
section
variable {dst : Option Tmp} {op : Op} {type : TypeId} {pos : String} {after : Array Edge} {guard : Option (Nat × Bool)}
theorem op_is (v : Value) (l : List Nat) (hj : (Rs.length == Y.s) = false) (hs : says (look Rs) ⟨dst, op, type, pos, after, guard⟩ = some true) (hl : fits ds ⟨dst, op, type, pos, after, guard⟩ l = true)
    (h : ∀ w, Y.B w → from_ ds (look Rs) false w l a0 fun a => ∀ T : Exit → Act → World → Prop, (∀ a' w', a'.defers = a.defers → Y.K w w' → last a' dst = v → T .normal a' w') → wpList P #[] T [⟨dst, op, type, pos, #[], none⟩] a w)
    (hr : walk P Y ds a0 Q rest (.is v :: Rs)) : walk P Y ds a0 Q (⟨dst, op, type, pos, after, guard⟩ :: rest) Rs := by
  refine ⟨.is v, ⟨trivial, .inl ⟨hs, l, hl, fun w hw _ => ?_⟩⟩, hr⟩
  have hne : Rs.length ≠ Y.s := by simpa using hj
  simp only [hj, if_neg hne]
  exact h w hw
theorem op_of (r : World → Value → Prop) (l : List Nat) (hj : (Rs.length == Y.s) = false) (hk : ∀ w w' v, Y.K w w' → r w v → r w' v) (hm : ∀ w w' v, Y.M w w' → r w v → r w' v) (hs : says (look Rs) ⟨dst, op, type, pos, after, guard⟩ = some true) (hl : fits ds ⟨dst, op, type, pos, after, guard⟩ l = true)
    (h : ∀ w, Y.B w → from_ ds (look Rs) false w l a0 fun a => ∀ T : Exit → Act → World → Prop, (∀ a' w', a'.defers = a.defers → Y.K w w' → r w' (last a' dst) → T .normal a' w') → wpList P #[] T [⟨dst, op, type, pos, #[], none⟩] a w)
    (hr : walk P Y ds a0 Q rest (.of r :: Rs)) : walk P Y ds a0 Q (⟨dst, op, type, pos, after, guard⟩ :: rest) Rs := by
  refine ⟨.of r, ⟨⟨hk, fun _ => hm⟩, .inl ⟨hs, l, hl, fun w hw _ => ?_⟩⟩, hr⟩
  have hne : Rs.length ≠ Y.s := by simpa using hj
  simp only [hj, if_neg hne]
  exact h w hw
end
theorem from_is {lk : Nat → Know} {pre : Bool} {w : World} {i : Nat} {l : List Nat} {a : Act} {G : Act → Prop} {v : Value} (d : Option Tmp) (hk : lk i = .is v) (hd : ds.getD i none = d) (h : from_ ds lk pre w l (a.put d v) G) : from_ ds lk pre w (i :: l) a G := by
  subst hd
  unfold from_
  rw [hk]
  exact h
theorem from_of {lk : Nat → Know} {pre : Bool} {w : World} {i : Nat} {l : List Nat} {a : Act} {G : Act → Prop} {r : World → Value → Prop} (d : Option Tmp) (hk : lk i = .of r) (hd : ds.getD i none = d) (h : ∀ v, r w v → from_ ds lk pre w l (a.put d v) G) : from_ ds lk pre w (i :: l) a G := by
  subst hd
  unfold from_
  rw [hk]
  exact h
theorem from_nil {lk : Nat → Know} {pre : Bool} {w : World} {a : Act} {G : Act → Prop} (h : G a) : from_ ds lk pre w [] a G := h
theorem walk_nil (l : List Nat) (hl : List.range Rs.length = l) (h : ∀ w, Y.B w → from_ ds (look Rs) (decide (Rs.length ≤ Y.s)) w l a0 fun a => Q a w) : walk P Y ds a0 Q [] Rs := by
  subst hl; exact h
end
/-- memory grows, and what there was stays. -/
def Keep (w w' : World) : Prop := Go.RowKit.Below w.heap.size w w'
theorem Keep.refl (w : World) : Keep w w := Go.RowKit.Below.refl _ w
theorem Keep.trans {a b c : World} (h : Keep a b) (k : Keep b c) : Keep a c := Go.RowKit.Below.trans h (Go.RowKit.Below.mono k h.size)
theorem keep_drew (w : World) : Keep w w.drew := ⟨rfl, rfl, rfl, Nat.le_refl _, fun _ _ => rfl⟩
/-- the plain way: memory grows. -/
def grows (w0 : World) (n : Nat) : Way := ⟨Keep, Keep, Keep w0, fun _ => True, n⟩
theorem grows_fair (w0 : World) (n : Nat) : (grows w0 n).Fair := ⟨fun _ _ h k => h.trans k, fun _ _ h k => h.trans k, fun _ _ _ _ => trivial⟩
end Go.Rg
end

section
namespace Go.Proofs.YtpdgalclnlbeaaaDoor
open Go Go.RowKit Go.Shelf Go.Proofs
theorem elt_i64 : Elt Tryd.prog 30 2 (.int .i64 0) 8 := .of Tryd.underlying30 (by kernel_rfl) rfl
def NewNums (xs : List Int) (w : World) (e : Ending) (w' : World) : Prop := ∃ v, e = .returned v ∧ Own w' w.heap.size 22 v (xs.map (.int .u64)) ∧ Below w.heap.size w w'
theorem take_snoc' {α : Type} {l : List α} {k : Nat} {x : α} (h : l[k]? = some x) : l.take (k + 1) = l.take k ++ [x] := take_snocR h
def near (n most : Int) : Bool := decide (-most ≤ n) && decide (n ≤ most)
theorem mSub_neg (n q : Int) : mSub 0 (-n) q = mNum n q := by
  unfold mSub mNum; split
  · rw [show (0:Int) - -n = n by omega]
  · rfl
theorem mAdd_zero (n q : Int) : mAdd n 0 q = mNum n q := by
  unfold mAdd mNum; split
  · rw [Int.add_zero]
  · rfl
set_option maxHeartbeats 400000 in
theorem num_c (n q : Int) (hn : I64 n) (hq : U64 q) (w : World) :
    Calls Tryd.prog 43 #[.int .i64 n, .int .u64 q] w fun e w' => e = .returned (.int .u64 (mNum n q)) ∧ Dr w w' := by
  obtain ⟨n1, n2⟩ := hn
  by_cases h : n < 0
  · have e1 : IntKind.u64.wrap (-(IntKind.u64.wrap n)) = -n := by simp only [IntKind.wrap_u64]; omega
    go_enter Tryd.func43, Tryd.ntmps43
    go_wp2_with (fail)
    refine (sub_c _ _ _ ⟨by omega, by omega⟩ ⟨by omega, by omega⟩ hq _).mono ?_; rintro e1 w1 ⟨rfl, hw⟩
    go_wp2
    go_ret
    exact ⟨ret_int (mSub_neg n q), hw⟩
  · go_enter Tryd.func43, Tryd.ntmps43
    go_wp2_with (fail)
    refine (add_c _ _ _ ⟨by omega, by omega⟩ ⟨by omega, by omega⟩ hq _).mono ?_; rintro e1 w1 ⟨rfl, hw⟩
    go_wp2
    go_ret
    exact ⟨ret_int (mAdd_zero n q), hw⟩
/-- the params, as numbers. -/
structure Par where
  (P Q G H Nodes N T K D R M X : Int)
structure Par.ok (p : Par) : Prop where
  P : U64 p.P
  Q : U64 p.Q
  G : U64 p.G
  H : U64 p.H
  Nodes : I64 p.Nodes
  N : I64 p.N
  T : I64 p.T
  K : I64 p.K
  D : I64 p.D
  R : I64 p.R
  M : I64 p.M
  X : I64 p.X
abbrev pval (p : Par) : Value := .agg #[.int .u64 p.P, .int .u64 p.Q, .int .u64 p.G, .int .u64 p.H, .int .i64 p.Nodes, .int .i64 p.N, .int .i64 p.T, .int .i64 p.K, .int .i64 p.D, .int .i64 p.R, .int .i64 p.M, .int .i64 p.X]
/-- do they fit? -/
def fits (p : Par) : Bool := decide (p.K ≥ 0) && (decide (p.K ≤ 2) && (decide (p.D ≥ 0) && (decide (p.D ≤ 4) && (decide (p.M ≥ 0) && (decide (p.M ≤ 1048576) && (decide (p.X ≥ 0) && decide (p.X ≤ 1048576)))))))
structure Fits (p : Par) : Prop where
  K0 : 0 ≤ p.K
  K : p.K ≤ 2
  D0 : 0 ≤ p.D
  D : p.D ≤ 4
  M0 : 0 ≤ p.M
  M : p.M ≤ 1048576
  X0 : 0 ≤ p.X
  X : p.X ≤ 1048576
theorem fits_iff (p : Par) : fits p = true ↔ Fits p := by
  constructor
  · intro h
    simp only [fits, Bool.and_eq_true, decide_eq_true_eq] at h
    obtain ⟨a, b, c, d, e, f, g, i⟩ := h
    exact ⟨a, b, c, d, e, f, g, i⟩
  · intro h
    simp only [fits, Bool.and_eq_true, decide_eq_true_eq]
    exact ⟨h.K0, h.K, h.D0, h.D, h.M0, h.M, h.X0, h.X⟩
set_option maxHeartbeats 1000000 in
theorem fit_c (p : Par) (w : World) : Calls Tryd.prog 38 #[pval p] w fun e w' => e = .returned (.bool (fits p)) ∧ Below w.heap.size w w' := by
  go_enter Tryd.func38, Tryd.ntmps38
  go_wp2
  all_goals
    go_ret
    refine ⟨ret_bool ?_, (Below.refl _ _).alloc (Nat.le_refl _) _⟩
    simp [fits, *]
    try omega
set_option maxHeartbeats 400000 in
theorem near1_c (n : Int) (B : Nat) (most : Int) (w : World) (hn : I64 n) (hB : w.cell? ⟨B, 0, none⟩ = some (.int .i64 most)) (hm : 0 ≤ most) (hm' : most < 9223372036854775808) :
    Calls Tryd.prog 49 #[.int .i64 n, .pointer (some ⟨B, 0, none⟩)] w fun e w' => e = .returned (.bool (!near n most)) ∧ w = w' := by
  obtain ⟨n1, n2⟩ := hn
  by_cases h1 : n < -most
  · have hd : decide (n < -most) = true := by simpa using h1
    have hf : near n most = false := by simp [near]; omega
    have HF := hid hf
    clear hf h1
    go_enter Tryd.func49, Tryd.ntmps49
    go_wp2
    go_ret
    exact ⟨ret_bool (by rw [HF.out]; rfl), rfl⟩
  · have hd : decide (n < -most) = false := by simpa using h1
    have hf : near n most = decide (n ≤ most) := by
      unfold near
      rw [show decide (-most ≤ n) = true by simp; omega]; rfl
    have HF := hid hf
    clear hf h1
    go_enter Tryd.func49, Tryd.ntmps49
    go_wp2
    go_ret
    refine ⟨ret_bool ?_, rfl⟩
    rw [HF.out]
    by_cases h2 : n ≤ most <;> simp [h2] <;> omega
/-- all of a list are near. -/
def nears (l : List Int) (most : Int) : Bool := l.all fun n => near n most
theorem nears_take {l : List Int} {k : Nat} {x most : Int} (h : l[k]? = some x) (h1 : nears (l.take k) most = true) (h2 : near x most = true) : nears (l.take (k + 1)) most = true := by
  unfold nears at h1 ⊢
  rw [take_snoc' h, List.all_append, h1]; simp [h2]
theorem nears_false {l : List Int} {k : Nat} {x most : Int} (h : l[k]? = some x) (h2 : near x most = false) : nears l most = false := by
  unfold nears
  rw [List.all_eq_false]
  exact ⟨x, List.mem_of_getElem? h, by simp [h2]⟩
def I64s (l : List Int) : Prop := ∀ z ∈ l, I64 z
theorem I64s.at_ {l : List Int} (h : I64s l) {k : Nat} {z : Int} (hk : l[k]? = some z) : I64 z := h z (List.mem_of_getElem? hk)
set_option maxHeartbeats 1000000 in
theorem idxI_c (A : Option Addr) (l : List Int) (c : Nat) (B : Nat) (most : Int) (w : World) (hA : Cells w A (l.map (.int .i64))) (hl : l.length ≤ 9223372036854775807) (hu : I64s l) (hB : w.cell? ⟨B, 0, none⟩ = some (.int .i64 most)) (hm : 0 ≤ most) (hm' : most < 9223372036854775808) :
    Calls Tryd.prog 56 #[.slice A l.length c, .func (.func 49) #[] #[.pointer (some ⟨B, 0, none⟩)]] w fun e w' => (∃ k : Int, e = .returned (.int .i64 k) ∧ decide (k ≥ 0) = !nears l most) ∧ w = w' := by
  go_enter Tryd.func56, Tryd.ntmps56
  go_wp2
  go_loop [5, 8] (fun _ i => ∃ k : Nat, i = .int .i64 k ∧ k ≤ l.length ∧ nears (l.take k) most = true) (fun _ i => l.length - (intOf i).toNat)
  case atStart => exact ⟨0, rfl, by omega, by simp [nears]⟩
  case round =>
    obtain ⟨k, rfl, hk, hall⟩ := hrel
    have HA := hid hall
    clear hall
    by_cases hlt : k < l.length
    · obtain ⟨x, hx⟩ := get_of_lt hlt
      obtain ⟨b, off, rfl, hc⟩ := hA.at_map hx
      cases hn : near x most with
      | true =>
        have HT := hid (nears_take hx HA.out hn)
        go_wp2_with (go_at_call 49; refine (near1_c _ _ _ _ (hu.at_ hx) hB hm hm').mono ?_; rintro e w2 ⟨rfl, rfl⟩; rw [hn])
        go_round
        case rel => exact ⟨k + 1, by go_num, by omega, HT.out⟩
        case measure => simp [intOf]; omega
      | false =>
        have HF := hid (nears_false hx hn)
        go_wp2_with (go_at_call 49; refine (near1_c _ _ _ _ (hu.at_ hx) hB hm hm').mono ?_; rintro e w2 ⟨rfl, rfl⟩; rw [hn])
        go_ret
        exact ⟨⟨(k : Int), rfl, by rw [HF.out]; simp⟩, rfl⟩
    · obtain rfl : k = l.length := by omega
      go_wp2
      go_ret
      refine ⟨⟨-1, rfl, ?_⟩, rfl⟩
      have := HA.out
      rw [List.take_length] at this
      rw [this]; rfl
/-- lists of int64s, as rows. -/
def RowI (w : World) (v : Value) (l : List Int) : Prop := ∃ A c, v = .slice A l.length c ∧ Cells w A (l.map (.int .i64)) ∧ l.length ≤ 9223372036854775807
theorem RowI.keep {w w' : World} {v : Value} {l : List Int} (h : RowI w v l) (hk : ∀ p : Addr, p.block < w.heap.size → w'.cell? p = w.cell? p) : RowI w' v l := by
  obtain ⟨A, c, rfl, h1, h2⟩ := h
  exact ⟨A, c, rfl, h1.keep hk, h2⟩
def GridI (w : World) (A : Option Addr) (f : List (List Int)) : Prop :=
  ∃ vs : List Value, Cells w A vs ∧ vs.length = f.length ∧ ∀ (i : Nat) (l : List Int), f[i]? = some l → ∃ v, vs[i]? = some v ∧ RowI w v l
theorem GridI.keep {w w' : World} {A : Option Addr} {f : List (List Int)} (h : GridI w A f) (hk : ∀ p : Addr, p.block < w.heap.size → w'.cell? p = w.cell? p) : GridI w' A f := by
  obtain ⟨vs, h1, h2, h3⟩ := h
  exact ⟨vs, h1.keep hk, h2, fun i l hl => let ⟨v, a, b⟩ := h3 i l hl; ⟨v, a, b.keep hk⟩⟩
theorem GridI.below {w w' : World} {A : Option Addr} {f : List (List Int)} (h : GridI w A f) (hb : Below w.heap.size w w') : GridI w' A f := h.keep fun _ hp => hb.cell hp
theorem GridI.at_ {w : World} {A : Option Addr} {f : List (List Int)} (h : GridI w A f) {k : Nat} {l : List Int} (hk : f[k]? = some l) :
    ∃ b off A' c, A = some ⟨b, off, none⟩ ∧ w.cell? ⟨b, off + k, none⟩ = some (.slice A' l.length c) ∧ Cells w A' (l.map (.int .i64)) ∧ l.length ≤ 9223372036854775807 := by
  obtain ⟨vs, h1, h2, h3⟩ := h
  obtain ⟨v, hv, A', c, rfl, hc, hl⟩ := h3 k l hk
  obtain ⟨b, off, rfl, hcell⟩ := h1.at_ hv
  exact ⟨b, off, A', c, rfl, hcell, hc, hl⟩
/-- one list alone, in a block of its own. -/
theorem gridI_one {w : World} {g : Nat} {e : TypeId} {A : Option Addr} {l : List Int} {c : Nat} (h : Row1 w g e [.slice A l.length c]) (hc : Cells w A (l.map (.int .i64))) (hl : l.length ≤ 9223372036854775807) : GridI w (some ⟨g, 0, none⟩) [l] := by
  refine ⟨[.slice A l.length c], h.cells, rfl, fun i m hm => ?_⟩
  match i, hm with
  | 0, hm =>
    simp only [List.getElem?_cons_zero, Option.some.injEq] at hm
    subst hm
    exact ⟨_, rfl, A, c, rfl, hc, hl⟩
  | i + 1, hm => simp at hm
def Ints (f : List (List Int)) : Prop := ∀ l ∈ f, I64s l
theorem Ints.at_ {f : List (List Int)} (h : Ints f) {k : Nat} {l : List Int} (hk : f[k]? = some l) : I64s l := h l (List.mem_of_getElem? hk)
set_option maxHeartbeats 400000 in
theorem contI_c (A : Option Addr) (l : List Int) (c : Nat) (B : Nat) (most : Int) (w : World) (hA : Cells w A (l.map (.int .i64))) (hl : l.length ≤ 9223372036854775807) (hu : I64s l) (hB : w.cell? ⟨B, 0, none⟩ = some (.int .i64 most)) (hm : 0 ≤ most) (hm' : most < 9223372036854775808) :
    Calls Tryd.prog 48 #[.slice A l.length c, .func (.func 49) #[] #[.pointer (some ⟨B, 0, none⟩)]] w fun e w' => e = .returned (.bool (!nears l most)) ∧ w = w' := by
  go_enter Tryd.func48, Tryd.ntmps48
  go_wp2_with (fail)
  refine (idxI_c _ _ _ _ _ _ hA hl hu hB hm hm').mono ?_
  rintro e w1 ⟨⟨k, rfl, hk⟩, rfl⟩
  have HK := hid hk
  clear hk
  go_wp2
  go_ret
  exact ⟨ret_bool (by rw [← HK.out]), rfl⟩
/-- all lists of some are near. -/
def allNear (f : List (List Int)) (most : Int) : Bool := f.all fun l => nears l most
theorem allNear_take {f : List (List Int)} {k : Nat} {l : List Int} {most : Int} (h : f[k]? = some l) (h1 : allNear (f.take k) most = true) (h2 : nears l most = true) : allNear (f.take (k + 1)) most = true := by
  unfold allNear at h1 ⊢
  rw [take_snoc' h, List.all_append, h1]; simp [h2]
theorem allNear_false {f : List (List Int)} {k : Nat} {l : List Int} {most : Int} (h : f[k]? = some l) (h2 : nears l most = false) : allNear f most = false := by
  unfold allNear
  rw [List.all_eq_false]
  exact ⟨l, List.mem_of_getElem? h, by simp [h2]⟩
set_option maxHeartbeats 400000 in
theorem fwithin_c (most : Int) (A : Option Addr) (f : List (List Int)) (c : Nat) (w : World) (hA : GridI w A f) (hl : f.length ≤ 9223372036854775807) (hu : Ints f) (hm : 0 ≤ most) (hm' : most < 9223372036854775808) :
    Calls Tryd.prog 39 #[.int .i64 most, .slice A f.length c] w fun e w' => e = .returned (.bool (allNear f most)) ∧ Below w.heap.size w w' := by
  go_enter Tryd.func39, Tryd.ntmps39
  go_wp2
  have hB : (w.alloc (.cells #[.int .i64 most] 2)).cell? ⟨w.heap.size, 0, none⟩ = some (.int .i64 most) := (row1_new w [.int .i64 most] 2).cell (k := 0) rfl
  have hA' := hA.below (below_alloc w (.cells #[.int .i64 most] 2))
  have hbw := below_alloc w (.cells #[.int .i64 most] 2)
  generalize w.alloc (.cells #[.int .i64 most] 2) = W at *
  go_loop [6, 9] (fun _ i => ∃ k : Nat, i = .int .i64 k ∧ k ≤ f.length ∧ allNear (f.take k) most = true) (fun _ i => f.length - (intOf i).toNat)
  case atStart => exact ⟨0, rfl, by omega, by simp [allNear]⟩
  case round =>
    obtain ⟨k, rfl, hk, hall⟩ := hrel
    have HA := hid hall
    clear hall
    by_cases hlt : k < f.length
    · obtain ⟨l, hx⟩ := get_of_lt hlt
      obtain ⟨b, off, A', c', rfl, hc, hcs, hln⟩ := hA'.at_ hx
      cases hn : nears l most with
      | true =>
        have HT := hid (allNear_take hx HA.out hn)
        go_wp2_with (go_at_call 48; refine (contI_c _ _ _ _ _ _ hcs hln (hu.at_ hx) hB hm hm').mono ?_; rintro e w2 ⟨rfl, rfl⟩; rw [hn])
        go_round
        case rel => exact ⟨k + 1, by go_num, by omega, HT.out⟩
        case measure => simp [intOf]; omega
      | false =>
        have HF := hid (allNear_false hx hn)
        go_wp2_with (go_at_call 48; refine (contI_c _ _ _ _ _ _ hcs hln (hu.at_ hx) hB hm hm').mono ?_; rintro e w2 ⟨rfl, rfl⟩; rw [hn])
        go_ret
        exact ⟨ret_bool HF.out.symm, hbw⟩
    · obtain rfl : k = f.length := by omega
      go_wp2
      go_ret
      have := HA.out
      rw [List.take_length] at this
      exact ⟨ret_bool this.symm, hbw⟩
theorem allNear_one (l : List Int) (m : Int) : allNear [l] m = nears l m := by simp [allNear]
theorem ints_one {l : List Int} (h : I64s l) : Ints [l] := fun m hm => by
  simp only [List.mem_singleton] at hm; subst hm; exact h
abbrev pcells (p : Par) : List Value := [.int .u64 p.P, .int .u64 p.Q, .int .u64 p.G, .int .u64 p.H, .int .i64 p.Nodes, .int .i64 p.N, .int .i64 p.T, .int .i64 p.K, .int .i64 p.D, .int .i64 p.R, .int .i64 p.M, .int .i64 p.X]
/-- what is told of a query. -/
def queryE (p : Par) (x : List Int) : Int := if (!fits p || (x.length : Int) != p.D) = true then 4 else if nears x p.X = true then 0 else 20
set_option maxHeartbeats 1000000 in
theorem query_c (p : Par) (A : Option Addr) (x : List Int) (c : Nat) (w : World) (hA : Cells w A (x.map (.int .i64))) (hl : x.length ≤ 9223372036854775807) (hu : I64s x) :
    Calls Tryd.prog 21 #[pval p, .slice A x.length c] w fun e w' => e = .returned (.int .i64 (queryE p x)) ∧ Below w.heap.size w w' := by
  go_enter Tryd.func21, Tryd.ntmps21
  go_wp2_with (fail)
  refine (fit_c p _).mono ?_
  rintro e w1 ⟨rfl, hb1⟩
  have hb2 := below_next (below_alloc w (.cells (pcells p).toArray 24)) (by simp) hb1
  have hP : Row1 w1 w.heap.size 24 (pcells p) := (row1_new w (pcells p) 24).below hb1
  have hA1 := hA.below hb2
  clear hb1 hA
  have cD := hP.cell (k := 8) rfl
  have cX := hP.cell (k := 11) rfl
  cases hf : fits p with
  | false =>
    have HF := hid (show queryE p x = 4 by simp [queryE, hf])
    clear hf
    go_wp2
    go_ret
    exact ⟨ret_int HF.out.symm, hb2⟩
  | true =>
  have hF := hid ((fits_iff p).1 hf)
  cases hD : ((x.length : Int) != p.D) with
  | true =>
    have HF := hid (show queryE p x = 4 by simp [queryE, hf, hD])
    clear hf
    go_wp2
    go_ret
    exact ⟨ret_int HF.out.symm, hb2⟩
  | false =>
  have HQ := hid (show queryE p x = if nears x p.X = true then 0 else 20 by simp [queryE, hf, hD])
  have m0 : 0 ≤ p.X := hF.out.X0
  have m1 : p.X < 9223372036854775808 := by have := hF.out.X; omega
  clear hf
  go_wp2_with (fail)
  have hr := row1_new w1 [.slice A x.length c] 30
  have hb5 := below_next hb2 hb2.size (below_alloc w1 (.cells #[.slice A x.length c] 30))
  refine (fwithin_c _ _ [x] 1 _ (gridI_one hr (hA1.below (below_alloc _ _)) hl) (by simp) (ints_one hu) m0 m1).mono ?_
  rintro e w3 ⟨rfl, hb6⟩
  have hb7 := below_next hb5 hb5.size hb6
  clear hr hb5 hb6 hb2 hA1 hP
  rw [allNear_one]
  cases hn : nears x p.X with
  | true =>
    rw [hn] at HQ
    go_wp2
    go_ret
    exact ⟨ret_int (by rw [HQ.out]; rfl), hb7⟩
  | false =>
    rw [hn] at HQ
    go_wp2
    go_ret
    exact ⟨ret_int (by rw [HQ.out]; rfl), hb7⟩
/-- the numbers of whole numbers. -/
def mNums (q : Int) (l : List Int) : List Int := l.map fun n => mNum n q
set_option maxHeartbeats 1000000 in
theorem fnumbers_c (q : Int) (A : Option Addr) (l : List Int) (c : Nat) (w : World) (hA : Cells w A (l.map (.int .i64))) (hl : l.length ≤ 17592186044415) (hu : I64s l) (hq : U64 q) :
    Calls Tryd.prog 42 #[.int .u64 q, .slice A l.length c] w (NewNums (mNums q l) w) := by
  go_enter Tryd.func42, Tryd.ntmps42
  go_wp2
  go_loopw [5, 7, 10] (fun o _ i wr => ∃ k : Nat, i = .int .i64 k ∧ k ≤ l.length ∧ Own wr w.heap.size 22 o ((mNums q (l.take k)).map (.int .u64)) ∧ Below w.heap.size w wr) (fun _ _ i _ => l.length - (intOf i).toNat)
  case atStart => exact ⟨0, rfl, by omega, by simpa [mNums] using Own.nil w w.heap.size 22, Below.refl _ _⟩
  case round =>
    obtain ⟨k, rfl, hk, hown, hb⟩ := hrel
    by_cases hlt : k < l.length
    · obtain ⟨x, hx⟩ := get_of_lt hlt
      obtain ⟨b, off, rfl, hc⟩ := (hA.below hb).at_map hx
      have hlen : ((mNums q (l.take k)).map (Value.int .u64)).length = k := by simp [mNums]; omega
      have hs : (mNums q (l.take k)).map (Value.int .u64) ++ [Value.int .u64 (mNum x q)] = (mNums q (l.take (k + 1))).map (Value.int .u64) := by
        unfold mNums
        rw [take_snoc' hx]; simp
      have HS := hid hs
      clear hs
      go_wp2_with (first | (go_at_call 43; refine (num_c _ _ (hu.at_ hx) hq _).mono ?_; rintro e w2 ⟨rfl, hw2⟩) | (at_builtin; refine wpList_push elt_u64 w2 rfl _ _ rfl w.heap.size (hown.dr hw2) rfl (.int .u64 (mNum x q)) rfl rfl (by rw [hlen]; omega) (by rw [hlen]; omega) (by have := (below_dr hb hw2).size; omega) ?_; intro v' w3 hown3 _ hb3))
      go_roundw
      case rel =>
        rw [HS.out] at hown3
        exact ⟨k + 1, by go_num, by omega, hown3, (below_dr hb hw2).trans hb3⟩
      case measure => simp [intOf]; omega
    · obtain rfl : k = l.length := by omega
      go_wp2
      go_ret
      rw [List.take_length] at hown
      exact ⟨_, rfl, hown, hb⟩
/-- a query's numbers: D of them, and a 1 behind. -/
def padded (l : List Int) (d : Nat) : List Int := l.take d ++ List.replicate (d - l.length) 0
theorem padded_len (l : List Int) (d : Nat) : (padded l d).length = d := by simp [padded]; omega
def rowS (p : Par) (x : List Int) : List Int := if fits p = true then padded (mNums p.Q x) p.D.toNat ++ [mNum 1 p.Q] else []
theorem mNums_u64 (q : Int) (l : List Int) : U64s (mNums q l) := by
  intro z hz
  obtain ⟨n, _, rfl⟩ := List.mem_map.1 hz
  exact mNum_u64 _ _
theorem rowS_u64 (p : Par) (x : List Int) : U64s (rowS p x) := by
  unfold rowS
  split
  · intro z hz
    rcases List.mem_append.1 hz with h | h
    · rcases List.mem_append.1 h with h | h
      · exact mNums_u64 _ _ z (List.mem_of_mem_take h)
      · rw [(List.mem_replicate.1 h).2]; exact ⟨by decide, by decide⟩
    · simp only [List.mem_singleton] at h
      rw [h]; exact mNum_u64 _ _
  · intro z hz; cases hz
theorem fsplice_row (l : List Int) (d : Nat) : splice (List.replicate (d + 1) (Value.int .u64 0)) 0 ((l.take d).map (Value.int .u64)) = (padded l d).map (Value.int .u64) ++ [Value.int .u64 0] := by
  unfold splice padded
  simp only [List.take_zero, List.nil_append, List.length_map, List.length_take, List.map_append, List.map_replicate, Nat.zero_add, List.drop_replicate, List.append_assoc]
  congr 1
  rw [← List.replicate_succ']
  congr 1
  omega
set_option maxHeartbeats 2000000 in
theorem frow_c (p : Par) (hp : p.ok) (A : Option Addr) (x : List Int) (c : Nat) (w : World) (hA : Cells w A (x.map (.int .i64))) (hl : x.length ≤ 17592186044415) (hu : I64s x) :
    Calls Tryd.prog 30 #[pval p, .slice A x.length c] w (NewNums (rowS p x) w) := by
  go_enter Tryd.func30, Tryd.ntmps30
  go_wp2_with (fail)
  refine (fit_c p _).mono ?_
  rintro e w1 ⟨rfl, hb1⟩
  have hb2 := below_next (below_alloc w (.cells (pcells p).toArray 24)) (by simp) hb1
  have hP : Row1 w1 w.heap.size 24 (pcells p) := (row1_new w (pcells p) 24).below hb1
  have hA1 := hA.below hb2
  have hq := hp.Q
  clear hb1 hA
  cases hf : fits p with
  | false =>
    have HF := hid (show rowS p x = [] by simp [rowS, hf])
    clear hf
    go_wp2
    go_ret
    refine ⟨_, rfl, ?_, hb2⟩
    rw [HF.out]
    exact Own.nil _ _ _
  | true =>
  have hF := (fits_iff p).1 hf
  obtain ⟨d, hd⟩ : ∃ d : Nat, p.D = d := ⟨p.D.toNat, by have := hF.D0; omega⟩
  have hd4 : d ≤ 4 := by have := hF.D; omega
  have HR := hid (show rowS p x = padded (mNums p.Q x) d ++ [mNum 1 p.Q] by simp [rowS, hf, hd])
  clear hf hF
  have cD := hP.cell (k := 8) (u := .int .i64 (d : Int)) (by simp [pcells, hd])
  go_wp2_with (at_make; refine wpList_make_row elt_u64 _ rfl _ _ rfl .i64 .i64 _ _ (d + 1) rfl rfl (by simp) (by simp) (by omega) (by omega) ?_; intro w2 hr2 hs2 hb3)
  have hb4 := below_next hb2 hb2.size hb3
  have hP2 := hP.below hb3
  have hA2 := hA1.below hb3
  have hP0 := hP.lt
  clear cD hP hA1
  refine Rg.wp_region (l := [_, _, _, _, _, _, _, _]) (tail := [_]) (Rg.grows _ 9) [some 13, some 14, some 15, some 16, some 17, some 18, some 19, some 20, some 21] 30 (by kernel_rfl) (by kernel_rfl) (by kernel_rfl) rfl (Rg.grows_fair _ _) (Rg.keep_drew _) (trivial) ?_
  refine' Rg.op_is _ [] rfl rfl (by kernel_rfl) ?_ ?_
  rotate_left
  · intro wx hb
    refine Rg.from_nil fun T hT => ?_
    go_wp2
    refine hT _ _ rfl (by first | exact Rg.Keep.refl _ | exact below_of_dr hw2 | exact hw2 | exact (Below.refl _ _).alloc (Nat.le_refl _) _) ?_
    simp only [Rg.last, List.getElem?_toArray, List.getElem?_cons_succ, List.getElem?_cons_zero, Option.getD_some]
    rfl
  refine' Rg.op_is _ [] rfl rfl (by kernel_rfl) ?_ ?_
  rotate_left
  · intro wx hb
    refine Rg.from_nil fun T hT => ?_
    go_wp2
    refine hT _ _ rfl (by first | exact Rg.Keep.refl _ | exact below_of_dr hw2 | exact hw2 | exact (Below.refl _ _).alloc (Nat.le_refl _) _) ?_
    simp only [Rg.last, List.getElem?_toArray, List.getElem?_cons_succ, List.getElem?_cons_zero, Option.getD_some]
    rfl
  refine Rg.op_is (.int .i64 (d : Int)) [1] rfl rfl (by kernel_rfl) ?_ ?_
  · intro wx hb
    refine Rg.from_is (some 14) rfl rfl ?_
    refine Rg.from_nil fun T hT => ?_
    have cD := (hP2.below hb).cell (k := 8) (u := .int .i64 (d : Int)) (by simp [pcells, hd])
    go_wp2
    exact hT _ _ rfl (by first | exact Rg.Keep.refl _ | exact below_of_dr hw2 | exact hw2 | exact (Below.refl _ _).alloc (Nat.le_refl _) _) (by first | rfl | exact congrArg _ (by decide))
  refine' Rg.op_is _ [0, 2] rfl rfl (by kernel_rfl) ?_ ?_
  rotate_left
  · intro wx hb
    refine Rg.from_is (some 13) rfl rfl ?_
    refine Rg.from_is (some 15) rfl rfl ?_
    refine Rg.from_nil fun T hT => ?_
    go_wp2
    refine hT _ _ rfl (by first | exact Rg.Keep.refl _ | exact below_of_dr hw2 | exact hw2 | exact (Below.refl _ _).alloc (Nat.le_refl _) _) ?_
    simp only [Rg.last, List.getElem?_toArray, List.getElem?_cons_succ, List.getElem?_cons_zero, Option.getD_some]
    rfl
  refine' Rg.op_is _ [] rfl rfl (by kernel_rfl) ?_ ?_
  rotate_left
  · intro wx hb
    refine Rg.from_nil fun T hT => ?_
    go_wp2
    refine hT _ _ rfl (by first | exact Rg.Keep.refl _ | exact below_of_dr hw2 | exact hw2 | exact (Below.refl _ _).alloc (Nat.le_refl _) _) ?_
    simp only [Rg.last, List.getElem?_toArray, List.getElem?_cons_succ, List.getElem?_cons_zero, Option.getD_some]
    rfl
  refine Rg.op_is (.int .u64 p.Q) [4] rfl rfl (by kernel_rfl) ?_ ?_
  · intro wx hb
    refine Rg.from_is (some 17) rfl rfl ?_
    refine Rg.from_nil fun T hT => ?_
    have cQ := (hP2.below hb).cell (k := 1) (u := .int .u64 p.Q) rfl
    go_wp2
    exact hT _ _ rfl (by first | exact Rg.Keep.refl _ | exact below_of_dr hw2 | exact hw2 | exact (Below.refl _ _).alloc (Nat.le_refl _) _) (by first | rfl | exact congrArg _ (by decide))
  refine' Rg.op_is _ [] rfl rfl (by kernel_rfl) ?_ ?_
  rotate_left
  · intro wx hb
    refine Rg.from_nil fun T hT => ?_
    go_wp2
    refine hT _ _ rfl (by first | exact Rg.Keep.refl _ | exact below_of_dr hw2 | exact hw2 | exact (Below.refl _ _).alloc (Nat.le_refl _) _) ?_
    simp only [Rg.last, List.getElem?_toArray, List.getElem?_cons_succ, List.getElem?_cons_zero, Option.getD_some]
    rfl
  refine Rg.op_of (fun w' v => Own w' w1.heap.size 22 v ((mNums p.Q x).map (.int .u64))) [5, 6] rfl ?_ ?_ rfl (by kernel_rfl) ?_ ?_
  · exact fun w1 w2 v hk h => h.below hk
  · exact fun w1 w2 v hk h => h.below hk
  · intro wx hb
    refine Rg.from_is (some 18) rfl rfl ?_
    refine Rg.from_is (some 19) rfl rfl ?_
    refine Rg.from_nil fun T hT => ?_
    go_wp2_with (fail)
    refine (fnumbers_c _ _ _ _ _ (hA2.below hb) hl hu hq).mono ?_
    rintro e w4 ⟨v, rfl, hown, hb5⟩
    go_wp2
    exact hT _ _ rfl hb5 (hown.from_ (by have := hb.size; have := hs2; simp at *; omega))
  refine Rg.walk_nil [0, 1, 2, 3, 4, 5, 6, 7] (by kernel_rfl) ?_
  intro wx hb
  refine Rg.from_is (some 13) rfl rfl ?_
  refine Rg.from_is (some 14) rfl rfl ?_
  refine Rg.from_is (some 15) rfl rfl ?_
  refine Rg.from_is (some 16) rfl rfl ?_
  refine Rg.from_is (some 17) rfl rfl ?_
  refine Rg.from_is (some 18) rfl rfl ?_
  refine Rg.from_is (some 19) rfl rfl ?_
  refine Rg.from_of (some 20) rfl rfl fun v20 h20 => ?_
  refine Rg.from_nil ?_
  simp only [List.map, Act.put, List.setIfInBounds_toArray, List.set_cons_zero, List.set_cons_succ]
  have hP3 := hP2.below hb
  have hr3 := hr2.below hb
  have hb5 := below_next hb4 hb4.size hb
  obtain ⟨A', c', rfl, hcs⟩ := h20.form
  refine wpList_copy_splice rfl _ _ _ _ rfl _ Tryd.underlying44 (by kernel_rfl) _ _ _ _ _ _ rfl rfl w1.heap.size 0 (List.replicate (d + 1) (.int .u64 0)) 22 hr3 (((mNums p.Q x).take d).map (.int .u64)) ?c1 ?c2 ?c3 ?c4 w1.heap.size wx (Below.refl _ _) (Nat.le_refl _) ?c5
  case c1 => simp [Nat.min_comm]
  case c2 =>
    intro h0
    refine ⟨rfl, ?_⟩
    rcases hcs with h | ⟨b, off, rfl, h⟩
    · simp only [List.map_eq_nil_iff] at h; rw [h] at h0; simp at h0
    · refine ⟨_, rfl, fun j v hv => ?_⟩
      have hadd : (⟨b, off, none⟩ : Addr).add j = ⟨b, off + j, none⟩ := by unfold Addr.add; split <;> simp_all
      rw [hadd]
      refine h j v ?_
      rw [List.getElem?_map] at hv ⊢
      obtain ⟨y, hy, rfl⟩ := Option.map_eq_some_iff.1 hv
      rw [List.getElem?_take] at hy
      split at hy
      · rw [hy]; rfl
      · cases hy
  case c3 => simp; omega
  case c4 => intro v hv; simp only [List.mem_map] at hv; obtain ⟨z, _, rfl⟩ := hv; rfl
  case c5 =>
    intro w4 h4 hb6
    have hlt : w.heap.size < w1.heap.size := hP0
    have hP4 := hP3.keep (hb6.block _ hlt)
    have hb7 : Below w.heap.size w w4 := hb5.trans (hb6.mono (by omega))
    have hr4 : Row1 w4 w1.heap.size 22 ((padded (mNums p.Q x) d).map (.int .u64) ++ [.int .u64 0]) := by
      rw [← fsplice_row]; exact h4.out
    clear hb6 hb5 hb4 hcs h20 hr3 hr2 hb h4 hP2 hP3 hA2 hb3
    go_wp2
    refine Rg.wp_region (l := [_, _, _, _, _, _, _]) (tail := [_]) (Rg.grows _ 8) [some 22, some 23, some 24, some 25, some 26, some 27, some 28, none] 30 (by kernel_rfl) (by kernel_rfl) (by kernel_rfl) rfl (Rg.grows_fair _ _) (Rg.keep_drew _) (trivial) ?_
    refine' Rg.op_is _ [] rfl rfl (by kernel_rfl) ?_ ?_
    rotate_left
    · intro wx hb
      refine Rg.from_nil fun T hT => ?_
      go_wp2
      refine hT _ _ rfl (by first | exact Rg.Keep.refl _ | exact below_of_dr hw2 | exact hw2 | exact (Below.refl _ _).alloc (Nat.le_refl _) _) ?_
      simp only [Rg.last, List.getElem?_toArray, List.getElem?_cons_succ, List.getElem?_cons_zero, Option.getD_some]
      rfl
    refine' Rg.op_is _ [] rfl rfl (by kernel_rfl) ?_ ?_
    rotate_left
    · intro wx hb
      refine Rg.from_nil fun T hT => ?_
      go_wp2
      refine hT _ _ rfl (by first | exact Rg.Keep.refl _ | exact below_of_dr hw2 | exact hw2 | exact (Below.refl _ _).alloc (Nat.le_refl _) _) ?_
      simp only [Rg.last, List.getElem?_toArray, List.getElem?_cons_succ, List.getElem?_cons_zero, Option.getD_some]
      rfl
    refine Rg.op_is (.int .i64 (d : Int)) [1] rfl rfl (by kernel_rfl) ?_ ?_
    · intro wx hb
      refine Rg.from_is (some 23) rfl rfl ?_
      refine Rg.from_nil fun T hT => ?_
      have cD := (hP4.below hb).cell (k := 8) (u := .int .i64 (d : Int)) (by simp [pcells, hd])
      go_wp2
      exact hT _ _ rfl (by first | exact Rg.Keep.refl _ | exact below_of_dr hw2 | exact hw2 | exact (Below.refl _ _).alloc (Nat.le_refl _) _) (by first | rfl | exact congrArg _ (by decide))
    refine' Rg.op_is _ [] rfl rfl (by kernel_rfl) ?_ ?_
    rotate_left
    · intro wx hb
      refine Rg.from_nil fun T hT => ?_
      go_wp2
      refine hT _ _ rfl (by first | exact Rg.Keep.refl _ | exact below_of_dr hw2 | exact hw2 | exact (Below.refl _ _).alloc (Nat.le_refl _) _) ?_
      simp only [Rg.last, List.getElem?_toArray, List.getElem?_cons_succ, List.getElem?_cons_zero, Option.getD_some]
      rfl
    refine Rg.op_is (.int .u64 p.Q) [3] rfl rfl (by kernel_rfl) ?_ ?_
    · intro wx hb
      refine Rg.from_is (some 25) rfl rfl ?_
      refine Rg.from_nil fun T hT => ?_
      have cQ := (hP4.below hb).cell (k := 1) (u := .int .u64 p.Q) rfl
      go_wp2
      exact hT _ _ rfl (by first | exact Rg.Keep.refl _ | exact below_of_dr hw2 | exact hw2 | exact (Below.refl _ _).alloc (Nat.le_refl _) _) (by first | rfl | exact congrArg _ (by decide))
    refine Rg.op_is (.int .u64 (mNum 1 p.Q)) [4] rfl rfl (by kernel_rfl) ?_ ?_
    · intro wx hb
      refine Rg.from_is (some 26) rfl rfl ?_
      refine Rg.from_nil fun T hT => ?_
      go_wp2_with (go_at_call 43; refine (num_c 1 p.Q ⟨by decide, by decide⟩ hq _).mono ?_; rintro e w5 ⟨rfl, hw5⟩)
      exact hT _ _ rfl (below_of_dr hw5) rfl
    refine' Rg.op_is _ [0, 2] rfl rfl (by kernel_rfl) ?_ ?_
    rotate_left
    · intro wx hb
      refine Rg.from_is (some 22) rfl rfl ?_
      refine Rg.from_is (some 24) rfl rfl ?_
      refine Rg.from_nil fun T hT => ?_
      go_wp2
      refine hT _ _ rfl (by first | exact Rg.Keep.refl _ | exact below_of_dr hw2 | exact hw2 | exact (Below.refl _ _).alloc (Nat.le_refl _) _) ?_
      simp only [Rg.last, List.getElem?_toArray, List.getElem?_cons_succ, List.getElem?_cons_zero, Option.getD_some]
      rfl
    refine Rg.walk_nil [0, 1, 2, 3, 4, 5, 6] (by kernel_rfl) ?_
    intro wx hb
    refine Rg.from_is (some 22) rfl rfl ?_
    refine Rg.from_is (some 23) rfl rfl ?_
    refine Rg.from_is (some 24) rfl rfl ?_
    refine Rg.from_is (some 25) rfl rfl ?_
    refine Rg.from_is (some 26) rfl rfl ?_
    refine Rg.from_is (some 27) rfl rfl ?_
    refine Rg.from_is (some 28) rfl rfl ?_
    refine Rg.from_nil ?_
    simp only [List.map, Act.put, List.setIfInBounds_toArray, List.set_cons_zero, List.set_cons_succ]
    have hr5 := hr4.below hb
    have hlen : ((padded (mNums p.Q x) d).map (Value.int .u64) ++ [Value.int .u64 0]).length = d + 1 := by simp [padded_len]
    have hget : ((padded (mNums p.Q x) d).map (Value.int .u64) ++ [Value.int .u64 0])[d]? = some (.int .u64 0) := by
      rw [List.getElem?_append_right (by simp [padded_len])]; simp [padded_len]
    have hc5 := hr5.cell hget
    have hf5 := hr5.frozen d
    have hset : ((padded (mNums p.Q x) d).map (Value.int .u64) ++ [Value.int .u64 0]).set d (.int .u64 (mNum 1 p.Q)) = (rowS p x).map (.int .u64) := by
      rw [HR.out, List.set_append_right _ _ (by simp [padded_len])]
      simp [padded_len]
    have hr6 := hr5.set d (.int .u64 (mNum 1 p.Q))
    rw [hset] at hr6
    have hb8 := (below_next hb7 hb7.size hb).setCell (p := ⟨w1.heap.size, d, none⟩) (by simp; omega) (.int .u64 (mNum 1 p.Q))
    have hlen2 : ((rowS p x).map (Value.int .u64)).length = d + 1 := by rw [← hset, List.length_set, hlen]
    clear hr5 hset hlen hget hP4 hr4 hb7
    go_wp2
    go_ret
    refine ⟨_, rfl, ?_, hb8⟩
    have := hr6.own (base := w.heap.size) (by omega) (by rw [hlen2]; omega)
    rw [hlen2] at this
    exact this
end Go.Proofs.YtpdgalclnlbeaaaDoor
end

section
namespace Go.Proofs.YtpdgalclnlbeaaaDoor
open Go.RowKit
/-- blocks that are known whole (F: for long; L: the newest ahead), and that nothing but new blocks has come since w0. -/
structure Bun (w0 w : World) (F L : List (Nat × TypeId × List Value)) : Prop where
  b : Below w0.heap.size w0 w
  old : ∀ x ∈ F, Row1 w x.1 x.2.1 x.2.2
  rows : ∀ x ∈ L, Row1 w x.1 x.2.1 x.2.2
section
variable {w0 w w' : World} {F L L' : List (Nat × TypeId × List Value)}
theorem Bun.nil (w : World) : Bun w w [] [] := ⟨Below.refl _ _, (fun x h => by cases h), (fun x h => by cases h)⟩
theorem Bun.of (h : Below w0.heap.size w0 w) : Bun w0 w [] [] := ⟨h, (fun x h => by cases h), (fun x h => by cases h)⟩
theorem Bun.more (h : Bun w0 w F L) (hb : Below w.heap.size w w') : Bun w0 w' F L := ⟨below_next h.b h.b.size hb, fun x hx => (h.old x hx).below hb, fun x hx => (h.rows x hx).below hb⟩
theorem Bun.row (h : Bun w0 w F L) {i g : Nat} {e : TypeId} {xs : List Value} (hi : L[i]? = some (g, e, xs)) : Row1 w g e xs := h.rows _ (List.mem_of_getElem? hi)
theorem Bun.drop (h : Bun w0 w F L) : Bun w0 w F [] := ⟨h.b, h.old, fun x hx => by cases hx⟩
theorem Bun.keep (h : Bun w0 w F L) : Bun w0 w (L ++ F) [] := ⟨h.b, fun x hx => (List.mem_append.1 hx).elim (h.rows x) (h.old x), fun x hx => by cases hx⟩
theorem Bun.alloc (h : Bun w0 w F L) (xs : List Value) (e : TypeId) : Bun w0 (w.alloc (.cells xs.toArray e)) F ((w.heap.size, e, xs) :: L) :=
  ⟨below_next h.b h.b.size (below_alloc w _), fun x hx => (h.old x hx).alloc _, fun x hx => by
    rcases List.mem_cons.1 hx with rfl | hx
    · exact row1_new w xs e
    · exact (h.rows x hx).alloc _⟩
end
def isStore : Op → Bool
  | .store .. => true
  | _ => false
/-- the block that was laid last gets a name (behind its store). -/
theorem wpList_named {P : Program} {w0 w : World} {F L : List (Nat × TypeId × List Value)} (hB : Bun w0 w F L) {ops : Array Oper} {o : Oper} {rest : List Oper} {a : Act} {Q : Exit → Act → World → Prop} {xs : List Value} {e : TypeId} (_ : isStore o.op = false)
    (h : ∀ w' g, Bun w0 w' F ((g, e, xs) :: L) → Below w.heap.size w w' → w.heap.size = g → wpList P ops Q (o :: rest) a w') : wpList P ops Q (o :: rest) a (w.alloc (.cells xs.toArray e)) :=
  h _ _ (hB.alloc xs e) (below_alloc w _) rfl
/-- rows of equal length, one behind the other. -/
theorem flat_at {α : Type} (h : α → List Value) (n : Nat) (hn : ∀ t, (h t).length = n) : ∀ (l : List α) (k i : Nat), i < n → (l.flatMap h)[k * n + i]? = (l[k]?).bind fun t => (h t)[i]?
  | [], k, i, _ => by simp
  | t :: l, 0, i, hi => by
    rw [List.flatMap_cons, Nat.zero_mul, Nat.zero_add, List.getElem?_append_left (by rw [hn]; exact hi)]
    rfl
  | t :: l, k + 1, i, hi => by
    rw [List.flatMap_cons, List.getElem?_append_right (by rw [hn, Nat.succ_mul]; omega), hn, show (k + 1) * n + i - n = k * n + i by rw [Nat.succ_mul]; omega, flat_at h n hn l k i hi]
    rfl
end Go.Proofs.YtpdgalclnlbeaaaDoor
end

section
namespace Go.Proofs.YtpdgalclnlbeaaaDoor
open Go Go.RowKit Go.Maps Go.Shelf Go.Proofs
/-- a row with its right behind. -/
def withR (W : Nat) (row : List Int) (x : Int) : List Int := tabL (W + 1) fun j => if j = W then x else nth row j
def allR (W : Nat) (f : List (List Int)) (right : List Int) (k : Nat) : List (List Int) := (List.range k).map fun i => withR W (f.getD i []) (nth right i)
/-- what stands in the last place of the row that begins at j. -/
def valAt (S : List En) (W j : Nat) : Int := ((S.find? fun p => decide (p.at_ = j)).map fun p => nth p.row W).getD 0
theorem valAt_of {S : List En} {W : Nat} (h : S.Pairwise fun p p' => p.at_ ≠ p'.at_) {p : En} (hp : p ∈ S) : valAt S W p.at_ = nth p.row W := by
  unfold valAt
  cases hf : S.find? fun p' => decide (p'.at_ = p.at_) with
  | none =>
    rw [List.find?_eq_none] at hf
    exact absurd (hf p hp) (by simp)
  | some p' =>
    have h1 := List.mem_of_find?_eq_some hf
    have h2 := List.find?_some hf
    have : p' = p := key_one h h1 hp (by simpa using h2)
    rw [this]; rfl
theorem valAt_no {S : List En} {W j : Nat} (h : ∀ p ∈ S, p.at_ ≠ j) : valAt S W j = 0 := by
  unfold valAt
  rw [List.find?_eq_none.2 fun p hp => by simpa using h p hp]; rfl
/-- what is told of equations. -/
noncomputable def solveS (f : List (List Int)) (right : List Int) (q : Int) : List En := spaceL q (iv q) (wideL (allR (wideL f) f right f.length)) (allR (wideL f) f right f.length)
open Classical in
noncomputable def solveV (f : List (List Int)) (right : List Int) (q : Int) : List Int × Int :=
  if primeV q = true ∧ right.length ≤ f.length then (if ∃ p ∈ solveS f right q, p.at_ = wideL f then ([], 5) else (tabL (wideL f) (valAt (solveS f right q) (wideL f)), 0)) else ([], 1)
/-- numbers of this call's own are told. -/
def NumsE (xs : List Int) (en : Int) (w : World) (e : Ending) (w' : World) : Prop := ∃ v, e = .returned (.tuple #[v, .int .i64 en]) ∧ Own w' w.heap.size 22 v (u64v xs) ∧ Below w.heap.size w w'
theorem elt_rows : Elt Tryd.prog 48 44 (.slice none 0 0) 24 := Elt.of Tryd.underlying48 (by kernel_rfl) rfl
/-- rows of the call's own, each in a block of its own. -/
structure RowsAt (w : World) (base : Nat) (v : Value) (n : Nat) (L : List (List Int)) (bs : List Nat) : Prop where
  own : Own w base 44 v (bs.map fun b => Value.slice (some ⟨b, 0, none⟩) n n)
  len : bs.length = L.length
  row : ∀ (i : Nat) (b : Nat) (l : List Int), bs[i]? = some b → L[i]? = some l → l.length = n ∧ Row1 w b 22 (u64v l)
  lo : ∀ b ∈ bs, base ≤ b
theorem own_ne_row {w : World} {base b : Nat} {e e' : TypeId} {v : Value} {xs ys : List Value} (h : Own w base e v xs) (k : Row1 w b e' ys) (hne : e ≠ e') : some b ≠ v.ownBlock := by
  rcases h.2 with ⟨rfl, _⟩ | ⟨g, cap, cur, rfl, _, hg, _⟩
  · intro e1; cases e1
  · intro e1
    simp only [Value.ownBlock, Option.some.injEq] at e1
    subst e1
    unfold Row1 at k
    rw [hg] at k
    simp only [Option.some.injEq, Obj.cells.injEq] at k
    exact hne k.2.1
theorem RowsAt.below {w w' : World} {base n : Nat} {v : Value} {L : List (List Int)} {bs : List Nat} (h : RowsAt w base v n L bs) (hb : Below w.heap.size w w') : RowsAt w' base v n L bs :=
  ⟨h.own.below hb, h.len, fun i b l h1 h2 => ⟨(h.row i b l h1 h2).1, (h.row i b l h1 h2).2.below hb⟩, h.lo⟩
theorem RowsAt.grid {w : World} {base n : Nat} {v : Value} {L : List (List Int)} {bs : List Nat} (h : RowsAt w base v n L bs) (hn : n ≤ 9223372036854775807) : ∃ A c, v = .slice A L.length c ∧ Grid w A L := by
  obtain ⟨A, cap, rfl, hc⟩ := h.own.form
  refine ⟨A, cap, by rw [List.length_map, h.len], _, hc, by rw [List.length_map, h.len], fun i l hl => ?_⟩
  have hi : i < bs.length := by rw [h.len]; exact (List.getElem?_eq_some_iff.1 hl).1
  obtain ⟨h1, h2⟩ := h.row i _ l (List.getElem?_eq_getElem hi) hl
  refine ⟨.slice (some ⟨bs[i], 0, none⟩) n n, by rw [List.getElem?_map, List.getElem?_eq_getElem hi]; rfl, some ⟨bs[i], 0, none⟩, n, by rw [h1], h2.cells, by omega⟩
theorem RowsAt.push {w w' : World} {base n b : Nat} {v v' : Value} {L : List (List Int)} {bs : List Nat} {l : List Int} (h : RowsAt w base v n L bs) (hk : ∀ k, k < w.heap.size → some k ≠ v.ownBlock → w'.heap[k]? = w.heap[k]?) (ho : Own w' base 44 v' ((bs.map fun b => Value.slice (some ⟨b, 0, none⟩) n n) ++ [.slice (some ⟨b, 0, none⟩) n n])) (hl : l.length = n) (hr : Row1 w b 22 (u64v l)) (hb : base ≤ b) : RowsAt w' base v' n (L ++ [l]) (bs ++ [b]) := by
  have keep : ∀ (b : Nat) (ys : List Value), Row1 w b 22 ys → Row1 w' b 22 ys := fun b ys k => k.keep (hk b k.lt (own_ne_row h.own k (by decide)))
  refine ⟨by rw [List.map_append]; exact ho, by rw [List.length_append, List.length_append, h.len]; rfl, fun i b' l' h1 h2 => ?_, fun b' hb' => ?_⟩
  · by_cases hi : i < bs.length
    · rw [List.getElem?_append_left hi] at h1
      rw [List.getElem?_append_left (by rw [← h.len]; exact hi)] at h2
      obtain ⟨a1, a2⟩ := h.row i b' l' h1 h2
      exact ⟨a1, keep _ _ a2⟩
    · rw [List.getElem?_append_right (by omega)] at h1
      rw [List.getElem?_append_right (by rw [← h.len]; omega), ← h.len] at h2
      have hi2 : i - bs.length = 0 := by
        have := (List.getElem?_eq_some_iff.1 h1).1
        simp at this
        omega
      rw [hi2] at h1 h2
      obtain rfl := Option.some.inj h1
      obtain rfl := Option.some.inj h2
      exact ⟨hl, keep _ _ hr⟩
  · rcases List.mem_append.1 hb' with h1 | h1
    · exact h.lo b' h1
    · obtain rfl := List.mem_singleton.1 h1
      exact hb
end Go.Proofs.YtpdgalclnlbeaaaDoor
end
