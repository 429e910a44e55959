/-
  Which votes count: the closures.
-/
import Derived.Test.YtnngnekfgijejaaTalE
namespace Go.Proofs.Ytnngnekfgijejaa
open Go.RowKit Go.Maps

def pCnt (r k : Int) (s : ByteArray) (v : Vt) : Bool := (v.rd == r) && (v.kd == k) && (v.tx.toList == s.toList)
def pAll (r k : Int) (v : Vt) : Bool := (v.rd == r) && (v.kd == k)
def pSent (r : Int) (v : Vt) : Bool := v.rd == r

theorem sent1_c (b1 : Nat) (r : Int) (v : Vt) (w : World) (h1 : Row1 w b1 3 [.int .i64 r]) :
    Calls Try.prog 40 #[vval v, .pointer (some ⟨b1, 0, none⟩)] w fun e w' => e = .returned (.bool (pSent r v)) ∧ Below w.heap.size w w' := by
  have hl := h1.lt
  have hc := h1.cell (k := 0) rfl
  go_enter Try.func40, Try.ntmps40
  go_wp2
  go_ret
  exact ⟨rfl, below_alloc _ _⟩
theorem all1_c (b1 b2 : Nat) (r k : Int) (v : Vt) (w : World) (h1 : Row1 w b1 3 [.int .i64 r]) (h2 : Row1 w b2 5 [.int .u8 k]) :
    Calls Try.prog 39 #[vval v, .pointer (some ⟨b1, 0, none⟩), .pointer (some ⟨b2, 0, none⟩)] w fun e w' => e = .returned (.bool (pAll r k v)) ∧ Below w.heap.size w w' := by
  have hl := h1.lt
  have hc := h1.cell (k := 0) rfl
  have hl2 := h2.lt
  have hc2 := h2.cell (k := 0) rfl
  cases e1 : (v.rd == r) <;> cases e2 : (v.kd == k)
  all_goals
    have HP := hid (show pAll r k v = _ by simp only [pAll, e1, e2]; rfl)
    go_enter Try.func39, Try.ntmps39
    go_wp2
    go_ret
    exact ⟨ret_bool HP.out.symm, below_alloc _ _⟩
theorem count1_c (b1 b2 b3 : Nat) (r k : Int) (s : ByteArray) (v : Vt) (w : World) (h1 : Row1 w b1 3 [.int .i64 r]) (h2 : Row1 w b2 5 [.int .u8 k]) (h3 : Row1 w b3 9 [.string s]) :
    Calls Try.prog 37 #[vval v, .pointer (some ⟨b1, 0, none⟩), .pointer (some ⟨b2, 0, none⟩), .pointer (some ⟨b3, 0, none⟩)] w fun e w' => e = .returned (.bool (pCnt r k s v)) ∧ Below w.heap.size w w' := by
  have hl := h1.lt
  have hc := h1.cell (k := 0) rfl
  have hl2 := h2.lt
  have hc2 := h2.cell (k := 0) rfl
  have hl3 := h3.lt
  have hc3 := h3.cell (k := 0) rfl
  cases e1 : (v.rd == r) <;> cases e2 : (v.kd == k)
  case true.true =>
    have HP := hid (show pCnt r k s v = (v.tx.toList == s.toList) by simp only [pCnt, e1, e2]; rfl)
    go_enter Try.func37, Try.ntmps37
    go_wp2
    go_ret
    exact ⟨ret_bool HP.out.symm, below_alloc _ _⟩
  all_goals
    have HP := hid (show pCnt r k s v = false by simp only [pCnt, e1, e2]; rfl)
    go_enter Try.func37, Try.ntmps37
    go_wp2
    go_ret
    exact ⟨ret_bool HP.out.symm, below_alloc _ _⟩

theorem elt_int : Elt Try.prog 36 3 (.int .i64 0) 8 := Elt.of Try.underlying36 (by kernel_rfl) rfl

/-- how many votes of a member counted. -/
def hadN (p : Vt → Bool) (pre : List Vt) (f : Nat) : Nat := cntN (fun v => p v && (v.fr == (f : Int))) pre
def hadL (n : Nat) (p : Vt → Bool) (pre : List Vt) : List Value := (List.range (n + 1)).map fun f => .int .i64 (hadN p pre f)
theorem hadL_nil (n : Nat) (p : Vt → Bool) : hadL n p [] = List.replicate (n + 1) (.int .i64 0) := by
  unfold hadL
  rw [List.eq_replicate_iff]
  refine ⟨by simp, fun b hb => ?_⟩
  obtain ⟨f, _, rfl⟩ := List.mem_map.1 hb
  rfl
theorem hadL_at {n : Nat} {p : Vt → Bool} {pre : List Vt} {v : Vt} (h1 : 1 ≤ v.fr) (h2 : v.fr ≤ (n : Int)) : (hadL n p pre)[v.fr.toNat]? = some (.int .i64 (hadN p pre v.fr.toNat)) := by
  unfold hadL
  rw [List.getElem?_map, List.getElem?_range (by omega)]; rfl
theorem hadL_len (n : Nat) (p : Vt → Bool) (pre : List Vt) : (hadL n p pre).length = n + 1 := by simp [hadL]
theorem hadL_no {n : Nat} {p : Vt → Bool} {pre : List Vt} {v : Vt} (hp : p v = false) : hadL n p (pre ++ [v]) = hadL n p pre := by
  unfold hadL
  refine List.map_congr_left fun f _ => ?_
  unfold hadN
  rw [cntN_snoc, if_neg (by simp [hp]), Nat.add_zero]
theorem hadL_yes {n : Nat} {p : Vt → Bool} {pre : List Vt} {v : Vt} (hp : p v = true) (h1 : 1 ≤ v.fr) (h2 : v.fr ≤ (n : Int)) :
    hadL n p (pre ++ [v]) = (hadL n p pre).set v.fr.toNat (.int .i64 ((hadN p pre v.fr.toNat : Nat) + 1 : Int)) := by
  apply List.ext_getElem?
  intro i
  rw [List.getElem?_set]
  unfold hadL
  rw [List.length_map, List.length_range, List.getElem?_map, List.getElem?_map]
  rcases Nat.lt_or_ge i (n + 1) with hi | hi
  · rw [List.getElem?_range hi]
    by_cases e : v.fr.toNat = i
    · rw [if_pos e, if_pos (by omega)]
      subst e
      simp only [Option.map_some, hadN, cntN_snoc, hp, Bool.true_and]
      rw [if_pos (by simp; omega)]
      rfl
    · rw [if_neg e]
      simp only [Option.map_some, hadN, cntN_snoc, hp, Bool.true_and]
      rw [if_neg (by simp; omega)]
      rfl
  · rw [List.getElem?_eq_none (by simpa using hi), if_neg (by omega)]; rfl
theorem hadN_zero {p : Vt → Bool} {pre : List Vt} {v : Vt} (h1 : 1 ≤ v.fr) : hadN p pre v.fr.toNat = 0 ↔ ∀ u ∈ pre, p u = true → u.fr ≠ v.fr := by
  unfold hadN cntN
  rw [List.length_eq_zero_iff, List.filter_eq_nil_iff]
  constructor
  · intro h u hu hp he
    exact h u hu (by simp [hp]; omega)
  · intro h u hu hc
    simp only [Bool.and_eq_true, beq_iff_eq] at hc
    exact h u hu hc.1 (by omega)
theorem hadN_le (p : Vt → Bool) (pre : List Vt) (f : Nat) : hadN p pre f ≤ pre.length := List.length_filter_le _ _

/-- the range's step, at votes. -/
theorem wpList_next_vote (w : World) {ops : Array Oper} {rest : List Oper} {o : Oper} {a : Act} {Q : Exit → Act → World → Prop} {b : Nat} {L : List Vt} (hg : o.guard = none) (it : Operand) (hop : o.op = Op.next it false) {r cnt : Nat} {left : List Vt} (hit : a.eval it = .pointer (some ⟨r, 0, none⟩)) (h : RangeAt tM w b r L left cnt)
    (hDone : left = [] → wpList Try.prog ops Q rest (a.put o.dst (.tuple #[.bool false])) w)
    (hMore : ∀ (x : Vt) (left' : List Vt) (w' : World) (cnt' : Nat), left.Perm (x :: left') → x ∈ L → RangeAt tM w' b r L left' cnt' → cnt' < cnt → w.grownBy w' (some r) → w'.heap.size = w.heap.size →
      (Instr.entry (.pointer (some ⟨r, 0, none⟩))).run Try.prog w' = .ok (.tuple #[pval x.rd x.fr x.kd, vval x]) w' → wpList Try.prog ops Q rest (a.put o.dst (.tuple #[.bool true, pval x.rd x.fr x.kd, vval x])) w') :
    wpList Try.prog ops Q (o :: rest) a w :=
  wpList_next_tab w hg it hop hit h hDone hMore
theorem wpList_range_vote (w : World) {ops : Array Oper} {rest : List Oper} {o : Oper} {a : Act} {Q : Exit → Act → World → Prop} {b : Nat} {L : List Vt} (hg : o.guard = none) (m : Operand) (hop : o.op = Op.range 68 m) (hm : a.eval m = .map (some b)) (h : MapAt tM w b L)
    (hK : ∀ w' cnt, RangeAt tM w' b w.heap.size L L cnt → w.grownBy w' none → w'.heap.size = w.heap.size + 1 → wpList Try.prog ops Q rest (a.put o.dst (.pointer (some ⟨w.heap.size, 0, none⟩))) w') :
    wpList Try.prog ops Q (o :: rest) a w :=
  wpList_range_tab w hg m _ hop 30 Try.underlying68 hm h hK
end Go.Proofs.Ytnngnekfgijejaa
