/-
  The document's lists of rising numbers.
-/
import Derived.Test.YtlbhmoiicbhgkaaDoorAdmQ1
import Derived.Test.YtlbhmoiicbhgkaaDoorAdmQ2
import Derived.Test.YtlbhmoiicbhgkaaDoorAdmQ3
import Derived.Test.YtlbhmoiicbhgkaaDoorAdmQ4
import Derived.Test.YtlbhmoiicbhgkaaDoorAdmQ5
import Derived.Test.YtlbhmoiicbhgkaaDoorAdmQ6
import Derived.Test.YtlbhmoiicbhgkaaDoorAdmQ7
import Derived.Test.YtlbhmoiicbhgkaaDoorAdmQ8
import Derived.Test.YtlbhmoiicbhgkaaDoorDetA
import Derived.Test.YtlbhmoiicbhgkaaDoorPushN
namespace Go.Proofs.YtlbhmoiicbhgkaaDoor
open Go Go.RowKit Go.Maps Go.Shelf Go.Proofs Go.Lin Go.Psi

attribute [local go_sem] Oper.semAt_some

theorem subL_len : ∀ (d k fr : Nat), (subL k fr d).length ≤ 2 ^ d
  | d, 0, fr => by rw [subL_zero]; exact Nat.one_le_two_pow
  | 0, k + 1, fr => by show ([] : List (List Nat)).length ≤ _; simp
  | d + 1, k + 1, fr => by
    rw [subL_step, List.length_append, List.length_map]
    have h1 := subL_len d k (fr + 1)
    have h2 := subL_len d (k + 1) (fr + 1)
    rw [Nat.pow_succ]
    omega
/-- a slice with room for its own. -/
def Roomy (u : Value) : Prop := ∃ A n c, u = .slice A n c ∧ n ≤ c ∧ c ≤ 9223372036854775807
/-- lists of places, in a row that this call owns. -/
def RowsC (w : World) (base : Nat) (v : Value) (L : List (List Nat)) : Prop :=
  ∃ vs : List Value, Own w base 47 v vs ∧ vs.length = L.length ∧ (∀ (j : Nat) u x, vs[j]? = some u → L[j]? = some x → RowT w 3 u (intv x)) ∧ ∀ u ∈ vs, Roomy u
section
variable {w w' : World} {base : Nat} {v v' : Value} {L : List (List Nat)}
theorem RowsC.nil (w : World) (base : Nat) : RowsC w base (.slice none 0 0) [] := ⟨[], Own.nil _ _ _, rfl, fun j u x h => (by cases h), fun u h => (by cases h)⟩
theorem RowsC.below (h : RowsC w base v L) (hb : Below w.heap.size w w') : RowsC w' base v L := by
  obtain ⟨vs, h1, h2, h3, h4⟩ := h
  exact ⟨vs, h1.below hb, h2, fun j u x a b => (h3 j u x a b).below hb, h4⟩
theorem RowsC.from_ (h : RowsC w base v L) {b : Nat} (hb : b ≤ base) : RowsC w b v L := by
  obtain ⟨vs, h1, h2, h3, h4⟩ := h
  exact ⟨vs, h1.from_ hb, h2, h3, h4⟩
theorem RowsC.apart (h : RowsC w base v L) {v0 : Value} {ys : List Value} (hown : Own w base 47 v0 ys) (hap : ∀ g, v0.ownBlock = some g → v.ownBlock ≠ some g)
    (hk : ∀ k, k < w.heap.size → some k ≠ v0.ownBlock → w'.heap[k]? = w.heap[k]?) : RowsC w' base v L := by
  obtain ⟨vs, h1, h2, h3, h4⟩ := h
  exact ⟨vs, h1.keep fun g hg => hk g (h1.block g hg).2 fun he => hap g he.symm hg, h2, fun j u x a b => (h3 j u x a b).other hown (by decide) hk, h4⟩
theorem RowsC.push {vs : List Value} {u : Value} {x : List Nat} (hl : vs.length = L.length) (h3 : ∀ (j : Nat) u x, vs[j]? = some u → L[j]? = some x → RowT w 3 u (intv x)) (h4 : ∀ u ∈ vs, Roomy u) (hold : Own w base 47 v vs) (hu : RowT w 3 u (intv x)) (hru : Roomy u)
    (hnew : Own w' base 47 v' (vs ++ [u])) (hk : ∀ k, k < w.heap.size → some k ≠ v.ownBlock → w'.heap[k]? = w.heap[k]?) : RowsC w' base v' (L ++ [x]) := by
  refine ⟨vs ++ [u], hnew, by simp [hl], fun j u' xs' h1 h2 => ?_, fun u' hu' => ?_⟩
  · rcases Nat.lt_or_ge j vs.length with h | h
    · rw [List.getElem?_append_left h] at h1
      rw [List.getElem?_append_left (by omega)] at h2
      exact (h3 j u' xs' h1 h2).other hold (by decide) hk
    · rw [List.getElem?_append_right h] at h1
      rw [List.getElem?_append_right (by omega), ← hl] at h2
      cases hj : j - vs.length with
      | zero =>
        rw [hj] at h1 h2
        obtain rfl := Option.some.inj h1
        obtain rfl := Option.some.inj h2
        exact hu.other hold (by decide) hk
      | succ n => rw [hj] at h1; simp at h1
  · rcases List.mem_append.1 hu' with hu' | hu'
    · exact h4 u' hu'
    · rw [List.mem_singleton.1 hu']; exact hru
theorem RowsC.at_ (h : RowsC w base v L) {k : Nat} {x : List Nat} (hx : L[k]? = some x) : ∃ b c A' c', v = .slice (some ⟨b, 0, none⟩) L.length c ∧ w.cell? ⟨b, k, none⟩ = some (.slice A' x.length c') ∧ Pl w A' c' x := by
  obtain ⟨vs, h1, h2, h3, h4⟩ := h
  have hk : k < L.length := (List.getElem?_eq_some_iff.1 hx).1
  obtain ⟨b, c, e, h5, h6, h7, _⟩ := h1.row (by omega)
  obtain ⟨u, hu⟩ := get_of_lt (l := vs) (k := k) (by omega)
  obtain ⟨A', c', rfl, h8, h9⟩ := (h3 k u x hu hx).form
  obtain ⟨A2, n2, c2, e2, l1, l2⟩ := h4 _ (List.mem_of_getElem? hu)
  injection e2 with q1 q2 q3
  rw [intv_len] at hu q2
  exact ⟨b, c, A', c', by rw [e, h2], h7 k _ hu, h8, by omega, by omega⟩
theorem RowsC.val (h : RowsC w base v L) : ∃ A c, v = .slice A L.length c := by
  obtain ⟨vs, h1, h2, h3⟩ := h
  obtain ⟨A, c, e, _⟩ := h1.form
  rw [h2] at e
  exact ⟨A, c, e⟩
end
/-- what lies in memory while lists are put behind one another. -/
structure SubR (w0 : World) (F : List (List Nat)) (lv : Value) (L : List (List Nat)) (o : Value) (wr : World) : Prop where
  out : RowsC wr w0.heap.size o F
  l : RowsC wr w0.heap.size lv L
  ap : ∀ g, o.ownBlock = some g → lv.ownBlock ≠ some g
  b : Below w0.heap.size w0 wr
theorem SubR.below {w0 w w' : World} {F L : List (List Nat)} {lv o : Value} (h : SubR w0 F lv L o w) (hb : Below w.heap.size w w') : SubR w0 F lv L o w' :=
  ⟨h.out.below hb, h.l.below hb, h.ap, below_next h.b h.b.size hb⟩
theorem SubR.push {w0 w w' : World} {F L : List (List Nat)} {lv o o' u : Value} {x : List Nat} {vs : List Value} (h : SubR w0 F lv L o w) (hv : Own w w0.heap.size 47 o vs) (hl : vs.length = F.length) (h3 : ∀ (j : Nat) u x, vs[j]? = some u → F[j]? = some x → RowT w 3 u (intv x)) (h4 : ∀ u ∈ vs, Roomy u)
    (hu : RowT w 3 u (intv x)) (hru : Roomy u) (hn : Own w' w0.heap.size 47 o' (vs ++ [u])) (hk : ∀ k, k < w.heap.size → some k ≠ o.ownBlock → w'.heap[k]? = w.heap[k]?) (hb : Below w0.heap.size w w') (hr : Near w o o') : SubR w0 (F ++ [x]) lv L o' w' := by
  refine ⟨RowsC.push hl h3 h4 hv hu hru hn hk, h.l.apart hv h.ap hk, fun g hg hg' => ?_, h.b.trans hb⟩
  rcases hr g hg with h4 | h4
  · exact h.ap g h4 hg'
  · obtain ⟨ws, h5, _⟩ := h.l
    have := (h5.block g hg').2
    omega
/-- lists of places are told. -/
def SubE (F : List (List Nat)) (w : World) (e : Ending) (w' : World) : Prop := ∃ v, e = .returned v ∧ RowsC w' w.heap.size v F ∧ Below w.heap.size w w'
set_option maxRecDepth 100000 in
set_option maxHeartbeats 1600000 in
theorem subsets_c (n : Nat) (hn : n ≤ 42) : ∀ (k fr : Nat) (w : World), k ≤ 42 → fr ≤ n →
    Calls Tryd.prog 44 #[.int .i64 (fr : Int), .int .i64 (n : Int), .int .i64 (k : Int)] w (SubE (subL k fr (n - fr)) w) := by
  intro k
  induction k with
  | zero =>
    intro fr w _ hfr
    rw [subL_zero]
    have h00 : (((0 : Nat) : Int) == 0) = true := rfl
    have hr0 := row1_new w [.slice none 0 0] 47
    have ho := hr0.own (Nat.le_refl _) (by decide)
    have hb := below_alloc w (.cells #[.slice none 0 0] 47)
    simp only [List.toArray, List.length_cons, List.length_nil] at ho hb
    have HO := hid (⟨ho, hb⟩ : _ ∧ _)
    clear hr0 ho hb
    go_enter Tryd.func44, Tryd.ntmps44
    go_wp2
    go_ret
    refine ⟨_, rfl, ⟨_, HO.out.1, rfl, fun j u xs h1 h2 => ?_, fun u hu => ?_⟩, HO.out.2⟩
    · cases j with
      | zero =>
        obtain rfl := Option.some.inj h1
        obtain rfl := Option.some.inj h2
        exact RowT.nil _ _ _ _
      | succ j => cases h1
    · rw [List.mem_singleton.1 hu]
      exact ⟨_, _, _, rfl, Nat.le_refl _, by decide⟩
  | succ k ih =>
    intro fr w hk42 hfr
    have hk0 : ((k : Int) + 1 == 0) = false := by rw [beq_eq_false_iff_ne]; omega
    have HIH := hid ih
    have HTOT := hid (show (subL (k + 1) fr (n - fr)).length ≤ 4398046511104 from Nat.le_trans (subL_len _ _ _) (Nat.le_trans (Nat.pow_le_pow_right (by decide) (show n - fr ≤ 42 by omega)) (by decide)))
    obtain ⟨TT, hTT⟩ : ∃ TT, subL (k + 1) fr (n - fr) = TT := ⟨_, rfl⟩
    have HT0 := hid hTT
    rw [hTT] at HTOT ⊢
    clear ih hTT
    go_enter Tryd.func44, Tryd.ntmps44
    go_wp2
    go_loopw [7, 8] (fun o x wr => ∃ i : Nat, x = .int .i64 (i : Int) ∧ i ≤ n ∧ Hid (∃ F, F ++ subL (k + 1) i (n - i) = TT ∧ RowsC wr w.heap.size o F ∧ Below w.heap.size w wr)) (fun _ x _ => n - (intOf x).toNat)
    case atStart => exact ⟨fr, rfl, hfr, hid ⟨[], HT0.out, RowsC.nil _ _, Below.refl _ _⟩⟩
    case round =>
    obtain ⟨i, rfl, hi, HI⟩ := hrel
    by_cases hlt : i + (k + 1) ≤ n
    case neg =>
      have hlt' : ¬ ((i : Int) + ((k : Int) + 1) ≤ (n : Int)) := by omega
      obtain ⟨F, h1, h2, h3⟩ := HI.out
      rw [subL_short (show n - i < k + 1 by omega), List.append_nil] at h1
      have HF := hid (⟨h1, h2, h3⟩ : _ ∧ _ ∧ _)
      clear h1 h2 h3
      go_wp2
      go_ret
      refine ⟨_, rfl, ?_, HF.out.2.2⟩
      rw [← HF.out.1]
      exact HF.out.2.1
    have hlt' : (i : Int) + ((k : Int) + 1) ≤ (n : Int) := by omega
    obtain ⟨F, h1, h2, h3⟩ := HI.out
    have hcall := HIH.out (i + 1) wr (by omega) (by omega)
    rw [show ((i + 1 : Nat) : Int) = (i : Int) + 1 by omega] at hcall
    have hst : subL (k + 1) i (n - i) = (subL k (i + 1) (n - (i + 1))).map (i :: ·) ++ subL (k + 1) (i + 1) (n - (i + 1)) := by
      rw [show n - i = (n - (i + 1)) + 1 by omega, subL_step]
    rw [hst, ← List.append_assoc] at h1
    have hkk : (k : Int) + 1 - 1 = (k : Int) := by omega
    obtain ⟨L, hL⟩ : ∃ L, subL k (i + 1) (n - (i + 1)) = L := ⟨_, rfl⟩
    rw [hL] at h1 hcall
    have HLM := hid (fun (x : List Nat) (hx : x ∈ L) => (show x.length ≤ 42 by rw [← hL] at hx; have := ((subL_mem _ _ _ _).1 hx).1; omega))
    have HC := hid hcall
    have HF := hid (⟨h1, h2, h3⟩ : _ ∧ _ ∧ _)
    have hFL : F.length + L.length ≤ 4398046511104 := by
      have h5 := HTOT.out
      rw [← h1] at h5
      simp only [List.length_append, List.length_map] at h5
      omega
    clear h1 h2 h3 hcall hst hL HI
    go_wp2_with (fail)
    refine HC.out.mono ?_
    rintro e w2 ⟨lv, rfl, hl2, hb2⟩
    have hS : SubR w F lv L u7 w2 := ⟨HF.out.2.1.below hb2, hl2.from_ HF.out.2.2.size, fun g hg hg' => by
      obtain ⟨vs, h5, _⟩ := HF.out.2.1
      obtain ⟨ws, h6, _⟩ := hl2
      have := (h5.block g hg).2
      have := (h6.block g hg').1
      omega, below_next HF.out.2.2 HF.out.2.2.size hb2⟩
    obtain ⟨Al, cl, rfl⟩ := hl2.val
    have HS := hid hS
    clear hl2 hb2 hS HC
    go_wp2
    generalize wr = wo at *
    go_loopw [7, 10] (fun o x wr => ∃ m : Nat, x = .int .i64 (m : Int) ∧ m ≤ L.length ∧ Hid (SubR w (F ++ (L.take m).map (i :: ·)) (.slice Al L.length cl) L o wr)) (fun _ x _ => L.length - (intOf x).toNat)
    case atStart => exact ⟨0, rfl, by omega, hid (by rw [List.take_zero, List.map_nil, List.append_nil]; exact HS.out)⟩
    case round =>
      obtain ⟨m, rfl, hm, HM⟩ := hrel
      clear HS
      by_cases hltm : m < L.length
      case neg =>
        obtain rfl : m = L.length := by omega
        have hltm' : ¬ (L.length : Int) < (L.length : Int) := by omega
        have HN := hid (show ∃ F', F' ++ subL (k + 1) (i + 1) (n - (i + 1)) = TT ∧ RowsC wr w.heap.size u7 F' ∧ Below w.heap.size w wr from
          ⟨F ++ L.map (i :: ·), HF.out.1, by have := HM.out.out; rwa [List.take_length] at this, HM.out.b⟩)
        clear HM HF
        go_wp2
        go_roundw
        case rel => exact ⟨i + 1, by go_num, by omega, HN⟩
        case measure => simp [intOf]; omega
      have hltm' : (m : Int) < (L.length : Int) := by omega
      obtain ⟨x, hx⟩ := get_of_lt hltm
      obtain ⟨b1, c1, Ax, cx, e1, cm, hpx⟩ := HM.out.l.at_ hx
      have hcx := hpx.cells
      clear hpx
      simp only [Value.slice.injEq, true_and] at e1
      obtain ⟨rfl, rfl⟩ := e1
      have HX := hid (⟨hx, hcx, cm⟩ : _ ∧ _ ∧ _)
      have hx42 := HLM.out x (List.mem_of_getElem? hx)
      have hFm : F.length + m + 1 ≤ 4398046511104 := by omega
      obtain ⟨vs, o1, o2, o3, o4⟩ := HM.out.out
      have hvs : vs.length = F.length + m := by rw [o2]; simp only [List.length_map, List.length_append, List.length_take]; omega
      have hb0 := below_alloc wr (.cells #[.int .i64 (i : Int)] 3)
      have ho0 := (row1_new wr [.int .i64 (i : Int)] 3).own (Nat.le_refl _) (by simp)
      simp only [List.toArray, List.length_cons, List.length_nil, Nat.zero_add] at hb0 ho0
      have cm1 := (hb0.cell (lt_of_cell cm)).trans cm
      clear hx hcx cm
      go_wp2_with (first
        | (at_builtin; refine wpList_more elt_int' (wr.alloc (.cells #[.int .i64 (i : Int)] 3)) (by rfl) _ _ rfl wr.heap.size ho0 rfl (HX.out.2.1.below hb0) (by rw [intv_len]; rfl) (intv_ones _) (by simp [intv_len]; omega) (by simp [intv_len]; omega) hb0.size ?_; intro v4 w4 ho4 hb4; replace hb4 := hb0.trans hb4; clear hb0 ho0; rw [show [Value.int .i64 (i : Int)] ++ intv x = intv (i :: x) from rfl] at ho4; obtain ⟨A4, c4, e4, hc4⟩ := pl_own ho4; rw [List.length_cons] at e4; subst e4)
        | (at_builtin; refine wpList_pushN elt_ints w4 (by rfl) _ _ rfl w.heap.size (o1.below hb4) rfl (.slice A4 (x.length + 1) c4) rfl rfl (by omega) (by omega) (Nat.le_trans HM.out.b.size hb4.size) ?_; intro v8 w8 ho8 hk8 hb8 hn8))
      have hN := (HM.out.below hb4).push (o1.below hb4) o2 (fun j u xs h1 h2 => (o3 j u xs h1 h2).below hb4) o4 (x := i :: x) ho4.rowT ⟨_, _, _, rfl, hc4.lo, hc4.hi⟩ ho8 hk8 hb8 hn8
      have HN := hid (show SubR w (F ++ (L.take (m + 1)).map (i :: ·)) (.slice (some ⟨b1, 0, none⟩) L.length cl) L v8 w8 by
        rw [List.take_add_one, HX.out.1, List.map_append, ← List.append_assoc]
        exact hN)
      clear hN ho8 hk8 hb8 hn8 o1 o2 o3 o4 ho4 hc4 hb4 HM
      go_wp2
      go_roundw
      case rel => exact ⟨m + 1, by go_num, by omega, HN⟩
      case measure => simp [intOf]; omega
end Go.Proofs.YtlbhmoiicbhgkaaDoor
