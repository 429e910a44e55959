/-
  The document's Hangs.
-/
import Derived.Test.YtlbhmoiicbhgkaaDoorAdmQ1
import Derived.Test.YtlbhmoiicbhgkaaDoorAdmQ2
import Derived.Test.YtlbhmoiicbhgkaaDoorAdmQ3
import Derived.Test.YtlbhmoiicbhgkaaDoorAdmQ4
import Derived.Test.YtlbhmoiicbhgkaaDoorAdmQ5
import Derived.Test.YtlbhmoiicbhgkaaDoorAdmQ6
import Derived.Test.YtlbhmoiicbhgkaaDoorAdmQ7
import Derived.Test.YtlbhmoiicbhgkaaDoorAdmQ8
import Derived.Test.YtlbhmoiicbhgkaaDoorMnA
namespace Go.Proofs.YtlbhmoiicbhgkaaDoor
open Go Go.RowKit Go.Maps Go.Shelf Go.Proofs Go.Lin Go.Psi

attribute [local go_sem] Oper.semAt_some

theorem grid_snoc {w : World} {A : Option Addr} {a : List (List Int)} {row : List Int} {va : List Value} {u : Value} (hc : Cells w A (va ++ [u])) (hl : va.length = a.length) (hv : ∀ (i : Nat) (l : List Int), a[i]? = some l → ∃ v, va[i]? = some v ∧ RowV w v l) (hu : RowV w u row) : Grid w A (a ++ [row]) := by
  refine ⟨_, hc, by simp [hl], fun i l hi => ?_⟩
  rcases Nat.lt_or_ge i a.length with h | h
  · rw [List.getElem?_append_left h] at hi
    obtain ⟨v, h1, h2⟩ := hv i l hi
    exact ⟨v, by rw [List.getElem?_append_left (by omega)]; exact h1, h2⟩
  · rw [List.getElem?_append_right h] at hi
    rw [List.getElem?_append_right (by omega), hl]
    cases hj : i - a.length with
    | zero =>
      rw [hj] at hi
      obtain rfl := Option.some.inj hi
      exact ⟨_, rfl, hu⟩
    | succ j => rw [hj] at hi; simp at hi
theorem grid_parts {w : World} {A : Option Addr} {a : List (List Int)} (h : Grid w A a) : ∃ va : List Value, Cells w A va ∧ va.length = a.length ∧ (∀ u ∈ va, u.oneCell' = true) ∧ ∀ (i : Nat) (l : List Int), a[i]? = some l → ∃ v, va[i]? = some v ∧ RowV w v l := by
  obtain ⟨va, h1, h2, h3⟩ := h
  refine ⟨va, h1, h2, fun u hu => ?_, h3⟩
  obtain ⟨i, hi, rfl⟩ := List.getElem_of_mem hu
  obtain ⟨v, hv, A', c', rfl, _⟩ := h3 i _ (List.getElem?_eq_getElem (by omega))
  rw [List.getElem?_eq_getElem hi] at hv
  rw [Option.some.inj hv]; rfl
theorem wide_snoc (a : List (List Int)) (row : List Int) : wideL a ≤ wideL (a ++ [row]) ∧ row.length ≤ wideL (a ++ [row]) := by
  unfold wideL
  rw [List.foldl_append]
  show _ ≤ max _ _ ∧ _ ≤ max _ _
  omega
set_option maxRecDepth 100000 in
set_option maxHeartbeats 1600000 in
theorem hangs04_c (A : Option Addr) (a : List (List Int)) (ca : Nat) (B : Option Addr) (row : List Int) (cb : Nat) (q : Int) (w : World) (hA : Grid w A a) (hal : a.length ≤ 41) (haw : wideL (a ++ [row]) ≤ 42) (hau : ∀ l ∈ a, U64s l) (hB : Cells w B (row.map (.int .u64))) (hru : U64s row) (hrl : row.length ≤ 9223372036854775807) (hq : U64 q) :
    Calls Tryd.prog 12 #[.slice A a.length ca, .slice B row.length cb, .int .u64 q] w fun e w' => e = .returned (.bool (hangsV a row q)) ∧ Below w.heap.size w w' := by
  have HM := hid (may04_c q hq w)
  cases hp : primeV q with
  | false =>
    rw [hp] at HM
    rw [show hangsV a row q = false by unfold hangsV; rw [hp]; rfl]
    clear hA hB hp
    go_enter Tryd.func12, Tryd.ntmps12
    go_wp2_with (fail)
    refine HM.out.mono ?_
    rintro e w2 ⟨rfl, hb⟩
    go_wp2
    go_ret
    exact ⟨rfl, hb⟩
  | true =>
  rw [hp] at HM
  have HRM := hid (rank_more hp (prime_pr hp) a row)
  have HR := hid (fun (w' : World) (hb : Below w.heap.size w w') => rank04_c A a ca q w' (hA.below hb) (by omega) (Nat.le_trans (wide_snoc a row).1 haw) hau hq)
  have HR2 := hid (fun (A' : Option Addr) (c' : Nat) (w' : World) (h : Grid w' A' (a ++ [row])) => rank04_c A' (a ++ [row]) c' q w' h (by simp; omega) haw (fun l hl => by
    rcases List.mem_append.1 hl with h | h
    · exact hau l h
    · rw [List.mem_singleton.1 h]; exact hru) hq)
  have HB := hid hB
  obtain ⟨va, cva, lva, ova, rva⟩ := grid_parts hA
  have HVA := hid (⟨lva, ova, rva, cva⟩ : _ ∧ _ ∧ _ ∧ _)
  generalize rankV a q = r1 at *
  have hF : (a ++ [row]).length = a.length + 1 := by simp
  rw [hF] at HR2
  clear hA hB hau hru hp haw lva ova rva cva hF
  go_enter Tryd.func12, Tryd.ntmps12
  go_wp2_with (fail)
  refine HM.out.mono ?_
  rintro e w2 ⟨rfl, hb2⟩
  have hb0 := below_next hb2 hb2.size (below_alloc w2 (.cells #[] 23))
  have ho0 := own_zero (row1_new w2 [] 23) hb2.size
  simp only [List.toArray] at ho0
  go_wp2_with (first
    | (at_builtin; refine wpList_more elt_rows (w2.alloc (.cells #[] 23)) (by rfl) _ _ rfl w.heap.size ho0 rfl (HVA.out.2.2.2.below hb0) (by rw [HVA.out.1]; rfl) HVA.out.2.1 (by simp; have := HVA.out.1; omega) (by simp; have := HVA.out.1; omega) hb0.size ?_; intro v1 w7 ho1 hb1; replace hb1 := hb0.trans hb1; clear hb0 ho0)
    | (at_builtin; refine wpList_pushN elt_rows w7 (by rfl) _ _ rfl w.heap.size ho1 rfl (.slice B row.length cb) rfl rfl (by simp; have := HVA.out.1; omega) (by simp; have := HVA.out.1; omega) hb1.size ?_; intro v2 w8 ho2 hk8 hb8 hn8; replace hb8 := hb1.trans hb8; clear hb1 ho1 hk8 hn8)
    | fail)
  obtain ⟨A8, c8, e8, hc8⟩ := ho2.form
  rw [List.nil_append] at e8 hc8
  rw [show (va ++ [Value.slice B row.length cb]).length = a.length + 1 by simp [HVA.out.1]] at e8
  subst e8
  have hG := grid_snoc hc8 HVA.out.1 (fun i l h => (HVA.out.2.2.1 i l h).imp fun v h => ⟨h.1, h.2.below hb8⟩) ⟨B, cb, rfl, HB.out.below hb8, hrl⟩
  have HC := hid (HR2.out A8 c8 w8 hG)
  have HB8 := hid hb8
  clear hG hc8 ho2 hb8 HM
  obtain ⟨r2, hr2⟩ : ∃ r2, rankV (a ++ [row]) q = r2 := ⟨_, rfl⟩
  rw [hr2] at HC HRM
  clear hr2
  refine HC.out.mono ?_
  rintro e w9 ⟨rfl, hb9⟩
  have HB9 := hid (below_next HB8.out HB8.out.size hb9)
  clear hb9 HC
  go_wp2_with (fail)
  refine (HR.out w9 HB9.out).mono ?_
  rintro e w10 ⟨rfl, hb10⟩
  have hres : ((r2 : Int) == (r1 : Int)) = hangsV a row q := by
    have := HRM.out
    cases hh : hangsV a row q with
    | true => rw [hh, if_pos rfl] at this; rw [beq_iff_eq]; omega
    | false => rw [hh, if_neg (by decide)] at this; rw [beq_eq_false_iff_ne]; omega
  obtain ⟨hv, hhv⟩ : ∃ hv, hangsV a row q = hv := ⟨_, rfl⟩
  rw [hhv] at hres
  have HE := hid hhv
  clear hhv
  have HB10 := hid (below_next HB9.out HB9.out.size hb10)
  clear hb10
  go_wp2
  go_ret
  rw [HE.out]
  exact ⟨rfl, HB10.out⟩
end Go.Proofs.YtlbhmoiicbhgkaaDoor
