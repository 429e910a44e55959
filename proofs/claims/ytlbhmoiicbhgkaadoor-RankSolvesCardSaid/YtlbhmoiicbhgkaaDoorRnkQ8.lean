/-
  Parts of these texts that the statement needs: RobL, PolyPlainB, PlyA, PlyB, PlyC, RobA, PlyD, RobB, RobC, RobD, RobP, RobW, RpA, Lits, Min.
-/
import Derived.Test.YtlbhmoiicbhgkaaDoorRnkQ1
import Derived.RangeFuncNested
import Derived.RangeFuncBound
import Derived.RangeFuncCalls
import Derived.RangeFuncLeaves
import Derived.RangeFuncFrom
import Derived.Test.YtlbhmoiicbhgkaaDoorPlain
import Derived.Test.YtlbhmoiicbhgkaaDoorRnkQ4
import Derived.Test.YtlbhmoiicbhgkaaDoorRnkQ6
import Derived.Test.YtlbhmoiicbhgkaaDoorRnkQ7
import Derived.StillTailTactics
import Derived.OrdersIn
import Derived.Maps.OwnSet
import Derived.Laws.EntriesVeiled
import Derived.RegionTactic
import Derived.ChangeAlike
import Derived.Test.YtlbhmoiicbhgkaaDoorRnkQ5

section
namespace Go.Proofs.YtlbhmoiicbhgkaaDoor
open Go.RowKit
/-- what lies from N on stays. -/
def Up (N : Nat) (A B : World) : Prop := A.heap.size ≤ B.heap.size ∧ ∀ b, N ≤ b → b < A.heap.size → B.heap[b]? = A.heap[b]?
theorem Up.refl (N : Nat) (A : World) : Up N A A := ⟨Nat.le_refl _, fun _ _ _ => rfl⟩
theorem Up.trans {N : Nat} {A B C : World} (h : Up N A B) (k : Up N B C) : Up N A C := ⟨Nat.le_trans h.1 k.1, fun b h1 h2 => (k.2 b h1 (Nat.lt_of_lt_of_le h2 h.1)).trans (h.2 b h1 h2)⟩
theorem Up.from_ {N M : Nat} {A B : World} (h : Up N A B) (hm : N ≤ M) : Up M A B := ⟨h.1, fun b h1 h2 => h.2 b (Nat.le_trans hm h1) h2⟩
theorem Up.below {N : Nat} {A B : World} (h : Below A.heap.size A B) : Up N A B := ⟨h.size, fun b _ h2 => h.block b h2⟩
theorem Up.put {N l : Nat} {A : World} {o' : Obj} (hl : l < N) : Up N A (A.putObj l o') := ⟨by simp, fun b h1 _ => World.putObj_heap_other (by omega)⟩
/-- rows that lie from N on stay. -/
def CellsUp (N : Nat) (A B : World) : Prop := ∀ b arr e fz, N ≤ b → A.heap[b]? = some (.cells arr e fz) → B.heap[b]? = A.heap[b]?
theorem CellsUp.refl (N : Nat) (A : World) : CellsUp N A A := fun _ _ _ _ _ _ => rfl
theorem CellsUp.trans {N : Nat} {A B C : World} (h : CellsUp N A B) (k : CellsUp N B C) : CellsUp N A C := fun b arr e fz h1 h2 => (k b arr e fz h1 ((h b arr e fz h1 h2).trans h2)).trans (h b arr e fz h1 h2)
theorem CellsUp.from_ {N M : Nat} {A B : World} (h : CellsUp N A B) (hm : N ≤ M) : CellsUp M A B := fun b arr e fz h1 h2 => h b arr e fz (Nat.le_trans hm h1) h2
theorem CellsUp.below {N : Nat} {A B : World} (h : Below A.heap.size A B) : CellsUp N A B := fun b _ _ _ _ h2 => h.block b (Array.getElem?_eq_some_iff.1 h2).1
theorem CellsUp.put {N l : Nat} {A : World} {o o' : Obj} (hl : A.heap[l]? = some o) (hc : o.isCells = false) : CellsUp N A (A.putObj l o') := fun b arr e fz _ h2 => World.putObj_heap_other (fun e' => by
  subst e'
  rw [hl] at h2
  obtain rfl := Option.some.inj h2
  cases hc)
end Go.Proofs.YtlbhmoiicbhgkaaDoor
end

section
namespace Go.Proofs.YtlbhmoiicbhgkaaDoor
/-- the value over the whole numbers. -/
def ev : List Int → Int → Int
  | [], _ => 0
  | c :: l, x => c + x * ev l x
theorem ev_nil (x : Int) : ev [] x = 0 := rfl
theorem ev_cons (c : Int) (l : List Int) (x : Int) : ev (c :: l) x = c + x * ev l x := rfl
theorem ev_append (a b : List Int) (x : Int) : ev (a ++ b) x = ev a x + x ^ a.length * ev b x := by
  induction a with
  | nil => simp [ev]
  | cons c a ih => simp only [List.cons_append, ev_cons, ih, List.length_cons, Int.pow_succ]; grind
/-- congruence modulo q. -/
theorem emod_add_congr {a b c d q : Int} (h : a % q = b % q) (k : c % q = d % q) : (a + c) % q = (b + d) % q := by
  rw [Int.add_emod, h, k, ← Int.add_emod]
theorem emod_mul_congr {a b c d q : Int} (h : a % q = b % q) (k : c % q = d % q) : (a * c) % q = (b * d) % q := by
  rw [Int.mul_emod, h, k, ← Int.mul_emod]
theorem emod_sub_congr {a b c d q : Int} (h : a % q = b % q) (k : c % q = d % q) : (a - c) % q = (b - d) % q := by
  rw [Int.sub_emod, h, k, ← Int.sub_emod]
theorem ev_congr {a b : List Int} {x y q : Int} (hx : x % q = y % q) (hl : a.map (· % q) = b.map (· % q)) : ev a x % q = ev b y % q := by
  induction a generalizing b with
  | nil =>
    cases b with
    | nil => rfl
    | cons d b => simp at hl
  | cons c a ih =>
    cases b with
    | nil => simp at hl
    | cons d b =>
      simp only [List.map_cons, List.cons.injEq] at hl
      rw [ev_cons, ev_cons]
      exact emod_add_congr hl.1 (emod_mul_congr hx (ih hl.2))
/-- the value modulo q. -/
def mEval (l : List Int) (x q : Int) : Int := if okm q then ev l x % q else 0
theorem mEval_ok {l : List Int} {x q : Int} (h : okm q = true) : mEval l x q = ev l x % q := by rw [mEval, if_pos h]
theorem mEval_u64 (l : List Int) (x q : Int) : U64 (mEval l x q) := by
  unfold mEval; split
  · exact mod_u64 ‹_›
  · exact ⟨by omega, by omega⟩
theorem mEval_nil (x q : Int) : mEval [] x q = 0 := by
  unfold mEval; split
  · rw [ev_nil, Int.zero_emod]
  · rfl
theorem mEval_cons (c : Int) (l : List Int) (x q : Int) : mEval (c :: l) x q = mAdd (mMul (mEval l x q) x q) c q := by
  unfold mEval mAdd mMul
  split
  · rw [ev_cons, Int.add_comm c, Int.mul_comm x]
    exact emod_add_congr (by rw [Int.emod_emod]; exact emod_mul_congr (by rw [Int.emod_emod]) rfl) rfl
  · rfl
theorem mEval_congr {a b : List Int} {x y q : Int} (hx : x % q = y % q) (hl : a.map (· % q) = b.map (· % q)) : mEval a x q = mEval b y q := by
  unfold mEval; split
  · exact ev_congr hx hl
  · rfl
theorem take_snocP {α : Type} {l : List α} {k : Nat} {x : α} (h : l[k]? = some x) : l.take (k + 1) = l.take k ++ [x] := by
  rw [List.take_add_one, h]; rfl
theorem drop_cons' {α : Type} {l : List α} {k : Nat} {x : α} (h : l[k]? = some x) : l.drop k = x :: l.drop (k + 1) := by
  obtain ⟨hk, rfl⟩ := List.getElem?_eq_some_iff.1 h
  exact List.drop_eq_getElem_cons hk
theorem mEval_drop {l : List Int} {k : Nat} {c : Int} (h : l[k]? = some c) (x q : Int) : mEval (l.drop k) x q = mAdd (mMul (mEval (l.drop (k + 1)) x q) x q) c q := by
  rw [drop_cons' h, mEval_cons]
theorem mr_add (a b q : Int) : (a + b % q) % q = (a + b) % q := emod_add_congr rfl (Int.emod_emod _ _)
theorem ml_mul (a b q : Int) : (a % q * b) % q = (a * b) % q := emod_mul_congr (Int.emod_emod _ _) rfl
theorem mr_mul (a b q : Int) : (a * (b % q)) % q = (a * b) % q := emod_mul_congr rfl (Int.emod_emod _ _)
/-- reduced modulo q: below q, or 0 where there are no numbers. -/
def Red (q x : Int) : Prop := if okm q then x % q = x else x = 0
theorem Red.add_zero {q x : Int} (h : Red q x) : mAdd x 0 q = x := by
  unfold Red mAdd at *; split
  · rename_i hq; rw [if_pos hq] at h; rw [Int.add_zero, h]
  · rename_i hq; rw [if_neg hq] at h; exact h.symm
end Go.Proofs.YtlbhmoiicbhgkaaDoor
end

section
namespace Go.Proofs.YtlbhmoiicbhgkaaDoor
open Go.RowKit
set_option maxHeartbeats 400000 in
theorem eval_c (A : Option Addr) (l : List Int) (c : Nat) (x q : Int) (w : World) (hA : Cells w A (l.map (.int .u64))) (hl : l.length ≤ 9223372036854775807) (hu : ∀ z ∈ l, U64 z) (hx : U64 x) (hq : U64 q) :
    Calls Tryd.prog 94 #[.slice A l.length c, .int .u64 x, .int .u64 q] w fun e w' => e = .returned (.int .u64 (mEval l x q)) ∧ Dr w w' := by
  go_enter Tryd.func94, Tryd.ntmps94
  go_wp2
  go_loopw [7, 8, 11] (fun o _ i wr => ∃ k : Nat, i = .int .i64 k ∧ k ≤ l.length ∧ o = .int .u64 (mEval (l.drop (l.length - k)) x q) ∧ Dr w wr) (fun _ _ i _ => l.length - (intOf i).toNat)
  case atStart => exact ⟨0, rfl, by omega, by rw [Nat.sub_zero, List.drop_length, mEval_nil], Dr.refl w⟩
  case round =>
    obtain ⟨k, rfl, hk, rfl, hw⟩ := hrel
    by_cases hlt : k < l.length
    · obtain ⟨j, hj⟩ : ∃ j, l.length = k + 1 + j := ⟨l.length - k - 1, by omega⟩
      have hj' : ((l.length : Nat) : Int) - 1 - k = (j : Int) := by omega
      obtain ⟨z, hz⟩ := get_of_lt (l := l) (show j < l.length by omega)
      obtain ⟨b, off, rfl, hc⟩ := (hA.dr hw).at_map hz
      have huz := hu z (List.mem_of_getElem? hz)
      have hstep := mEval_drop hz x q
      rw [show l.length - k = j + 1 by omega]
      have hm := mEval_u64 (l.drop (j + 1)) x q
      obtain ⟨v, hv⟩ : ∃ v, mEval (l.drop (j + 1)) x q = v := ⟨_, rfl⟩
      rw [hv] at hstep hm ⊢
      have hjl : j < l.length := by omega
      have HS := hid hstep
      have HJ := hid hj
      clear hstep hv hj
      go_wp2
      go_quiet (first | (go_at_call 89; exact quiet_dr (mul_c _ _ _ hm hx hq _)) | (go_at_call 115; exact quiet_dr (add_c _ _ _ (mMul_u64 _ _ _) huz hq _)))
      go_wp2
      go_roundw
      case rel => exact ⟨k + 1, by go_num, by omega, by rw [show l.length - (k + 1) = j by have := HJ.out; omega, HS.out], hw.more _⟩
      case measure => simp [intOf]; omega
    · obtain rfl : k = l.length := by omega
      go_wp2
      go_ret
      exact ⟨ret_int (by rw [Nat.sub_self]; rfl), hw⟩
open Go.RowKit
theorem U64s.at_ {l : List Int} (h : U64s l) {k : Nat} {z : Int} (hk : l[k]? = some z) : U64 z := h z (List.mem_of_getElem? hk)
open Go.RowKit
attribute [local go_sem] Oper.semAt_some
/-- a coefficient modulo q, 0 behind the end. -/
def cAt (l : List Int) (i : Nat) (q : Int) : Int := l.getD i 0 % q
theorem cAt_in {l : List Int} {i : Nat} {z : Int} (h : l[i]? = some z) (q : Int) : cAt l i q = z % q := by unfold cAt; rw [List.getD_eq_getElem?_getD, h]; rfl
theorem cAt_out {l : List Int} {i : Nat} (h : l.length ≤ i) (q : Int) : cAt l i q = 0 := by unfold cAt; rw [List.getD_eq_getElem?_getD, List.getElem?_eq_none h]; simp
/-- a multiple. -/
def pScale (a : List Int) (k q : Int) : List Int := if okm q then a.map fun c => mMul c k q else []
open Go.RowKit
attribute [local go_sem] Oper.semAt_some
/-- a sum. -/
def sumL (a b : List Int) (q : Int) : List Int := (List.range (max a.length b.length)).map fun i => mAdd (cAt a i q) (cAt b i q) q
def pSum (a b : List Int) (q : Int) : List Int := if okm q then sumL a b q else []
theorem sumL_len (a b : List Int) (q : Int) : (sumL a b q).length = max a.length b.length := by simp [sumL]
open Go.RowKit
attribute [local go_sem] Oper.semAt_some
/-- number n of a product, of the first i numbers of the first. -/
def tAt (a b : List Int) (q : Int) (n : Nat) : Nat → Int
  | 0 => 0
  | i + 1 => if i < a.length ∧ i ≤ n ∧ n - i < b.length then mAdd (tAt a b q n i) (mMul (a.getD i 0) (b.getD (n - i) 0) q) q else tAt a b q n i
theorem tAt_step {a b : List Int} {q : Int} {n i : Nat} {x y : Int} (h1 : i ≤ n) (h2 : a[i]? = some x) (h3 : b[n - i]? = some y) : tAt a b q n (i + 1) = mAdd (tAt a b q n i) (mMul x y q) q := by
  have e1 := (List.getElem?_eq_some_iff.1 h2).1
  have e2 := (List.getElem?_eq_some_iff.1 h3).1
  rw [tAt, if_pos ⟨e1, h1, e2⟩, List.getD_eq_getElem?_getD, List.getD_eq_getElem?_getD, h2, h3]; rfl
theorem tAt_same {a b : List Int} {q : Int} {n i : Nat} (h : ¬ (i < a.length ∧ i ≤ n ∧ n - i < b.length)) : tAt a b q n (i + 1) = tAt a b q n i := by rw [tAt, if_neg h]
def timesP (a b : List Int) (q : Int) : List Int := (List.range (a.length + b.length - 1)).map fun n => tAt a b q n (n + 1)
def pTimes (a b : List Int) (q : Int) : List Int := if okm q = true ∧ 0 < a.length ∧ 0 < b.length then timesP a b q else []
open Go.RowKit
attribute [local go_sem] Oper.semAt_some
open Go.RowKit
attribute [local go_sem] Oper.semAt_some
/-- c divided by the polynomial of the power 1 that is 0 at x. -/
def withoutL (c : List Int) (x q : Int) : List Int := (List.range (c.length - 1)).map fun j => mEval (c.drop (j + 1)) x q
end Go.Proofs.YtlbhmoiicbhgkaaDoor
end

section
namespace Go.Proofs.YtlbhmoiicbhgkaaDoor
/-- a has an inverse modulo q. -/
def Un (a q : Int) : Prop := ∃ x, (x * a) % q = 1 % q
theorem Un.congr {a b q : Int} (h : Un a q) (he : a % q = b % q) : Un b q := by
  obtain ⟨x, hx⟩ := h
  exact ⟨x, (emod_mul_congr rfl he).symm.trans hx⟩
theorem Un.one (q : Int) : Un 1 q := ⟨1, by simp⟩
theorem Un.mul {a b q : Int} (h : Un a q) (k : Un b q) : Un (a * b) q := by
  obtain ⟨x, hx⟩ := h
  obtain ⟨y, hy⟩ := k
  refine ⟨x * y, ?_⟩
  have e : x * y * (a * b) = x * a * (y * b) := by grind
  rw [e, emod_mul_congr hx hy]
  simp
theorem Un.left {a b q : Int} (h : Un (a * b) q) : Un a q := by
  obtain ⟨x, hx⟩ := h
  exact ⟨x * b, by rw [← hx]; congr 1; grind⟩
theorem Un.right {a b q : Int} (h : Un (a * b) q) : Un b q := by
  obtain ⟨x, hx⟩ := h
  exact ⟨x * a, by rw [← hx]; congr 1; grind⟩
theorem Un.neg {a b q : Int} (h : Un (a - b) q) : Un (b - a) q := by
  obtain ⟨x, hx⟩ := h
  exact ⟨-x, by rw [← hx]; congr 1; grind⟩
theorem Un.cancel {a b q : Int} (h : Un a q) (he : (a * b) % q = 0) : b % q = 0 := by
  obtain ⟨x, hx⟩ := h
  have h1 : (x * a * b) % q = b % q := by
    rw [emod_mul_congr (b := 1) hx (rfl : b % q = b % q), Int.one_mul]
  rw [← h1]
  have h2 : x * a * b = x * (a * b) := by grind
  rw [h2, ← mr_mul, he]
  simp
theorem inv_of_un {a q : Int} (h0 : 0 < q) (h : Un a q) : ∃ x, InvIs a q x := by
  obtain ⟨x, hx⟩ := h
  refine ⟨x % q, Int.emod_nonneg _ (by omega), Int.emod_lt_of_pos _ h0, (x % q * a) / q - 1 / q, ?_⟩
  have h1 : (x % q * a) % q = 1 % q := by rw [ml_mul]; exact hx
  have h2 := Int.mul_ediv_add_emod (x % q * a) q
  have h3 := Int.mul_ediv_add_emod 1 q
  rw [h1] at h2
  rw [Int.mul_sub]
  omega
theorem iVal_mul {a q : Int} (h : okm q = true) (hu : Un a q) : (iVal a q * a) % q = 1 % q := by
  obtain ⟨x, hx⟩ := inv_of_un (okm_pos h) hu
  rw [iVal_is h hx]
  obtain ⟨_, _, k, hk⟩ := hx
  rw [hk, Int.add_mul_emod_self_left]
/-- all of a row but number i. -/
def but (l : List Int) (i : Nat) : List Int := l.take i ++ l.drop (i + 1)
/-- the product of what lies between y and each of a row. -/
def pd : List Int → Int → Int
  | [], _ => 1
  | x :: l, y => (y - x) * pd l y
theorem pd_append (a b : List Int) (y : Int) : pd (a ++ b) y = pd a y * pd b y := by
  induction a with
  | nil => simp [pd]
  | cons x a ih => simp only [List.cons_append, pd, ih]; grind
theorem pd_but {l : List Int} {i : Nat} {x : Int} (h : l[i]? = some x) (y : Int) : pd l y = (y - x) * pd (but l i) y := by
  obtain ⟨hi, rfl⟩ := List.getElem?_eq_some_iff.1 h
  have e : l = l.take i ++ l[i] :: l.drop (i + 1) := by
    rw [← List.drop_eq_getElem_cons hi, List.take_append_drop]
  have e2 : pd l y = pd (l.take i) y * ((y - l[i]) * pd (l.drop (i + 1)) y) := by
    conv => lhs; rw [e]
    rw [pd_append, pd]
  rw [e2, but, pd_append]
  grind
theorem pd_mem {l : List Int} {x : Int} (h : x ∈ l) : pd l x = 0 := by
  induction l with
  | nil => cases h
  | cons z l ih =>
    rw [pd]
    rcases List.mem_cons.1 h with rfl | h
    · rw [Int.sub_self, Int.zero_mul]
    · rw [ih h, Int.mul_zero]
theorem pd_congr (l : List Int) {y z q : Int} (h : y % q = z % q) : pd l y % q = pd l z % q := by
  induction l with
  | nil => rfl
  | cons x l ih => exact emod_mul_congr (emod_sub_congr h rfl) ih
theorem pd_un {l : List Int} {y q : Int} : Un (pd l y) q ↔ ∀ x ∈ l, Un (y - x) q := by
  induction l with
  | nil => simp [pd, Un.one]
  | cons x l ih =>
    rw [pd]
    constructor
    · intro h z hz
      rcases List.mem_cons.1 hz with rfl | hz
      · exact h.left
      · exact ih.1 h.right z hz
    · intro h
      exact (h x (List.mem_cons_self ..)).mul (ih.2 fun z hz => h z (List.mem_cons_of_mem _ hz))
/-- the same product, modulo q, as it is reckoned. -/
def mProd (l : List Int) (y q : Int) : Int := l.foldl (fun s x => mMul s (mSub y x q) q) (1 % q)
theorem mProd_emod {q : Int} (h : okm q = true) (l : List Int) (y : Int) : mProd l y q = pd l y % q := by
  unfold mProd
  have key : ∀ (l : List Int) (s t : Int), s % q = t % q → (∃ u, s = u % q) → l.foldl (fun s x => mMul s (mSub y x q) q) s = (t * pd l y) % q := by
    intro l
    induction l with
    | nil =>
      rintro s t hst ⟨u, rfl⟩
      rw [Int.emod_emod] at hst
      simp [pd, hst]
    | cons x l ih =>
      rintro s t hst _
      rw [List.foldl_cons, ih (mMul s (mSub y x q) q) (t * (y - x)) ?_ ⟨_, by rw [mMul_ok h]⟩]
      · rw [pd]; congr 1; grind
      · rw [mMul_ok h, Int.emod_emod, mSub_ok h, mr_mul]
        exact emod_mul_congr hst rfl
  rw [key l (1 % q) 1 (Int.emod_emod _ _) ⟨1, rfl⟩, Int.one_mul]
/-- the places are apart, and what lies between any two has an inverse. -/
def Apart (xs : List Int) (q : Int) : Prop := xs.Pairwise fun a b => Un (b - a) q
theorem apart_iff {xs : List Int} {q : Int} : Apart xs q ↔ ∀ i x, xs[i]? = some x → Un (pd (but xs i) x) q := by
  constructor
  · intro h i x hx
    obtain ⟨hi, rfl⟩ := List.getElem?_eq_some_iff.1 hx
    have h1 := List.pairwise_iff_getElem.1 h
    rw [pd_un]
    intro z hz
    rcases List.mem_append.1 hz with hz | hz
    · obtain ⟨k, hk, rfl⟩ := List.mem_iff_getElem.1 hz
      rw [List.length_take] at hk
      rw [List.getElem_take]
      exact h1 k i (by omega) hi (by omega)
    · obtain ⟨k, hk, rfl⟩ := List.mem_iff_getElem.1 hz
      rw [List.length_drop] at hk
      rw [List.getElem_drop]
      exact (h1 i (i + 1 + k) hi (by omega) (by omega)).neg
  · intro h
    refine List.pairwise_iff_getElem.2 fun i j hi hj hij => ?_
    have h1 := pd_un.1 (h j xs[j] (List.getElem?_eq_getElem hj))
    refine h1 _ (List.mem_append_left _ (List.mem_iff_getElem.2 ⟨i, by rw [List.length_take]; omega, ?_⟩))
    rw [List.getElem_take]
/-- divided by X - x, over the whole numbers. -/
def divZ : List Int → Int → List Int
  | [], _ => []
  | _c :: l, x => if l.length = 0 then [] else ev l x :: divZ l x
theorem divZ_len (l : List Int) (x : Int) : (divZ l x).length = l.length - 1 := by
  induction l with
  | nil => rfl
  | cons c l ih =>
    unfold divZ
    split
    · rename_i h; simp [h]
    · simp [ih]; omega
theorem divZ_ev (l : List Int) (x X : Int) : ev l X = (X - x) * ev (divZ l x) X + ev l x := by
  induction l with
  | nil => simp [divZ, ev]
  | cons c l ih =>
    unfold divZ
    split
    · rename_i h
      obtain rfl := List.eq_nil_of_length_eq_zero h
      simp [ev]
    · rw [ev_cons, ev_cons, ev_cons, ih]
      generalize ev (divZ l x) X = d
      generalize ev l x = e
      grind
/-- times X - x, over the whole numbers. -/
def linR : Int → List Int → Int → List Int
  | p, [], _ => [p]
  | p, c :: l, x => (p - x * c) :: linR c l x
theorem linR_len (p : Int) (l : List Int) (x : Int) : (linR p l x).length = l.length + 1 := by
  induction l generalizing p with
  | nil => rfl
  | cons c l ih => simp [linR, ih]
theorem linR_ev (p : Int) (l : List Int) (x X : Int) : ev (linR p l x) X = p + (X - x) * ev l X := by
  induction l generalizing p with
  | nil => simp [linR, ev]
  | cons c l ih => simp only [linR, ev_cons, ih]; grind
theorem linR_at (p : Int) (l : List Int) (x : Int) (n : Nat) (h : n ≤ l.length) : (linR p l x)[n]? = some ((if n = 0 then p else l.getD (n - 1) 0) - x * l.getD n 0) := by
  induction l generalizing p n with
  | nil =>
    obtain rfl : n = 0 := by simpa using h
    simp [linR]
  | cons c l ih =>
    cases n with
    | zero => simp [linR]
    | succ n =>
      rw [linR, List.getElem?_cons_succ, ih c n (by simpa using h)]
      cases n with
      | zero => simp
      | succ n => simp
theorem tAt_low {a : List Int} {s t q : Int} {n : Nat} : ∀ k, k + 1 ≤ n → tAt a [s, t] q n k = 0
  | 0, _ => rfl
  | k + 1, h => by rw [tAt_same (by simp; omega), tAt_low k (by omega)]
theorem tAt_lin {a : List Int} {s q : Int} (hq : okm q = true) {n : Nat} (h : n ≤ a.length) (_h1 : 1 ≤ a.length) : tAt a [s, 1] q n (n + 1) = ((if n = 0 then 0 else a.getD (n - 1) 0) + s * a.getD n 0) % q := by
  have top : ∀ z, tAt a [s, 1] q n n % q = z % q → (∃ u, tAt a [s, 1] q n n = u % q) → tAt a [s, 1] q n (n + 1) = (z + s * a.getD n 0) % q := by
    rintro z hz ⟨u, hu⟩
    rcases Nat.lt_or_ge n a.length with h2 | h2
    · obtain ⟨x, hx⟩ : ∃ x, a[n]? = some x := ⟨_, List.getElem?_eq_getElem h2⟩
      rw [tAt_step (Nat.le_refl n) hx (y := s) (by simp), mAdd_ok hq, mMul_ok hq, mr_add, List.getD_eq_getElem?_getD, hx, Option.getD_some, Int.mul_comm s]
      exact emod_add_congr hz rfl
    · rw [tAt_same (by omega), List.getD_eq_getElem?_getD, List.getElem?_eq_none h2, Option.getD_none, Int.mul_zero, Int.add_zero, ← hz, hu, Int.emod_emod]
  cases n with
  | zero => exact top 0 rfl ⟨0, by simp [tAt]⟩
  | succ k =>
    obtain ⟨x, hx⟩ : ∃ x, a[k]? = some x := ⟨_, List.getElem?_eq_getElem (by omega)⟩
    have e : tAt a [s, 1] q (k + 1) (k + 1) = x % q := by
      rw [tAt_step (Nat.le_succ k) hx (y := 1) (by rw [show k + 1 - k = 1 by omega]; rfl), tAt_low k (Nat.le_refl _), mAdd_ok hq, mMul_ok hq, mr_add, Int.zero_add, Int.mul_one]
    have := top x (by rw [e, Int.emod_emod]) ⟨_, e⟩
    rw [this, if_neg (by omega), Nat.add_sub_cancel, List.getD_eq_getElem?_getD (l := a) (i := k), hx, Option.getD_some]
theorem getD_map_mod (l : List Int) (q : Int) (n : Nat) : (l.map (· % q)).getD n 0 = l.getD n 0 % q := by
  rw [List.getD_eq_getElem?_getD, List.getD_eq_getElem?_getD, List.getElem?_map]
  cases l[n]? <;> simp
theorem getD_congr {a z : List Int} {q : Int} (h : a.map (· % q) = z.map (· % q)) (n : Nat) : a.getD n 0 % q = z.getD n 0 % q := by
  rw [← getD_map_mod, ← getD_map_mod, h]
/-- one factor more. -/
theorem times_lin {a z : List Int} {x q : Int} (hq : okm q = true) (h1 : 1 ≤ a.length) (h : a.map (· % q) = z.map (· % q)) : (pTimes a [mSub 0 x q, 1] q).map (· % q) = (linR 0 z x).map (· % q) ∧ (pTimes a [mSub 0 x q, 1] q).length = a.length + 1 := by
  have hl : a.length = z.length := by simpa using congrArg List.length h
  have hp : pTimes a [mSub 0 x q, 1] q = timesP a [mSub 0 x q, 1] q := by unfold pTimes; rw [if_pos ⟨hq, by omega, by simp⟩]
  have hlen : (timesP a [mSub 0 x q, 1] q).length = a.length + 1 := by simp [timesP]
  rw [hp]
  refine ⟨?_, hlen⟩
  apply List.ext_getElem?
  intro n
  rw [List.getElem?_map, List.getElem?_map]
  rcases Nat.lt_or_ge a.length n with h2 | h2
  · rw [List.getElem?_eq_none (by omega), List.getElem?_eq_none (by rw [linR_len]; omega)]
  · rw [linR_at 0 z x n (by omega)]
    unfold timesP
    rw [List.getElem?_map, List.getElem?_range (by simp; omega), Option.map_some, Option.map_some, Option.map_some, tAt_lin hq h2 h1, Int.emod_emod]
    congr 1
    rw [mSub_ok hq]
    have e2 := getD_congr h n
    have e3 : (0 - x) % q * a.getD n 0 % q = (0 - x) * z.getD n 0 % q := emod_mul_congr (Int.emod_emod _ _) e2
    have e4 : (if n = 0 then 0 else a.getD (n - 1) 0) % q = (if n = 0 then 0 else z.getD (n - 1) 0) % q := by
      split
      · rfl
      · exact getD_congr h _
    have e5 : (if n = 0 then (0 : Int) else z.getD (n - 1) 0) - x * z.getD n 0 = (if n = 0 then 0 else z.getD (n - 1) 0) + (0 - x) * z.getD n 0 := by grind
    rw [e5]
    exact emod_add_congr e4 e3
/-- the polynomial that is 0 at all places. -/
def pAll (xs : List Int) (q : Int) : List Int := xs.foldl (fun a x => pTimes a [mSub 0 x q, 1] q) [1 % q]
theorem pAll_is {q : Int} (hq : okm q = true) (xs : List Int) : (pAll xs q).length = xs.length + 1 ∧ ∃ z, (pAll xs q).map (· % q) = z.map (· % q) ∧ ∀ X, ev z X = pd xs X := by
  have key : ∀ (xs a z : List Int), 1 ≤ a.length → a.map (· % q) = z.map (· % q) → (xs.foldl (fun a x => pTimes a [mSub 0 x q, 1] q) a).length = a.length + xs.length ∧ ∃ z', (xs.foldl (fun a x => pTimes a [mSub 0 x q, 1] q) a).map (· % q) = z'.map (· % q) ∧ ∀ X, ev z' X = ev z X * pd xs X := by
    intro xs
    induction xs with
    | nil => intro a z _ h; exact ⟨rfl, z, h, fun X => by simp [pd]⟩
    | cons x xs ih =>
      intro a z h1 h
      obtain ⟨h2, h3⟩ := times_lin (x := x) hq h1 h
      obtain ⟨h4, z', h5, h6⟩ := ih _ _ (by omega) h2
      rw [List.foldl_cons]
      refine ⟨by rw [h4, h3]; simp; omega, z', h5, fun X => ?_⟩
      rw [h6, linR_ev, pd]
      grind
  obtain ⟨h1, z, h2, h3⟩ := key xs [1 % q] [1] (by simp) (by simp)
  refine ⟨by rw [pAll, h1]; simp; omega, z, h2, fun X => ?_⟩
  rw [h3]; simp [ev]
theorem divZ_at (x : Int) : ∀ (l : List Int) (j : Nat), j < l.length - 1 → (divZ l x)[j]? = some (ev (l.drop (j + 1)) x)
  | [], j, h => by simp at h
  | c :: l, j, h => by
    simp only [List.length_cons, Nat.add_sub_cancel] at h
    unfold divZ
    rw [if_neg (by omega)]
    cases j with
    | zero => simp
    | succ j => rw [List.getElem?_cons_succ, divZ_at x l j (by omega), List.drop_succ_cons]
theorem without_is {q : Int} (hq : okm q = true) (l : List Int) (x : Int) : withoutL l x q = (divZ l x).map (· % q) := by
  apply List.ext_getElem?
  intro j
  unfold withoutL
  rw [List.getElem?_map, List.getElem?_map]
  rcases Nat.lt_or_ge j (l.length - 1) with h | h
  · rw [List.getElem?_range h, divZ_at x l j h, Option.map_some, Option.map_some, mEval_ok hq]
  · rw [List.getElem?_eq_none (by simpa using h), List.getElem?_eq_none (by rw [divZ_len]; exact h)]; rfl
theorem map_drop_congr {a z : List Int} {q : Int} (h : a.map (· % q) = z.map (· % q)) (j : Nat) : (a.drop j).map (· % q) = (z.drop j).map (· % q) := by
  rw [List.map_drop, List.map_drop, h]
theorem without_congr {a z : List Int} {q : Int} (h : a.map (· % q) = z.map (· % q)) (x : Int) : withoutL a x q = withoutL z x q := by
  unfold withoutL
  have hl : a.length = z.length := by simpa using congrArg List.length h
  rw [hl]
  apply List.map_congr_left
  intro j _
  exact mEval_congr rfl (map_drop_congr h _)
theorem map_mod_mod (l : List Int) (q : Int) : (l.map (· % q)).map (· % q) = l.map (· % q) := by
  rw [List.map_map]; apply List.map_congr_left; intro x _; simp
theorem part_len {q : Int} (hq : okm q = true) (xs : List Int) (x : Int) : (withoutL (pAll xs q) x q).length = xs.length := by
  simp [withoutL, (pAll_is hq xs).1]
/-- the one that is 0 at all places but number i. -/
theorem part_ev {q : Int} (hq : okm q = true) {xs : List Int} {i : Nat} {x : Int} (hx : xs[i]? = some x) (ha : Apart xs q) : ev (withoutL (pAll xs q) x q) x % q = pd (but xs i) x % q ∧ ∀ j y, xs[j]? = some y → j ≠ i → ev (withoutL (pAll xs q) x q) y % q = 0 := by
  obtain ⟨_, z, h1, h2⟩ := pAll_is hq xs
  have h0 := okm_pos hq
  have hm : x ∈ xs := List.mem_of_getElem? hx
  have key : ∀ X, (X - x) * ev (divZ z x) X = pd xs X := fun X => by
    have := divZ_ev z x X
    rw [h2, h2, pd_mem hm] at this
    omega
  have hw : ∀ X, ev (withoutL (pAll xs q) x q) X % q = ev (divZ z x) X % q := fun X => by
    rw [without_congr h1, without_is hq]
    exact ev_congr rfl (map_mod_mod _ _)
  constructor
  · have h3 := key (x + q)
    rw [pd_but hx (x + q), show x + q - x = q by omega] at h3
    have h4 := Int.eq_of_mul_eq_mul_left (by omega) h3
    have h5 : (x + q) % q = x % q := by simp
    rw [hw, ← ev_congr h5 rfl, h4, pd_congr _ h5]
  · intro j y hy hji
    rw [hw]
    have h3 := key y
    rw [pd_mem (List.mem_of_getElem? hy)] at h3
    have h4 := List.pairwise_iff_getElem.1 ha
    obtain ⟨hi, rfl⟩ := List.getElem?_eq_some_iff.1 hx
    obtain ⟨hj, rfl⟩ := List.getElem?_eq_some_iff.1 hy
    have hu : Un (xs[j] - xs[i]) q := by
      rcases Nat.lt_or_ge i j with h | h
      · exact h4 i j hi hj h
      · exact (h4 j i hj hi (by omega)).neg
    exact hu.cancel (by rw [h3]; simp)
theorem mAdd_mod {q : Int} (hq : okm q = true) (a b : Int) : mAdd a b q % q = (a + b) % q := by rw [mAdd_ok hq, Int.emod_emod]
theorem mMul_mod {q : Int} (hq : okm q = true) (a b : Int) : mMul a b q % q = (a * b) % q := by rw [mMul_ok hq, Int.emod_emod]
theorem cAt_ev {q : Int} (l : List Int) (n : Nat) (x : Int) (h : l.length ≤ n) : ev ((List.range n).map fun i => cAt l i q) x % q = ev l x % q := by
  have e : ((List.range n).map fun i => cAt l i q) = (l ++ List.replicate (n - l.length) 0).map (· % q) := by
    apply List.ext_getElem?
    intro i
    rw [List.getElem?_map, List.getElem?_map]
    rcases Nat.lt_or_ge i n with h1 | h1
    · rw [List.getElem?_range h1, Option.map_some]
      rcases Nat.lt_or_ge i l.length with h2 | h2
      · rw [List.getElem?_append_left h2, List.getElem?_eq_getElem h2, Option.map_some, cAt_in (List.getElem?_eq_getElem h2)]
      · rw [List.getElem?_append_right h2, List.getElem?_replicate, if_pos (by omega), Option.map_some, cAt_out h2]; simp
    · rw [List.getElem?_eq_none (by simpa using h1), List.getElem?_eq_none (by simp; omega)]; rfl
  have e0 : ∀ m, ev (List.replicate m 0) x = 0 := by
    intro m
    induction m with
    | zero => rfl
    | succ m ih => rw [List.replicate_succ, ev_cons, ih]; simp
  rw [e, ev_congr rfl (map_mod_mod _ _), ev_append, e0]
  simp
theorem sum_ev {q : Int} (hq : okm q = true) (a b : List Int) (x : Int) : ev (pSum a b q) x % q = (ev a x + ev b x) % q := by
  have hp : pSum a b q = sumL a b q := by unfold pSum; rw [if_pos hq]
  rw [hp, ← emod_add_congr (cAt_ev a (max a.length b.length) x (by omega)) (cAt_ev b (max a.length b.length) x (by omega))]
  unfold sumL
  have key : ∀ (l : List Nat), ev (l.map fun i => mAdd (cAt a i q) (cAt b i q) q) x % q = (ev (l.map fun i => cAt a i q) x + ev (l.map fun i => cAt b i q) x) % q := by
    intro l
    induction l with
    | nil => simp [ev]
    | cons i l ih =>
      simp only [List.map_cons, ev_cons]
      rw [emod_add_congr (mAdd_mod hq _ _) (emod_mul_congr (rfl : x % q = x % q) ih)]
      congr 1
      grind
  exact key _
theorem scale_ev {q : Int} (hq : okm q = true) (a : List Int) (k x : Int) : ev (pScale a k q) x % q = (k * ev a x) % q := by
  have hp : pScale a k q = a.map fun c => mMul c k q := by unfold pScale; rw [if_pos hq]
  rw [hp]
  induction a with
  | nil => simp [ev]
  | cons c a ih =>
    have ih := ih (by unfold pScale; rw [if_pos hq])
    simp only [List.map_cons, ev_cons]
    rw [emod_add_congr (mMul_mod hq _ _) (emod_mul_congr (rfl : x % q = x % q) ih)]
    congr 1
    grind
theorem scale_len {q : Int} (hq : okm q = true) (a : List Int) (k : Int) : (pScale a k q).length = a.length := by
  unfold pScale; rw [if_pos hq]; simp
theorem sum_len {q : Int} (hq : okm q = true) (a b : List Int) : (pSum a b q).length = max a.length b.length := by
  unfold pSum; rw [if_pos hq, sumL_len]
/-- all reduced. -/
theorem sum_red {q : Int} (hq : okm q = true) (a b : List Int) : (pSum a b q).map (· % q) = pSum a b q := by
  unfold pSum sumL
  rw [if_pos hq, List.map_map]
  apply List.map_congr_left
  intro i _
  simp [mAdd_ok hq]
/-- the program's, behind k points. -/
noncomputable def pOut (xs ys : List Int) (q : Int) : Nat → List Int
  | 0 => List.replicate xs.length 0
  | k + 1 => pSum (pOut xs ys q k) (pScale (withoutL (pAll xs q) (xs.getD k 0) q) (mMul (iVal (mProd (but xs k) (xs.getD k 0) q) q) (ys.getD k 0) q) q) q
theorem pOut_len {q : Int} (hq : okm q = true) (xs ys : List Int) : ∀ k, (pOut xs ys q k).length = xs.length
  | 0 => by simp [pOut]
  | k + 1 => by rw [pOut, sum_len hq, scale_len hq, part_len hq, pOut_len hq xs ys k]; omega
theorem pOut_red {q : Int} (hq : okm q = true) (xs ys : List Int) : ∀ k, (pOut xs ys q k).map (· % q) = pOut xs ys q k
  | 0 => by simp [pOut]
  | k + 1 => by rw [pOut, sum_red hq]
theorem pOut_ev {q : Int} (hq : okm q = true) {xs : List Int} (ys : List Int) (ha : Apart xs q) : ∀ k, k ≤ xs.length → ∀ j x, xs[j]? = some x → ev (pOut xs ys q k) x % q = (if j < k then ys.getD j 0 else 0) % q
  | 0, _, j, x, _ => by
    have e0 : ∀ m, ev (List.replicate m 0) x = 0 := by
      intro m
      induction m with
      | zero => rfl
      | succ m ih => rw [List.replicate_succ, ev_cons, ih]; simp
    rw [pOut, e0, if_neg (by omega)]
  | k + 1, hk, j, x, hx => by
    obtain ⟨z, hz⟩ : ∃ z, xs[k]? = some z := ⟨_, List.getElem?_eq_getElem (by omega)⟩
    have hgz : xs.getD k 0 = z := by rw [List.getD_eq_getElem?_getD, hz]; rfl
    have ih := pOut_ev hq ys ha k (by omega) j x hx
    obtain ⟨h1, h2⟩ := part_ev hq hz ha
    rw [pOut, hgz, sum_ev hq, emod_add_congr ih (scale_ev hq _ _ _)]
    by_cases hjk : j = k
    · subst hjk
      rw [hx] at hz
      obtain rfl := Option.some.inj hz
      rw [if_neg (by omega), if_pos (by omega), Int.zero_add]
      have hu := apart_iff.1 ha j x hx
      have hu2 : Un (mProd (but xs j) x q) q := hu.congr (by rw [mProd_emod hq, Int.emod_emod])
      have h3 := iVal_mul hq hu2
      rw [mProd_emod hq, mr_mul] at h3
      rw [mProd_emod hq] at *
      rw [emod_mul_congr (mMul_mod hq _ _) h1]
      have e : iVal (pd (but xs j) x % q) q * ys.getD j 0 * pd (but xs j) x = iVal (pd (but xs j) x % q) q * pd (but xs j) x * ys.getD j 0 := by grind
      rw [e, emod_mul_congr h3 rfl, Int.one_mul]
    · have h4 := h2 j x hx hjk
      rw [emod_add_congr rfl (emod_mul_congr rfl (h4.trans (Int.zero_emod q).symm)), Int.mul_zero, Int.add_zero]
      by_cases hjl : j < k
      · rw [if_pos hjl, if_pos (by omega)]
      · rw [if_neg hjl, if_neg (by omega)]
end Go.Proofs.YtlbhmoiicbhgkaaDoor
end

section
namespace Go.Proofs.YtlbhmoiicbhgkaaDoor
open Go.RowKit Go.Maps
attribute [local go_sem] Oper.semAt_some
/-- the places modulo q. -/
def mods (xs : List Int) (q : Int) : List Int := xs.map (· % q)
def eUnlike (xs : List Int) (q : Int) : Int := if okm q then (if xs.length ≤ 1024 then (if (mods xs q).Nodup then 0 else 6) else 40) else 1
/-- what the map of k places holds. -/
structure Had (ys : List Int) (k : Nat) (D : DataW Unit) : Prop where
  tidy : Tidy D
  keys : ∀ z, has D (.int .u64 z) = true ↔ z ∈ ys.take k
  le : size D ≤ k
  eq : size D = k ↔ (ys.take k).Nodup
theorem Had.start (ys : List Int) : Had ys 0 (.map []) := ⟨tidy_empty, fun z => by simp [has], Nat.le_refl _, by simp [size]⟩
theorem Had.step {ys : List Int} {k : Nat} {D : DataW Unit} {y : Int} (h : Had ys k D) (hy : ys[k]? = some y) (d : DataW Unit) : Had ys (k + 1) (D.put (.int .u64 y) d) := by
  have hs := size_put (k := .int .u64 y) h.tidy d
  have ht := take_snocP hy
  refine ⟨h.tidy.put (k := .int .u64 y) trivial d, fun z => ?_, ?_, ?_⟩
  · rw [ht, List.mem_append, List.mem_singleton]
    by_cases hz : z = y
    · subst hz
      rw [has_put_same (k := .int .u64 z) h.tidy.isMap trivial]
      simp
    · rw [has_put_other (fun e => hz (by simpa using e)), h.keys]
      simp [hz]
  · have := h.le
    rw [hs]; split <;> omega
  · rw [ht, hs]
    have h1 := h.le
    have h2 := h.eq
    have h3 := h.keys y
    by_cases hh : has D (.int .u64 y) = true
    · rw [if_pos hh]
      have := h3.1 hh
      constructor
      · intro; omega
      · intro hn
        exact absurd rfl ((List.nodup_append.1 hn).2.2 y this y (List.mem_singleton.2 rfl))
    · rw [if_neg hh]
      have hn : y ∉ ys.take k := fun hm => hh (h3.2 hm)
      constructor
      · intro he
        have := h2.1 (by omega)
        exact List.nodup_append.2 ⟨this, by simp, fun a ha b hb => by
          rw [List.mem_singleton] at hb
          subst hb
          exact fun e => hn (e ▸ ha)⟩
      · intro he
        have := h2.2 (List.nodup_append.1 he).1
        omega
open Go.RowKit Go.Shelf
attribute [local go_sem] Oper.semAt_some
section
variable {A : World} {l : Nat} {o : Obj} (o' : Obj)
theorem not_at {g : Nat} {arr : Array Value} {e : TypeId} {fz : Nat × Nat} (hl : A.heap[l]? = some o) (hc : o.isCells = false) (h : A.heap[g]? = some (Obj.cells arr e fz)) : g ≠ l := by
  rintro rfl
  rw [h] at hl
  obtain rfl := Option.some.inj hl
  cases hc
theorem Row1.put {g : Nat} {e : TypeId} {xs : List Value} (h : Row1 A g e xs) (hl : A.heap[l]? = some o) (hc : o.isCells = false) : Row1 (A.putObj l o') g e xs := h.keep (World.putObj_heap_other (not_at hl hc h))
theorem Cells.put {B : Option Addr} {xs : List Value} (h : Cells A B xs) (hl : A.heap[l]? = some o) (hc : o.isCells = false) : Cells (A.putObj l o') B xs := by
  rcases h with h | ⟨b, off, rfl, h⟩
  · exact .inl h
  · exact .inr ⟨b, off, rfl, fun i u hu => cell_kept (h i u hu) (grownBy_putObj' A l o') (fun r e => by cases e; exact ⟨o, hl, hc⟩)⟩
theorem Grid.put {B : Option Addr} {f : List (List Int)} (h : Grid A B f) (hl : A.heap[l]? = some o) (hc : o.isCells = false) : Grid (A.putObj l o') B f := by
  obtain ⟨vs, h1, h2, h3⟩ := h
  refine ⟨vs, h1.put o' hl hc, h2, fun i m hm => ?_⟩
  obtain ⟨v, hv, B2, c, rfl, h4, h5⟩ := h3 i m hm
  exact ⟨_, hv, B2, c, rfl, h4.put o' hl hc, h5⟩
theorem RowT.put {e : TypeId} {v : Value} {xs : List Value} (h : RowT A e v xs) (hl : A.heap[l]? = some o) (hc : o.isCells = false) : RowT (A.putObj l o') e v xs := h.block fun _ _ _ hb => World.putObj_heap_other (not_at hl hc hb)
end
open Go.RowKit
attribute [local go_sem] Oper.semAt_some
/-- what the iterator has captured. -/
structure Oth (A : Option Addr) (l : List Int) (c : Nat) (i at_ q : Int) (g1 g2 g3 g4 : Nat) (w : World) : Prop where
  r1 : Row1 w g1 23 [.slice A l.length c]
  r2 : Row1 w g2 3 [.int .i64 i]
  r3 : Row1 w g3 24 [.int .u64 q]
  r4 : Row1 w g4 24 [.int .u64 at_]
  A : Cells w A (l.map (.int .u64))
theorem Oth.below {A : Option Addr} {l : List Int} {c : Nat} {i at_ q : Int} {g1 g2 g3 g4 : Nat} {w w' : World} (h : Oth A l c i at_ q g1 g2 g3 g4 w) (hb : Below w.heap.size w w') : Oth A l c i at_ q g1 g2 g3 g4 w' := ⟨h.r1.below hb, h.r2.below hb, h.r3.below hb, h.r4.below hb, h.A.keep fun _p hp => hb.cell hp⟩
open Go.RowKit Go.Shelf
attribute [local go_sem] Oper.semAt_some
open Go.RowKit Go.Shelf
attribute [local go_sem] Oper.semAt_some
theorem Oth.put {A : Option Addr} {l : List Int} {c : Nat} {i at_ q : Int} {g1 g2 g3 g4 m : Nat} {o : Obj} {w : World} (o' : Obj) (h : Oth A l c i at_ q g1 g2 g3 g4 w) (hl : w.heap[m]? = some o) (hc : o.isCells = false) : Oth A l c i at_ q g1 g2 g3 g4 (w.putObj m o') :=
  ⟨h.r1.put o' hl hc, h.r2.put o' hl hc, h.r3.put o' hl hc, h.r4.put o' hl hc, h.A.put o' hl hc⟩
end Go.Proofs.YtlbhmoiicbhgkaaDoor
end

section
namespace Go.Proofs.YtlbhmoiicbhgkaaDoor
open Go.RowKit Go.Shelf
attribute [local go_sem] Oper.semAt_some
/-- all sets of m of the numbers from fr on, below n, each rising, in order. -/
def setsL : Nat → Nat → Nat → List (List Nat)
  | 0, _, _ => [[]]
  | m + 1, fr, n => (List.range' fr (n - m - fr)).flatMap fun i => (setsL m (i + 1) n).map (i :: ·)
def Marks (N : Nat) (Ds : List Nat) (w : World) : Prop := Ds.Nodup ∧ ∀ D ∈ Ds, N ≤ D ∧ w.heap[D]? = some (.deferred (some []))
theorem Marks.nil (N : Nat) (w : World) : Marks N [] w := ⟨List.nodup_nil, fun _ h => by cases h⟩
theorem Marks.lt {N : Nat} {Ds : List Nat} {w : World} (h : Marks N Ds w) {D : Nat} (hD : D ∈ Ds) : D < w.heap.size := (Array.getElem?_eq_some_iff.1 (h.2 D hD).2).1
theorem Marks.below {N K : Nat} {Ds : List Nat} {w w' : World} (h : Marks N Ds w) (hb : Below K w w') (hK : ∀ D ∈ Ds, D < K) : Marks N Ds w' := ⟨h.1, fun D hD => ⟨(h.2 D hD).1, (hb.block D (hK D hD)).trans (h.2 D hD).2⟩⟩
theorem Marks.cons {N D : Nat} {Ds : List Nat} {w : World} (h : Marks N Ds w) (hD : w.heap[D]? = some (.deferred (some []))) (hN : N ≤ D) (hK : ∀ E ∈ Ds, E < D) : Marks N (D :: Ds) w :=
  ⟨List.nodup_cons.2 ⟨fun hm => Nat.lt_irrefl _ (hK D hm), h.1⟩, fun E hE => by
    rcases List.mem_cons.1 hE with rfl | hE
    · exact ⟨hN, hD⟩
    · exact h.2 E hE⟩
/-- the state of the walk through the sets. -/
structure St1 (m fr n gm gf gn gy g5 i l N0 : Nat) (Wz K : Nat) (Ds : List Nat) (A : World) : Prop where
  M : Row1 A gm 3 [.int .i64 ((m : Int) + 1)]
  F : Row1 A gf 3 [.int .i64 (fr : Int)]
  N : Row1 A gn 3 [.int .i64 (n : Int)]
  Y : Row1 A gy 116 [.func (.yield l) #[] #[]]
  I : Row1 A g5 3 [.int .i64 (i : Int)]
  m0 : N0 ≤ gm ∧ N0 ≤ gf ∧ N0 ≤ gn
  y0 : Wz ≤ gy ∧ Wz ≤ g5
  k0 : gm < K ∧ gf < K ∧ gn < K ∧ gy < K ∧ g5 < K ∧ ∀ D ∈ Ds, D < K
  kz : K ≤ A.heap.size
  wz : Wz ≤ A.heap.size
  D : Marks Wz Ds A
section
variable {m fr n gm gf gn gy g5 i l N0 : Nat} {Wz K : Nat} {Ds : List Nat} {A B : World}
theorem St1.below (h : St1 m fr n gm gf gn gy g5 i l N0 Wz K Ds A) (hb : Below K A B) : St1 m fr n gm gf gn gy g5 i l N0 Wz K Ds B :=
  ⟨h.M.keep (hb.block _ h.k0.1), h.F.keep (hb.block _ h.k0.2.1), h.N.keep (hb.block _ h.k0.2.2.1), h.Y.keep (hb.block _ h.k0.2.2.2.1), h.I.keep (hb.block _ h.k0.2.2.2.2.1), h.m0, h.y0, h.k0, Nat.le_trans h.kz hb.size, Nat.le_trans h.wz hb.size, h.D.below hb h.k0.2.2.2.2.2⟩
end
theorem elt_int : Elt Tryd.prog 47 3 (.int .i64 0) 8 := .of Tryd.underlying47 (by kernel_rfl) rfl
end Go.Proofs.YtlbhmoiicbhgkaaDoor
end

section
namespace Go.Proofs.YtlbhmoiicbhgkaaDoor
open Go.RowKit
attribute [local go_sem] Oper.semAt_some
open Classical in
noncomputable def eApart (xs : List Int) (q : Int) : Int := if Apart xs q then 0 else 5
noncomputable def eAll (xs : List Int) (q : Int) : Int := if eUnlike xs q = 0 then eApart xs q else eUnlike xs q
theorem eAll_bad {xs : List Int} {q : Int} (h : eUnlike xs q ≠ 0) : eAll xs q = eUnlike xs q := by unfold eAll; rw [if_neg h]
theorem eAll_yes {xs : List Int} {q : Int} (h : eUnlike xs q = 0) (ha : Apart xs q) : eAll xs q = 0 := by unfold eAll eApart; rw [if_pos h, if_pos ha]
theorem unlike_okm {xs : List Int} {q : Int} (h : eUnlike xs q = 0) : okm q = true := by
  unfold eUnlike at h
  split at h
  · assumption
  · omega
open Go.RowKit
attribute [local go_sem] Oper.semAt_some
noncomputable def tErr (xs ys : List Int) (q : Int) : Int := if xs.length = ys.length then eAll xs q else 1
noncomputable def tVal (xs ys : List Int) (q : Int) : List Int := if tErr xs ys q = 0 then pOut xs ys q xs.length else []
theorem tVal_ok {xs ys : List Int} {q : Int} (h : tErr xs ys q = 0) : tVal xs ys q = pOut xs ys q xs.length := by unfold tVal; rw [if_pos h]
end Go.Proofs.YtlbhmoiicbhgkaaDoor
end

section
namespace Go.Proofs.YtlbhmoiicbhgkaaDoor
open Go.RowKit Go.Shelf
attribute [local go_sem] Oper.semAt_some
abbrev ptsL (A B : Option Addr) (n m c d : Nat) (q : Int) : List Value := [.slice A n c, .slice B m d, .int .u64 q]
/-- some of them. -/
def pick (l : List Int) (s : List Nat) : List Int := s.map fun i => l.getD i 0
theorem pick_u64 {l : List Int} (h : U64s l) (s : List Nat) : U64s (pick l s) := by
  intro z hz
  obtain ⟨i, _, rfl⟩ := List.mem_map.1 hz
  rw [List.getD_eq_getElem?_getD]
  cases hi : l[i]? with
  | none => exact ⟨by simp, by simp⟩
  | some z => exact h z (List.mem_of_getElem? hi)
end Go.Proofs.YtlbhmoiicbhgkaaDoor
end

section
namespace Go.Proofs.YtlbhmoiicbhgkaaDoor
open Go.RowKit Go.Shelf
attribute [local go_sem] Oper.semAt_some
def offB (l m c : List Int) (q : Int) (i : Nat) : Bool := decide (mEval c (l.getD i 0) q ≠ m.getD i 0 % q)
abbrev natv (s : List Nat) : List Value := s.map fun (i : Nat) => Value.int .i64 (i : Int)
end Go.Proofs.YtlbhmoiicbhgkaaDoor
end

section
namespace Go.Proofs.YtlbhmoiicbhgkaaDoor
open Go.RowKit Go.Shelf
attribute [local go_sem] Oper.semAt_some
theorem tVal_len {xs ys : List Int} {q : Int} (h : tErr xs ys q = 0) : (tVal xs ys q).length = xs.length := by
  have he : eAll xs q = 0 := by
    unfold tErr at h
    split at h
    · exact h
    · omega
  have hk : okm q = true := by
    by_cases h0 : eUnlike xs q = 0
    · exact unlike_okm h0
    · rw [eAll_bad h0] at he; exact absurd he h0
  rw [tVal_ok h, pOut_len hk]
def DecR (r : List Int × List Nat × Int) (w : World) (x : Ending) (w' : World) : Prop :=
  ∃ v1 v2, x = .returned (.tuple #[v1, v2, .int .i64 r.2.2]) ∧ Own w' w.heap.size 24 v1 (r.1.map (.int .u64)) ∧ Own w' w.heap.size 3 v2 (natv r.2.1) ∧ Below w.heap.size w w'
theorem DecR.none (e : Int) (w w' : World) (hb : Below w.heap.size w w') : DecR ([], [], e) w (.returned (.tuple #[.slice none 0 0, .slice none 0 0, .int .i64 e])) w' :=
  ⟨_, _, rfl, Own.nil _ _ _, Own.nil _ _ _, hb⟩
/-- what lies in memory while sets are tried. -/
structure DS (gx gt g8 g9 g10 gp : Nat) (A B : Option Addr) (n m c d : Nat) (t q : Int) (N : Nat) (w0 w : World) : Prop where
  X : Row1 w gx 23 [.slice A n c]
  T : Row1 w gt 3 [.int .i64 t]
  R8 : Row1 w g8 23 [.slice none 0 0]
  R9 : Row1 w g9 47 [.slice none 0 0]
  R10 : Row1 w g10 29 [.int .i64 0]
  P : Row1 w gp 87 (ptsL A B n m c d q)
  b : Below N w0 w
theorem DS.below {gx gt g8 g9 g10 gp : Nat} {A B : Option Addr} {n m c d : Nat} {t q : Int} {N : Nat} {w0 w5 w w' : World} (h : DS gx gt g8 g9 g10 gp A B n m c d t q N w0 w) (h5 : DS gx gt g8 g9 g10 gp A B n m c d t q N w0 w5) (hN : N ≤ w5.heap.size) (hb : Below w5.heap.size w w') : DS gx gt g8 g9 g10 gp A B n m c d t q N w0 w' :=
  ⟨h.X.keep (hb.block _ h5.X.lt), h.T.keep (hb.block _ h5.T.lt), h.R8.keep (hb.block _ h5.R8.lt), h.R9.keep (hb.block _ h5.R9.lt), h.R10.keep (hb.block _ h5.R10.lt), h.P.keep (hb.block _ h5.P.lt), h.b.trans (hb.mono hN)⟩
theorem Up.setCell {N : Nat} {A B : World} {p : Addr} (h : Up N A B) (hp : p.block < N) (u : Value) : Up N A (B.setCell p u) := ⟨by simpa using h.1, fun b h1 h2 => (Below.heap_setCell B p u b (by omega)).trans (h.2 b h1 h2)⟩
theorem Own.setCell {A : World} {base : Nat} {e : TypeId} {v : Value} {xs : List Value} {p : Addr} (h : Own A base e v xs) (hp : p.block < base) (u : Value) : Own (A.setCell p u) base e v xs := h.keep fun g hg => Below.heap_setCell A p u g (by have := (h.block g hg).1; omega)
end Go.Proofs.YtlbhmoiicbhgkaaDoor
end

section
namespace Go.Proofs.YtlbhmoiicbhgkaaDoor
open Go.RowKit
theorem un_ne {a q : Int} (h2 : 2 ≤ q) (h : Un a q) : a % q ≠ 0 := by
  rintro h0
  obtain ⟨x, hx⟩ := h
  rw [← mr_mul, h0, Int.mul_zero, Int.zero_emod, Int.emod_eq_of_lt (by omega) (by omega)] at hx
  omega
theorem apart_nodup {q : Int} (h2 : 2 ≤ q) {xs : List Int} (h : Apart xs q) : (mods xs q).Nodup := by
  unfold mods
  rw [List.Nodup, List.pairwise_map]
  refine h.imp fun {a b} hu => fun e => un_ne h2 hu ?_
  exact (emod_sub_congr e.symm rfl).trans (by rw [Int.sub_self, Int.zero_emod])
theorem eAll_apart {q : Int} (hq : okm q = true) (h2 : 2 ≤ q) {xs : List Int} (h : Apart xs q) (hl : xs.length ≤ 1024) : eAll xs q = 0 :=
  eAll_yes (by unfold eUnlike; rw [if_pos hq, if_pos hl, if_pos (apart_nodup h2 h)]) h
theorem apart_at {xs : List Int} {q : Int} (h : Apart xs q) {i j : Nat} (hij : i < j) (hj : j < xs.length) : Un (xs.getD j 0 - xs.getD i 0) q := by
  have := List.pairwise_iff_getElem.1 h i j (by omega) hj hij
  rw [List.getD_eq_getElem?_getD, List.getD_eq_getElem?_getD, List.getElem?_eq_getElem hj, List.getElem?_eq_getElem (show i < xs.length by omega)]
  exact this
theorem apart_pick {xs : List Int} {q : Int} (h : Apart xs q) {s : List Nat} (hs : s.Pairwise (· < ·)) (hl : ∀ i ∈ s, i < xs.length) : Apart (pick xs s) q := by
  unfold Apart pick
  rw [List.pairwise_map]
  exact hs.imp_of_mem fun {i j} _ hj hij => apart_at h hij (hl j hj)
theorem pick_len (xs : List Int) (s : List Nat) : (pick xs s).length = s.length := by simp [pick]
/-- a polynomial goes through point i. -/
def onB (l m c : List Int) (q : Int) (i : Nat) : Bool := !offB l m c q i
theorem onB_iff {l m c : List Int} {q : Int} {i : Nat} : onB l m c q i = true ↔ mEval c (l.getD i 0) q = m.getD i 0 % q := by
  unfold onB offB; simp
/-- the polynomial through some points. -/
theorem tVal_spec {xs ys : List Int} {q : Int} (hq : okm q = true) (h2 : 2 ≤ q) (ha : Apart xs q) (_ : xs.length ≤ 1000) {s : List Nat} (hs : s.Pairwise (· < ·)) (hsl : ∀ i ∈ s, i < xs.length) (hsn : s.length ≤ 1000) :
    tErr (pick xs s) (pick ys s) q = 0 ∧ (tVal (pick xs s) (pick ys s) q).length = s.length ∧ (tVal (pick xs s) (pick ys s) q).map (· % q) = tVal (pick xs s) (pick ys s) q ∧ ∀ i ∈ s, onB xs ys (tVal (pick xs s) (pick ys s) q) q i = true := by
  have hap := apart_pick ha hs hsl
  have he : tErr (pick xs s) (pick ys s) q = 0 := by
    unfold tErr
    rw [if_pos (by rw [pick_len, pick_len]), eAll_apart hq h2 hap (by rw [pick_len]; omega)]
  refine ⟨he, by rw [tVal_len he, pick_len], by rw [tVal_ok he, pOut_red hq], fun i hi => ?_⟩
  rw [onB_iff, mEval_ok hq, tVal_ok he]
  obtain ⟨j, hj⟩ := List.getElem?_of_mem hi
  have hjl := (List.getElem?_eq_some_iff.1 hj).1
  have := pOut_ev hq (pick ys s) hap (pick xs s).length (Nat.le_refl _) j (xs.getD i 0) (by unfold pick; rw [List.getElem?_map, hj]; rfl)
  rw [this, if_pos (by rw [pick_len]; exact hjl)]
  unfold pick
  rw [List.getD_eq_getElem?_getD, List.getElem?_map, hj]; rfl
end Go.Proofs.YtlbhmoiicbhgkaaDoor
end

section
section
namespace Go.Proofs.YtlbhmoiicbhgkaaDoor
open Go.RowKit
/-- number i of those that are left without number o. -/
def skip (o i : Nat) : Nat := if i < o then i else i + 1
theorem setsL_step (m fr n : Nat) : setsL (m + 1) fr n = if fr < n then (setsL m (fr + 1) n).map (fr :: ·) ++ setsL (m + 1) (fr + 1) n else [] := by
  rw [setsL]
  by_cases h : fr + m < n
  · obtain ⟨k, hk⟩ : ∃ k, n - m - fr = k + 1 := ⟨n - m - fr - 1, by omega⟩
    rw [if_pos (by omega), hk, List.range'_succ, List.flatMap_cons, setsL, show n - m - (fr + 1) = k by omega]
  · rw [show n - m - fr = 0 by omega]
    split
    · rename_i hf
      cases m with
      | zero => omega
      | succ m =>
        rw [setsL, setsL, show n - m - (fr + 1) = 0 by omega, show n - (m + 1) - (fr + 1) = 0 by omega]
        simp
    · simp
end Go.Proofs.YtlbhmoiicbhgkaaDoor
end
section
namespace Go.Proofs.YtlbhmoiicbhgkaaDoor
open Go Go.RowKit Go.Maps Go.Shelf Go.Proofs
attribute [local go_sem] Oper.semAt_some
/-- two rows of the call's own, of seven numbers at most, as long as one another. -/
structure PtsR (w : World) (base : Nat) (v1 v2 : Value) (X Y : List Int) : Prop where
  x : Own w base 24 v1 (X.map (.int .u64))
  y : Own w base 24 v2 (Y.map (.int .u64))
  ne : ∀ g, v1.ownBlock = some g → v2.ownBlock ≠ some g
  len : X.length = Y.length
  few : X.length ≤ 7
  ux : U64s X
  uy : U64s Y
theorem PtsR.below {w w' : World} {base : Nat} {v1 v2 : Value} {X Y : List Int} (h : PtsR w base v1 v2 X Y) (hb : Below w.heap.size w w') : PtsR w' base v1 v2 X Y := ⟨h.x.below hb, h.y.below hb, h.ne, h.len, h.few, h.ux, h.uy⟩
theorem PtsR.dr {w w' : World} {base : Nat} {v1 v2 : Value} {X Y : List Int} (h : PtsR w base v1 v2 X Y) (hb : Dr w w') : PtsR w' base v1 v2 X Y := ⟨h.x.dr hb, h.y.dr hb, h.ne, h.len, h.few, h.ux, h.uy⟩
theorem U64s.snoc {X : List Int} {z : Int} (h : U64s X) (hz : U64 z) : U64s (X ++ [z]) := fun x hx => by
  rcases List.mem_append.1 hx with hx | hx
  · exact h x hx
  · rw [List.mem_singleton.1 hx]; exact hz
end Go.Proofs.YtlbhmoiicbhgkaaDoor
end
section
namespace Go.Proofs.YtlbhmoiicbhgkaaDoor
open Go Go.RowKit Go.Maps Go.Shelf Go.Proofs
attribute [local go_sem] Oper.semAt_some
/-- a new row of none. -/
theorem own_zero {w : World} {g base : Nat} {e : TypeId} (h : Row1 w g e []) (hb : base ≤ g) : Own w base e (.slice (some ⟨g, 0, none⟩) 0 0) [] :=
  ⟨rfl, .inr ⟨g, 0, #[], rfl, hb, h, Nat.le_refl _, by unfold maxLen; omega, rfl, rfl⟩⟩
theorem own_slice {w : World} {base : Nat} {e : TypeId} {A : Option Addr} {c : Nat} {X : List Int} (h : Own w base e (.slice A X.length c) (X.map (.int .u64))) (hne : 0 < X.length) :
    ∃ g, A = some ⟨g, 0, none⟩ ∧ g < w.heap.size ∧ X.length ≤ c ∧ c ≤ 9223372036854775807 ∧ ∀ (k : Nat) (z : Int), X[k]? = some z → w.cell? ⟨g, k, none⟩ = some (.int .u64 z) := by
  obtain ⟨g, cap, e1, hb, hg, hc, _⟩ := h.row (by rw [List.length_map]; exact hne)
  injection e1 with e2 e3 e4
  refine ⟨g, e2, hg, ?_, ?_, fun k z hz => hc k _ (by rw [List.getElem?_map, hz]; rfl)⟩
  · rcases h.2 with ⟨h1, _⟩ | ⟨g', cap', cur, h1, _, _, hn, _⟩
    · injection h1 with _ h2 _
      omega
    · injection h1 with _ _ h2
      rw [List.length_map] at hn
      omega
  · rcases h.2 with ⟨h1, _⟩ | ⟨g', cap', cur, h1, _, _, _, hm, _⟩
    · injection h1 with _ h2 _
      omega
    · injection h1 with _ _ h2
      unfold maxLen at hm
      omega
/-- what is known while a row is made without one. -/
structure EraseB (w0 : World) (L1 L2 : List Value) (g : Rgi.Ghost) (w : World) : Prop where
  b : Below w0.heap.size w0 w
  lit : ∀ v, g 0 = some v → g 4 = none → Own w w0.heap.size 24 v []
  one : ∀ v, g 4 = some v → g 9 = none → Own w w0.heap.size 24 v L1
  two : ∀ v, g 9 = some v → Own w w0.heap.size 24 v (L1 ++ L2)
  ord : g 4 = none → g 9 = none
theorem EraseB.start (w0 : World) (L1 L2 : List Value) : EraseB w0 L1 L2 (fun _ => none) w0.drew :=
  ⟨⟨rfl, rfl, rfl, Nat.le_refl _, fun _ _ => rfl⟩, fun _ h => (by cases h), fun _ h => (by cases h), fun _ h => (by cases h), fun _ => rfl⟩
theorem EraseB.new {w0 w : World} {L1 L2 : List Value} {g : Rgi.Ghost} (h : EraseB w0 L1 L2 g w) : EraseB w0 L1 L2 (g.upd 0 (.slice (some ⟨w.heap.size, 0, none⟩) 0 0)) (w.alloc (.cells #[] 24)) := by
  have hb := below_alloc w (.cells #[] 24)
  refine ⟨below_next h.b h.b.size hb, fun v hv _ => ?_, fun v hv h9 => (h.one v hv h9).below hb, fun v hv => (h.two v hv).below hb, h.ord⟩
  obtain rfl : _ = v := Option.some.inj hv
  exact own_zero (row1_new w [] 24) h.b.size
theorem EraseB.put1 {w0 w w' : World} {L1 L2 : List Value} {g : Rgi.Ghost} (h : EraseB w0 L1 L2 g w) (hg : g 4 = none) {v v' : Value} (ho : Own w w0.heap.size 24 v []) (hw : w.grownBy w' v.ownBlock) (hn : Own w' w0.heap.size 24 v' L1) : EraseB w0 L1 L2 (g.upd 4 v') w' := by
  refine ⟨h.b.grown hw h.b.size fun k e => (ho.block k e).1, fun v _ h4 => (by cases h4), fun u hu _ => ?_, fun u hu => ?_, fun h4 => (by cases h4)⟩
  · obtain rfl : _ = u := Option.some.inj hu
    exact hn
  · have : g 9 = some u := hu
    rw [h.ord hg] at this
    cases this
theorem EraseB.put2 {w0 w w' : World} {L1 L2 : List Value} {g : Rgi.Ghost} (h : EraseB w0 L1 L2 g w) {v4 v v' : Value} (hg4 : g 4 = some v4) (ho : Own w w0.heap.size 24 v L1) (hw : w.grownBy w' v.ownBlock) (hn : Own w' w0.heap.size 24 v' (L1 ++ L2)) : EraseB w0 L1 L2 (g.upd 9 v') w' := by
  refine ⟨h.b.grown hw h.b.size fun k e => (ho.block k e).1, fun v _ h4 => ?_, fun u hu h9 => (by cases h9), fun u hu => ?_, fun h4 => ?_⟩
  · have : g 4 = none := h4
    rw [hg4] at this
    cases this
  · obtain rfl : _ = u := Option.some.inj hu
    exact hn
  · have : g 4 = none := h4
    rw [hg4] at this
    cases this
theorem u64_ones (L : List Int) : ∀ u ∈ L.map (Value.int .u64), u.oneCell' = true := fun u hu => by
  obtain ⟨x, _, rfl⟩ := List.mem_map.1 hu
  rfl
end Go.Proofs.YtlbhmoiicbhgkaaDoor
end
end

section
namespace Go.Proofs.YtlbhmoiicbhgkaaDoor
open Go Go.RowKit
/-- 'append(s, l...)': l may be nothing; which block is turned. -/
theorem wpList_moreG {P : Program} {t e : TypeId} {z : Value} {bytes : Nat} (E : Elt P t e z bytes) (wr : World) {ops : Array Oper} {rest : List Oper} {o : Oper} {a : Act} {Q : Exit → Act → World → Prop}
    (hg : Region.wanted o (yielded ops a.tmps) = true) (s x : Operand) (hop : o.op = .call { callee := .builtin .append, args := #[s, x], argTypes := #[t, t] })
    (base : Nat) {v : Value} {xs : List Value} (hown : Own wr base e v xs) (hs : a.eval s = v) {A : Option Addr} {c : Nat} {news : List Value} (hnew : Cells wr A news) (hx : a.eval x = .slice A news.length c) (h1 : ∀ u ∈ news, u.oneCell' = true)
    (hb : (xs.length + news.length) * bytes ≤ 140737488355328) (hm : xs.length + news.length ≤ 9223372036854775807) (hbase : base ≤ wr.heap.size)
    (hK : ∀ v' w', Own w' base e v' (xs ++ news) → wr.grownBy w' v.ownBlock → wpList P ops Q rest (a.put o.dst v') w') :
    wpList P ops Q (o :: rest) a wr := by
  refine wpList_step fun K hK' => ?_
  rw [if_pos hg]
  obtain ⟨i, hi, hz, hsz, hby⟩ := E.info
  by_cases h0 : news = []
  · subst h0
    have hsrc : Src P i.size t (.slice A ([] : List Value).length c) 0 [] wr := by
      cases A with
      | none => exact Src.ofNil wr E.under c
      | some A => exact Src.ofSlice wr E.under A 0 c [] (by simp) (fun j u hu => by simp at hu) (fun u hu => by cases hu)
    have key : ∀ (A0 : Option Addr) (n cap : Nat), v = .slice A0 n cap → n ≤ cap → o.wp P a wr K Q := fun A0 n cap e1 hle => by
      have hrun := run_append_nothing (P := P) wr t t o.type e i E.under hi A0 n cap hle _ hsrc
      unfold Oper.wp
      rw [e1] at hs
      simp only [List.length_nil] at hx hrun
      simp [execOp, hop, resolve, invoke, builtin, hs, hx, hrun, Result.andThen]
      have := hK' _ _ (hK v wr (by rw [List.append_nil]; exact hown) ⟨rfl, rfl, rfl, Nat.le_refl _, fun _ _ _ => rfl⟩)
      rwa [e1] at this
    rcases hown.2 with ⟨h2, h3⟩ | ⟨g, cap, cur, h2, hb2, hg2, hn, hm2, hs2, ht⟩
    · exact key none 0 0 h2 (Nat.le_refl _)
    · refine key _ _ cap h2 ?_
      first | exact hn | exact hm2 | omega
  · rcases hnew with h | ⟨b, off, rfl, hc⟩
    · exact absurd h h0
    · refine wp_append_own (P := P) wr s x t hop base e i z 1 bytes E.under hi hz hsz hby E.one (by decide) v xs.length xs hs hown ⟨b, off, none⟩ news.length c news hx (by omega) (fun j u hu => ?_) h1 (by unfold maxLen; omega) hb hbase ?_
      · have hadd : (⟨b, off, none⟩ : Addr).add j = ⟨b, off + j, none⟩ := by unfold Addr.add; split <;> simp_all
        rw [hadd]
        exact hc j u hu
      · intro v' w' h2 h3 _
        refine hK' _ _ (hK v' w' ?_ h3)
        unfold Own; rw [List.length_append]; exact h2
theorem cells_one {w : World} {k : Nat} {x : Value} (h : w.cell? ⟨k, 0, none⟩ = some x) : Cells w (some ⟨k, 0, none⟩) [x] := by
  refine .inr ⟨k, 0, rfl, fun i u hu => ?_⟩
  cases i with
  | zero =>
    obtain rfl : x = u := Option.some.inj hu
    exact h
  | succ i => cases hu
/-- what is known while a row is copied and one number put behind it. -/
structure PushB (w0 : World) (L : List Value) (x : Value) (g : Rgi.Ghost) (w : World) : Prop where
  b : Below w0.heap.size w0 w
  lit : ∀ v, g 0 = some v → g 2 = none → Own w w0.heap.size 24 v []
  one : ∀ v, g 7 = some v → g 8 = none → ∃ k, v = .slice (some ⟨k, 0, none⟩) 1 1 ∧ w.cell? ⟨k, 0, none⟩ = some x ∧ k < w.heap.size ∧ ∀ u, g 0 = some u → g 2 = none → u.ownBlock ≠ some k
  two : ∀ v, g 2 = some v → g 8 = none → Own w w0.heap.size 24 v L
  all : ∀ v, g 8 = some v → Own w w0.heap.size 24 v (L ++ [x])
  ord : g 2 = none → g 8 = none
  ord7 : g 7 = none → g 8 = none
  ord0 : g 0 = none → g 2 = none
theorem PushB.start (w0 : World) (L : List Value) (x : Value) : PushB w0 L x (fun _ => none) w0.drew :=
  ⟨⟨rfl, rfl, rfl, Nat.le_refl _, fun _ _ => rfl⟩, fun _ h => (by cases h), fun _ h => (by cases h), fun _ h => (by cases h), fun _ h => (by cases h), fun _ => rfl, fun _ => rfl, fun _ => rfl⟩
theorem PushB.new {w0 w : World} {L : List Value} {x : Value} {g : Rgi.Ghost} (h : PushB w0 L x g w) (h0 : g 0 = none) : PushB w0 L x (g.upd 0 (.slice (some ⟨w.heap.size, 0, none⟩) 0 0)) (w.alloc (.cells #[] 24)) := by
  have hb := below_alloc w (.cells #[] 24)
  have h2 := h.ord0 h0
  refine ⟨below_next h.b h.b.size hb, fun v hv _ => ?_, fun v hv h8 => ?_, fun v hv h8 => (h.two v hv h8).below hb, fun v hv => (h.all v hv).below hb, h.ord, h.ord7, fun h => (by cases h)⟩
  · obtain rfl : _ = v := Option.some.inj hv
    exact own_zero (row1_new w [] 24) h.b.size
  · obtain ⟨k, e, hc, hk, hu⟩ := h.one v hv h8
    refine ⟨k, e, (hb.cell hk).trans hc, Nat.lt_of_lt_of_le hk hb.size, fun u hu _ => ?_⟩
    obtain rfl : _ = u := Option.some.inj hu
    intro he
    have : w.heap.size = k := Option.some.inj he
    omega
theorem PushB.lay {w0 w : World} {L : List Value} {x : Value} {g : Rgi.Ghost} (h : PushB w0 L x g w) (_h7 : g 7 = none) : PushB w0 L x (g.upd 7 (.slice (some ⟨w.heap.size, 0, none⟩) 1 1)) (w.alloc (.cells #[x] 24)) := by
  have hb := below_alloc w (.cells #[x] 24)
  have hr := row1_new w [x] 24
  refine ⟨below_next h.b h.b.size hb, fun v hv h2 => (h.lit v hv h2).below hb, fun v hv h8 => ?_, fun v hv h8 => (h.two v hv h8).below hb, fun v hv => (h.all v hv).below hb, h.ord, fun h => (by cases h), h.ord0⟩
  obtain rfl : _ = v := Option.some.inj hv
  refine ⟨w.heap.size, rfl, hr.cell (k := 0) rfl, by simp, fun u hu h2 he => ?_⟩
  have := ((h.lit u hu h2).block _ he).2
  omega
theorem PushB.put1 {w0 w w' : World} {L : List Value} {x : Value} {g : Rgi.Ghost} (h : PushB w0 L x g w) (hg : g 2 = none) {v v' : Value} (h0 : g 0 = some v) (hw : w.grownBy w' v.ownBlock) (hn : Own w' w0.heap.size 24 v' L) : PushB w0 L x (g.upd 2 v') w' := by
  have ho := h.lit v h0 hg
  refine ⟨h.b.grown hw h.b.size fun k e => (ho.block k e).1, fun v _ h4 => (by cases h4), fun u hu h8 => ?_, fun u hu _ => ?_, fun u hu => ?_, fun h4 => (by cases h4), h.ord7, fun h4 => ?_⟩
  · obtain ⟨k, e, hc, hk, hd⟩ := h.one u hu h8
    refine ⟨k, e, ?_, Nat.lt_of_lt_of_le hk hw.size, fun u _ h4 => (by cases h4)⟩
    have h5 := hd v h0 hg
    have h6 := hw.block k hk (fun e => h5 e.symm)
    rw [← hc]
    unfold World.cell?
    rw [h6]
  · obtain rfl : _ = u := Option.some.inj hu
    exact hn
  · have : g 8 = some u := hu
    rw [h.ord hg] at this
    cases this
  · have : g 0 = none := h4
    rw [h0] at this
    cases this
theorem PushB.put2 {w0 w w' : World} {L : List Value} {x : Value} {g : Rgi.Ghost} (h : PushB w0 L x g w) {v2 v7 v' : Value} (hg2 : g 2 = some v2) (hg7 : g 7 = some v7) (ho : Own w w0.heap.size 24 v2 L) (hw : w.grownBy w' v2.ownBlock) (hn : Own w' w0.heap.size 24 v' (L ++ [x])) : PushB w0 L x (g.upd 8 v') w' := by
  refine ⟨h.b.grown hw h.b.size fun k e => (ho.block k e).1, fun v _ h4 => ?_, fun u _ h8 => (by cases h8), fun u _ h8 => (by cases h8), fun u hu => ?_, fun h4 => ?_, fun h4 => ?_, h.ord0⟩
  · have : g 2 = none := h4
    rw [hg2] at this
    cases this
  · obtain rfl : _ = u := Option.some.inj hu
    exact hn
  · have : g 2 = none := h4
    rw [hg2] at this
    cases this
  · have : g 7 = none := h4
    rw [hg7] at this
    cases this
end Go.Proofs.YtlbhmoiicbhgkaaDoor
end

section
namespace Go.Proofs.YtlbhmoiicbhgkaaDoor
open Go Go.RowKit
/-- 'L j': the row that operation j makes. -/
structure LitsB (w0 : World) (L : Nat → Option (TypeId × List Value)) (g : Rgi.Ghost) (w : World) : Prop where
  b : Below w0.heap.size w0 w
  row : ∀ (j : Nat) (e : TypeId) (xs : List Value), L j = some (e, xs) → ∀ v, g j = some v → ∃ a : Nat, v = .slice (some ⟨a, 0, none⟩) xs.length xs.length ∧ Row1 w a e xs ∧ w0.heap.size ≤ a
  ne : ∀ (j j' : Nat) (x x' : TypeId × List Value), j ≠ j' → L j = some x → L j' = some x' → ∀ v v', g j = some v → g j' = some v' → v.ownBlock ≠ v'.ownBlock
theorem LitsB.start (w0 : World) (L : Nat → Option (TypeId × List Value)) : LitsB w0 L (fun _ => none) w0.drew :=
  ⟨⟨rfl, rfl, rfl, Nat.le_refl _, fun _ _ => rfl⟩, fun _ _ _ _ _ h => (by cases h), fun _ _ _ _ _ _ _ _ _ h => (by cases h)⟩
theorem LitsB.keep {w0 w w' : World} {L : Nat → Option (TypeId × List Value)} {g : Rgi.Ghost} (h : LitsB w0 L g w) (hb : Below w.heap.size w w') : LitsB w0 L g w' :=
  ⟨below_next h.b h.b.size hb, fun j e xs hj v hv => by
    obtain ⟨a, h1, h2, h3⟩ := h.row j e xs hj v hv
    exact ⟨a, h1, h2.below hb, h3⟩, h.ne⟩
theorem LitsB.made {w0 w w' : World} {L : Nat → Option (TypeId × List Value)} {g : Rgi.Ghost} (h : LitsB w0 L g w) {j : Nat} {e : TypeId} {xs : List Value} (hj : L j = some (e, xs)) (hr : Row1 w' w.heap.size e xs) (hb : Below w.heap.size w w') :
    LitsB w0 L (g.upd j (.slice (some ⟨w.heap.size, 0, none⟩) xs.length xs.length)) w' := by
  have h' := h.keep hb
  have hlt : ∀ (i : Nat) (x : TypeId × List Value), L i = some x → ∀ v, g i = some v → ∃ a, v.ownBlock = some a ∧ a < w.heap.size := fun i x hi v hv => by
    obtain ⟨a, rfl, h2, _⟩ := h.row i x.1 x.2 hi v hv
    exact ⟨a, rfl, h2.lt⟩
  refine ⟨h'.b, fun i e' xs' hi v hv => ?_, fun i i' x x' hne hi hi' v v' hv hv' => ?_⟩
  · unfold Rgi.Ghost.upd at hv
    split at hv
    · rename_i he
      subst he
      rw [hj] at hi
      obtain ⟨rfl, rfl⟩ : e = e' ∧ xs = xs' := by simpa using hi
      obtain rfl := Option.some.inj hv
      exact ⟨_, rfl, hr, h.b.size⟩
    · exact h'.row i e' xs' hi v hv
  · unfold Rgi.Ghost.upd at hv hv'
    split at hv
    · rename_i he
      subst he
      rw [if_neg (Ne.symm hne)] at hv'
      obtain rfl := Option.some.inj hv
      obtain ⟨a, h1, h2⟩ := hlt i' x' hi' v' hv'
      rw [h1]
      intro he
      have : w.heap.size = a := Option.some.inj he
      omega
    · split at hv'
      · obtain rfl := Option.some.inj hv'
        obtain ⟨a, h1, h2⟩ := hlt i x hi v hv
        rw [h1]
        intro he
        have : a = w.heap.size := Option.some.inj he
        omega
      · exact h.ne i i' x x' hne hi hi' v v' hv hv'
theorem LitsB.new {w0 w : World} {L : Nat → Option (TypeId × List Value)} {g : Rgi.Ghost} (h : LitsB w0 L g w) {j : Nat} {e : TypeId} {xs : List Value} (hj : L j = some (e, xs)) :
    LitsB w0 L (g.upd j (.slice (some ⟨w.heap.size, 0, none⟩) xs.length xs.length)) (w.alloc (.cells xs.toArray e)) := h.made hj (row1_new w xs e) (below_alloc w _)
theorem LitsB.skip {w0 w : World} {L : Nat → Option (TypeId × List Value)} {g : Rgi.Ghost} (h : LitsB w0 L g w) {j : Nat} (hj : L j = none) (u : Value) : LitsB w0 L (g.upd j u) w := by
  have hs : ∀ (i : Nat) (x : TypeId × List Value), L i = some x → g.upd j u i = g i := fun i x hi => by
    unfold Rgi.Ghost.upd
    rw [if_neg]
    rintro rfl
    rw [hj] at hi
    cases hi
  refine ⟨h.b, fun i e xs hi v hv => h.row i e xs hi v ?_, fun i i' x x' hne hi hi' v v' hv hv' => h.ne i i' x x' hne hi hi' v v' ?_ ?_⟩
  · rw [← hs i _ hi]; exact hv
  · rw [← hs i _ hi]; exact hv
  · rw [← hs i' _ hi']; exact hv'
end Go.Proofs.YtlbhmoiicbhgkaaDoor
end

section
namespace Go.Lin
variable {N : Nat} [NeZero N]
/-- two columns side by side: changed places, it is turned about; alike, it is 0. -/
structure Alt (f : List (V N) → Fin N) : Prop where
  swap : ∀ P c d Q, f (P ++ c :: d :: Q) = -1 * f (P ++ d :: c :: Q)
  same : ∀ P c Q, f (P ++ c :: c :: Q) = 0
theorem Alt.under {f : List (V N) → Fin N} (h : Alt f) (c : V N) : Alt fun X => f (c :: X) :=
  ⟨fun P a b Q => h.swap (c :: P) a b Q, fun P a Q => h.same (c :: P) a Q⟩
end Go.Lin
end
