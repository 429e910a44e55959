/-
  Determinants by the first row, plainly: rows and columns may change places; a rank is the size of the greatest minor that is not 0.
-/
import Derived.Test.YtlbhmoiicbhgkaaDoorAdmQ1
import Derived.Test.YtlbhmoiicbhgkaaDoorAdmQ2
import Derived.Test.YtlbhmoiicbhgkaaDoorAdmQ3
import Derived.Test.YtlbhmoiicbhgkaaDoorAdmQ4
import Derived.Test.YtlbhmoiicbhgkaaDoorAdmQ5
import Derived.Test.YtlbhmoiicbhgkaaDoorAdmQ6
import Derived.Test.YtlbhmoiicbhgkaaDoorAdmQ7
import Derived.Test.YtlbhmoiicbhgkaaDoorAdmQ8
namespace Go.Lin

variable {N : Nat} [NeZero N]

/-- the sum along a row: of each column its number times what is told of the others, by signs in turn. -/
def ex (i : Nat) : List (V N) → (List (V N) → Fin N) → Fin N
  | [], _ => 0
  | c :: C, f => c i * f C - ex i C (fun X => f (c :: X))
/-- the determinant of some rows and columns, by the first row. -/
def dt : List Nat → List (V N) → Fin N
  | [], [] => 1
  | [], _ :: _ => 0
  | i :: R, C => ex i C (dt R)
theorem dt_cons (i : Nat) (R : List Nat) (C : List (V N)) : dt (i :: R) C = ex i C (dt R) := by rw [dt]
theorem ex_add (i : Nat) (a : Fin N) : ∀ (C : List (V N)) (f g : List (V N) → Fin N), ex i C (fun X => a * f X + g X) = a * ex i C f + ex i C g
  | [], f, g => by unfold ex; grind
  | c :: C, f, g => by
    unfold ex
    rw [ex_add i a C (fun X => f (c :: X)) fun X => g (c :: X)]
    grind
theorem ex_none (i : Nat) : ∀ (C : List (V N)), ex i C (fun _ => 0) = 0
  | [] => rfl
  | c :: C => by
    unfold ex
    rw [ex_none i C]
    grind
theorem ex_mul (i : Nat) (a : Fin N) (C : List (V N)) (f : List (V N) → Fin N) : ex i C (fun X => a * f X) = a * ex i C f := by
  have := ex_add i a C f fun _ => 0
  rw [ex_none] at this
  have h : (fun X => a * f X + 0) = fun X => a * f X := funext fun X => by grind
  rw [h] at this
  rw [this]
  grind
theorem ex_zero {i : Nat} {C : List (V N)} {f : List (V N) → Fin N} (h : ∀ X, f X = 0) : ex i C f = 0 := by
  have : f = fun _ => 0 := funext h
  rw [this, ex_none]
theorem ex_row0 (i : Nat) : ∀ (C : List (V N)) (f : List (V N) → Fin N), (∀ c ∈ C, c i = 0) → ex i C f = 0
  | [], _, _ => rfl
  | c :: C, f, h => by
    unfold ex
    rw [h c (by simp), ex_row0 i C _ fun d hd => h d (by simp [hd])]
    grind
/-- two rows one behind the other: changed places, the sum is turned about. -/
theorem ex_ex (i j : Nat) : ∀ (C : List (V N)) (f : List (V N) → Fin N), ex i C (fun X => ex j X f) = -1 * ex j C (fun X => ex i X f)
  | [], f => by unfold ex; grind
  | c :: C, f => by
    have e : ∀ a b : Nat, ex a (c :: C) (fun X => ex b X f) = c a * ex b C f - (c b * ex a C f + -1 * ex a C (fun X => ex b X fun Y => f (c :: Y))) := by
      intro a b
      have h : (fun X => ex b (c :: X) f) = fun X => c b * f X + -1 * ex b X (fun Y => f (c :: Y)) := funext fun X => by
        conv => lhs; unfold ex
        grind
      conv => lhs; unfold ex
      dsimp only
      rw [h, ex_add a, ex_mul]
    rw [e i j, e j i, ex_ex i j C fun Y => f (c :: Y)]
    grind
theorem ex_same (i : Nat) : ∀ (C : List (V N)) (f : List (V N) → Fin N), ex i C (fun X => ex i X f) = 0
  | [], f => rfl
  | c :: C, f => by
    have h : (fun X => ex i (c :: X) f) = fun X => c i * f X + -1 * ex i X (fun Y => f (c :: Y)) := funext fun X => by
      conv => lhs; unfold ex
      grind
    conv => lhs; unfold ex
    dsimp only
    rw [h, ex_add, ex_mul, ex_same i C fun Y => f (c :: Y)]
    grind
theorem dt_fun (i : Nat) (R : List Nat) : (fun X : List (V N) => dt (i :: R) X) = fun X => ex i X (dt R) := funext fun X => dt_cons i R X
theorem dt_two (i j : Nat) (R : List Nat) (C : List (V N)) : dt (i :: j :: R) C = -1 * dt (j :: i :: R) C := by
  rw [dt_cons, dt_cons, show dt (j :: R) = fun X : List (V N) => ex j X (dt R) from dt_fun j R, show dt (i :: R) = fun X : List (V N) => ex i X (dt R) from dt_fun i R]
  exact ex_ex i j C (dt R)
/-- rows in another order. -/
theorem dt_rows {R R' : List Nat} (h : R.Perm R') : ∃ s : Fin N, s * s = 1 ∧ ∀ C : List (V N), dt R C = s * dt R' C := by
  induction h with
  | nil => exact ⟨1, by grind, fun C => by grind⟩
  | cons x _ ih =>
    obtain ⟨s, h1, h2⟩ := ih
    refine ⟨s, h1, fun C => ?_⟩
    rw [dt_cons, dt_cons, funext h2, ex_mul]
  | swap x y R => exact ⟨-1, by grind, fun C => dt_two y x R C⟩
  | trans _ _ ih1 ih2 =>
    obtain ⟨s, h1, h2⟩ := ih1
    obtain ⟨r, h3, h4⟩ := ih2
    refine ⟨s * r, by grind, fun C => ?_⟩
    rw [h2, h4]
    grind
theorem dt_mem {i : Nat} {R : List Nat} (h : i ∈ R) (C : List (V N)) : dt (i :: R) C = 0 := by
  obtain ⟨P, Q, rfl⟩ := List.mem_iff_append.1 h
  obtain ⟨s, _, h2⟩ := dt_rows (N := N) (List.Perm.cons i (List.perm_middle (a := i) (l₁ := P) (l₂ := Q)))
  rw [h2, dt_cons, show dt (i :: (P ++ Q)) = fun X : List (V N) => ex i X (dt (P ++ Q)) from dt_fun i _, ex_same]
  grind
/-- two columns side by side: changed places, it is turned about; alike, it is 0. -/
structure AltD (f : List (V N) → Fin N) : Prop where
  swap : ∀ P c d Q, f (P ++ c :: d :: Q) = -1 * f (P ++ d :: c :: Q)
  same : ∀ P c Q, f (P ++ c :: c :: Q) = 0
theorem AltD.under {f : List (V N) → Fin N} (h : AltD f) (c : V N) : AltD fun X => f (c :: X) :=
  ⟨fun P a b Q => h.swap (c :: P) a b Q, fun P a Q => h.same (c :: P) a Q⟩
theorem ex_swap (i : Nat) : ∀ (P : List (V N)) (c d : V N) (Q : List (V N)) (f : List (V N) → Fin N), AltD f → ex i (P ++ c :: d :: Q) f = -1 * ex i (P ++ d :: c :: Q) f
  | [], c, d, Q, f, h => by
    have e : ∀ a b : V N, ex i (a :: b :: Q) f = a i * f (b :: Q) - (b i * f (a :: Q) - ex i Q (fun X => f (a :: b :: X))) := fun a b => by
      conv => lhs; unfold ex; arg 2; unfold ex
    have h2 : (fun X => f (c :: d :: X)) = fun X => -1 * f (d :: c :: X) := funext fun X => h.swap [] c d X
    show ex i (c :: d :: Q) f = -1 * ex i (d :: c :: Q) f
    rw [e c d, e d c, h2, ex_mul]
    grind
  | p :: P, c, d, Q, f, h => by
    have h1 := h.swap P c d Q
    have h2 := ex_swap i P c d Q _ (h.under p)
    show ex i (p :: (P ++ c :: d :: Q)) f = -1 * ex i (p :: (P ++ d :: c :: Q)) f
    unfold ex
    rw [h1, h2]
    grind
theorem ex_two (i : Nat) : ∀ (P : List (V N)) (c : V N) (Q : List (V N)) (f : List (V N) → Fin N), AltD f → ex i (P ++ c :: c :: Q) f = 0
  | [], c, Q, f, h => by
    have e : ∀ a b : V N, ex i (a :: b :: Q) f = a i * f (b :: Q) - (b i * f (a :: Q) - ex i Q (fun X => f (a :: b :: X))) := fun a b => by
      conv => lhs; unfold ex; arg 2; unfold ex
    have h2 : (fun X => f (c :: c :: X)) = fun _ => 0 := funext fun X => h.same [] c X
    show ex i (c :: c :: Q) f = 0
    rw [e c c, h2, ex_none]
    grind
  | p :: P, c, Q, f, h => by
    have h1 := h.same P c Q
    have h2 := ex_two i P c Q _ (h.under p)
    show ex i (p :: (P ++ c :: c :: Q)) f = 0
    unfold ex
    rw [h1, h2]
    grind
theorem dt_alt : ∀ R : List Nat, AltD (dt (N := N) R)
  | [] => ⟨fun P c d Q => by cases P <;> simp only [List.nil_append, List.cons_append, dt] <;> grind, fun P c Q => by cases P <;> simp only [List.nil_append, List.cons_append, dt]⟩
  | i :: R => ⟨fun P c d Q => by rw [dt_cons, dt_cons]; exact ex_swap i P c d Q _ (dt_alt R), fun P c Q => by rw [dt_cons]; exact ex_two i P c Q _ (dt_alt R)⟩
/-- columns in another order. -/
theorem dt_cols {C C' : List (V N)} (h : C.Perm C') : ∃ s : Fin N, s * s = 1 ∧ ∀ (P : List (V N)) (R : List Nat), dt R (P ++ C) = s * dt R (P ++ C') := by
  induction h with
  | nil => exact ⟨1, by grind, fun P R => by grind⟩
  | cons x _ ih =>
    obtain ⟨s, h1, h2⟩ := ih
    refine ⟨s, h1, fun P R => ?_⟩
    have := h2 (P ++ [x]) R
    rw [List.append_assoc, List.append_assoc] at this
    exact this
  | swap x y C => exact ⟨-1, by grind, fun P R => (dt_alt R).swap P y x C⟩
  | trans _ _ ih1 ih2 =>
    obtain ⟨s, h1, h2⟩ := ih1
    obtain ⟨r, h3, h4⟩ := ih2
    refine ⟨s * r, by grind, fun P R => ?_⟩
    rw [h2, h4]
    grind
theorem dt_dup {c : V N} {C : List (V N)} (h : c ∈ C) (R : List Nat) : dt R (c :: C) = 0 := by
  obtain ⟨P, Q, rfl⟩ := List.mem_iff_append.1 h
  obtain ⟨s, _, h2⟩ := dt_cols (N := N) (List.perm_middle (a := c) (l₁ := P) (l₂ := Q))
  have := h2 [c] R
  rw [show [c] ++ (c :: (P ++ Q)) = [] ++ c :: c :: (P ++ Q) from rfl, (dt_alt R).same] at this
  rw [show c :: (P ++ c :: Q) = [c] ++ (P ++ c :: Q) from rfl, this]
  grind
/-- a column that is mixed of two. -/
theorem ex_mix (i : Nat) {z x y : V N} {a : Fin N} (hz : ∀ j, z j = a * x j + y j) : ∀ (P Q : List (V N)) (f : List (V N) → Fin N), (∀ P' Q', f (P' ++ z :: Q') = a * f (P' ++ x :: Q') + f (P' ++ y :: Q')) → ex i (P ++ z :: Q) f = a * ex i (P ++ x :: Q) f + ex i (P ++ y :: Q) f
  | [], Q, f, h => by
    have h2 : (fun X => f (z :: X)) = fun X => a * f (x :: X) + f (y :: X) := funext fun X => h [] X
    show ex i (z :: Q) f = a * ex i (x :: Q) f + ex i (y :: Q) f
    unfold ex
    rw [h2, ex_add, hz]
    grind
  | p :: P, Q, f, h => by
    have h1 := h P Q
    have h2 := ex_mix i hz P Q (fun X => f (p :: X)) fun P' Q' => h (p :: P') Q'
    show ex i (p :: (P ++ z :: Q)) f = a * ex i (p :: (P ++ x :: Q)) f + ex i (p :: (P ++ y :: Q)) f
    unfold ex
    rw [h1, h2]
    grind
theorem dt_mix {z x y : V N} {a : Fin N} (hz : ∀ j, z j = a * x j + y j) : ∀ (R : List Nat) (P Q : List (V N)), dt R (P ++ z :: Q) = a * dt R (P ++ x :: Q) + dt R (P ++ y :: Q)
  | [], P, Q => by cases P <;> simp only [List.nil_append, List.cons_append, dt] <;> grind
  | i :: R, P, Q => by
    rw [dt_cons, dt_cons, dt_cons]
    exact ex_mix i hz P Q _ (dt_mix hz R)
theorem dt_col0 (R : List Nat) (P Q : List (V N)) : dt R (P ++ (fun _ => 0) :: Q) = 0 := by
  have := dt_mix (N := N) (z := fun _ => 0) (x := fun _ => 0) (y := fun _ => 0) (a := 1) (fun j => by grind) R P Q
  grind
/-- a column that hangs on others. -/
theorem dt_hang {C : List (V N)} {v : V N} (h : Sp C v) (R : List Nat) : dt R (v :: C) = 0 := by
  have key : ∀ (C' : List (V N)) (u : V N), Sp C' u → (∀ c ∈ C', c ∈ C) → dt R (u :: C) = 0 := by
    intro C' u h'
    induction h' with
    | zero => intro _; exact dt_col0 R [] C
    | add a hr _ e ih =>
      intro hs
      have h1 := dt_mix e R [] C
      have h2 := dt_dup (hs _ hr) R
      have h3 := ih hs
      simp only [List.nil_append] at h1
      rw [h1, h2, h3]
      grind
  exact key C v h fun _ hc => hc
theorem ind_of_dt {C : List (V N)} {R : List Nat} (F : Fld N) (h : dt R C ≠ 0) : ∀ P Q, C = P ++ Q → Rk Q Q.length := by
  intro P Q
  induction Q generalizing P with
  | nil => intro _; exact Rk.nil
  | cons c Q ih =>
    intro e
    have h1 := ih (P ++ [c]) (by rw [e]; simp)
    refine h1.more F fun hs => h ?_
    obtain ⟨s, _, h2⟩ := dt_cols (N := N) (C := C) (C' := c :: (P ++ Q)) (by rw [e]; exact List.perm_middle)
    have h3 := h2 [] R
    rw [List.nil_append, List.nil_append, dt_hang (hs.mono fun r hr => by simp [hr]) R] at h3
    rw [h3]
    grind
/-- a minor that is not 0: the columns are as many as their rank. -/
theorem rk_of_dt {C : List (V N)} {R : List Nat} (F : Fld N) (h : dt R C ≠ 0) : Rk C C.length := ind_of_dt F h [] C rfl
theorem ex_sp : ∀ (C : List (V N)) (f : List (V N) → Fin N), Sp C fun i => ex i C f
  | [], f => Sp.zero.of_eq fun j => rfl
  | c :: C, f => ((ex_sp C fun X => f (c :: X)).mono fun r hr => List.mem_cons_of_mem _ hr) |> fun h => h.comb (u := fun i => ex i C fun X => f (c :: X)) (-1) (Sp.comb (f C) (Sp.mem (List.mem_cons_self)) .zero fun j => rfl) fun j => by
    show ex j (c :: C) f = _
    conv => lhs; unfold ex
    grind
/-- where the minors that are greater by one row and one column are all 0, the column hangs on those of the minor. -/
theorem sp_of_dt (F : Fld N) {C : List (V N)} {R : List Nat} (h : dt R C ≠ 0) {c : V N} (h0 : ∀ i, dt (i :: R) (c :: C) = 0) : Sp C c := by
  obtain ⟨y, hy⟩ := F.inv _ h
  refine Sp.comb (u := fun i => ex i C fun X => dt R (c :: X)) y (ex_sp C _) .zero fun i => ?_
  have := h0 i
  rw [dt_cons] at this
  unfold ex at this
  grind
theorem rk_le_dt (F : Fld N) {A C : List (V N)} {R : List Nat} {n : Nat} (hA : Rk A n) (h : dt R C ≠ 0) (h0 : ∀ c ∈ A, ∀ i, dt (i :: R) (c :: C) = 0) : n ≤ C.length :=
  hA.le_of F fun c hc => sp_of_dt F h (h0 c hc)
end Go.Lin
