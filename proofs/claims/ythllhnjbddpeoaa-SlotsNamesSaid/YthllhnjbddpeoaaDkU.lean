/-
  Rows of steps behind rows of steps; how long what is read is; steps from a disk on.
-/
import Derived.Test.YthllhnjbddpeoaaDkT
import Derived.Maps.AppendAt
namespace Go.Proofs.Ythllhnjbddpeoaa
open Go Go.ChangeShapes Go.WideShapes Go.ChangeAt Go.RowKit Go.Maps Go.Shelf Go.Proofs

theorem run_append_none {P : Program} (w : World) (t ty e : TypeId) (i : TypeInfo) (ht : P.underlying t = some (.slice e)) (hi : P.info? e = some i) (A : Option Addr) (n cap c : Nat) (h : n ≤ cap) :
    (Builtin.append_ #[t, t] ty #[.slice A n cap, .slice none 0 c]).run P w = .ok (.slice A n cap) w := by
  simp [Builtin.append_, run_underlying ht, sizeOf, typeInfo, hi, Builtin.lenOf, Builtin.firstCells, loadCells, h]
  cases A with
  | none => rfl
  | some a => simp [storeCells]

theorem info_St : (Try.prog.info? 35).map (fun i => (i.zero, i.size, i.bytes)) = some (some (stval zeroSt), 5, 64) := by kernel_rfl
theorem one_five (x : St) : ∀ u ∈ scl x, u.oneCell' = true := by
  intro u hu
  simp only [scl, List.mem_cons, List.not_mem_nil, or_false] at hu
  rcases hu with rfl | rfl | rfl | rfl | rfl <;> rfl
/-- the steps l behind a row of its own. -/
theorem wpList_append_St {ops : Array Oper} {rest : List Oper} {o : Oper} {a : Act} {Q : Exit → Act → World → Prop} (w : World) (hgd : o.guard = none) (s x : Operand)
    (ho : o.op = .call { callee := .builtin .append, args := #[s, x], argTypes := #[22, 22] })
    (base : Nat) (v : Value) (n : Nat) (xs : List Value) (hs : a.eval s = v) (hown : w.ownsRow base 35 5 v n xs)
    (A : Option Addr) (l : List St) (c : Nat) (hx : a.eval x = .slice A l.length c) (hA : CellsS w A l) (hn : n + l.length ≤ 1000000) (hbase : base ≤ w.heap.size)
    (h : ∀ v' w', w'.ownsRow base 35 5 v' (n + l.length) (xs ++ l.flatMap scl) → w.grownBy w' v.ownBlock → wpList Try.prog ops Q rest (a.put o.dst v') w') : wpList Try.prog ops Q (o :: rest) a w := by
  obtain ⟨i0, hi, hz0, hz1, hz2⟩ := info_parts info_St
  rcases hA with h0 | ⟨b, off, rfl, h5⟩
  · have hl : l = [] := by
      have := flatS_len l
      rw [h0] at this
      exact List.eq_nil_of_length_eq_zero (by simp at this; omega)
    subst hl
    simp only [List.flatMap_nil, List.append_nil, List.length_nil, Nat.add_zero] at h hx
    cases A with
    | some ad => exact wpList_append_own_at w hgd s x _ ho base 35 i0 (stval zeroSt) 5 64 Try.underlying22 hi hz0 hz1 hz2 (by rfl) (by decide) v n xs hs hown ad 0 c [] hx rfl (fun j u hu => by simp at hu) (fun u hu => by cases hu) (by simp at hn; unfold maxLen; omega) (by simp at hn; omega) hbase fun v' w' h1 h2 _ _ => h v' w' (by simpa using h1) h2
    | none =>
    have hv : ∃ B cap, v = .slice B n cap ∧ n ≤ cap := by
      rcases hown.2 with ⟨rfl, rfl⟩ | ⟨g, cap, cur, rfl, _, _, h6, _⟩
      · exact ⟨none, 0, rfl, Nat.le_refl _⟩
      · exact ⟨_, cap, rfl, h6⟩
    obtain ⟨B, cap, rfl, hcap⟩ := hv
    have hr := run_append_none (P := Try.prog) w 22 o.type _ i0 Try.underlying22 hi B n cap c hcap
    refine wpList_plain hgd fun K hK => ?_
    unfold Oper.wp execOp
    simp only [ho, resolve, invoke, builtin, Sem.run_bind, Sem.run_pure, Result.andThen_ok, List.map_toArray, List.map_cons, List.map_nil, hs, hx, hr]
    exact hK _ _ (h _ _ hown ⟨rfl, rfl, rfl, Nat.le_refl _, fun _ _ _ => rfl⟩)
  · refine wpList_append_own_at w hgd s x _ ho base 35 i0 (stval zeroSt) 5 64 Try.underlying22 hi hz0 hz1 hz2 (by rfl) (by decide) v n xs hs hown ⟨b, off, none⟩ l.length c (l.flatMap scl) hx (flatS_len l) (fun j u hu => by rw [add_none rfl]; exact h5 j u hu) ?_ (by unfold maxLen; omega) (by omega) hbase fun v' w' h1 h2 _ _ => h v' w' h1 h2
    intro u hu
    obtain ⟨y, _, hy⟩ := List.mem_flatMap.1 hu
    exact one_five y u hy
theorem cellsSt_of {w : World} {base : Nat} {v : Value} {l : List St} (h : w.ownsRow base 35 5 v l.length (l.flatMap scl)) : ∃ A c, v = .slice A l.length c ∧ CellsS w A l := by
  rcases h.2 with ⟨rfl, h0⟩ | ⟨g, cap, cur, rfl, _, _⟩
  · obtain rfl := List.eq_nil_of_length_eq_zero h0
    exact ⟨none, 0, rfl, .inl rfl⟩
  · exact ⟨_, cap, rfl, .inr ⟨g, 0, rfl, fun t u hu => by have := World.ownsRow.cells (g := g) h rfl t u hu; rw [add_none rfl] at this; exact this⟩⟩

theorem plat_size {d : Dk} {m : Nat} (h : d.Ok m) (x : Int) : (d.plat x).size ≤ 512 := by
  unfold Dk.plat
  split
  · exact Nat.le_of_eq (getP_size h.P x)
  · exact Nat.zero_le _
theorem read_size {d : Dk} {m : Nat} (h : d.Ok m) (x : Int) : (d.read x).size ≤ 512 := by
  unfold Dk.read
  split
  · exact Nat.zero_le _
  · cases hf : lastC d.C x with
    | none => exact plat_size h x
    | some p =>
      have : p ∈ d.C.reverse := List.mem_of_find?_eq_some hf
      exact Nat.le_of_eq (h.C.size p (by simpa using this))

/-- steps from a disk on. -/
def runsF (d : Dk) (l : List St) : Dk := l.foldl Dk.step d
theorem runsF_snoc (d : Dk) (l : List St) (u : St) : runsF d (l ++ [u]) = (runsF d l).step u := by simp [runsF]
theorem runsF_ok {w : World} {m : Nat} (l : List St) : ∀ {d : Dk}, d.Ok m → (∀ u ∈ l, u.Ok w) → (runsF d l).Ok (m + l.length) := by
  induction l generalizing m with
  | nil => intro d h _; exact h
  | cons u l ih =>
    intro d h hu
    have := ih (h.step (hu u (List.mem_cons_self ..))) fun x hx => hu x (List.mem_cons_of_mem _ hx)
    rw [show m + (u :: l).length = m + 1 + l.length by simp; omega]
    exact this
end Go.Proofs.Ythllhnjbddpeoaa
