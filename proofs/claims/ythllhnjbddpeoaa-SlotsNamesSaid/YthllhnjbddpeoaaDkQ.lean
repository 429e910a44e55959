/-
  The sectors that steps name; what a sync does.
-/
import Derived.Test.YthllhnjbddpeoaaDiskRead
namespace Go.Proofs.Ythllhnjbddpeoaa
open Go.RowKit Go.Maps Go.Shelf Go.Proofs

theorem elt_int : Elt Try.prog 47 3 (.int .i64 0) 8 := Elt.of Try.underlying47 (by kernel_rfl) rfl
theorem elt_str : Elt Try.prog 50 9 (.string ⟨#[]⟩) 16 := Elt.of Try.underlying50 (by kernel_rfl) rfl
def secs (l : List St) : List Int := [0, 1, 65535] ++ l.map St.at_
theorem secs_len (l : List St) : (secs l).length = l.length + 3 := by simp [secs]
theorem secs_i64 {w : World} {l : List St} (h : ∀ u ∈ l, u.Ok w) : ∀ a ∈ secs l, I64 a := by
  intro a ha
  simp only [secs, List.mem_append, List.mem_cons, List.not_mem_nil, or_false, List.mem_map] at ha
  rcases ha with (rfl | rfl | rfl) | ⟨u, hu, rfl⟩
  · exact ⟨by omega, by omega⟩
  · exact ⟨by omega, by omega⟩
  · exact ⟨by omega, by omega⟩
  · exact (h u hu).at_

set_option maxRecDepth 100000 in
set_option maxHeartbeats 1000000 in
theorem sectors_c (A : Option Addr) (l : List St) (c : Nat) (w : World) (hA : CellsS w A l) (hl : l.length ≤ 1000000) :
    Calls Try.prog 36 #[.slice A l.length c] w fun e w' => ∃ v, e = .returned v ∧ Own w' w.heap.size 3 v ((secs l).map (Value.int .i64)) ∧ Below w.heap.size w w' := by
  have HA := hid hA
  clear hA
  go_enter Try.func36, Try.ntmps36
  go_wp2
  have hR := row1_new w [.int .i64 0, .int .i64 1, .int .i64 65535] 3
  have hb := below_alloc w (.cells #[.int .i64 0, .int .i64 1, .int .i64 65535] 3)
  have hO : Own (w.alloc (.cells #[.int .i64 0, .int .i64 1, .int .i64 65535] 3)) w.heap.size 3 (.slice (some ⟨w.heap.size, 0, none⟩) 3 3) [.int .i64 0, .int .i64 1, .int .i64 65535] := hR.own (Nat.le_refl _) (by decide)
  clear hR
  generalize w.alloc _ = w1 at *
  go_loopw [3, 4] (fun v i wr => ∃ k : Nat, i = .int .i64 k ∧ k ≤ l.length ∧ Own wr w.heap.size 3 v ((secs (l.take k)).map (Value.int .i64)) ∧ Below w.heap.size w wr) (fun _ i _ => l.length - (intOf i).toNat)
  case atStart => exact ⟨0, rfl, by omega, hO, hb⟩
  case round =>
    obtain ⟨k, rfl, hk, hown, hb2⟩ := hrel
    clear hO hb
    rename_i wr
    by_cases hlt : k < l.length
    · obtain ⟨x, hx⟩ := get_of_lt hlt
      obtain ⟨b, off, rfl, d0, d1, d2, d3, d4⟩ := cellsS5 HA.out hb2 hx
      have hs : (secs (l.take k)).map (Value.int .i64) ++ [Value.int .i64 x.at_] = (secs (l.take (k + 1))).map (Value.int .i64) := by
        rw [take_snoc hx]; simp [secs]
      have hl2 : ((secs (l.take k)).map (Value.int .i64)).length = k + 3 := by
        rw [List.length_map, secs_len, List.length_take]; omega
      have HS := hid (⟨hs, hl2⟩ : _ ∧ _)
      have hsz := hb2.size
      clear hs hl2 hx
      go_wp2_with (at_builtin; refine wpList_push elt_int wr rfl _ _ rfl w.heap.size hown rfl (.int .i64 x.at_) rfl rfl (by rw [HS.out.2]; omega) (by rw [HS.out.2]; omega) (by omega) ?_; intro v' w3 hown3 hk3 hb3; rw [HS.out.1] at hown3)
      go_roundw
      case rel => exact ⟨k + 1, by go_num, by omega, hown3, hb2.trans hb3⟩
      case measure => simp [intOf]; omega
    · obtain rfl : k = l.length := by omega
      rw [List.take_length] at hown
      go_wp2
      go_ret
      exact ⟨_, rfl, hown, hb2⟩

theorem find_filter {P : List Pt} {a x : Int} (h : a ≠ x) : (P.filter fun c => decide (c.1 ≠ a)).find? (fun p => p.1 == x) = P.find? fun p => p.1 == x := by
  induction P with
  | nil => rfl
  | cons p P ih =>
    by_cases h1 : p.1 = a
    · rw [List.filter_cons_of_neg (by simpa using h1), ih, List.find?_cons_of_neg (by simp; intro e; exact h (h1.symm.trans e))]
    · rw [List.filter_cons_of_pos (by simpa using h1)]
      by_cases h2 : p.1 = x
      · rw [List.find?_cons_of_pos (by simpa using h2), List.find?_cons_of_pos (by simpa using h2)]
      · rw [List.find?_cons_of_neg (by simpa using h2), List.find?_cons_of_neg (by simpa using h2), ih]
theorem getP_set (P : List Pt) (p : Pt) (x : Int) : getP (setP P p) x = if p.1 = x then p.2 else getP P x := by
  by_cases h : p.1 = x
  · rw [if_pos h]
    subst h
    unfold setP
    split
    · rename_i hb
      rw [hb]
      exact getP_no fun u hu => by simpa using (List.mem_filter.1 hu).2
    · unfold getP
      rw [List.find?_cons_of_pos (by simp)]
      rfl
  · rw [if_neg h]
    unfold setP getP
    split
    · rw [find_filter h]
    · rw [List.find?_cons_of_neg (by simpa using h), find_filter h]
theorem getP_fold (C : List Pt) : ∀ (P : List Pt) (x : Int), getP (C.foldl setP P) x = match lastC C x with | some p => p.2 | none => getP P x := by
  induction C with
  | nil => intro P x; rfl
  | cons p C ih =>
    intro P x
    rw [List.foldl_cons, ih]
    have e : lastC (p :: C) x = match lastC C x with | some q => some q | none => if p.1 = x then some p else none := by
      unfold lastC
      rw [List.reverse_cons, List.find?_append]
      cases C.reverse.find? fun q => q.1 == x with
      | some q => rfl
      | none =>
        simp only [Option.none_or]
        by_cases h : p.1 = x
        · rw [if_pos h, List.find?_cons_of_pos (by simpa using h)]
        · rw [if_neg h, List.find?_cons_of_neg (by simpa using h)]; rfl
    rw [e]
    cases lastC C x with
    | some q => rfl
    | none =>
      simp only [getP_set]
      by_cases h : p.1 = x
      · rw [if_pos h, if_pos h]
      · rw [if_neg h, if_neg h]
theorem lastC_is {C : List Pt} (h : PtsOk C) {x : Int} (hx : isS x = false) : lastC C x = none := by
  unfold lastC
  rw [List.find?_eq_none]
  intro p hp
  have := h.at_ p (by simpa using hp)
  simp only [beq_iff_eq]
  intro e
  rw [e, hx] at this
  cases this
/-- a step that is no sync and no crash leaves the platter. -/
theorem step_plat (d : Dk) (u : St) (h1 : u.kd ≠ 1) (h3 : u.kd ≠ 3) (x : Int) : (d.step u).plat x = d.plat x := by
  unfold Dk.step
  split
  · exact write_plat d _ _ x
  · split <;> rfl
/-- a sync that is done: the platter is what was read. -/
theorem sync_plat {d : Dk} {m : Nat} (h : d.Ok m) (hde : d.de = false) (hb : d.burnB = true) (x : Int) : d.syncE = 0 ∧ d.sync.C = [] ∧ d.sync.plat x = d.read x ∧ d.sync.de = false := by
  have h1 : d.syncE = 0 := by simp [Dk.syncE, hde, hb]
  have h2 : d.sync = { d.burn with P := d.C.foldl setP d.P, C := [] } := by simp [Dk.sync, hde, hb]
  refine ⟨h1, by rw [h2], ?_, by rw [h2]; show d.burn.de = false; rw [burn_de hb]; exact hde⟩
  rw [h2]
  simp only [Dk.plat, Dk.read, hde, Bool.false_eq_true, if_false]
  cases his : isS x with
  | true => simp only [if_true]; exact getP_fold d.C d.P x
  | false =>
    rw [lastC_is h.C his]
    simp
theorem crash_none {d : Dk} (h : d.C = []) (ks : List Bool) (n : Int) (x : Int) : (d.crash ks n).plat x = d.plat x := by
  unfold Dk.crash
  rw [h]
  rfl
end Go.Proofs.Ythllhnjbddpeoaa
