/-
  A new tally; a member's proposal.
-/
import Derived.Test.YtnngnekfgijejaaTalD
namespace Go.Proofs.Ytnngnekfgijejaa
open Go.RowKit Go.Maps

/-- New, of a number that may be. -/
theorem tnew_ok (n : Int) (w : World) (h1 : 1 ≤ n) (h2 : n ≤ 7) :
    Calls Try.prog 22 #[.int .i64 n] w fun e w' => ∃ g gm, e = .returned (.tuple #[.pointer (some ⟨g, 0, none⟩), .int .i64 0]) ∧ Tly w' g gm n [] ∧ w.heap.size ≤ g ∧ w.heap.size ≤ gm ∧ Below w.heap.size w w' := by
  have hmm := @run_makeMap Try.prog
  have d1 : decide (n < 1) = false := by simp; omega
  have d2 : decide (n > 7) = false := by simp; omega
  go_enter Try.func22, Try.ntmps22
  go_wp2
  go_ret2
  refine ⟨w.heap.size + 1, w.heap.size, rfl, ⟨?_, ?_, List.Pairwise.nil, (fun v hv => by cases hv), h1, h2⟩, by omega, by omega, (below_alloc w _).alloc (by simp) _⟩
  · have := row1_new (w.alloc (.map #[] 0)) [.int .i64 n, .map (some w.heap.size)] 72
    simpa using this
  · exact (mapAt_made w).alloc _
theorem tnew_no (n : Int) (w : World) (h : n < 1 ∨ 7 < n) :
    Calls Try.prog 22 #[.int .i64 n] w fun e w' => e = .returned (.tuple #[.pointer none, .int .i64 1]) ∧ w = w' := by
  cases d1 : decide (n < 1) with
  | true =>
    clear h
    go_enter Try.func22, Try.ntmps22
    go_wp2
    go_ret2
    exact ⟨rfl, rfl⟩
  | false =>
    have d2 : decide (n > 7) = true := by simp at d1 ⊢; omega
    clear h
    go_enter Try.func22, Try.ntmps22
    go_wp2
    go_ret2
    exact ⟨rfl, rfl⟩

/-- a member's proposal of a round. -/
def propL (L : List Vt) (r f : Int) : Option Vt := L.find? fun v => v.at_ r f 2
def propV (L : List Vt) (r f : Int) : Value := .tuple #[vval ((propL L r f).getD zeroVt), .bool (propL L r f).isSome]

theorem tprop_nil (r f : Int) (w : World) :
    Calls Try.prog 20 #[.pointer none, .int .i64 r, .int .i64 f] w fun e w' => e = .returned (.tuple #[vval zeroVt, .bool false]) ∧ Below w.heap.size w w' := by
  go_enter Try.func20, Try.ntmps20
  go_wp2
  exact bodyPost_ret (v := .tuple #[vval zeroVt, .bool false]) (by simp [results, Try.results20, go_sem, zeroVt]) rfl ⟨rfl, below_alloc _ _⟩
theorem propL_none {L : List Vt} {r f : Int} (h : ∀ u ∈ L, u.at_ r f 2 = false) : propL L r f = none := List.find?_eq_none.2 fun u hu => by rw [h u hu]; simp
theorem srt_one {L : List Vt} (h : Srt L) {u v : Vt} (hu : u ∈ L) (hv : v ∈ L) (hr : u.rd = v.rd) (hf : u.fr = v.fr) (hk : u.kd = v.kd) : u = v := by
  have key : ∀ {L : List Vt}, Srt L → u ∈ L → v ∈ L → u = v := by
    intro L h
    induction L with
    | nil => intro h; cases h
    | cons x l ih =>
      intro hu hv
      obtain ⟨h1, h2⟩ := List.pairwise_cons.1 h
      rcases List.mem_cons.1 hu with rfl | hu' <;> rcases List.mem_cons.1 hv with rfl | hv'
      · rfl
      · have := h1 _ hv'; rw [ahead_iff] at this; omega
      · have := h1 _ hu'; rw [ahead_iff] at this; omega
      · exact ih h2 hu' hv'
  exact key h hu hv
theorem propL_some {L : List Vt} {r f : Int} (hs : Srt L) {u : Vt} (hu : u ∈ L) (ha : u.at_ r f 2 = true) : propL L r f = some u := by
  cases hp : propL L r f with
  | none => exact absurd ha (List.find?_eq_none.1 hp u hu)
  | some v =>
    have h1 := List.find?_some hp
    have h2 := List.mem_of_find?_eq_some hp
    rw [Vt.at_iff] at h1 ha
    rw [srt_one hs hu h2 (ha.1.trans h1.1.symm) (ha.2.1.trans h1.2.1.symm) (ha.2.2.trans h1.2.2.symm)]
set_option maxRecDepth 100000 in
theorem tprop_c (g gm : Nat) (n : Int) (L : List Vt) (r f : Int) (w : World) (h : Tly w g gm n L) (hr : I64 r) (hf : I64 f) :
    Calls Try.prog 20 #[.pointer (some ⟨g, 0, none⟩), .int .i64 r, .int .i64 f] w fun e w' => e = .returned (propV L r f) ∧ Below w.heap.size w w' := by
  have h1 := h.row.cell (k := 1) rfl
  have hlt := h.lt.1
  have hmap := h.map.alloc (.cells #[.int .i64 0, .int .i64 0, .int .u8 0, .int .i64 0, .string ⟨#[]⟩] 30)
  have hs := h.srt
  go_enter Try.func20, Try.ntmps20
  go_wp2_with (at_lookup; refine wpList_look_vote _ rfl _ _ rfl rfl hmap rfl hr hf (by omega) ?_ ?_)
  · intro hno
    have hp := hid (propL_none hno)
    clear hno
    go_wp2
    exact bodyPost_ret (v := .tuple #[vval zeroVt, .bool false]) (by simp [results, Try.results20, go_sem, zeroVt]) rfl ⟨by rw [propV, hp.out]; rfl, (below_alloc w _).alloc (by simp) _⟩
  · intro u hu ha
    have hp := hid (propL_some hs hu ha)
    clear ha
    go_wp2
    exact bodyPost_ret (v := .tuple #[vval u, .bool true]) (by simp [results, Try.results20, go_sem]) rfl ⟨by rw [propV, hp.out]; rfl, (below_alloc w _).alloc (by simp) _⟩
end Go.Proofs.Ytnngnekfgijejaa
