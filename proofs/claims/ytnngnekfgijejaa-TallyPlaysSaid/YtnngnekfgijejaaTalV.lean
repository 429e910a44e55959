/-
  What a vote more changes, and what it does not; numbers by how many there are.
-/
import Derived.Test.YtnngnekfgijejaaTalU
import Derived.Test.YtnngnekfgijejaaTalT
namespace Go.Proofs.Ytnngnekfgijejaa
open Go.ChangeShapes Go.WideShapes Go.ChangeAt Go.RowKit Go.Maps Go.Shelf Go.Proofs

/-- a number, by how many there are. -/
def pick (which : Int) (len : Nat) : Nat := ((which % 18446744073709551616) % len).toNat
theorem pick_lt (which : Int) {len : Nat} (h : 0 < len) : pick which len < len := by
  unfold pick
  have := Int.emod_lt_of_pos (which % 18446744073709551616) (show (0 : Int) < len by omega)
  have := Int.emod_nonneg (which % 18446744073709551616) (show (len : Int) ≠ 0 by omega)
  omega
theorem pick_eq (which : Int) {len : Nat} (h : 0 < len) (hl : len ≤ 10000) : wrap64 ((IntKind.u64.wrap which).tmod (len : Int)) = (pick which len : Nat) := by
  have h1 : IntKind.u64.wrap which = which % 18446744073709551616 := by simp [IntKind.wrap, IntKind.bits, IntKind.signed]
  have h2 := Int.emod_nonneg which (show (18446744073709551616 : Int) ≠ 0 by omega)
  have h3 := Int.emod_lt_of_pos (which % 18446744073709551616) (show (0 : Int) < len by omega)
  have h4 := Int.emod_nonneg (which % 18446744073709551616) (show (len : Int) ≠ 0 by omega)
  rw [h1, Int.tmod_eq_emod_of_nonneg h2, IntWalk.wrap64_in _ ⟨by omega, by omega⟩]
  unfold pick
  omega

theorem putAll_srt {n : Int} : ∀ (l L : List Vt), Srt L → Srt (putAll n L l)
  | [], _, h => h
  | v :: l, L, h => putAll_srt l (putL n L v) (putL_srt h)

theorem find_ins {p : Vt → Bool} {v : Vt} (hv : p v = false) (L : List Vt) : (ins v L).find? p = L.find? p := by
  unfold ins
  rw [List.find?_append, List.find?_cons, hv]
  simp only
  conv => rhs; rw [← List.takeWhile_append_dropWhile (p := (ahead · v)) (l := L), List.find?_append]
theorem prop_put {n : Int} {L : List Vt} {v : Vt} {r f : Int} (h : v.rd ≠ r) : propL (putL n L v) r f = propL L r f := by
  unfold putL
  split
  · exact find_ins (by rw [← Bool.not_eq_true, Vt.at_iff]; exact fun h2 => h h2.1) L
  · rfl
theorem filter_ins {p : Vt → Bool} {v : Vt} (hv : p v = false) (L : List Vt) : cntN p (ins v L) = cntN p L := by
  unfold cntN
  rw [((ins_perm v L).filter p).length_eq, List.filter_cons, hv]
  rfl
theorem cnt_put {n : Int} {L : List Vt} {v : Vt} {p : Vt → Bool} (h : p v = false) : cntN p (putL n L v) = cntN p L := by
  unfold putL
  split
  · exact filter_ins h L
  · rfl
theorem mem_cons_no {n : Nat} {p : Vt → Bool} {v : Vt} (h : p v = false) (L : List Vt) : memN n p (v :: L) = memN n p L := by
  unfold memN
  congr 2
  funext f
  rw [List.any_cons, h]
  simp
theorem sent_put {m : Nat} {L : List Vt} {v : Vt} {r : Int} (hs : Srt L) (hm : Mays m L) (h : v.rd ≠ r) : sentT r (putL m L v) (putL m L v).length = sentT r L L.length := by
  rw [← memN_sent (n := m) r (putL m L v) (putL_srt hs) (putL_mays hm), ← memN_sent (n := m) r L hs hm]
  unfold putL
  split
  · rw [memN_perm (ins_perm v L)]
    exact mem_cons_no (by simpa using h) L
  · rfl

/-- votes held together. -/
theorem eql_vote (a b : Vt) (W : World) : (binOp .eql 30 (vval a) (vval b)).run Try.prog W = .ok (.bool ((a.fr == b.fr) && (a.rd == b.rd) && (a.kd == b.kd) && (a.va == b.va) && (a.tx.toList == b.tx.toList))) W := by
  have u3 := Try.underlying3
  have a3 := Try.isAgg3
  have z3 := Try.sizeOf3
  have u5 := Try.underlying5
  have a5 := Try.isAgg5
  have z5 := Try.sizeOf5
  have u9 := Try.underlying9
  have a9 := Try.isAgg9
  have z9 := Try.sizeOf9
  have hS : Try.prog.underlying 30 = some (.struct (Try.prog.fieldsOf 30)) := by kernel_rfl
  have hp : Try.prog.stoodInHeld 30 = false := by kernel_rfl
  rw [run_eql_struct, show (10000 : Nat) = 9999 + 1 from rfl, run_equalIn_agg W 9999 30 _ _ hS hp]
  simp only [Program.fieldsOf, Try.underlying30]
  go_simp
  cases h1 : (a.fr == b.fr) <;> cases h2 : (a.rd == b.rd) <;> cases h3 : (a.kd == b.kd) <;> cases h4 : (a.va == b.va) <;> cases h5 : (a.tx.toList == b.tx.toList) <;> simp_all
theorem eql_same (a : Vt) (W : World) : (binOp .eql 30 (vval a) (vval a)).run Try.prog W = .ok (.bool true) W := by
  rw [eql_vote]; simp
end Go.Proofs.Ytnngnekfgijejaa
