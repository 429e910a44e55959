/-
  A tally of some votes; are votes more than a statement goes over?
-/
import Derived.Test.YtnngnekfgijejaaTalQ
import Derived.Test.YtnngnekfgijejaaTalF
namespace Go.Proofs.Ytnngnekfgijejaa
open Go.RowKit Go.Maps Go.Shelf Go.Proofs

def putAll (n : Int) (L l : List Vt) : List Vt := l.foldl (putL n) L
theorem putAll_snoc (n : Int) (L l : List Vt) (v : Vt) : putAll n L (l ++ [v]) = putL n (putAll n L l) v := by simp [putAll]
def Oks (l : List Vt) : Prop := ∀ v ∈ l, v.Ok
/-- how many members a tally of 'of' has. -/
def memOf (n : Int) : Int := 1 + n % 18446744073709551616 % 7
theorem mem_eq (n : Int) : wrap64 (1 + wrap64 ((IntKind.u64.wrap n).tmod 7)) = memOf n := by
  have h1 : IntKind.u64.wrap n = n % 18446744073709551616 := by simp [IntKind.wrap, IntKind.bits, IntKind.signed]
  have h2 := Int.emod_nonneg n (show (18446744073709551616 : Int) ≠ 0 by omega)
  rw [h1, Int.tmod_eq_emod_of_nonneg h2]
  have h3 : wrap64 (n % 18446744073709551616 % 7) = n % 18446744073709551616 % 7 := IntWalk.wrap64_in _ ⟨by omega, by omega⟩
  rw [h3, memOf]
  exact IntWalk.wrap64_in _ ⟨by omega, by omega⟩
theorem wrap64_range (m : Int) : -9223372036854775808 ≤ wrap64 m ∧ wrap64 m ≤ 9223372036854775807 := by unfold wrap64; omega
theorem memOf_le (n : Int) : 1 ≤ memOf n ∧ memOf n ≤ 7 := by unfold memOf; omega

/-- yes or no. -/
def AnsB (w : World) (e : Ending) (w' : World) : Prop := (∃ b, e = .returned (.bool b)) ∧ w = w'
set_option maxRecDepth 100000 in
theorem long_c (A : Option Addr) (l : List Vt) (c : Nat) (w : World) (hA : CellsV w A l) (hl : l.length ≤ 9223372036854775807) (ho : Oks l) :
    Calls Try.prog 10 #[.slice A l.length c] w (AnsB w) := by
  go_enter Try.func10, Try.ntmps10
  go_wp2
  go_loop [3, 4] (fun n i => ∃ (k : Nat) (m : Int), i = .int .i64 k ∧ k ≤ l.length ∧ n = .int .i64 m ∧ -9223372036854775808 ≤ m ∧ m ≤ 9223372036854775807) (fun _ i => l.length - (intOf i).toNat)
  case atStart => exact ⟨0, 0, rfl, by omega, rfl, by omega, by omega⟩
  case round =>
    obtain ⟨k, m, rfl, hk, rfl, h1, h2⟩ := hrel
    by_cases hlt : k < l.length
    · obtain ⟨x, hx⟩ := get_of_lt hlt
      obtain ⟨b, off, rfl, hbl, d0, d1, d2, d3, d4⟩ := hA.at_ hx
      have htx := (ho x (List.mem_of_getElem? hx)).tx
      clear hx
      cases hm : decide (m < 9000) with
      | true =>
        go_wp2
        have hw := wrap64_range (wrap64 (m + 50) + x.tx.size)
        go_round
        case rel => exact ⟨k + 1, _, by go_num, by omega, rfl, hw.1, hw.2⟩
        case measure => simp [intOf]; omega
      | false =>
        go_wp2
        go_ret
        exact ⟨⟨_, rfl⟩, rfl⟩
    · obtain rfl : k = l.length := by omega
      go_wp2
      go_ret
      exact ⟨⟨_, rfl⟩, rfl⟩

set_option maxRecDepth 100000 in
theorem of_c (n : Int) (A : Option Addr) (l : List Vt) (c : Nat) (w : World) (hn : I64 n) (hA : CellsV w A l) (hl : l.length ≤ 9223372036854775807) (ho : Oks l) [DecidableEq Lit] :
    Calls Try.prog 12 #[.int .i64 n, .slice A l.length c] w fun e w' => ∃ g gm, e = .returned (.tuple #[.pointer (some ⟨g, 0, none⟩), .int .i64 (memOf n), .bool true]) ∧ Tly w' g gm (memOf n) (putAll (memOf n) [] l) ∧ w.heap.size ≤ g ∧ w.heap.size ≤ gm ∧ Below w.heap.size w w' := by
  obtain ⟨n1, n2⟩ := hn
  have hmb := memOf_le n
  obtain ⟨m, hm⟩ : ∃ m, memOf n = m := ⟨_, rfl⟩
  rw [hm] at hmb ⊢
  have HME := hid ((mem_eq n).trans hm)
  clear hm
  go_enter Try.func12, Try.ntmps12
  go_wp2_with (fail)
  rw [HME.out]
  refine (tnew_ok m w hmb.1 hmb.2).mono ?_
  rintro e w2 ⟨g, gm, rfl, hT, hg, hgm, hb⟩
  have hz : ((0 : Int) != 0) = false := rfl
  have hA2 := hA.below hb
  have hsz := hb.size
  go_wp2
  go_loopw [9] (fun i wr => ∃ k : Nat, i = .int .i64 k ∧ k ≤ l.length ∧ Tly wr g gm m (putAll m [] (l.take k)) ∧ Below w.heap.size w wr) (fun i _ => l.length - (intOf i).toNat)
  case atStart => exact ⟨0, rfl, by omega, by rw [List.take_zero]; exact hT, hb⟩
  case round =>
    obtain ⟨k, rfl, hk, hT2, hb2⟩ := hrel
    rename_i wr
    clear hT hA2
    by_cases hlt : k < l.length
    · obtain ⟨x, hx⟩ := get_of_lt hlt
      obtain ⟨b, off, rfl, hbl, d0, d1, d2, d3, d4⟩ := (hA.below hb2).at_ hx
      have hxo := ho x (List.mem_of_getElem? hx)
      have HS := hid (show putAll m [] (l.take (k + 1)) = putL m (putAll m [] (l.take k)) x by rw [List.take_add_one, hx]; exact putAll_snoc _ _ _ _)
      clear hx
      go_wp2_with (fail)
      refine (tput_c g gm m _ x wr hT2 hxo).mono ?_
      rintro e w3 ⟨rfl, hT3, hg3⟩
      go_wp2
      go_roundw
      case rel => exact ⟨k + 1, by go_num, by omega, by rw [HS.out]; exact hT3, below_but hb2 hg3 hgm hb2.size⟩
      case measure => simp [intOf]; omega
    · obtain rfl : k = l.length := by omega
      rw [List.take_length] at hT2
      go_wp2
      go_ret3
      exact ⟨g, gm, rfl, hT2, hg, hgm, hb2⟩
end Go.Proofs.Ytnngnekfgijejaa
