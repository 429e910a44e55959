/-
  The products of a row of values and a query: one place.
-/
import Derived.Test.YtnmadmcegdpecaaFixE
namespace Go.Proofs.Ytnmadmcegdpecaa
open Go.RowKit

/-- the sum of the first k products, from a place on. -/
def dsum (l row : List Int) (q : Int) (at_ : Nat) : Nat → Int
  | 0 => 0
  | k + 1 => match l[at_ + k]?, row[k]? with
    | some a, some b => mAdd (dsum l row q at_ k) (mMul a b q) q
    | _, _ => dsum l row q at_ k
theorem dsum_u64 (l row : List Int) (q : Int) (at_ k : Nat) : U64 (dsum l row q at_ k) := by
  induction k with
  | zero => exact (⟨by decide, by decide⟩ : U64 0)
  | succ k ih => unfold dsum; split; exact mAdd_u64 _ _ _; exact ih
theorem dsum_in {l row : List Int} {q : Int} {at_ k : Nat} {a b : Int} (h1 : l[at_ + k]? = some a) (h2 : row[k]? = some b) : dsum l row q at_ (k + 1) = mAdd (dsum l row q at_ k) (mMul a b q) q := by
  conv => lhs; unfold dsum
  rw [h1, h2]
theorem dsum_out {l row : List Int} {q : Int} {at_ k : Nat} (h1 : l.length ≤ at_ + k) : dsum l row q at_ (k + 1) = dsum l row q at_ k := by
  conv => lhs; unfold dsum
  rw [List.getElem?_eq_none h1]

set_option maxHeartbeats 1000000 in
theorem dot1_c (at_ : Nat) (R L G : Nat) (A B : Option Addr) (row l : List Int) (c d : Nat) (q : Int) (w : World) (hat : at_ ≤ 1000) (hR : w.cell? ⟨R, 0, none⟩ = some (.slice A row.length c)) (hL : w.cell? ⟨L, 0, none⟩ = some (.slice B l.length d)) (hG : w.cell? ⟨G, 1, none⟩ = some (.int .u64 q))
    (hA : Cells w A (row.map (.int .u64))) (hB : Cells w B (l.map (.int .u64))) (hl : row.length ≤ 1000) (hl' : l.length ≤ 9223372036854775807) (hu : U64s row) (hu' : U64s l) (hq : U64 q) :
    Calls Try.prog 90 #[.int .i64 at_, .pointer (some ⟨R, 0, none⟩), .pointer (some ⟨L, 0, none⟩), .pointer (some ⟨G, 0, none⟩)] w fun e w' => e = .returned (.int .u64 (dsum l row q at_ row.length)) ∧ Dr w w' := by
  go_enter Try.func90, Try.ntmps90
  go_wp2
  go_loopw [5, 6, 7, 10] (fun s _ _ i wr => ∃ k : Nat, i = .int .i64 k ∧ k ≤ row.length ∧ s = .int .u64 (dsum l row q at_ k) ∧ Dr w wr) (fun _ _ _ i _ => row.length - (intOf i).toNat)
  case atStart => exact ⟨0, rfl, by omega, rfl, Dr.refl w⟩
  case round =>
    obtain ⟨k, rfl, hk, rfl, hw⟩ := hrel
    rename_i wr
    have hR' := (hw.cell _).trans hR
    have hL' := (hw.cell _).trans hL
    have hG' := (hw.cell _).trans hG
    have hSu : U64 (dsum l row q at_ k) := dsum_u64 _ _ _ _ _
    by_cases hlt : k < row.length
    · obtain ⟨b, hxb⟩ := get_of_lt hlt
      obtain ⟨o1, off1, rfl, hc1⟩ := (hA.dr hw).at_map hxb
      have hub := hu.at_ hxb
      by_cases hin : at_ + k < l.length
      · obtain ⟨a, hxa⟩ := get_of_lt hin
        obtain ⟨o2, off2, rfl, hc2⟩ := (hB.dr hw).at_map hxa
        have hua := hu'.at_ hxa
        have hstep := dsum_in (q := q) hxa hxb
        obtain ⟨S, hS⟩ : ∃ S, dsum l row q at_ k = S := ⟨_, rfl⟩
        rw [hS] at hstep hSu ⊢
        have HS := hid hstep
        clear hstep hS
        go_wp2
        go_quiet (first | (go_at_call 33; exact quiet_dr (mul_c _ _ _ hua hub hq _)) | (go_at_call 32; exact quiet_dr (add_c _ _ _ hSu (mMul_u64 _ _ _) hq _)))
        go_wp2
        go_roundw
        case rel => exact ⟨k + 1, by go_num, by omega, by rw [HS.out], hw.more _⟩
        case measure => simp [intOf]; omega
      · have HS := hid (dsum_out (row := row) (q := q) (at_ := at_) (k := k) (l := l) (by omega))
        go_wp2
        go_roundw
        case rel => exact ⟨k + 1, by go_num, by omega, by rw [HS.out], hw⟩
        case measure => simp [intOf]; omega
    · obtain rfl : k = row.length := by omega
      go_wp2
      go_ret
      exact ⟨rfl, hw⟩

end Go.Proofs.Ytnmadmcegdpecaa
