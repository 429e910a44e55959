/-
  Whether a model is more than a statement goes over.
-/
import Derived.Test.YtnmadmcegdpecaaAwake07
namespace Go.Proofs.Ytnmadmcegdpecaa
open Go.RowKit

/-- is a model more than a statement goes over? -/
def largeB (W : List (List Int)) (b : List Int) : Bool := decide ((W.length : Int) > 40) || (decide ((b.length : Int) > 40) || W.any fun l => decide ((l.length : Int) > 40))

set_option maxRecDepth 100000 in
set_option maxHeartbeats 1000000 in
theorem large_c (A B : Option Addr) (W : List (List Int)) (b : List Int) (c d : Nat) (w : World) (hA : GridI w A W) (hl : W.length ≤ 9223372036854775807) (hl' : b.length ≤ 9223372036854775807) :
    Calls Try.prog 34 #[mval A W.length c B b.length d] w fun e w' => e = .returned (.bool (largeB W b)) ∧ Below w.heap.size w w' := by
  have hb := below_alloc w (.cells #[.slice A W.length c, .slice B b.length d] 44)
  have hM := row1_new w [.slice A W.length c, .slice B b.length d] 44
  have hA1 := hA.below hb
  simp only [List.toArray] at hM
  go_enter Try.func34, Try.ntmps34
  cases h1 : decide ((W.length : Int) > 40) with
  | true =>
    have HF := hid (show largeB W b = true by simp [largeB, h1])
    go_wp2
    go_ret
    exact ⟨ret_bool HF.out.symm, hb⟩
  | false =>
  cases h2 : decide ((b.length : Int) > 40) with
  | true =>
    have HF := hid (show largeB W b = true by simp [largeB, h1, h2])
    go_wp2
    go_ret
    exact ⟨ret_bool HF.out.symm, hb⟩
  | false =>
    have HF := hid (show largeB W b = W.any fun l => decide ((l.length : Int) > 40) by simp [largeB, h1, h2])
    go_wp2
    generalize w.alloc (.cells #[.slice A W.length c, .slice B b.length d] 44) = V at *
    have cW := hM.cell (k := 0) rfl
    go_loop [3] (fun i => ∃ k : Nat, i = .int .i64 k ∧ k ≤ W.length ∧ (∀ l ∈ W.take k, ¬ ((l.length : Int) > 40))) (fun i => W.length - (intOf i).toNat)
    case atStart => exact ⟨0, rfl, by omega, by simp⟩
    case round =>
      obtain ⟨k, rfl, hk, hall⟩ := hrel
      have HA := hid hall
      clear hall
      by_cases hlt : k < W.length
      · obtain ⟨l, hx⟩ := get_of_lt hlt
        obtain ⟨o1, off, A', c', rfl, hc, hcs, hln⟩ := hA1.at_ hx
        by_cases hn : (l.length : Int) > 40
        · have HT := hid (show (W.any fun l => decide ((l.length : Int) > 40)) = true from List.any_eq_true.2 ⟨l, List.mem_of_getElem? hx, by simpa using hn⟩)
          have hd : decide ((l.length : Int) > 40) = true := by simpa using hn
          go_wp2
          go_ret
          exact ⟨ret_bool (by rw [HF.out, HT.out]), hb⟩
        · have HT := hid (show ∀ m ∈ W.take (k + 1), ¬ ((m.length : Int) > 40) by
            intro m hm
            rw [take_snoc' hx] at hm
            rcases List.mem_append.1 hm with h | h
            · exact HA.out m h
            · simp only [List.mem_singleton] at h; subst h; exact hn)
          go_wp2
          go_round
          case rel => exact ⟨k + 1, by go_num, by omega, HT.out⟩
          case measure => simp [intOf]; omega
      · obtain rfl : k = W.length := by omega
        go_wp2
        go_ret
        refine ⟨ret_bool ?_, hb⟩
        rw [HF.out]
        symm
        rw [List.any_eq_false]
        intro l hl2
        have := HA.out l (by rw [List.take_length]; exact hl2)
        simpa using this

end Go.Proofs.Ytnmadmcegdpecaa
