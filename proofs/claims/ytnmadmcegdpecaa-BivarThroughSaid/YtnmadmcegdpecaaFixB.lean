/-
  Whether lists of whole numbers are near to 0: the program's, with the library's loops and a function that is handed to them.
-/
import Derived.Test.YtnmadmcegdpecaaFixA
namespace Go.Proofs.Ytnmadmcegdpecaa
open Go.RowKit

set_option maxHeartbeats 400000 in
theorem near1_c (n : Int) (B : Nat) (most : Int) (w : World) (hn : I64 n) (hB : w.cell? ⟨B, 0, none⟩ = some (.int .i64 most)) (hm : 0 ≤ most) (hm' : most < 9223372036854775808) :
    Calls Try.prog 112 #[.int .i64 n, .pointer (some ⟨B, 0, none⟩)] w fun e w' => e = .returned (.bool (!near n most)) ∧ w = w' := by
  obtain ⟨n1, n2⟩ := hn
  by_cases h1 : n < -most
  · have hd : decide (n < -most) = true := by simpa using h1
    have hf : near n most = false := by simp [near]; omega
    have HF := hid hf
    clear hf h1
    go_enter Try.func112, Try.ntmps112
    go_wp2
    go_ret
    exact ⟨ret_bool (by rw [HF.out]; rfl), rfl⟩
  · have hd : decide (n < -most) = false := by simpa using h1
    have hf : near n most = decide (n ≤ most) := by
      unfold near
      rw [show decide (-most ≤ n) = true by simp; omega]; rfl
    have HF := hid hf
    clear hf h1
    go_enter Try.func112, Try.ntmps112
    go_wp2
    go_ret
    refine ⟨ret_bool ?_, rfl⟩
    rw [HF.out]
    by_cases h2 : n ≤ most <;> simp [h2] <;> omega

/-- all of a list are near. -/
def nears (l : List Int) (most : Int) : Bool := l.all fun n => near n most
theorem nears_take {l : List Int} {k : Nat} {x most : Int} (h : l[k]? = some x) (h1 : nears (l.take k) most = true) (h2 : near x most = true) : nears (l.take (k + 1)) most = true := by
  unfold nears at h1 ⊢
  rw [take_snoc' h, List.all_append, h1]; simp [h2]
theorem nears_false {l : List Int} {k : Nat} {x most : Int} (h : l[k]? = some x) (h2 : near x most = false) : nears l most = false := by
  unfold nears
  rw [List.all_eq_false]
  exact ⟨x, List.mem_of_getElem? h, by simp [h2]⟩

def I64s (l : List Int) : Prop := ∀ z ∈ l, I64 z
theorem I64s.at_ {l : List Int} (h : I64s l) {k : Nat} {z : Int} (hk : l[k]? = some z) : I64 z := h z (List.mem_of_getElem? hk)

set_option maxHeartbeats 1000000 in
theorem idxI_c (A : Option Addr) (l : List Int) (c : Nat) (B : Nat) (most : Int) (w : World) (hA : Cells w A (l.map (.int .i64))) (hl : l.length ≤ 9223372036854775807) (hu : I64s l) (hB : w.cell? ⟨B, 0, none⟩ = some (.int .i64 most)) (hm : 0 ≤ most) (hm' : most < 9223372036854775808) :
    Calls Try.prog 119 #[.slice A l.length c, .func (.func 112) #[] #[.pointer (some ⟨B, 0, none⟩)]] w fun e w' => (∃ k : Int, e = .returned (.int .i64 k) ∧ decide (k ≥ 0) = !nears l most) ∧ w = w' := by
  go_enter Try.func119, Try.ntmps119
  go_wp2
  go_loop [5, 8] (fun _ i => ∃ k : Nat, i = .int .i64 k ∧ k ≤ l.length ∧ nears (l.take k) most = true) (fun _ i => l.length - (intOf i).toNat)
  case atStart => exact ⟨0, rfl, by omega, by simp [nears]⟩
  case round =>
    obtain ⟨k, rfl, hk, hall⟩ := hrel
    have HA := hid hall
    clear hall
    by_cases hlt : k < l.length
    · obtain ⟨x, hx⟩ := get_of_lt hlt
      obtain ⟨b, off, rfl, hc⟩ := hA.at_map hx
      cases hn : near x most with
      | true =>
        have HT := hid (nears_take hx HA.out hn)
        go_wp2_with (go_at_call 112; refine (near1_c _ _ _ _ (hu.at_ hx) hB hm hm').mono ?_; rintro e w2 ⟨rfl, rfl⟩; rw [hn])
        go_round
        case rel => exact ⟨k + 1, by go_num, by omega, HT.out⟩
        case measure => simp [intOf]; omega
      | false =>
        have HF := hid (nears_false hx hn)
        go_wp2_with (go_at_call 112; refine (near1_c _ _ _ _ (hu.at_ hx) hB hm hm').mono ?_; rintro e w2 ⟨rfl, rfl⟩; rw [hn])
        go_ret
        exact ⟨⟨(k : Int), rfl, by rw [HF.out]; simp⟩, rfl⟩
    · obtain rfl : k = l.length := by omega
      go_wp2
      go_ret
      refine ⟨⟨-1, rfl, ?_⟩, rfl⟩
      have := HA.out
      rw [List.take_length] at this
      rw [this]; rfl

end Go.Proofs.Ytnmadmcegdpecaa
