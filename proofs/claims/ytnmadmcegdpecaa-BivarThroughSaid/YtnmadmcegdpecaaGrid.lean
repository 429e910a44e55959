/-
  Lists of lists: how they lie in memory; how wide they are.
-/
import Derived.Test.YtnmadmcegdpecaaEval
namespace Go.Proofs.Ytnmadmcegdpecaa
open Go.RowKit

/-- a value that reads as a list of uint64s. -/
def RowV (w : World) (v : Value) (l : List Int) : Prop := ∃ A c, v = .slice A l.length c ∧ Cells w A (l.map (.int .u64)) ∧ l.length ≤ 9223372036854775807
theorem RowV.keep {w w' : World} {v : Value} {l : List Int} (h : RowV w v l) (hk : ∀ p : Addr, p.block < w.heap.size → w'.cell? p = w.cell? p) : RowV w' v l := by
  obtain ⟨A, c, rfl, h1, h2⟩ := h
  exact ⟨A, c, rfl, h1.keep hk, h2⟩
/-- the slice at A reads as these lists. -/
def Grid (w : World) (A : Option Addr) (f : List (List Int)) : Prop :=
  ∃ vs : List Value, Cells w A vs ∧ vs.length = f.length ∧ ∀ (i : Nat) (l : List Int), f[i]? = some l → ∃ v, vs[i]? = some v ∧ RowV w v l
theorem Grid.keep {w w' : World} {A : Option Addr} {f : List (List Int)} (h : Grid w A f) (hk : ∀ p : Addr, p.block < w.heap.size → w'.cell? p = w.cell? p) : Grid w' A f := by
  obtain ⟨vs, h1, h2, h3⟩ := h
  exact ⟨vs, h1.keep hk, h2, fun i l hl => let ⟨v, a, b⟩ := h3 i l hl; ⟨v, a, b.keep hk⟩⟩
theorem Grid.below {w w' : World} {A : Option Addr} {f : List (List Int)} (h : Grid w A f) (hb : Below w.heap.size w w') : Grid w' A f := h.keep fun _ hp => hb.cell hp
theorem Grid.dr {w w' : World} {A : Option Addr} {f : List (List Int)} (h : Grid w A f) (hd : Dr w w') : Grid w' A f := by
  obtain ⟨n, rfl⟩ := hd; exact h
theorem Grid.at_ {w : World} {A : Option Addr} {f : List (List Int)} (h : Grid w A f) {k : Nat} {l : List Int} (hk : f[k]? = some l) :
    ∃ b off A' c, A = some ⟨b, off, none⟩ ∧ w.cell? ⟨b, off + k, none⟩ = some (.slice A' l.length c) ∧ Cells w A' (l.map (.int .u64)) ∧ l.length ≤ 9223372036854775807 := by
  obtain ⟨vs, h1, h2, h3⟩ := h
  obtain ⟨v, hv, A', c, rfl, hc, hl⟩ := h3 k l hk
  obtain ⟨b, off, rfl, hcell⟩ := h1.at_ hv
  exact ⟨b, off, A', c, rfl, hcell, hc, hl⟩

/-- how long the longest list is. -/
def wide (f : List (List Int)) : Nat := f.foldl (fun n l => max n l.length) 0
theorem wide_take {f : List (List Int)} {k : Nat} {l : List Int} (h : f[k]? = some l) : wide (f.take (k + 1)) = max (wide (f.take k)) l.length := by
  rw [take_snoc' h]; unfold wide; rw [List.foldl_append]; rfl
theorem foldl_max_ge (f : List (List Int)) : ∀ n : Nat, n ≤ f.foldl (fun n l => max n l.length) n := by
  induction f with
  | nil => intro n; exact Nat.le_refl _
  | cons a f ih => intro n; exact Nat.le_trans (Nat.le_max_left _ _) (ih _)
theorem foldl_max_mem (f : List (List Int)) : ∀ (n : Nat) (l : List Int), l ∈ f → l.length ≤ f.foldl (fun n l => max n l.length) n := by
  induction f with
  | nil => intro n l h; cases h
  | cons a f ih =>
    intro n l h
    rcases List.mem_cons.1 h with rfl | h
    · exact Nat.le_trans (Nat.le_max_right _ _) (foldl_max_ge f _)
    · exact ih _ l h
theorem le_wide {f : List (List Int)} {l : List Int} (h : l ∈ f) : l.length ≤ wide f := foldl_max_mem f 0 l h
theorem foldl_max_le (f : List (List Int)) (m : Nat) (hf : ∀ l ∈ f, l.length ≤ m) : ∀ n : Nat, n ≤ m → f.foldl (fun n l => max n l.length) n ≤ m := by
  induction f with
  | nil => intro n h; exact h
  | cons a f ih =>
    intro n h
    exact ih (fun l hl => hf l (List.mem_cons_of_mem _ hl)) _ (Nat.max_le.2 ⟨h, hf a (List.mem_cons_self ..)⟩)
theorem wide_le {f : List (List Int)} {m : Nat} (hf : ∀ l ∈ f, l.length ≤ m) : wide f ≤ m := foldl_max_le f m hf 0 (Nat.zero_le _)

set_option maxHeartbeats 400000 in
theorem pwide_c (A : Option Addr) (f : List (List Int)) (c : Nat) (w : World) (hA : Grid w A f) (hl : f.length ≤ 9223372036854775807) :
    Calls Try.prog 76 #[.slice A f.length c] w fun e w' => e = .returned (.int .i64 (wide f : Int)) ∧ w = w' := by
  go_enter Try.func76, Try.ntmps76
  go_wp2
  go_loop [3, 5, 8] (fun n _ i => ∃ k : Nat, i = .int .i64 k ∧ k ≤ f.length ∧ n = .int .i64 (wide (f.take k) : Int)) (fun _ _ i => f.length - (intOf i).toNat)
  case atStart => exact ⟨0, rfl, by omega, rfl⟩
  case round =>
    obtain ⟨k, rfl, hk, rfl⟩ := hrel
    by_cases hlt : k < f.length
    · obtain ⟨l, hx⟩ := get_of_lt hlt
      obtain ⟨b, off, A', c', rfl, hc, hcs, hln⟩ := hA.at_ hx
      have hs := wide_take hx
      obtain ⟨n, hn⟩ : ∃ n, wide (f.take k) = n := ⟨_, rfl⟩
      rw [hn] at hs ⊢
      have HS := hid hs
      clear hs hn
      go_wp2
      go_round
      case rel => exact ⟨k + 1, by go_num, by omega, by rw [HS.out]; exact congrArg _ (by omega)⟩
      case measure => simp [intOf]; omega
    · obtain rfl : k = f.length := by omega
      go_wp2
      go_ret
      exact ⟨ret_int (by first | rfl | rw [List.take_length]), rfl⟩

set_option maxHeartbeats 400000 in
theorem rwide_c (A : Option Addr) (f : List (List Int)) (c : Nat) (w : World) (hA : Grid w A f) (hl : f.length ≤ 9223372036854775807) :
    Calls Try.prog 75 #[.slice A f.length c] w fun e w' => e = .returned (.int .i64 (wide f : Int)) ∧ w = w' := by
  go_enter Try.func75, Try.ntmps75
  go_wp2
  go_loop [3, 4] (fun n i => ∃ k : Nat, i = .int .i64 k ∧ k ≤ f.length ∧ n = .int .i64 (wide (f.take k) : Int)) (fun _ i => f.length - (intOf i).toNat)
  case atStart => exact ⟨0, rfl, by omega, rfl⟩
  case round =>
    obtain ⟨k, rfl, hk, rfl⟩ := hrel
    by_cases hlt : k < f.length
    · obtain ⟨l, hx⟩ := get_of_lt hlt
      obtain ⟨b, off, A', c', rfl, hc, hcs, hln⟩ := hA.at_ hx
      have hs := wide_take hx
      obtain ⟨n, hn⟩ : ∃ n, wide (f.take k) = n := ⟨_, rfl⟩
      rw [hn] at hs ⊢
      have HS := hid hs
      clear hs hn
      go_wp2
      go_round
      case rel => exact ⟨k + 1, by go_num, by omega, by rw [HS.out]; exact congrArg _ (by omega)⟩
      case measure => simp [intOf]; omega
    · obtain rfl : k = f.length := by omega
      go_wp2
      go_ret
      exact ⟨ret_int (by first | rfl | rw [List.take_length]), rfl⟩

end Go.Proofs.Ytnmadmcegdpecaa
