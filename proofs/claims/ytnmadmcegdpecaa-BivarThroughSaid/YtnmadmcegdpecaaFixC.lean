/-
  Whether a model, a query may be: the program's.
-/
import Derived.Test.YtnmadmcegdpecaaFixB
namespace Go.Proofs.Ytnmadmcegdpecaa
open Go.RowKit

theorem row1_new (w : World) (xs : List Value) (e : TypeId) : Row1 (w.alloc (.cells xs.toArray e)) w.heap.size e xs := heap_alloc_new w _
theorem below_alloc (w : World) (o : Obj) : Below w.heap.size w (w.alloc o) := (Below.refl _ _).alloc (Nat.le_refl _) _
/-- Below from the start, behind a block that was laid, and a call. -/
theorem below_alloc_next {w w1 : World} {o : Obj} (h : Below (w.alloc o).heap.size (w.alloc o) w1) : Below w.heap.size w w1 := below_next (below_alloc w o) (by simp) h

/-- lists of int64s, as rows. -/
def RowI (w : World) (v : Value) (l : List Int) : Prop := ∃ A c, v = .slice A l.length c ∧ Cells w A (l.map (.int .i64)) ∧ l.length ≤ 9223372036854775807
theorem RowI.keep {w w' : World} {v : Value} {l : List Int} (h : RowI w v l) (hk : ∀ p : Addr, p.block < w.heap.size → w'.cell? p = w.cell? p) : RowI w' v l := by
  obtain ⟨A, c, rfl, h1, h2⟩ := h
  exact ⟨A, c, rfl, h1.keep hk, h2⟩
def GridI (w : World) (A : Option Addr) (f : List (List Int)) : Prop :=
  ∃ vs : List Value, Cells w A vs ∧ vs.length = f.length ∧ ∀ (i : Nat) (l : List Int), f[i]? = some l → ∃ v, vs[i]? = some v ∧ RowI w v l
theorem GridI.keep {w w' : World} {A : Option Addr} {f : List (List Int)} (h : GridI w A f) (hk : ∀ p : Addr, p.block < w.heap.size → w'.cell? p = w.cell? p) : GridI w' A f := by
  obtain ⟨vs, h1, h2, h3⟩ := h
  exact ⟨vs, h1.keep hk, h2, fun i l hl => let ⟨v, a, b⟩ := h3 i l hl; ⟨v, a, b.keep hk⟩⟩
theorem GridI.below {w w' : World} {A : Option Addr} {f : List (List Int)} (h : GridI w A f) (hb : Below w.heap.size w w') : GridI w' A f := h.keep fun _ hp => hb.cell hp
theorem GridI.at_ {w : World} {A : Option Addr} {f : List (List Int)} (h : GridI w A f) {k : Nat} {l : List Int} (hk : f[k]? = some l) :
    ∃ b off A' c, A = some ⟨b, off, none⟩ ∧ w.cell? ⟨b, off + k, none⟩ = some (.slice A' l.length c) ∧ Cells w A' (l.map (.int .i64)) ∧ l.length ≤ 9223372036854775807 := by
  obtain ⟨vs, h1, h2, h3⟩ := h
  obtain ⟨v, hv, A', c, rfl, hc, hl⟩ := h3 k l hk
  obtain ⟨b, off, rfl, hcell⟩ := h1.at_ hv
  exact ⟨b, off, A', c, rfl, hcell, hc, hl⟩
/-- one list alone, in a block of its own. -/
theorem gridI_one {w : World} {g : Nat} {e : TypeId} {A : Option Addr} {l : List Int} {c : Nat} (h : Row1 w g e [.slice A l.length c]) (hc : Cells w A (l.map (.int .i64))) (hl : l.length ≤ 9223372036854775807) : GridI w (some ⟨g, 0, none⟩) [l] := by
  refine ⟨[.slice A l.length c], h.cells, rfl, fun i m hm => ?_⟩
  match i, hm with
  | 0, hm =>
    simp only [List.getElem?_cons_zero, Option.some.injEq] at hm
    subst hm
    exact ⟨_, rfl, A, c, rfl, hc, hl⟩
  | i + 1, hm => simp at hm
def Ints (f : List (List Int)) : Prop := ∀ l ∈ f, I64s l
theorem Ints.at_ {f : List (List Int)} (h : Ints f) {k : Nat} {l : List Int} (hk : f[k]? = some l) : I64s l := h l (List.mem_of_getElem? hk)

set_option maxHeartbeats 400000 in
theorem contI_c (A : Option Addr) (l : List Int) (c : Nat) (B : Nat) (most : Int) (w : World) (hA : Cells w A (l.map (.int .i64))) (hl : l.length ≤ 9223372036854775807) (hu : I64s l) (hB : w.cell? ⟨B, 0, none⟩ = some (.int .i64 most)) (hm : 0 ≤ most) (hm' : most < 9223372036854775808) :
    Calls Try.prog 111 #[.slice A l.length c, .func (.func 112) #[] #[.pointer (some ⟨B, 0, none⟩)]] w fun e w' => e = .returned (.bool (!nears l most)) ∧ w = w' := by
  go_enter Try.func111, Try.ntmps111
  go_wp2_with (fail)
  refine (idxI_c _ _ _ _ _ _ hA hl hu hB hm hm').mono ?_
  rintro e w1 ⟨⟨k, rfl, hk⟩, rfl⟩
  have HK := hid hk
  clear hk
  go_wp2
  go_ret
  exact ⟨ret_bool (by rw [← HK.out]), rfl⟩

/-- all lists of some are near. -/
def allNear (f : List (List Int)) (most : Int) : Bool := f.all fun l => nears l most
theorem allNear_take {f : List (List Int)} {k : Nat} {l : List Int} {most : Int} (h : f[k]? = some l) (h1 : allNear (f.take k) most = true) (h2 : nears l most = true) : allNear (f.take (k + 1)) most = true := by
  unfold allNear at h1 ⊢
  rw [take_snoc' h, List.all_append, h1]; simp [h2]
theorem allNear_false {f : List (List Int)} {k : Nat} {l : List Int} {most : Int} (h : f[k]? = some l) (h2 : nears l most = false) : allNear f most = false := by
  unfold allNear
  rw [List.all_eq_false]
  exact ⟨l, List.mem_of_getElem? h, by simp [h2]⟩

set_option maxHeartbeats 400000 in
theorem fwithin_c (most : Int) (A : Option Addr) (f : List (List Int)) (c : Nat) (w : World) (hA : GridI w A f) (hl : f.length ≤ 9223372036854775807) (hu : Ints f) (hm : 0 ≤ most) (hm' : most < 9223372036854775808) :
    Calls Try.prog 89 #[.int .i64 most, .slice A f.length c] w fun e w' => e = .returned (.bool (allNear f most)) ∧ Below w.heap.size w w' := by
  go_enter Try.func89, Try.ntmps89
  go_wp2
  have hB : (w.alloc (.cells #[.int .i64 most] 2)).cell? ⟨w.heap.size, 0, none⟩ = some (.int .i64 most) := (row1_new w [.int .i64 most] 2).cell (k := 0) rfl
  have hA' := hA.below (below_alloc w (.cells #[.int .i64 most] 2))
  have hbw := below_alloc w (.cells #[.int .i64 most] 2)
  generalize w.alloc (.cells #[.int .i64 most] 2) = W at *
  go_loop [6, 9] (fun _ i => ∃ k : Nat, i = .int .i64 k ∧ k ≤ f.length ∧ allNear (f.take k) most = true) (fun _ i => f.length - (intOf i).toNat)
  case atStart => exact ⟨0, rfl, by omega, by simp [allNear]⟩
  case round =>
    obtain ⟨k, rfl, hk, hall⟩ := hrel
    have HA := hid hall
    clear hall
    by_cases hlt : k < f.length
    · obtain ⟨l, hx⟩ := get_of_lt hlt
      obtain ⟨b, off, A', c', rfl, hc, hcs, hln⟩ := hA'.at_ hx
      cases hn : nears l most with
      | true =>
        have HT := hid (allNear_take hx HA.out hn)
        go_wp2_with (go_at_call 111; refine (contI_c _ _ _ _ _ _ hcs hln (hu.at_ hx) hB hm hm').mono ?_; rintro e w2 ⟨rfl, rfl⟩; rw [hn])
        go_round
        case rel => exact ⟨k + 1, by go_num, by omega, HT.out⟩
        case measure => simp [intOf]; omega
      | false =>
        have HF := hid (allNear_false hx hn)
        go_wp2_with (go_at_call 111; refine (contI_c _ _ _ _ _ _ hcs hln (hu.at_ hx) hB hm hm').mono ?_; rintro e w2 ⟨rfl, rfl⟩; rw [hn])
        go_ret
        exact ⟨ret_bool HF.out.symm, hbw⟩
    · obtain rfl : k = f.length := by omega
      go_wp2
      go_ret
      have := HA.out
      rw [List.take_length] at this
      exact ⟨ret_bool this.symm, hbw⟩

/-- all lists have this length. -/
def allLen (f : List (List Int)) (d : Int) : Bool := f.all fun l => (l.length : Int) == d
theorem allLen_take {f : List (List Int)} {k : Nat} {l : List Int} {d : Int} (h : f[k]? = some l) (h1 : allLen (f.take k) d = true) (h2 : ((l.length : Int) != d) = false) : allLen (f.take (k + 1)) d = true := by
  unfold allLen at h1 ⊢
  rw [take_snoc' h, List.all_append, h1]
  simp at h2 ⊢; exact h2
theorem allLen_false {f : List (List Int)} {k : Nat} {l : List Int} {d : Int} (h : f[k]? = some l) (h2 : ((l.length : Int) != d) = true) : allLen f d = false := by
  unfold allLen
  rw [List.all_eq_false]
  exact ⟨l, List.mem_of_getElem? h, by simpa using h2⟩

set_option maxHeartbeats 400000 in
theorem may1_c (A : Option Addr) (l : List Int) (c B : Nat) (d : Int) (w : World) (hl : l.length ≤ 9223372036854775807) (hB : w.cell? ⟨B, 8, none⟩ = some (.int .i64 d)) :
    Calls Try.prog 88 #[.slice A l.length c, .pointer (some ⟨B, 0, none⟩)] w fun e w' => e = .returned (.bool ((l.length : Int) != d)) ∧ w = w' := by
  go_enter Try.func88, Try.ntmps88
  go_wp2
  go_ret
  exact ⟨rfl, rfl⟩

set_option maxHeartbeats 1000000 in
theorem idxL_c (A : Option Addr) (f : List (List Int)) (c : Nat) (B : Nat) (d : Int) (w : World) (hA : GridI w A f) (hl : f.length ≤ 9223372036854775807) (hB : w.cell? ⟨B, 8, none⟩ = some (.int .i64 d)) :
    Calls Try.prog 110 #[.slice A f.length c, .func (.func 88) #[] #[.pointer (some ⟨B, 0, none⟩)]] w fun e w' => (∃ k : Int, e = .returned (.int .i64 k) ∧ decide (k ≥ 0) = !allLen f d) ∧ w = w' := by
  go_enter Try.func110, Try.ntmps110
  go_wp2
  go_loop [5, 8] (fun _ i => ∃ k : Nat, i = .int .i64 k ∧ k ≤ f.length ∧ allLen (f.take k) d = true) (fun _ i => f.length - (intOf i).toNat)
  case atStart => exact ⟨0, rfl, by omega, by simp [allLen]⟩
  case round =>
    obtain ⟨k, rfl, hk, hall⟩ := hrel
    have HA := hid hall
    clear hall
    by_cases hlt : k < f.length
    · obtain ⟨l, hx⟩ := get_of_lt hlt
      obtain ⟨b, off, A', c', rfl, hc, hcs, hln⟩ := hA.at_ hx
      cases hn : ((l.length : Int) != d) with
      | false =>
        have HT := hid (allLen_take hx HA.out hn)
        go_wp2_with (go_at_call 88; refine (may1_c _ _ _ _ _ _ hln hB).mono ?_; rintro e w2 ⟨rfl, rfl⟩; rw [hn])
        go_round
        case rel => exact ⟨k + 1, by go_num, by omega, HT.out⟩
        case measure => simp [intOf]; omega
      | true =>
        have HF := hid (allLen_false hx hn)
        go_wp2_with (go_at_call 88; refine (may1_c _ _ _ _ _ _ hln hB).mono ?_; rintro e w2 ⟨rfl, rfl⟩; rw [hn])
        go_ret
        exact ⟨⟨(k : Int), rfl, by rw [HF.out]; simp⟩, rfl⟩
    · obtain rfl : k = f.length := by omega
      go_wp2
      go_ret
      refine ⟨⟨-1, rfl, ?_⟩, rfl⟩
      have := HA.out
      rw [List.take_length] at this
      rw [this]; rfl

set_option maxHeartbeats 400000 in
theorem contL_c (A : Option Addr) (f : List (List Int)) (c : Nat) (B : Nat) (d : Int) (w : World) (hA : GridI w A f) (hl : f.length ≤ 9223372036854775807) (hB : w.cell? ⟨B, 8, none⟩ = some (.int .i64 d)) :
    Calls Try.prog 87 #[.slice A f.length c, .func (.func 88) #[] #[.pointer (some ⟨B, 0, none⟩)]] w fun e w' => e = .returned (.bool (!allLen f d)) ∧ w = w' := by
  go_enter Try.func87, Try.ntmps87
  go_wp2_with (fail)
  refine (idxL_c _ _ _ _ _ _ hA hl hB).mono ?_
  rintro e w1 ⟨⟨k, rfl, hk⟩, rfl⟩
  have HK := hid hk
  clear hk
  go_wp2
  go_ret
  exact ⟨ret_bool (by rw [← HK.out]), rfl⟩

end Go.Proofs.Ytnmadmcegdpecaa
