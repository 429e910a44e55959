/-
  RobustLies' helpers: a prime, places, unlike ones, a row.
-/
import Derived.Test.YtmmmdidbnjcooaaDoorRobG
import Derived.Test.YtmmmdidbnjcooaaDoorRobP
namespace Go.Proofs.YtmmmdidbnjcooaaDoor
open Go Go.RowKit Go.Maps Go.Shelf Go.Proofs

attribute [local go_sem] Oper.semAt_some

abbrev someQ : List Int := [11, 13, 23, 101, 65537, 2147483647, 2305843009213693951]
def pickQ (n : Int) : Int := if 7 < n ∧ primeV n = true then n else someQ.getD (n % 7).toNat 0
theorem someQ_ok : ∀ q ∈ someQ, primeV q = true ∧ 7 < q := by
  have h : (someQ.all fun q => primeV q && decide (7 < q)) = true := by decide +kernel
  intro q hq
  have := List.all_eq_true.1 h q hq
  simpa using this
theorem cellQ {w : World} {g : Nat} {e : TypeId} (h : Row1 w g e (someQ.map (.int .u64))) {n : Int} (h0 : 0 ≤ n) : w.cell? ⟨g, (n % 7).toNat, none⟩ = some (.int .u64 (someQ.getD (n % 7).toNat 0)) := by
  have hl : (n % 7).toNat < someQ.length := by simp; omega
  refine h.cell ?_
  rw [List.getElem?_map, List.getD_eq_getElem?_getD, List.getElem?_eq_getElem hl]; rfl
theorem pickQ_ok {n : Int} (_ : 0 ≤ n) : primeV (pickQ n) = true ∧ 7 < pickQ n := by
  unfold pickQ
  split
  · rename_i h1; exact ⟨h1.2, h1.1⟩
  · have hl : (n % 7).toNat < someQ.length := by simp; omega
    rw [List.getD_eq_getElem?_getD, List.getElem?_eq_getElem hl]
    exact someQ_ok _ (List.getElem_mem hl)
set_option maxRecDepth 100000 in
set_option maxHeartbeats 1000000 in
theorem prime05_c (n : Int) (hn : U64 n) (w : World) (hTab : Tabs w) :
    Calls Tryd.prog 24 #[.int .u64 n] w fun e w' => e = .returned (.int .u64 (pickQ n)) ∧ Below w.heap.size w w' := by
  have h0 := hn.lo
  have hB := Bun.nil w
  have h7 := Int.tmod_eq_emod_of_nonneg (b := 7) h0
  obtain ⟨Z, hZ⟩ : ∃ Z, someQ.getD (n % 7).toNat 0 = Z := ⟨_, rfl⟩
  have HZ := hid hZ
  clear hZ
  go_enter Tryd.func24, Tryd.ntmps24
  by_cases hgt : n > 7
  · go_wp2_with (fail)
    refine (prime_c n hn w hTab).mono ?_
    rintro e w2 ⟨rfl, hd⟩
    have hbd := below_dr (Below.refl w.heap.size w) hd
    cases hp : primeV n with
    | true =>
      have HP := hid (show pickQ n = n from if_pos ⟨hgt, hp⟩)
      clear hp
      go_wp2
      go_ret
      exact ⟨by rw [HP.out]; rfl, hbd⟩
    | false =>
      have HP := hid (show pickQ n = someQ.getD (n % 7).toNat 0 from if_neg (by rintro ⟨_, h⟩; rw [hp] at h; cases h))
      replace hB := hB.more hbd
      clear hp
      have hr7 : 0 ≤ n % 7 ∧ n % 7 < 7 := by omega
      go_wp2_with (first | (refine wpList_named hB rfl ?_; clear hB; intro wn gn hB hbn hg; (try rw [hg]); clear hg hbn; have cq := cellQ (hB.row (i := 0) rfl) h0; rw [HZ.out] at cq) | fail)
      go_ret
      exact ⟨by rw [HP.out, HZ.out]; rfl, hB.b⟩
  · have HP := hid (show pickQ n = someQ.getD (n % 7).toNat 0 from if_neg (by rintro ⟨h, _⟩; exact hgt h))
    have hr7 : 0 ≤ n % 7 ∧ n % 7 < 7 := by omega
    go_wp2_with (first | (refine wpList_named hB rfl ?_; clear hB; intro wn gn hB hbn hg; (try rw [hg]); clear hg hbn; have cq := cellQ (hB.row (i := 0) rfl) h0; rw [HZ.out] at cq) | fail)
    go_ret
    exact ⟨by rw [HP.out, HZ.out]; rfl, hB.b⟩
theorem wrap64_small {x : Int} (h0 : 0 ≤ x) (h1 : x < 9223372036854775808) : wrap64 x = x := by
  unfold wrap64
  omega
def Places (t : Nat) (w : World) (e : Ending) (w' : World) : Prop := ∃ (v : Value) (xs : List Int), e = .returned v ∧ Own w' w.heap.size 24 v (xs.map (.int .u64)) ∧ 2 * t + 1 ≤ xs.length ∧ xs.length ≤ 7 ∧ (∀ x ∈ xs, 1 ≤ x ∧ x ≤ 7) ∧ Below w.heap.size w w'
theorem own_snoc {w : World} {b : Nat} {e : TypeId} {v : Value} {xs : List Int} {X : Int} (h : Own w b e v (xs.map (.int .u64) ++ [.int .u64 X])) : Own w b e v ((xs ++ [X]).map (.int .u64)) := by rw [List.map_append]; exact h
set_option maxRecDepth 100000 in
set_option maxHeartbeats 1000000 in
theorem places_c (seed many : Int) (t : Nat) (ht : t ≤ 2) (hs : U64 seed) (hm : I64 many) (w : World) :
    Calls Tryd.prog 25 #[.int .u64 seed, .int .i64 many, .int .i64 (t : Int)] w (Places t w) := by
  have hw : 0 ≤ IntKind.u64.wrap many := by simp [IntKind.wrap, IntKind.signed, IntKind.bits]; omega
  have hr1 := Int.emod_nonneg (IntKind.u64.wrap many) (show 7 - 2 * (t : Int) ≠ 0 by omega)
  have hr2 := Int.emod_lt_of_pos (IntKind.u64.wrap many) (show 0 < 7 - 2 * (t : Int) by omega)
  go_enter Tryd.func25, Tryd.ntmps25
  go_upto_region 4 with (fail)
  generalize IntKind.u64.wrap many % (7 - 2 * (t : Int)) = r at *
  obtain ⟨rn, rfl⟩ : ∃ n : Nat, r = n := ⟨r.toNat, by omega⟩
  try rw [wrap64_small (x := (rn : Int)) (by omega) (by omega)]
  try rw [wrap64_small (x := 2 * (t : Int) + 1 + (rn : Int)) (by omega) (by omega)]
  go_loopw [8, 9] (fun o i wr => ∃ (k : Nat) (xs : List Int), i = .int .i64 (k : Int) ∧ k ≤ 2 * t + 1 + rn ∧ Hid (Own wr w.heap.size 24 o (xs.map (.int .u64)) ∧ xs.length = k ∧ (∀ x ∈ xs, 1 ≤ x ∧ x ≤ 7) ∧ Below w.heap.size w wr)) (fun _ i _ => 2 * t + 1 + rn - (intOf i).toNat)
  case atStart => exact ⟨0, [], rfl, by omega, hid ⟨Own.nil _ _ _, rfl, (fun x h => by cases h), Below.refl _ _⟩⟩
  case round =>
    obtain ⟨k, xs, rfl, hk, HI⟩ := hrel
    by_cases hlt : k < 2 * t + 1 + rn
    · have hB := Bun.nil wr
      have hX := HI.out.1
      have hbl := HI.out.2.2.2
      obtain ⟨A8, c8, e8, _⟩ := hX.form
      subst e8
      have hlX : (xs.map (Value.int .u64)).length ≤ 10 := by rw [List.length_map, HI.out.2.1]; omega
      go_wp2_with (first | (refine wpList_named hB rfl ?_; clear hB; intro wn gn hB hbn hg; (try rw [hg]); clear hg; replace hX := hX.below hbn; clear hbn) | (at_builtin; refine wpList_push_at elt_u64 _ rfl _ _ rfl w.heap.size hX rfl _ _ rfl (hB.row (i := 0) rfl) rfl (by omega) (by omega) (Nat.le_trans hbl.size hB.b.size) ?_; intro v7 w7 ho7 hg7 _))
      have ho8 := own_snoc ho7
      have hV : 0 ≤ IntKind.u64.wrap (seed + IntKind.u64.wrap ((k : Int) * IntKind.u64.wrap (1 + seed.tmod 3))) := by rw [IntKind.wrap_u64]; omega
      obtain ⟨V, hVe⟩ : ∃ V, IntKind.u64.wrap (seed + IntKind.u64.wrap ((k : Int) * IntKind.u64.wrap (1 + seed.tmod 3))) = V := ⟨_, rfl⟩
      rw [hVe] at hV ho8
      have h7 := Int.tmod_eq_emod_of_nonneg (b := 7) hV
      have hX1 : IntKind.u64.wrap (1 + V.tmod 7) = 1 + V % 7 := by rw [h7, IntKind.wrap_u64]; omega
      rw [hX1] at ho8
      have HN := hid (show Own w7 w.heap.size 24 v7 ((xs ++ [1 + V % 7]).map (.int .u64)) ∧ (xs ++ [1 + V % 7]).length = k + 1 ∧ (∀ x ∈ xs ++ [1 + V % 7], 1 ≤ x ∧ x ≤ 7) ∧ Below w.heap.size w w7 from
        ⟨ho8, by simp [HI.out.2.1], fun x hx => by
          rcases List.mem_append.1 hx with h | h
          · exact HI.out.2.2.1 x h
          · obtain rfl := List.mem_singleton.1 h
            omega, (below_next hbl hbl.size hB.b).grown hg7 (Nat.le_trans hbl.size hB.b.size) fun g e => (hX.block g e).1⟩)
      clear ho7 ho8 hX hbl hB hg7 HI
      go_roundw
      case rel => exact ⟨k + 1, _, by go_num, by omega, HN⟩
      case measure => simp [intOf]; omega
    · obtain rfl : k = 2 * t + 1 + rn := by omega
      go_wp2
      go_ret
      exact ⟨_, xs, rfl, HI.out.1, by rw [HI.out.2.1]; omega, by rw [HI.out.2.1]; omega, HI.out.2.2.1, HI.out.2.2.2⟩
end Go.Proofs.YtmmmdidbnjcooaaDoor
