/-
  The reference's products of polynomials; degrees.
-/
import Derived.Test.YtnmadmcegdpecaaPolC
namespace Go.Proofs.Ytnmadmcegdpecaa
open Go.RowKit

attribute [local go_sem] Oper.semAt_some

theorem timesL_at (a b : List Int) (q : Int) {n : Nat} (h : n < a.length + b.length - 1) : (timesL a b q)[n]? = some (tAt a b q n (n + 1)) := by
  unfold timesL; rw [List.getElem?_map, List.getElem?_range h]; rfl

set_option maxRecDepth 100000 in
set_option maxHeartbeats 4000000 in
theorem rtimes_c (A B : Option Addr) (a b : List Int) (c d : Nat) (q : Int) (w : World) (hA : Cells w A (a.map (.int .u64))) (hB : Cells w B (b.map (.int .u64))) (hl : a.length ≤ 1000000) (hl' : b.length ≤ 1000000) (hu : U64s a) (hu' : U64s b) (hq : U64 q) :
    Calls Try.prog 67 #[.slice A a.length c, .slice B b.length d, .int .u64 q] w (NewNums (pTimes a b q) w) := by
  by_cases hall : okm q = true ∧ 0 < a.length ∧ 0 < b.length
  · obtain ⟨h, ha, hb⟩ := hall
    have hps : Hid (pTimes a b q = timesL a b q) := hid (by unfold pTimes; rw [if_pos ⟨h, ha, hb⟩])
    have hlen : (timesL a b q).length = a.length + b.length - 1 := by simp [timesL]
    have HL := hid hlen
    clear hlen
    go_enter Try.func67, Try.ntmps67
    go_wp2
    go_loopw [7, 8, 9, 10] (fun o i _ _ wr => ∃ j : Nat, i = .int .i64 j ∧ j ≤ a.length + b.length - 1 ∧ Own wr w.heap.size 23 o (((timesL a b q).take j).map (.int .u64)) ∧ Below w.heap.size w wr) (fun _ i _ _ _ => a.length + b.length - (intOf i).toNat)
    case atStart => exact ⟨0, rfl, by omega, by simpa using Own.nil w w.heap.size 23, Below.refl _ _⟩
    case round =>
      obtain ⟨n, rfl, hn, hown, hbw⟩ := hrel
      by_cases hlt : n < a.length + b.length - 1
      · have hat := timesL_at a b q hlt
        have hs : ((timesL a b q).take n).map (Value.int .u64) ++ [Value.int .u64 (tAt a b q n (n + 1))] = ((timesL a b q).take (n + 1)).map (Value.int .u64) := by
          rw [take_snoc' hat]; simp
        have hlen2 : (((timesL a b q).take n).map (Value.int .u64)).length = n := by have := HL.out; simp; omega
        have hlti : (n : Int) < (a.length : Int) + (b.length : Int) - 1 := by omega
        have HT := hid (⟨hs, hlen2⟩ : _ ∧ _)
        clear hat hs hlen2
        go_wp2_with (go_at_call 103; refine (rmay3_c _ hq _).mono ?_; rintro e w' ⟨rfl, rfl⟩; rw [h])
        generalize wr = wo at *
        go_loopw [9, 10] (fun s i w4 => ∃ k : Nat, i = .int .i64 k ∧ k ≤ n + 1 ∧ s = .int .u64 (tAt a b q n k) ∧ Dr wo w4) (fun _ i _ => n + 1 - (intOf i).toNat)
        case atStart => exact ⟨0, rfl, by omega, rfl, Dr.refl _⟩
        case round =>
          obtain ⟨i, rfl, hi, rfl, hw⟩ := hrel
          rename_i wr
          have hbw2 := below_dr hbw hw
          by_cases hlt2 : i ≤ n
          · obtain ⟨e, he⟩ : ∃ e, n = i + e := ⟨n - i, by omega⟩
            have hj' : (n : Int) - (i : Int) = (e : Int) := by omega
            have hsu := tAt_u64 a b q n i
            by_cases hia : i < a.length
            · by_cases heb : e < b.length
              · obtain ⟨x, hx⟩ := get_of_lt hia
                obtain ⟨y, hy⟩ := get_of_lt heb
                have hst := tAt_step (q := q) hlt2 hx (show b[n - i]? = some y by rw [show n - i = e by omega]; exact hy)
                obtain ⟨o1, off1, rfl, hcx⟩ := (hA.keep fun p hp => hbw2.cell hp).at_map hx
                obtain ⟨o2, off2, rfl, hcy⟩ := (hB.keep fun p hp => hbw2.cell hp).at_map hy
                have hux := hu.at_ hx
                have huy := hu'.at_ hy
                have HST := hid hst
                generalize tAt a b q n i = v at *
                clear hx hy hst
                have HE := hid he
                clear he
                go_wp2
                go_quiet (first | (go_at_call 78; exact quiet_dr (rmul_c _ _ _ hux huy hq _)) | (go_at_call 80; exact quiet_dr (radd_c _ _ _ hsu (mMul_u64 _ _ _) hq _)))
                go_wp2
                go_roundw
                case rel => exact ⟨i + 1, by go_num, by omega, by rw [HST.out], hw.more _⟩
                case measure => simp [intOf]; omega
              · have hst := tAt_same (a := a) (b := b) (q := q) (n := n) (i := i) (by omega)
                go_wp2
                go_roundw
                case rel => exact ⟨i + 1, by go_num, by omega, by rw [hst], hw⟩
                case measure => simp [intOf]; omega
            · have hst := tAt_same (a := a) (b := b) (q := q) (n := n) (i := i) (by omega)
              go_wp2
              go_roundw
              case rel => exact ⟨i + 1, by go_num, by omega, by rw [hst], hw⟩
              case measure => simp [intOf]; omega
          · obtain rfl : i = n + 1 := by omega
            go_wp2_with (at_builtin; refine wpList_push elt_u64 _ rfl _ _ rfl w.heap.size (hown.dr hw) rfl (.int .u64 (tAt a b q n (n + 1))) rfl rfl (by rw [HT.out.2]; omega) (by rw [HT.out.2]; omega) (by have := hbw2.size; omega) ?_; intro v' w3 hown5 _ hb5)
            go_roundw
            case rel =>
              rw [HT.out.1] at hown5
              exact ⟨n + 1, by go_num, by omega, hown5, hbw2.trans hb5⟩
            case measure => simp [intOf]; omega
      · obtain rfl : n = a.length + b.length - 1 := by omega
        have hlti : ¬ ((a.length + b.length - 1 : Nat) : Int) < (a.length : Int) + (b.length : Int) - 1 := by omega
        go_wp2_with (go_at_call 103; refine (rmay3_c _ hq _).mono ?_; rintro e w' ⟨rfl, rfl⟩; rw [h])
        go_ret
        rw [List.take_of_length_le (by rw [HL.out]; exact Nat.le_refl _)] at hown
        exact ⟨_, rfl, by rw [hps.out]; exact hown, hbw⟩
  · have hps : pTimes a b q = [] := by unfold pTimes; rw [if_neg hall]
    rw [hps]
    go_enter Try.func67, Try.ntmps67
    go_wp2
    go_loopw [7, 8, 9, 10] (fun o i _ _ wr => o = .slice none 0 0 ∧ i = .int .i64 0 ∧ w = wr) (fun _ _ _ _ _ => 0)
    case atStart => exact ⟨rfl, rfl, rfl⟩
    case round =>
      obtain ⟨rfl, rfl, rfl⟩ := hrel
      cases h : okm q with
      | false =>
        go_wp2_with (go_at_call 103; refine (rmay3_c _ hq _).mono ?_; rintro e w' ⟨rfl, rfl⟩; rw [h])
        go_ret
        exact ⟨_, rfl, Own.nil _ _ _, Below.refl _ _⟩
      | true =>
        have hz : ¬ 0 < a.length ∨ (0 < a.length ∧ ¬ 0 < b.length) := by
          rcases Nat.eq_zero_or_pos a.length with h1 | h1
          · exact .inl (by omega)
          · exact .inr ⟨h1, fun h2 => hall ⟨h, h1, h2⟩⟩
        clear hall
        rcases hz with h1 | ⟨h1, h2⟩
        all_goals
          go_wp2_with (go_at_call 103; refine (rmay3_c _ hq _).mono ?_; rintro e w' ⟨rfl, rfl⟩; rw [h])
          go_ret
          exact ⟨_, rfl, Own.nil _ _ _, Below.refl _ _⟩

end Go.Proofs.Ytnmadmcegdpecaa
