/-
  The document's tally: the rounds in which anything was sent; a copy.
-/
import Derived.Test.YtnngnekfgijejaaTalY
namespace Go.Proofs.Ytnngnekfgijejaa
open Go.RowKit Go.Maps Go.Shelf Go.Proofs

/-- the rounds of the first j votes. -/
def rndTo (L : List Vt) (j : Nat) : List Int := Lib.compactUpTo (rds L).toArray j
theorem rndTo_all (L : List Vt) : rndTo L L.length = rndL L := by
  unfold rndTo rndL Lib.compact
  rw [show (rds L).length = L.length by simp [rds]]
theorem rds_at {L : List Vt} {j : Nat} {v : Vt} (h : L[j]? = some v) : (rds L).toArray[j]! = v.rd := by
  have : (rds L)[j]? = some v.rd := by rw [rds, List.getElem?_map, h]; rfl
  simp [this]
theorem rndTo_step {L : List Vt} {j : Nat} {v : Vt} (h : L[j]? = some v) {b : Bool} (hb : Lib.keeps (rds L).toArray j = b) : rndTo L (j + 1) = rndTo L j ++ if b = true then [v.rd] else [] := by
  unfold rndTo
  rw [Lib.compactUpTo_succ, rds_at h, hb]
theorem keeps_first {L : List Vt} : Lib.keeps (rds L).toArray 0 = true := Lib.keeps_lt_one _ 0 (by omega)
theorem keeps_prev {L : List Vt} {i j : Nat} {v u : Vt} (h : L[j]? = some v) (hi : i + 1 = j) (hu : L[i]? = some u) : Lib.keeps (rds L).toArray j = (u.rd != v.rd) := by
  subst hi
  have e1 := rds_at h
  have e2 := rds_at hu
  cases hc : (u.rd != v.rd)
  · refine Lib.keeps_neg (by omega) ?_
    rw [Nat.add_sub_cancel, e1, e2]
    simpa [bne] using Eq.symm (by simpa [bne] using hc : u.rd = v.rd)
  · refine Lib.keeps_pos ?_
    rw [Nat.add_sub_cancel, e1, e2]
    intro e
    rw [e] at hc
    simp [bne] at hc
theorem rndTo_len (L : List Vt) (j : Nat) : (rndTo L j).length ≤ j := by
  unfold rndTo Lib.compactUpTo
  rw [List.length_map]
  exact Nat.le_trans (List.length_filter_le _ _) (by simp)
set_option maxRecDepth 100000 in
set_option maxHeartbeats 2000000 in
theorem rrounds_c (g gl : Nat) (n : Int) (L : List Vt) (w : World) (h : RTly w g gl n L) (hl : L.length ≤ 10000) :
    Calls Try.prog 46 #[.pointer (some ⟨g, 0, none⟩)] w fun e w' => ∃ v, e = .returned v ∧ Own w' w.heap.size 3 v ((rndL L).map (.int .i64)) ∧ Below w.heap.size w w' := by
  obtain ⟨A, c, hr, hc, -⟩ := h
  have c1 := hr.cell (k := 1) rfl
  go_enter Try.func46, Try.ntmps46
  go_wp2
  go_loopw [3, 4] (fun o i wr => ∃ j : Nat, i = .int .i64 j ∧ j ≤ L.length ∧ Own wr w.heap.size 3 o ((rndTo L j).map (.int .i64)) ∧ Below w.heap.size w wr) (fun _ i _ => L.length - (intOf i).toNat)
  case atStart => exact ⟨0, rfl, by omega, Own.nil _ _ _, Below.refl _ _⟩
  case round =>
    obtain ⟨j, rfl, hj, hown, hb⟩ := hrel
    replace hc := hc.below hb
    have c2 := (hr.below hb).cell (k := 1) rfl
    have hg := hr.lt
    clear c1
    have hsz := hb.size
    have hrl := rndTo_len L j
    by_cases hlt : j < L.length
    · obtain ⟨v, hv⟩ := get_of_lt hlt
      obtain ⟨b, off, rfl, hbl, d0, d1, d2, d3, d4⟩ := hc.at_ hv
      by_cases hj0 : j = 0
      · subst hj0
        have HS := hid (rndTo_step hv (keeps_first (L := L)))
        clear hv d0 d2 d3 d4
        simp only [Nat.zero_mul, Nat.add_zero] at d1
        go_wp2
        go_quiet (fail)
        generalize hwd : World.drewN wr _ = wd
        have hd : Dr wr wd := ⟨_, hwd.symm⟩
        have f1 : wd.cell? ⟨b, off + 1, none⟩ = some (.int .i64 v.rd) := by rw [← hwd]; exact d1
        have c3 := ((hr.below hb).dr hd).cell (k := 1) rfl
        have own3 := hown.dr hd
        have hb3 := below_dr hb hd
        have hsz3 := hb3.size
        have HL := hid (show ((rndTo L 0).map (Value.int .i64)).length = (rndTo L 0).length by simp)
        clear hwd c2 d1 hown hc hd hb
        go_wp2_with (at_builtin; refine wpList_push elt_int wd rfl _ _ rfl w.heap.size own3 rfl (.int .i64 v.rd) rfl rfl (by rw [HL.out]; omega) (by rw [HL.out]; omega) hsz3 ?_; intro v' w3 hown3 hk3 hb4)
        go_roundw
        case rel => exact ⟨1, by go_num, by omega, by rw [HS.out, List.map_append]; exact hown3, hb3.trans hb4⟩
        case measure => simp [intOf]; omega
      · obtain ⟨i, hi⟩ : ∃ i, i + 1 = j := ⟨j - 1, by omega⟩
        obtain ⟨u, hu⟩ := get_of_lt (show i < L.length by omega)
        obtain ⟨b', off', he, hbl', f0, f1, f2, f3, f4⟩ := hc.at_ hu
        injection he with he
        injection he with he1 he2
        subst he1 he2
        have hsub : (j : Int) - 1 = (i : Int) := by omega
        have hje : ((j : Int) == 0) = false := by simp [hj0]
        have hil : i < L.length := by omega
        have hpos : 0 < j := by omega
        have HK := hid (keeps_prev hv hi hu)
        have HV := hid hv
        clear hv hu d0 d2 d3 d4 f0 f2 f3 f4 hi hj0
        cases e1 : (u.rd != v.rd)
        · have HS := hid (rndTo_step HV.out (HK.out.trans e1))
          go_wp2
          go_quiet (fail)
          go_wp2
          go_roundw
          case rel => exact ⟨j + 1, by go_num, by omega, by rw [HS.out]; simpa using hown.dr ⟨_, rfl⟩, below_dr hb ⟨_, rfl⟩⟩
          case measure => simp [intOf]; omega
        · have HS := hid (rndTo_step HV.out (HK.out.trans e1))
          go_wp2
          go_quiet (fail)
          generalize hwd : World.drewN wr _ = wd
          have hd : Dr wr wd := ⟨_, hwd.symm⟩
          have f1 : wd.cell? ⟨b, off + j * 5 + 1, none⟩ = some (.int .i64 v.rd) := by rw [← hwd]; exact d1
          have c3 := ((hr.below hb).dr hd).cell (k := 1) rfl
          have own3 := hown.dr hd
          have hb3 := below_dr hb hd
          have hsz3 := hb3.size
          have HL := hid (show ((rndTo L j).map (Value.int .i64)).length = (rndTo L j).length by simp)
          clear hwd c2 d1 hown hc hd hb
          go_wp2_with (at_builtin; refine wpList_push elt_int wd rfl _ _ rfl w.heap.size own3 rfl (.int .i64 v.rd) rfl rfl (by rw [HL.out]; omega) (by rw [HL.out]; omega) hsz3 ?_; intro v' w3 hown3 hk3 hb4)
          go_roundw
          case rel => exact ⟨j + 1, by go_num, by omega, by rw [HS.out, List.map_append]; exact hown3, hb3.trans hb4⟩
          case measure => simp [intOf]; omega
    · obtain rfl : j = L.length := by omega
      rw [rndTo_all] at hown
      go_wp2
      go_ret
      exact ⟨_, rfl, hown, hb⟩
end Go.Proofs.Ytnngnekfgijejaa
