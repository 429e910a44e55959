/-
  The document's tally: its votes in a row of cells; new, the counts, a proposal.
-/
import Derived.Test.YtnngnekfgijejaaTalV
import Derived.BigQuiet
namespace Go.Proofs.Ytnngnekfgijejaa
open Go.RowKit Go.Maps Go.Shelf Go.Proofs

/-- the document's tally of n members, at block g, its votes in block gl. -/
def RTly (w : World) (g gl : Nat) (n : Int) (L : List Vt) : Prop :=
  ∃ A c, Row1 w g 82 [.int .i64 n, .slice A L.length c] ∧ CellsV w A L ∧ ((L = [] ∧ A = none ∧ c = 0) ∨ A = some ⟨gl, 0, none⟩) ∧ L.length ≤ c
section
variable {w w' : World} {g gl : Nat} {n : Int} {L : List Vt}
theorem CellsV.keep2 {A : Option Addr} (h : CellsV w A L) (ha : L = [] ∨ A = some ⟨gl, 0, none⟩) (hk : L = [] ∨ w'.heap[gl]? = w.heap[gl]?) : CellsV w' A L := by
  rcases ha with rfl | rfl
  · exact .inl rfl
  · rcases hk with rfl | hk
    · exact .inl rfl
    · rcases h with h | ⟨b, off, e, h⟩
      · exact .inl h
      · injection e with e
        injection e with e1 e2
        subst e1 e2
        refine .inr ⟨gl, 0, rfl, fun i u hu => ?_⟩
        have := h i u hu
        unfold World.cell? at this ⊢
        rw [hk]
        exact this
theorem RTly.keep (h : RTly w g gl n L) (h1 : w'.heap[g]? = w.heap[g]?) (h2 : L = [] ∨ w'.heap[gl]? = w.heap[gl]?) : RTly w' g gl n L := by
  obtain ⟨A, c, hr, hc, ha⟩ := h
  exact ⟨A, c, hr.keep h1, hc.keep2 (ha.1.imp (·.1) id) h2, ha⟩
theorem RTly.lt (h : RTly w g gl n L) : g < w.heap.size := by
  obtain ⟨A, c, hr, -, -⟩ := h
  exact hr.lt
theorem RTly.below (h : RTly w g gl n L) (hb : Below w.heap.size w w') : RTly w' g gl n L := by
  obtain ⟨A, c, hr, hc, ha⟩ := h
  exact ⟨A, c, hr.below hb, hc.below hb, ha⟩
theorem RTly.grown (h : RTly w g gl n L) {r : Nat} (hg : w.grownBy w' (some r)) (h1 : r ≠ g) (h2 : r ≠ gl) : RTly w' g gl n L := by
  refine h.keep (hg.block g h.lt fun e => h1 (Option.some.inj e).symm) ?_
  obtain ⟨A, c, hr, hc, ha, -⟩ := h
  rcases ha with ⟨rfl, -, -⟩ | rfl
  · exact .inl rfl
  · rcases hc with hc | ⟨b, off, e, hc⟩
    · left
      cases L with
      | nil => rfl
      | cons v L => simp [vcl] at hc
    · cases L with
      | nil => exact .inl rfl
      | cons v L =>
        injection e with e
        injection e with e1 e2
        subst e1 e2
        have := hc 0 (.int .i64 v.fr) rfl
        exact .inr (hg.block gl (lt_of_cell this) fun e => h2 (Option.some.inj e).symm)
end

set_option maxRecDepth 100000 in
theorem rnew_ok (n : Int) (w : World) (h1 : 1 ≤ n) (h2 : n ≤ 7) :
    Calls Try.prog 24 #[.int .i64 n] w fun e w' => e = .returned (.tuple #[.pointer (some ⟨w.heap.size, 0, none⟩), .int .i64 0]) ∧ RTly w' w.heap.size w.heap.size n [] ∧ Below w.heap.size w w' := by
  have d1 : decide (n < 1) = false := decide_eq_false (by omega)
  have d2 : decide (n > 7) = false := decide_eq_false (by omega)
  have hb := below_alloc w (.cells #[.int .i64 n, .slice none 0 0] 82)
  have hr := row1_new w [.int .i64 n, .slice none 0 0] 82
  simp only [List.toArray] at hr
  go_enter Try.func24, Try.ntmps24
  go_wp2
  go_ret2
  exact ⟨rfl, ⟨none, 0, hr, .inl rfl, .inl ⟨rfl, rfl, rfl⟩, Nat.le_refl _⟩, hb⟩
set_option maxRecDepth 100000 in
theorem rnew_no (n : Int) (w : World) (h : n < 1 ∨ 7 < n) :
    Calls Try.prog 24 #[.int .i64 n] w fun e w' => e = .returned (.tuple #[.pointer none, .int .i64 1]) ∧ w = w' := by
  cases d1 : decide (n < 1) with
  | true =>
    go_enter Try.func24, Try.ntmps24
    go_wp2
    go_ret2
    exact ⟨rfl, rfl⟩
  | false =>
    have d2 : decide (n > 7) = true := decide_eq_true (by simp at d1; omega)
    go_enter Try.func24, Try.ntmps24
    go_wp2
    go_ret2
    exact ⟨rfl, rfl⟩

theorem cnt_take {p : Vt → Bool} {L : List Vt} {k : Nat} {v : Vt} (h : L[k]? = some v) : cntN p (L.take (k + 1)) = cntN p (L.take k) + if p v = true then 1 else 0 := by
  rw [List.take_add_one, h]
  exact cntN_snoc _ _ _
theorem cnt_no {a m : Nat} {b : Bool} (h : a = m + if b = true then 1 else 0) (hb : b = false) : Hid (a = m) := hid (by rw [h, hb]; rfl)
theorem cnt_yes {a m : Nat} {b : Bool} (h : a = m + if b = true then 1 else 0) (hb : b = true) : Hid (a = m + 1) := hid (by rw [h, hb]; rfl)
theorem cnt_len {p : Vt → Bool} {L : List Vt} {k : Nat} : cntN p (L.take k) ≤ k := by
  have h1 : cntN p (L.take k) ≤ (L.take k).length := List.length_filter_le _ _
  rw [List.length_take] at h1
  omega

set_option maxRecDepth 100000 in
set_option maxHeartbeats 1000000 in
theorem rall_c (g gl : Nat) (n : Int) (L : List Vt) (r k : Int) (w : World) (h : RTly w g gl n L) (hl : L.length ≤ 10000) :
    Calls Try.prog 48 #[.pointer (some ⟨g, 0, none⟩), .int .i64 r, .int .u8 k] w fun e w' => e = .returned (.int .i64 (cntN (pAll r k) L)) ∧ w = w' := by
  obtain ⟨A, c, hr, hc, -⟩ := h
  have c1 := hr.cell (k := 1) rfl
  clear hr
  go_enter Try.func48, Try.ntmps48
  go_wp2
  go_loopw [7, 8] (fun s i wr => ∃ j : Nat, i = .int .i64 j ∧ j ≤ L.length ∧ s = .int .i64 (cntN (pAll r k) (L.take j)) ∧ w = wr) (fun _ i _ => L.length - (intOf i).toNat)
  case atStart => exact ⟨0, rfl, by omega, rfl, rfl⟩
  case round =>
    obtain ⟨j, rfl, hj, rfl, rfl⟩ := hrel
    by_cases hlt : j < L.length
    · obtain ⟨v, hv⟩ := get_of_lt hlt
      obtain ⟨b, off, rfl, hbl, d0, d1, d2, d3, d4⟩ := hc.at_ hv
      have hs := cnt_take (p := pAll r k) hv
      have hle := cnt_len (p := pAll r k) (L := L) (k := j)
      have HS := hid hs
      have HP := hid (show pAll r k v = ((v.rd == r) && (v.kd == k)) from rfl)
      generalize cntN (pAll r k) (L.take j) = m at *
      clear hv hs
      cases e1 : (v.rd == r)
      · have hq := cnt_no HS.out (HP.out.trans (by rw [e1]; rfl))
        go_wp2
        go_roundw
        case rel => exact ⟨j + 1, by go_num, by omega, by rw [hq.out], trivial⟩
        case measure => simp [intOf]; omega
      · cases e2 : (v.kd == k)
        · have hq := cnt_no HS.out (HP.out.trans (by rw [e1, e2]; rfl))
          go_wp2
          go_roundw
          case rel => exact ⟨j + 1, by go_num, by omega, by rw [hq.out], trivial⟩
          case measure => simp [intOf]; omega
        · have hq := cnt_yes HS.out (HP.out.trans (by rw [e1, e2]; rfl))
          go_wp2
          go_roundw
          case rel => exact ⟨j + 1, by go_num, by omega, by rw [hq.out]; go_num, trivial⟩
          case measure => simp [intOf]; omega
    · obtain rfl : j = L.length := by omega
      rw [List.take_length]
      go_wp2
      go_ret
      exact ⟨rfl, rfl⟩
set_option maxRecDepth 100000 in
set_option maxHeartbeats 1000000 in
theorem rcount_c (g gl : Nat) (n : Int) (L : List Vt) (r k : Int) (s : ByteArray) (w : World) (h : RTly w g gl n L) (hl : L.length ≤ 10000) :
    Calls Try.prog 47 #[.pointer (some ⟨g, 0, none⟩), .int .i64 r, .int .u8 k, .string s] w fun e w' => e = .returned (.int .i64 (cntN (pCnt r k s) L)) ∧ w = w' := by
  obtain ⟨A, c, hr, hc, -⟩ := h
  have c1 := hr.cell (k := 1) rfl
  clear hr
  go_enter Try.func47, Try.ntmps47
  go_wp2
  go_loopw [9, 10] (fun q i wr => ∃ j : Nat, i = .int .i64 j ∧ j ≤ L.length ∧ q = .int .i64 (cntN (pCnt r k s) (L.take j)) ∧ w = wr) (fun _ i _ => L.length - (intOf i).toNat)
  case atStart => exact ⟨0, rfl, by omega, rfl, rfl⟩
  case round =>
    obtain ⟨j, rfl, hj, rfl, rfl⟩ := hrel
    by_cases hlt : j < L.length
    · obtain ⟨v, hv⟩ := get_of_lt hlt
      obtain ⟨b, off, rfl, hbl, d0, d1, d2, d3, d4⟩ := hc.at_ hv
      have hs := cnt_take (p := pCnt r k s) hv
      have hle := cnt_len (p := pCnt r k s) (L := L) (k := j)
      have HS := hid hs
      have HP := hid (show pCnt r k s v = ((v.rd == r) && (v.kd == k) && (v.tx.toList == s.toList)) from rfl)
      generalize cntN (pCnt r k s) (L.take j) = m at *
      clear hv hs
      cases e1 : (v.rd == r)
      · have hq := cnt_no HS.out (HP.out.trans (by rw [e1]; rfl))
        go_wp2
        go_roundw
        case rel => exact ⟨j + 1, by go_num, by omega, by rw [hq.out], trivial⟩
        case measure => simp [intOf]; omega
      · cases e2 : (v.kd == k)
        · have hq := cnt_no HS.out (HP.out.trans (by rw [e1, e2]; rfl))
          go_wp2
          go_roundw
          case rel => exact ⟨j + 1, by go_num, by omega, by rw [hq.out], trivial⟩
          case measure => simp [intOf]; omega
        · cases e3 : (v.tx.toList == s.toList)
          · have hq := cnt_no HS.out (HP.out.trans (by rw [e1, e2, e3]; rfl))
            go_wp2
            go_roundw
            case rel => exact ⟨j + 1, by go_num, by omega, by rw [hq.out], trivial⟩
            case measure => simp [intOf]; omega
          · have hq := cnt_yes HS.out (HP.out.trans (by rw [e1, e2, e3]; rfl))
            go_wp2
            go_roundw
            case rel => exact ⟨j + 1, by go_num, by omega, by rw [hq.out]; go_num, trivial⟩
            case measure => simp [intOf]; omega
    · obtain rfl : j = L.length := by omega
      rw [List.take_length]
      go_wp2
      go_ret
      exact ⟨rfl, rfl⟩
theorem find_take {p : Vt → Bool} {L : List Vt} {k : Nat} {v : Vt} (h : L[k]? = some v) (hn : (L.take k).find? p = none) (hp : p v = false) : (L.take (k + 1)).find? p = none := by
  rw [List.take_add_one, h, List.find?_append, hn]
  simp [hp]
theorem find_hit {p : Vt → Bool} {L : List Vt} {k : Nat} {v : Vt} (h : L[k]? = some v) (hn : (L.take k).find? p = none) (hp : p v = true) : L.find? p = some v := by
  have h1 : L = L.take k ++ L.drop k := (List.take_append_drop k L).symm
  obtain ⟨hk, hv⟩ := List.getElem?_eq_some_iff.1 h
  rw [h1, List.find?_append, hn, List.drop_eq_getElem_cons hk, hv, List.find?_cons, hp]
  rfl
set_option maxRecDepth 100000 in
set_option maxHeartbeats 1000000 in
theorem rprop_c (g gl : Nat) (n : Int) (L : List Vt) (r f : Int) (w : World) (h : RTly w g gl n L) (hl : L.length ≤ 10000) :
    Calls Try.prog 45 #[.pointer (some ⟨g, 0, none⟩), .int .i64 r, .int .i64 f] w fun e w' => e = .returned (propV L r f) ∧ Below w.heap.size w w' := by
  have hb1 := below_alloc w (.cells (vcl zeroVt).toArray 56)
  obtain ⟨A, c, hr, hc, -⟩ := h
  have c1 := hr.cell (k := 1) rfl
  have hg := hr.lt
  clear hr
  simp only [List.toArray] at hb1
  go_enter Try.func45, Try.ntmps45
  go_wp2
  go_loopw [8] (fun i wr => ∃ j : Nat, i = .int .i64 j ∧ j ≤ L.length ∧ (L.take j).find? (fun v => v.at_ r f 2) = none ∧ w.alloc (.cells #[.int .i64 0, .int .i64 0, .int .u8 0, .int .i64 0, .string ⟨#[]⟩] 56) = wr) (fun i _ => L.length - (intOf i).toNat)
  case atStart => exact ⟨0, rfl, by omega, rfl, rfl⟩
  case round =>
    obtain ⟨j, rfl, hj, hfn, rfl⟩ := hrel
    have HFN := hid hfn
    clear hfn
    by_cases hlt : j < L.length
    · obtain ⟨v, hv⟩ := get_of_lt hlt
      obtain ⟨b, off, rfl, hbl, d0, d1, d2, d3, d4⟩ := hc.at_ hv
      have HV := hid hv
      have HA := hid (show v.at_ r f 2 = ((v.rd == r) && (v.fr == f) && (v.kd == 2)) from rfl)
      clear hv
      cases e1 : (v.rd == r)
      · have hq := hid (find_take HV.out HFN.out (HA.out.trans (by rw [e1]; rfl)))
        go_wp2
        go_roundw
        case rel => exact ⟨j + 1, by go_num, by omega, hq.out, trivial⟩
        case measure => simp [intOf]; omega
      · cases e2 : (v.fr == f)
        · have hq := hid (find_take HV.out HFN.out (HA.out.trans (by rw [e1, e2]; rfl)))
          go_wp2
          go_roundw
          case rel => exact ⟨j + 1, by go_num, by omega, hq.out, trivial⟩
          case measure => simp [intOf]; omega
        · cases e3 : (v.kd == 2)
          · have hq := hid (find_take HV.out HFN.out (HA.out.trans (by rw [e1, e2, e3]; rfl)))
            go_wp2
            go_roundw
            case rel => exact ⟨j + 1, by go_num, by omega, hq.out, trivial⟩
            case measure => simp [intOf]; omega
          · have hq := hid (find_hit HV.out HFN.out (HA.out.trans (by rw [e1, e2, e3]; rfl)))
            go_wp2
            exact bodyPost_ret (v := .tuple #[vval v, .bool true]) (by simp [results, Try.results45, go_sem]) rfl ⟨by rw [propV, propL, hq.out]; rfl, below_alloc w _⟩
    · obtain rfl : j = L.length := by omega
      rw [List.take_length] at HFN
      go_wp2
      exact bodyPost_ret (v := .tuple #[vval zeroVt, .bool false]) (by simp [results, Try.results45, go_sem, zeroVt]) rfl ⟨by rw [propV, propL, HFN.out]; rfl, below_alloc w _⟩

theorem sent_step (r : Int) (L : List Vt) (j : Nat) {b : Bool} (h : newAt r L j = b) : sentT r L (j + 1) = sentT r L j + if b = true then 1 else 0 := by rw [← h]; rfl
theorem sent_le (r : Int) (L : List Vt) : ∀ j, sentT r L j ≤ j
  | 0 => Nat.le_refl _
  | j + 1 => by
    have := sent_le r L j
    unfold sentT
    split <;> omega
theorem new_first {r : Int} {L : List Vt} {v : Vt} (h : L[0]? = some v) : newAt r L 0 = (v.rd == r) := by simp [newAt, h]
theorem new_next {r : Int} {L : List Vt} {j : Nat} {v u : Vt} (h : L[j + 1]? = some v) (hu : L[j]? = some u) : newAt r L (j + 1) = ((v.rd == r) && ((u.rd != r) || (u.fr != v.fr))) := by
  simp [newAt, h, hu, bne]
theorem new_prev {r : Int} {L : List Vt} {i j : Nat} {v u : Vt} (h : L[j]? = some v) (hi : i + 1 = j) (hu : L[i]? = some u) : newAt r L j = ((v.rd == r) && ((u.rd != r) || (u.fr != v.fr))) := by
  subst hi
  exact new_next h hu
set_option maxRecDepth 100000 in
set_option maxHeartbeats 2000000 in
theorem rsent_c (g gl : Nat) (n : Int) (L : List Vt) (r : Int) (w : World) (h : RTly w g gl n L) (hl : L.length ≤ 10000) :
    Calls Try.prog 49 #[.pointer (some ⟨g, 0, none⟩), .int .i64 r] w fun e w' => e = .returned (.int .i64 (sentT r L L.length)) ∧ Dr w w' := by
  obtain ⟨A, c, hr, hc, -⟩ := h
  have c1 := hr.cell (k := 1) rfl
  go_enter Try.func49, Try.ntmps49
  go_wp2
  go_loopw [5, 6] (fun s i wr => ∃ j : Nat, i = .int .i64 j ∧ j ≤ L.length ∧ s = .int .i64 (sentT r L j) ∧ Dr w wr) (fun _ i _ => L.length - (intOf i).toNat)
  case atStart => exact ⟨0, rfl, by omega, rfl, Dr.refl w⟩
  case round =>
    obtain ⟨j, rfl, hj, rfl, hd⟩ := hrel
    replace hc := hc.dr hd
    have c2 := (hr.dr hd).cell (k := 1) rfl
    clear c1 hr
    by_cases hlt : j < L.length
    · obtain ⟨v, hv⟩ := get_of_lt hlt
      obtain ⟨b, off, rfl, hbl, d0, d1, d2, d3, d4⟩ := hc.at_ hv
      have hle := sent_le r L j
      by_cases hj0 : j = 0
      · subst hj0
        have HS := sent_step r L 0 (new_first (r := r) hv)
        have HQ := hid HS
        clear hv HS d2 d3 d4
        simp only [Nat.zero_mul, Nat.add_zero] at d0 d1
        cases e1 : (v.rd == r)
        · rw [e1] at HQ
          go_wp2
          go_quiet (fail)
          go_wp2
          go_roundw
          case rel => exact ⟨0 + 1, by go_num, by omega, by rw [HQ.out]; simp, hd.more _⟩
          case measure => simp [intOf]; omega
        · rw [e1] at HQ
          go_wp2
          go_quiet (fail)
          go_wp2
          go_roundw
          case rel => exact ⟨0 + 1, by go_num, by omega, by rw [HQ.out]; simp, hd.more _⟩
          case measure => simp [intOf]; omega
      · obtain ⟨i, hi⟩ : ∃ i, i + 1 = j := ⟨j - 1, by omega⟩
        obtain ⟨u, hu⟩ := get_of_lt (show i < L.length by omega)
        obtain ⟨b', off', he, hbl', f0, f1, f2, f3, f4⟩ := hc.at_ hu
        injection he with he
        injection he with he1 he2
        subst he1 he2
        have HS := sent_step r L j (new_prev (r := r) hv hi hu)
        have hsub : (j : Int) - 1 = (i : Int) := by omega
        have hje : ((j : Int) == 0) = false := by simp [hj0]
        have hil : i < L.length := by omega
        have hpos : 0 < j := by omega
        have HQ := hid HS
        clear hv hu HS d2 d3 d4 f2 f3 f4 hi hj0
        cases e1 : (v.rd == r)
        · rw [e1] at HQ
          go_wp2
          go_quiet (fail)
          go_wp2
          go_roundw
          case rel => exact ⟨j + 1, by go_num, by omega, by rw [HQ.out]; simp, hd.more _⟩
          case measure => simp [intOf]; omega
        · cases e2 : (u.rd != r)
          · cases e3 : (u.fr != v.fr)
            · rw [e1, e2, e3] at HQ
              go_wp2
              go_quiet (fail)
              go_wp2
              go_roundw
              case rel => exact ⟨j + 1, by go_num, by omega, by rw [HQ.out]; simp, hd.more _⟩
              case measure => simp [intOf]; omega
            · rw [e1, e2, e3] at HQ
              go_wp2
              go_quiet (fail)
              go_wp2
              go_roundw
              case rel => exact ⟨j + 1, by go_num, by omega, by rw [HQ.out]; simp, hd.more _⟩
              case measure => simp [intOf]; omega
          · rw [e1, e2] at HQ
            go_wp2
            go_quiet (fail)
            go_wp2
            go_roundw
            case rel => exact ⟨j + 1, by go_num, by omega, by rw [HQ.out]; simp, hd.more _⟩
            case measure => simp [intOf]; omega
    · obtain rfl : j = L.length := by omega
      go_wp2
      go_ret
      exact ⟨rfl, hd⟩
end Go.Proofs.Ytnngnekfgijejaa
