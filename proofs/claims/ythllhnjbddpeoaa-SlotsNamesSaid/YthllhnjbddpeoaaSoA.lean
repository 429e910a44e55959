/-
  Heads that a crash cut; plainly.
-/
import Derived.Test.YthllhnjbddpeoaaSlZ
namespace Go.Proofs.Ythllhnjbddpeoaa
open Go Go.RowKit Go.Maps Go.Shelf Go.Proofs

theorem ba_len (b : ByteArray) : b.data.toList.length = b.size := by rw [Array.length_toList]; rfl
theorem cutd_data {s t : ByteArray} (ht : t.size = 512) {n : Nat} : (cut s t n).data.toList = s.data.toList.take n ++ t.data.toList.drop n := by
  unfold cut
  rw [ByteArray.data_append, Array.toList_append, ByteArray.data_extract, ByteArray.data_extract, Array.toList_extract, Array.toList_extract, List.extract_eq_take_drop, List.extract_eq_take_drop]
  rw [Nat.sub_zero, List.drop_zero, List.take_of_length_le (l := List.drop n t.data.toList) (by rw [List.length_drop, ba_len]; omega)]
theorem numB_zeros_append (i : Nat) (l : List UInt8) : numB (List.replicate i 0 ++ l) = numB l := by
  rw [numB_append, numB_zeros, Nat.zero_mul, Nat.zero_add]
theorem numB_drop_le (k : Nat) (l : List UInt8) : numB (l.drop k) ≤ numB l := by
  have := numB_append (l.take k) (l.drop k)
  rw [List.take_append_drop] at this
  omega
/-- if it is whole where the number's first bytes are cut away, then it was whole. -/
theorem trim {a p q : Nat} (h : a % 256 ^ p = a - a % 256 ^ q) (h0 : 0 < a % 256 ^ p) : a - a % 256 ^ q = a := by
  have h1 : 0 < 256 ^ p := Nat.pow_pos (by omega)
  have h2 : 0 < 256 ^ q := Nat.pow_pos (by omega)
  have h3 := Nat.mod_lt a h1
  have h4 := Nat.mod_lt a h2
  have h5 := Nat.mod_le a (256 ^ q)
  have h6 := Nat.div_add_mod a (256 ^ q)
  have hqp : q ≤ p := by
    rcases Nat.le_total q p with h | h
    · exact h
    · have h7 : 256 ^ p ≤ 256 ^ q := Nat.pow_le_pow_right (by omega) h
      have h8 : 256 ^ q * (a / 256 ^ q) = a % 256 ^ p := by omega
      rcases Nat.eq_zero_or_pos (a / 256 ^ q) with h9 | h9
      · rw [h9] at h8; omega
      · have h10 := Nat.mul_le_mul (Nat.le_refl (256 ^ q)) h9
        omega
  obtain ⟨j, rfl⟩ := Nat.exists_eq_add_of_le hqp
  have h8 : 256 ^ q * (a / 256 ^ q) = a % 256 ^ (q + j) := by omega
  have h9 : a % 256 ^ (q + j) % 256 ^ q = a % 256 ^ q := by
    rw [Nat.pow_add, Nat.mod_mul_right_mod]
  rw [← h8, Nat.mul_mod_right] at h9
  omega
/-- what a sector's first number is, behind so many 00s. -/
abbrev ageB (r : ByteArray) : List UInt8 := r.data.toList.take 8
theorem w8_first (r : ByteArray) : w8 r 0 = numB (ageB r) := by
  unfold w8 ageB
  rw [Nat.mul_zero, List.drop_zero]
theorem cutb_data {r : ByteArray} (hr : r.size = 512) {i : Nat} (hi : i ≤ 512) : (cut blk r i).data.toList = List.replicate i 0 ++ r.data.toList.drop i := by
  rw [cutd_data hr, blk_data, List.take_replicate, Nat.min_eq_left hi]
theorem cutb_far {r : ByteArray} (hr : r.size = 512) {i : Nat} (h8 : 8 ≤ i) (hi : i ≤ 512) : ageB (cut blk r i) = List.replicate 8 0 := by
  unfold ageB
  rw [cutb_data hr hi, List.take_append_of_le_length (by rw [List.length_replicate]; exact h8), List.take_replicate, Nat.min_eq_left h8]
theorem cutb_age {r : ByteArray} (hr : r.size = 512) {i : Nat} (h8 : i ≤ 8) : ageB (cut blk r i) = List.replicate i 0 ++ (ageB r).drop i := by
  unfold ageB
  rw [cutb_data hr (by omega), List.take_append, List.take_of_length_le (by rw [List.length_replicate]; exact h8), List.length_replicate, List.drop_take]
theorem cutb_w8 {r : ByteArray} (hr : r.size = 512) {i : Nat} (h8 : i ≤ 8) {k : Nat} (hk : 1 ≤ k) : w8 (cut blk r i) k = w8 r k := by
  unfold w8
  rw [cutb_data hr (by omega), List.drop_append, List.drop_of_length_le (by rw [List.length_replicate]; omega), List.nil_append, List.length_replicate, List.drop_drop]
  congr 3; omega
theorem cutb_size {r : ByteArray} (hr : r.size = 512) {i : Nat} (hi : i ≤ 512) : (cut blk r i).size = 512 := cut_size blk_size hr hi
/-- a head that no cut from its front may make whole. -/
structure Good (c : Nat) (r : ByteArray) : Prop where
  le : (hd r).1 ≤ c
  size : r.size = 512
  cut : ∀ i ≤ 8, numB ((ageB r).drop i) = w8 r 2 → 0 < w8 r 2 → w8 r 0 = w8 r 2
theorem Good.mono {c c' : Nat} {r : ByteArray} (h : Good c r) (hc : c ≤ c') : Good c' r := ⟨Nat.le_trans h.le hc, h.size, h.cut⟩
theorem hd_far {r : ByteArray} (h : w8 r 0 = 0) : hd r = (0, 0) := by
  unfold hd
  rw [if_neg]
  intro h2
  have := h2.2.2.2.2
  omega
theorem Good.hd_cut {c : Nat} {r : ByteArray} (h : Good c r) {i : Nat} (hi : i ≤ 512) : hd (Go.Proofs.Ythllhnjbddpeoaa.cut blk r i) = (0, 0) ∨ hd (Go.Proofs.Ythllhnjbddpeoaa.cut blk r i) = hd r := by
  by_cases h8 : i ≤ 8
  · by_cases hw : Hw (Go.Proofs.Ythllhnjbddpeoaa.cut blk r i)
    · right
      have e0 : w8 (Go.Proofs.Ythllhnjbddpeoaa.cut blk r i) 0 = numB ((ageB r).drop i) := by rw [w8_first, cutb_age h.size h8, numB_zeros_append]
      have e1 := cutb_w8 h.size h8 (k := 1) (by omega)
      have e2 := cutb_w8 h.size h8 (k := 2) (by omega)
      obtain ⟨a1, a2, a3, a4, a5⟩ := hw
      have h3 := h.cut i h8 (by rw [← e0, a4, e2]) (by rw [← e2, ← a4]; exact a5)
      have hw2 : Hw r := ⟨by rw [h.size]; omega, by omega, by omega, h3, by omega⟩
      unfold hd
      rw [if_pos ⟨a1, a2, a3, a4, a5⟩, if_pos hw2]
      have e5 : w8 (Go.Proofs.Ythllhnjbddpeoaa.cut blk r i) 0 = w8 r 0 := by omega
      rw [e5, e1]
    · left
      unfold hd
      rw [if_neg hw]
  · left
    apply hd_far
    rw [w8_first, cutb_far h.size (by omega) hi]
    exact numB_zeros 8
theorem Good.cutb {c : Nat} {r : ByteArray} (h : Good c r) {m : Nat} (hm : m ≤ 512) : Good c (Go.Proofs.Ythllhnjbddpeoaa.cut blk r m) := by
  refine ⟨?_, cutb_size h.size hm, fun i hi h1 h2 => ?_⟩
  · rcases h.hd_cut hm with e | e
    · rw [e]; exact Nat.zero_le _
    · rw [e]; exact h.le
  · by_cases h8 : m ≤ 8
    · have e2 := cutb_w8 h.size h8 (k := 2) (by omega)
      rw [e2] at h1 h2 ⊢
      rw [w8_first, cutb_age h.size h8, numB_zeros_append]
      rw [cutb_age h.size h8] at h1
      have key : numB ((ageB r).drop (max i m)) = w8 r 2 := by
        rw [← h1, List.drop_append, List.length_replicate, List.drop_replicate, numB_zeros_append, List.drop_drop]
        congr 2; omega
      have h3 := h.cut (max i m) (by omega) key h2
      have h4 : numB ((ageB r).drop (max i m)) ≤ numB ((ageB r).drop m) := by
        have := numB_drop_le (max i m - m) ((ageB r).drop m)
        rw [List.drop_drop] at this
        rwa [show m + (max i m - m) = max i m by omega] at this
      have h5 := numB_drop_le m (ageB r)
      rw [w8_first] at h3
      omega
    · rw [cutb_far h.size (by omega) hm, List.drop_replicate, numB_zeros] at h1
      omega
theorem good_blk (c : Nat) : Good c blk := by
  refine ⟨by rw [hd_blk]; exact Nat.zero_le _, blk_size, fun i _ h1 h2 => ?_⟩
  have : ageB blk = List.replicate 8 0 := by unfold ageB; rw [blk_data, List.take_replicate]; rfl
  rw [this, List.drop_replicate, numB_zeros] at h1
  omega
theorem numB_trunc {a : Nat} (ha : a < 18446744073709551616) {K : Nat} (hK : K ≤ 8) : numB ((num8 a).take K ++ List.replicate (8 - K) 0) = a - a % 256 ^ (8 - K) := by
  have h1 := numB_append ((num8 a).take K) ((num8 a).drop K)
  rw [List.take_append_drop, numB_num8 ha, List.length_drop, num8_len] at h1
  have h2 : numB ((num8 a).drop K) = a % 256 ^ (8 - K) := by unfold num8; rw [digs_drop, numB_digs]
  rw [numB_append, numB_zeros, List.length_replicate]
  omega
/-- a new head, as far as a crash let it by. -/
theorem torn_data {a n : Nat} {j : Nat} : (cut (pad (headS a n)) blk j).data.toList = (num8 a ++ num8 n ++ num8 a ++ List.replicate 488 0).take j ++ List.replicate (512 - j) 0 := by
  rw [cutd_data blk_size, pad_data, headS_data, headS_size, blk_data, List.drop_replicate]
set_option maxRecDepth 100000 in
theorem torn_two {a n : Nat} (ha : a < 18446744073709551616) {j : Nat} (hj : j ≤ 512) : w8 (cut (pad (headS a n)) blk j) 2 = a - a % 256 ^ (8 - min 8 (j - 16)) := by
  unfold w8
  rw [torn_data, ← numB_trunc ha (Nat.min_le_left ..)]
  congr 1
  rw [List.drop_append, List.drop_take, List.length_take]
  have e1 : (num8 a ++ num8 n ++ num8 a ++ List.replicate 488 0).drop (8 * 2) = num8 a ++ List.replicate 488 0 := by
    rw [List.append_assoc, List.drop_append_of_le_length (by simp [num8_len]), List.drop_of_length_le (by simp [num8_len]), List.nil_append]
  have e2 : (num8 a ++ num8 n ++ num8 a ++ List.replicate 488 0).length = 512 := by rw [List.length_append, List.length_append, List.length_append, num8_len, num8_len, List.length_replicate]
  rw [e1, e2, List.drop_replicate, List.take_append (l₁ := num8 a), num8_len, List.take_replicate]
  by_cases h8 : j - 16 ≤ 8
  · rw [Nat.min_eq_right h8, show min (j - 8 * 2 - 8) 488 = 0 by omega, List.replicate_zero, List.append_nil, List.take_append, List.take_take, List.length_take, num8_len, List.take_replicate]
    congr 2
    · congr 1; omega
    · omega
  · rw [Nat.min_eq_left (by omega), List.take_append_of_le_length (by rw [List.length_append, List.length_take, num8_len, List.length_replicate]; omega)]
    rw [List.take_append, List.take_take, List.length_take, num8_len, List.take_replicate]
    congr 2
    all_goals first | omega | (congr 1; omega)
theorem torn_one {a n : Nat} {j : Nat} (hj : 16 < j) : ageB (cut (pad (headS a n)) blk j) = num8 a ∧ w8 (cut (pad (headS a n)) blk j) 1 = numB (num8 n) := by
  have e : ∃ l, (num8 a ++ num8 n ++ num8 a ++ List.replicate 488 0).take j ++ List.replicate (512 - j) 0 = num8 a ++ (num8 n ++ l) := by
    refine ⟨(num8 a ++ List.replicate 488 0).take (j - 16) ++ List.replicate (512 - j) 0, ?_⟩
    rw [show num8 a ++ num8 n ++ num8 a ++ List.replicate 488 0 = (num8 a ++ num8 n) ++ (num8 a ++ List.replicate 488 0) by simp only [List.append_assoc]]
    rw [List.take_append, List.take_of_length_le (i := j) (l := num8 a ++ num8 n) (by simp [num8_len]; omega)]
    simp only [List.length_append, num8_len, List.append_assoc]
  obtain ⟨l, e⟩ := e
  refine ⟨?_, ?_⟩
  · unfold ageB
    rw [torn_data, e, List.take_append_of_le_length (by rw [num8_len]; omega), List.take_of_length_le (by rw [num8_len]; omega)]
  · unfold w8
    rw [torn_data, e, List.drop_append_of_le_length (by rw [num8_len]; omega), List.drop_of_length_le (by rw [num8_len]; omega), List.nil_append, List.take_append_of_le_length (by rw [num8_len]; omega), List.take_of_length_le (by rw [num8_len]; omega)]
theorem torn_hd {a n : Nat} (ha : a ≤ maxN) (hn : n ≤ roomN) {j : Nat} (hj : j ≤ 512) : hd (cut (pad (headS a n)) blk j) = (0, 0) ∨ hd (cut (pad (headS a n)) blk j) = (a, n) := by
  have ha2 : a < 18446744073709551616 := by unfold maxN at ha; omega
  have hn2 : n < 18446744073709551616 := by unfold roomN at hn; omega
  by_cases hw : Hw (cut (pad (headS a n)) blk j)
  · right
    have h2 := torn_two (n := n) ha2 hj
    have hw2 := hw
    obtain ⟨a1, a2, a3, a4, a5⟩ := hw2
    have hj2 : 16 < j := by
      rcases Nat.lt_or_ge 16 j with h | h
      · exact h
      · rw [show min 8 (j - 16) = 0 by omega, Nat.sub_zero, p256_8, Nat.mod_eq_of_lt ha2, Nat.sub_self] at h2
        omega
    obtain ⟨e1, e2⟩ := torn_one (a := a) (n := n) hj2
    unfold hd
    rw [if_pos hw, w8_first, e1, e2, numB_num8 ha2, numB_num8 hn2]
  · left
    unfold hd
    rw [if_neg hw]
theorem good_torn {a n c : Nat} (ha : a ≤ maxN) (hn : n ≤ roomN) (hc : a ≤ c) {j : Nat} (hj : j ≤ 512) : Good c (cut (pad (headS a n)) blk j) := by
  have ha2 : a < 18446744073709551616 := by unfold maxN at ha; omega
  refine ⟨?_, cut_size (pad_size (by rw [headS_size]; omega)) blk_size hj, fun i hi h1 h2 => ?_⟩
  · rcases torn_hd ha hn hj with e | e
    · rw [e]; exact Nat.zero_le _
    · rw [e]; exact hc
  · have h3 := torn_two (n := n) ha2 hj
    have hj2 : 16 < j := by
      rcases Nat.lt_or_ge 16 j with h | h
      · exact h
      · rw [show min 8 (j - 16) = 0 by omega, Nat.sub_zero, p256_8, Nat.mod_eq_of_lt ha2, Nat.sub_self] at h3
        omega
    obtain ⟨e1, _⟩ := torn_one (a := a) (n := n) hj2
    have e4 : numB ((num8 a).drop i) = a % 256 ^ (8 - i) := by unfold num8; rw [digs_drop, numB_digs]
    rw [e1, e4, h3] at h1
    rw [h3] at h2 ⊢
    rw [w8_first, e1, numB_num8 ha2]
    exact (trim h1 (by omega)).symm
theorem good_head {a n c : Nat} (ha : a ≤ maxN) (hn : n ≤ roomN) (hc : a ≤ c) : Good c (pad (headS a n)) := by
  have := good_torn ha hn hc (Nat.le_refl 512)
  rwa [cut_full (pad_size (by rw [headS_size]; omega))] at this
end Go.Proofs.Ythllhnjbddpeoaa
