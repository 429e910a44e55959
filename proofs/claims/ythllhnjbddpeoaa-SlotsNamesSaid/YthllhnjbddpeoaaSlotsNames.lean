/-
  The examples of layer 11; the limits; heads that are none, and of one age; nobody's disk.
-/
import Derived.Test.YthllhnjbddpeoaaSoE
import Derived.Test.YthllhnjbddpeoaaSoD
namespace Go.Proofs.Ythllhnjbddpeoaa
open Go Go.RowKit Go.Maps Go.Shelf Go.Proofs Go.ChangeShapes Go.WideShapes Go.ChangeAt

theorem numsS3 (a b c : Int) : (numsS [a, b, c]).data.toList = num8 (u64n a) ++ num8 (u64n b) ++ num8 (u64n c) := by
  unfold numsS numsB
  simp only [List.flatMap_cons, List.flatMap_nil, List.append_nil, List.append_assoc]
theorem numsS3_size (a b c : Int) : (numsS [a, b, c]).size = 24 := by
  rw [← ba_len, numsS3]
  simp only [List.length_append, num8_len]
theorem u64n_lt (a : Int) : u64n a < 18446744073709551616 := by unfold u64n; omega
/-- numbers that are no head. -/
theorem hd_no {a b c : Int} (h : ¬ (u64n a ≤ maxN ∧ u64n b ≤ roomN ∧ u64n a = u64n c ∧ 0 < u64n a)) : hd (pad (numsS [a, b, c])) = (0, 0) := by
  have hd0 : (pad (numsS [a, b, c])).data.toList = num8 (u64n a) ++ (num8 (u64n b) ++ (num8 (u64n c) ++ List.replicate (512 - (numsS [a, b, c]).size) 0)) := by
    rw [pad_data, numsS3]
    simp only [List.append_assoc]
  have h0 : w8 (pad (numsS [a, b, c])) 0 = u64n a := by
    unfold w8
    rw [hd0, Nat.mul_zero, List.drop_zero, List.take_append_of_le_length (by rw [num8_len]; omega), List.take_of_length_le (by rw [num8_len]; omega), numB_num8 (u64n_lt a)]
  have h1 : w8 (pad (numsS [a, b, c])) 1 = u64n b := by
    unfold w8
    rw [hd0, List.drop_append_of_le_length (by rw [num8_len]; omega), List.drop_of_length_le (by rw [num8_len]; omega), List.nil_append, List.take_append_of_le_length (by rw [num8_len]; omega), List.take_of_length_le (by rw [num8_len]; omega), numB_num8 (u64n_lt b)]
  have h2 : w8 (pad (numsS [a, b, c])) 2 = u64n c := by
    unfold w8
    rw [hd0, ← List.append_assoc (num8 (u64n a)), List.drop_append_of_le_length (by rw [List.length_append, num8_len, num8_len]; omega), List.drop_of_length_le (by rw [List.length_append, num8_len, num8_len]; omega), List.nil_append, List.take_append_of_le_length (by rw [num8_len]; omega), List.take_of_length_le (by rw [num8_len]; omega), numB_num8 (u64n_lt c)]
  unfold hd
  rw [if_neg]
  intro hw
  obtain ⟨_, b1, b2, b3, b4⟩ := hw
  rw [h0] at b1 b3 b4
  rw [h1] at b2
  rw [h2] at b3
  exact h ⟨b1, b2, b3, b4⟩
set_option maxRecDepth 100000 in
theorem nums_no (a b c : Int) (w : World) (ha : I64 a) (hb : I64 b) (hc : I64 c) (h : ¬ (u64n a ≤ maxN ∧ u64n b ≤ roomN ∧ u64n a = u64n c ∧ 0 < u64n a)) :
    Calls Try.prog 47 #[.slice (some ⟨w.heap.size, 0, none⟩) 3 3] (w.alloc (.cells #[.int .i64 a, .int .i64 b, .int .i64 c] 3)) fun e w' => ∃ h : ByteArray, e = .returned (.string h) ∧ Hid (h.size = 24 ∧ hd (pad h) = (0, 0)) ∧ Below w.heap.size w w' := by
  refine (numbers_c (some ⟨w.heap.size, 0, none⟩) [a, b, c] 3 (w.alloc (.cells #[.int .i64 a, .int .i64 b, .int .i64 c] 3)) (row1_new w [.int .i64 a, .int .i64 b, .int .i64 c] 3).cells (by simp) (fun x hx => by
    simp only [List.mem_cons, List.not_mem_nil, or_false] at hx
    rcases hx with rfl | rfl | rfl <;> assumption)).mono ?_
  rintro e w1 ⟨rfl, hb1⟩
  have hb0 := below_alloc w (.cells #[.int .i64 a, .int .i64 b, .int .i64 c] 3)
  exact ⟨_, rfl, hid ⟨numsS3_size a b c, hd_no h⟩, below_next hb0 hb0.size hb1⟩
set_option maxRecDepth 100000 in
theorem nums_head (a n : Nat) (w : World) (ha : a ≤ 1000000000000000000) (hn : n ≤ 1000000000000000000) :
    Calls Try.prog 47 #[.slice (some ⟨w.heap.size, 0, none⟩) 3 3] (w.alloc (.cells #[.int .i64 (a : Int), .int .i64 (n : Int), .int .i64 (a : Int)] 3)) fun e w' => e = .returned (.string (headS a n)) ∧ Below w.heap.size w w' := by
  refine (numbers_c (some ⟨w.heap.size, 0, none⟩) [(a : Int), (n : Int), (a : Int)] 3 (w.alloc (.cells #[.int .i64 (a : Int), .int .i64 (n : Int), .int .i64 (a : Int)] 3)) (row1_new w [.int .i64 (a : Int), .int .i64 (n : Int), .int .i64 (a : Int)] 3).cells (by simp) (fun x hx => by
    simp only [List.mem_cons, List.not_mem_nil, or_false] at hx
    rcases hx with rfl | rfl | rfl <;> exact ⟨by omega, by omega⟩)).mono ?_
  rintro e w1 ⟨rfl, hb1⟩
  have hb0 := below_alloc w (.cells #[.int .i64 (a : Int), .int .i64 (n : Int), .int .i64 (a : Int)] 3)
  rw [numsS_head (by omega) (by omega)]
  exact ⟨rfl, below_next hb0 hb0.size hb1⟩
theorem nums_hd (A N : Int) (a n : Nat) (w : World) (hA : A = (a : Int)) (hN : N = (n : Int)) (h0 : 0 < a) (ha : a ≤ maxN) (hn : n ≤ roomN) :
    Calls Try.prog 47 #[.slice (some ⟨w.heap.size, 0, none⟩) 3 3] (w.alloc (.cells #[.int .i64 A, .int .i64 N, .int .i64 A] 3)) fun e w' => ∃ h : ByteArray, e = .returned (.string h) ∧ Hid (h.size = 24 ∧ hd (pad h) = (a, n)) ∧ Below w.heap.size w w' := by
  subst hA
  subst hN
  refine (nums_head a n w (by unfold maxN at ha; omega) (by unfold roomN at hn; omega)).mono ?_
  rintro e w1 ⟨rfl, hb1⟩
  exact ⟨_, rfl, hid ⟨headS_size a n, hd_pad h0 ha hn⟩, hb1⟩
/-- what a disk of two heads tells. -/
theorem raw_tells {a b : ByteArray} (ha : a.size ≤ 512) (hb : b.size ≤ 512) : (rawD a b).newest = newP (pad b) (pad a) ∧ (rawD a b).txt = textP (fun x => if x = 32768 then pad b else if x = 0 then pad a else blk) (newP (pad b) (pad a)) := by
  obtain ⟨hL, _, hC, hP⟩ := raw_live ha hb
  obtain ⟨h1, h2⟩ := live_newest hL.de
  have hv : vw (rawD a b).pc = fun x => if x = 32768 then pad b else if x = 0 then pad a else blk := by
    funext x
    have : (rawD a b).pc = ((rawD a b).P, []) := by unfold Dk.pc; rw [hC]
    rw [this]
    exact hP x
  rw [hv] at h1 h2
  exact ⟨h1, h2⟩
abbrev bX : ByteArray := ⟨#[120]⟩
abbrev bY : ByteArray := ⟨#[121]⟩
abbrev bE : ByteArray := ⟨#[101]⟩
/-- a disk of no head. -/
theorem none_all {h : ByteArray} (h1 : h.size ≤ 512) (h2 : hd (pad h) = (0, 0)) :
    (rawD h ⟨#[]⟩).txt = (⟨#[]⟩, false) ∧ (rawD h ⟨#[]⟩).age = 0 ∧ ∃ d', (rawD h ⟨#[]⟩).slw bX = (0, d') ∧ d'.Ok 200000 ∧ d'.has bX 1 = true := by
  have hz : (⟨#[]⟩ : ByteArray).size ≤ 512 := by decide
  obtain ⟨a1, a2⟩ := raw_tells h1 hz
  obtain ⟨hL, hf, _, _⟩ := raw_live h1 hz
  have hok := rawD_ok h ⟨#[]⟩
  have hnew : newP (pad ⟨#[]⟩) (pad h) = (0, 0, 0) := by
    have hb : hd (pad ⟨#[]⟩) = (0, 0) := by rw [show (⟨#[]⟩ : ByteArray) = s0 from rfl, pad_nil]; exact hd_blk
    unfold newP
    rw [h2, hb]
    rfl
  rw [hnew] at a1 a2
  generalize rawD h ⟨#[]⟩ = d at *
  have hage : d.age = 0 := by unfold Dk.age; rw [a1]
  obtain ⟨d', hn⟩ := slw_next (s := bX) hok hL hf (by decide) (by rw [hage]; decide)
  have h3 := hn.has
  rw [hage] at h3
  exact ⟨a2, hage, d', hn.e, hn.ok.mono (by omega), h3⟩
theorem two_all {a b : ByteArray} (hz1 : a.size ≤ 512) (hz2 : b.size ≤ 512) (h1 : hd (pad a) = (7, 0)) (h2 : hd (pad b) = (7, 1)) : (rawD a b).has ⟨#[]⟩ 7 = true ∧ (rawD a b).Ok 2 := by
  obtain ⟨a1, a2⟩ := raw_tells hz1 hz2
  have hok := rawD_ok a b
  have hnew : newP (pad b) (pad a) = (0, 7, 0) := by
    unfold newP
    rw [h1, h2]
    rfl
  rw [hnew] at a1 a2
  generalize rawD a b = d at *
  have hage : d.age = 7 := by unfold Dk.age; rw [a1]
  refine ⟨has_of (a := 7) (a2.trans ?_) hage, hok⟩
  unfold textP
  rw [if_neg (by simp)]
  simp only [List.take_zero]
theorem full_all {a b : ByteArray} (hz1 : a.size ≤ 512) (hz2 : b.size ≤ 512) (h1 : hd (pad a) = (1, 0)) {N : Nat} (hN : 1 < N) (hM : N = maxN) (h2 : hd (pad b) = (N, 2)) : (rawD a b).Ok 2 ∧ (rawD a b).C = [] ∧ (rawD a b).has ⟨#[0, 0]⟩ (N : Int) = true ∧ (rawD a b).slw ⟨#[]⟩ = (41, rawD a b) ∧ (rawD a b).twice ⟨#[]⟩ = (41, rawD a b) := by
  obtain ⟨a1, a2⟩ := raw_tells hz1 hz2
  obtain ⟨hL, _, hC, _⟩ := raw_live hz1 hz2
  have hok := rawD_ok a b
  have hnew : newP (pad b) (pad a) = (32768, N, 2) := by
    unfold newP
    rw [h1, h2, if_neg (by simp only; omega), if_pos (by simp only; omega)]
  rw [hnew] at a1 a2
  generalize rawD a b = d at *
  have hage : d.age = N := by unfold Dk.age; rw [a1]
  have e41 : d.slw ⟨#[]⟩ = (41, d) := by
    unfold Dk.slw
    rw [hL.de, if_neg (show ¬ roomN < (⟨#[]⟩ : ByteArray).size by decide), if_pos (hage.trans hM)]; rfl
  refine ⟨hok, hC, has_of (a := N) (a2.trans ?_) hage, e41, ?_⟩
  · unfold textP
    rw [if_neg (by simp only; omega)]
    have hs : secs_of 2 = 1 := by decide
    simp only [hs, catS]
    rw [if_neg (by omega), if_neg (by omega), blk_data]
    rfl
  · unfold Dk.twice
    rw [e41, if_neg (by simp)]
theorem last_all {a b : ByteArray} (hz1 : a.size ≤ 512) (hz2 : b.size ≤ 512) (h1 : hd (pad a) = (0, 0)) {N : Nat} (hN : 0 < N) (hM : N + 1 = maxN) (h2 : hd (pad b) = (N, 0)) : ∃ d', (rawD a b).Ok 2 ∧ (rawD a b).C = [] ∧ (rawD a b).twice bY = (41, d') ∧ d'.Ok 200000 ∧ d'.has bY ((N + 1 : Nat) : Int) = true := by
  obtain ⟨a1, _⟩ := raw_tells hz1 hz2
  obtain ⟨hL, hf, hC, _⟩ := raw_live hz1 hz2
  have hok := rawD_ok a b
  have hnew : newP (pad b) (pad a) = (32768, N, 0) := by
    unfold newP
    rw [h1, h2, if_neg (by simp only; omega), if_pos (by simp only; omega)]
  rw [hnew] at a1
  generalize rawD a b = d at *
  have hage : d.age = N := by unfold Dk.age; rw [a1]
  obtain ⟨d1, k1⟩ := slw_next (s := bY) hok hL hf (by decide) (by rw [hage]; omega)
  have hage1 : d1.age = N + 1 := by rw [k1.age, hage]
  have e41 : d1.slw bY = (41, d1) := by
    unfold Dk.slw
    rw [k1.live.de, if_neg (show ¬ roomN < bY.size by decide), if_pos (hage1.trans hM)]; rfl
  refine ⟨d1, hok, hC, ?_, k1.ok.mono (by omega), has_of (a := N + 1) k1.txt hage1⟩
  unfold Dk.twice
  rw [k1.e, if_pos rfl, e41]
/-- the last of the examples, of whatever disk that is new. -/
theorem end_all {d : Dk} (hok : d.Ok 0) (hL : Live d) (hn : d.newest = (0, 0, 0)) {z : ByteArray} (hz : roomN < z.size) :
    d.slw z = (10, d) ∧ d.age = 0 ∧ ∃ d2 d4 d6 : Dk, (d.fuse 0).slw ⟨#[]⟩ = (42, d2) ∧ d2.Ok 100000 ∧ d2.slw z = (42, d2) ∧ d2.txt = (⟨#[]⟩, false) ∧ d2.start.slw ⟨#[]⟩ = (0, d4) ∧ d4.Ok 300000 ∧ d4.C.length ≤ 0 ∧ d4.has ⟨#[]⟩ 1 = true ∧
      d4.twice bE = (0, d6) ∧ d6.Ok 2000000 ∧ d6.has bE 3 = true ∧ d6.plat 32768 = pad (headS 2 1) ∧ d6.plat 0 = pad (headS 3 1) ∧ d6.plat 1 = pad bE ∧ d6.C = [] := by
  have ha : d.age = 0 := by unfold Dk.age; rw [hn]
  have e10 : d.slw z = (10, d) := by
    unfold Dk.slw
    rw [hL.de, if_pos hz]; rfl
  refine ⟨e10, ha, ?_⟩
  have hok2 : (d.fuse 0).Ok 0 := hok.fuse_ ⟨by omega, by omega⟩
  have hL2 : Live (d.fuse 0) := ⟨hL.de, fun _ => Int.le_refl 0⟩
  have hage2 : (d.fuse 0).age ≠ maxN := by show d.age ≠ maxN; rw [ha]; decide
  have hk1 := hok2.slw ⟨#[]⟩
  obtain ⟨y, ey, hst, hk⟩ := slw_dies (s := ⟨#[]⟩) hL2 (by decide) hage2 rfl (by show (0 : Int) < _; unfold lenD; omega)
  have hy : y = d.pc := by
    have hst2 : StAt d.pc (d.fuse 0).place (hdD (d.fuse 0) ⟨#[]⟩) (wOf (d.fuse 0).place ⟨#[]⟩ (usD (d.fuse 0) ⟨#[]⟩)) 0 y := hst
    generalize hk0 : 0 = kk at hst2
    clear hst hk
    generalize wOf (d.fuse 0).place ⟨#[]⟩ (usD (d.fuse 0) ⟨#[]⟩) = W at hst2
    generalize hdD (d.fuse 0) ⟨#[]⟩ = H at hst2
    cases hst2 with
    | s0 => rfl
    | s1 => omega
    | s2 => omega
    | s3 j hj => omega
    | s4 => omega
    | s5 => omega
    | s6 => omega
  subst hy
  rw [ey] at hk1
  have hd2n : (⟨d.pc.1, d.pc.2, true, 0, true⟩ : Dk).start.newest = (0, 0, 0) := by
    obtain ⟨h1, _⟩ := live_newest (d := (⟨d.pc.1, d.pc.2, true, 0, true⟩ : Dk).start) rfl
    rw [h1]
    exact (live_newest hL.de).1.symm.trans hn
  have hd2L : Live (⟨d.pc.1, d.pc.2, true, 0, true⟩ : Dk).start := ⟨rfl, fun e => by have e : false = true := e; cases e⟩
  have hd2z : (⟨d.pc.1, d.pc.2, true, 0, true⟩ : Dk).slw z = (42, ⟨d.pc.1, d.pc.2, true, 0, true⟩) := by unfold Dk.slw; rw [if_pos rfl]
  have hd2t : (⟨d.pc.1, d.pc.2, true, 0, true⟩ : Dk).txt = (⟨#[]⟩, false) := by
    have : (⟨d.pc.1, d.pc.2, true, 0, true⟩ : Dk).txt = textP (⟨d.pc.1, d.pc.2, true, 0, true⟩ : Dk).read (⟨d.pc.1, d.pc.2, true, 0, true⟩ : Dk).newest := rfl
    rw [this, age_dead rfl]; rfl
  have hd2f : (⟨d.pc.1, d.pc.2, true, 0, true⟩ : Dk).start.fu = false := rfl
  generalize (⟨d.pc.1, d.pc.2, true, 0, true⟩ : Dk) = d2 at *
  have hok3 : d2.start.Ok 100000 := (hk1.start).mono (by omega)
  have ha3 : d2.start.age = 0 := by unfold Dk.age; rw [hd2n]
  have hpl3 : d2.start.place = 0 := by
    unfold Dk.place
    rw [ha3, if_neg (by omega), hd2n]
  generalize hd3 : d2.start = d3 at *
  obtain ⟨d4, h4⟩ := slw_next (s := ⟨#[]⟩) hok3 hd2L hd2f (by decide) (by rw [ha3]; decide)
  have ha4 : d4.age = 1 := by rw [h4.age, ha3]
  have hpl4 : d4.place = 32768 := by
    unfold Dk.place
    rw [ha4, if_pos (by omega), h4.new, hpl3]; rfl
  have h5 := slw_ok (s := bE) h4.live (by decide) (by rw [ha4]; decide) (.inl h4.fu)
  have hok5 := h4.ok.slw bE
  have hage5 := h5.age
  have hl5 := h5.live h4.fu
  have hw5 := h5.wrote
  obtain ⟨e5, hC5, hfu5, _, _, hnew5, _, _⟩ := h5
  obtain ⟨⟨e, d5⟩, hd5⟩ : ∃ x, d4.slw bE = x := ⟨_, rfl⟩
  rw [hd5] at e5 hC5 hfu5 hnew5 hage5 hok5 hl5 hw5
  simp only at e5 hC5 hfu5 hnew5 hage5 hok5 hl5 hw5
  subst e5
  have ha5 : d5.age = 2 := by rw [hage5, ha4]
  have hpl5 : d5.place = 0 := by
    unfold Dk.place
    rw [ha5, if_pos (by omega), hnew5, hpl4]; rfl
  have h6 := slw_ok (s := bE) hl5 (by decide) (by rw [ha5]; decide) (.inl (hfu5.trans h4.fu))
  have hok6 := hok5.slw bE
  have hh6 := h6.has
  have hw6 := h6.wrote
  obtain ⟨e6, hC6, _, _, _, _, _, _⟩ := h6
  obtain ⟨⟨e, d6⟩, hd6⟩ : ∃ x, d5.slw bE = x := ⟨_, rfl⟩
  rw [hd6] at e6 hC6 hok6 hh6 hw6
  simp only at e6 hC6 hok6 hh6 hw6
  subst e6
  have ht : d4.twice bE = (0, d6) := by
    unfold Dk.twice
    rw [hd5, if_pos rfl, hd6]
  rw [ha5] at hh6
  rw [hpl5] at hw6
  rw [hpl4] at hw5
  have hv5 : ∀ a, vw d5.pc a = getP d5.P a := fun a => by
    have : d5.pc = (d5.P, []) := by unfold Dk.pc; rw [hC5]
    rw [this]; rfl
  have hq5 : hdD d4 bE = headS 2 1 := by unfold hdD; rw [ha4]; rfl
  have hq6 : hdD d5 bE = headS 3 1 := by unfold hdD; rw [ha5]; rfl
  have hsec : secs_of bE.size = 1 := by decide
  have hp0 := hw6.head
  have hp1 := hw6.chunk 0 (by rw [hsec]; omega)
  have hp2 := hw6.out 32768 (by omega)
  have hp3 := hw5.head
  rw [hv5, hp3, hq5] at hp2
  rw [hq6] at hp0
  have hex : bE.extract (512 * 0) (512 * 0 + 512) = bE := by decide +kernel
  rw [hex] at hp1
  refine ⟨d2, d4, d6, ey, hk1.mono (by omega), hd2z, hd2t, ?_, h4.ok.mono (by omega), by rw [h4.C]; exact Nat.le_refl _, has_of (a := 1) h4.txt ha4, ht, ?_, hh6, hp2, hp0, hp1, hC6⟩
  · rw [hd3]; exact h4.e
  · exact hok6.mono (by omega)
set_option maxRecDepth 100000 in
set_option maxHeartbeats 8000000 in
theorem slotsNames_c (w : World) [DecidableEq Lit] :
    Calls Try.prog 11 #[] w fun e w' => e = .returned (.bool true) ∧ Below w.heap.size w w' := by
  have HAW := hid (fun w' : World => awake_c w')
  have D0 := hid (⟨dk0_ok, dk0_live, dk0_new⟩ : _ ∧ _ ∧ _)
  go_enter Try.func11, Try.ntmps11
  go_wp2_with (fail)
  refine (sread_snil w).mono ?_
  rintro e w1 ⟨rfl, hb1⟩
  go_wp2_with (fail)
  refine (HAW.out w1).mono ?_
  rintro e w2 ⟨rfl, hb2⟩
  replace hb1 := below_next hb1 hb1.size hb2
  clear hb2
  go_wp2_with (fail)
  refine (age_snil w2).mono ?_
  rintro e w3 ⟨rfl, hb2⟩
  replace hb1 := below_next hb1 hb1.size hb2
  clear hb2
  go_wp2_with (fail)
  refine (write_snil ⟨#[]⟩ w3 (by decide)).mono ?_
  rintro e w4 ⟨rfl, hb2⟩
  replace hb1 := below_next hb1 hb1.size hb2
  clear hb2
  go_wp2_with (fail)
  refine (twice_snil ⟨#[]⟩ w4 (by decide)).mono ?_
  rintro e w5 ⟨rfl, hb2⟩
  replace hb1 := below_next hb1 hb1.size hb2
  clear hb2
  go_wp2_with (fail)
  refine (nums_no 0 0 0 w5 ⟨by omega, by omega⟩ ⟨by omega, by omega⟩ ⟨by omega, by omega⟩ (by unfold u64n maxN roomN; omega)).mono ?_
  rintro e y1 ⟨h1, rfl, H1, hb2⟩
  replace hb1 := below_next hb1 hb1.size hb2
  clear hb2
  go_wp2_with (fail)
  refine (nums_no 1 0 2 y1 ⟨by omega, by omega⟩ ⟨by omega, by omega⟩ ⟨by omega, by omega⟩ (by unfold u64n maxN roomN; omega)).mono ?_
  rintro e y2 ⟨h2, rfl, H2, hb2⟩
  replace hb1 := below_next hb1 hb1.size hb2
  clear hb2
  go_wp2_with (fail)
  refine (nums_no 1099511627777 0 1099511627777 y2 ⟨by omega, by omega⟩ ⟨by omega, by omega⟩ ⟨by omega, by omega⟩ (by unfold u64n maxN roomN; omega)).mono ?_
  rintro e y3 ⟨h3, rfl, H3, hb2⟩
  replace hb1 := below_next hb1 hb1.size hb2
  clear hb2
  go_wp2_with (fail)
  refine (nums_no 1 16776705 1 y3 ⟨by omega, by omega⟩ ⟨by omega, by omega⟩ ⟨by omega, by omega⟩ (by unfold u64n maxN roomN; omega)).mono ?_
  rintro e y4 ⟨h4, rfl, H4, hb2⟩
  replace hb1 := below_next hb1 hb1.size hb2
  clear hb2
  go_wp2_with (fail)
  refine (nums_no (-1) 0 (-1) y4 ⟨by omega, by omega⟩ ⟨by omega, by omega⟩ ⟨by omega, by omega⟩ (by unfold u64n maxN roomN; omega)).mono ?_
  rintro e y5 ⟨h5, rfl, H5, hb2⟩
  replace hb1 := below_next hb1 hb1.size hb2
  clear hb2
  go_wp2_with (fail)
  refine (nums_no 1 (-1) 1 y5 ⟨by omega, by omega⟩ ⟨by omega, by omega⟩ ⟨by omega, by omega⟩ (by unfold u64n maxN roomN; omega)).mono ?_
  rintro e y6 ⟨h6, rfl, H6, hb2⟩
  replace hb1 := below_next hb1 hb1.size hb2
  clear hb2
  have hba := below_alloc y6 (.cells #[.string ⟨#[]⟩, .string h1, .string h2, .string h3, .string h4, .string h5, .string h6] 9)
  have hr := row1_new y6 [.string ⟨#[]⟩, .string h1, .string h2, .string h3, .string h4, .string h5, .string h6] 9
  obtain ⟨L, hL⟩ : ∃ L : List ByteArray, L = [⟨#[]⟩, h1, h2, h3, h4, h5, h6] := ⟨_, rfl⟩
  have HC := hid (show Cells (y6.alloc (.cells #[.string ⟨#[]⟩, .string h1, .string h2, .string h3, .string h4, .string h5, .string h6] 9)) (some ⟨y6.heap.size, 0, none⟩) (L.map Value.string) by rw [hL]; exact hr.cells)
  have hLl : L.length = 7 := by rw [hL]; rfl
  have HS := hid (show ∀ h ∈ L, h.size ≤ 512 ∧ hd (pad h) = (0, 0) by
    intro h hh
    rw [hL] at hh
    simp only [List.mem_cons, List.not_mem_nil, or_false] at hh
    rcases hh with rfl | rfl | rfl | rfl | rfl | rfl | rfl
    · refine ⟨by decide, ?_⟩
      rw [show (⟨#[]⟩ : ByteArray) = s0 from rfl, pad_nil]
      exact hd_blk
    · exact ⟨by have := H1.out.1; omega, H1.out.2⟩
    · exact ⟨by have := H2.out.1; omega, H2.out.2⟩
    · exact ⟨by have := H3.out.1; omega, H3.out.2⟩
    · exact ⟨by have := H4.out.1; omega, H4.out.2⟩
    · exact ⟨by have := H5.out.1; omega, H5.out.2⟩
    · exact ⟨by have := H6.out.1; omega, H6.out.2⟩)
  have hbl := below_next hb1 hb1.size hba
  clear hb1 hba hr hL H1 H2 H3 H4 H5 H6
  go_wp2_with (fail)
  generalize y6.alloc (.cells #[.string ⟨#[]⟩, .string h1, .string h2, .string h3, .string h4, .string h5, .string h6] 9) = wL at *
  go_loopw [54] (fun i wr => ∃ k : Nat, i = .int .i64 (k : Int) ∧ k ≤ 7 ∧ Below w.heap.size w wr ∧ Below wL.heap.size wL wr) (fun i _ => 7 - (intOf i).toNat)
  case atStart => exact ⟨0, rfl, by omega, hbl, Below.refl _ _⟩
  case round =>
    obtain ⟨k, rfl, hk, hbw, hbq⟩ := hrel
    by_cases hlt : k < 7
    · obtain ⟨h, hh⟩ := get_of_lt (l := L) (show k < L.length by omega)
      obtain ⟨b2, off2, e2, c0⟩ := (HC.out.below hbq).at_map hh
      cases e2
      rw [Nat.zero_add] at c0
      obtain ⟨hsz, hhd⟩ := HS.out h (List.mem_of_getElem? hh)
      obtain ⟨t1, t2, d', t3, t4, t5⟩ := none_all hsz hhd
      have T1 := hid t1
      have T2 := hid t2
      have T3 := hid t3
      have T5 := hid t5
      clear hh hhd t1 t2 t3 t5 hLl
      go_wp2_with (fail)
      refine (raw_c h ⟨#[]⟩ wr (by omega) (by decide)).mono ?_
      rintro e wa ⟨g, gm, v, rfl, hD, hB⟩
      have hok := rawD_ok h ⟨#[]⟩
      generalize rawD h ⟨#[]⟩ = d at *
      have HR := hid (sreadD_c g gm v d 2 wa hD hok (by omega))
      rw [T1.out] at HR
      go_wp2_with (fail)
      refine HR.out.mono ?_
      rintro e wb ⟨rfl, hbb⟩
      have hDb := hD.below hbb
      have hBb := hB.below hbb
      clear HR hD hB hbb
      have HR := hid (ageD_c g gm v d 2 wb hDb hok (by omega))
      rw [T2.out] at HR
      go_wp2_with (fail)
      refine HR.out.mono ?_
      rintro e wc ⟨rfl, hbb⟩
      have hDc := hDb.below hbb
      have hBc := hBb.below hbb
      clear HR hDb hBb hbb
      have HR := hid (slw_c g gm v d 2 bX wc hDc hok (by omega) (by decide))
      rw [T3.out] at HR
      go_wp2_with (fail)
      refine HR.out.mono ?_
      rintro e wd ⟨vd, rfl, hDd, hTh, hT⟩
      have hBd := hBc.step hTh hT
      clear HR hDc hBc hTh hT
      have HR := hid (has_c g gm vd d' 200000 bX 1 wd hDd t4 (by omega))
      rw [T5.out] at HR
      go_wp2_with (fail)
      refine HR.out.mono ?_
      rintro e we ⟨rfl, hbb⟩
      have hBe := hBd.below hbb
      go_wp2
      go_roundw
      case rel => exact ⟨k + 1, by go_num, by omega, below_next hbw hbw.size hBe.b, below_next hbq hbq.size hBe.b⟩
      case measure => simp [intOf]; omega
    · obtain rfl : k = 7 := by omega
      have hM : Many w wr [] := Many.nil hbw
      clear HC HS hbw hbq hbl hLl hk hlt
      obtain ⟨N, hN⟩ : ∃ N : Nat, N = 1099511627775 := ⟨_, rfl⟩
      go_wp2_with (fail)
      refine (nums_hd 7 0 7 0 wr (by omega) (by omega) (by omega) (by unfold maxN; omega) (by unfold roomN; omega)).mono ?_
      rintro e u1 ⟨p1, rfl, Hp1, hb2⟩
      replace hM := hM.below hb2
      clear hb2
      go_wp2_with (fail)
      refine (nums_hd 7 1 7 1 u1 (by omega) (by omega) (by omega) (by unfold maxN; omega) (by unfold roomN; omega)).mono ?_
      rintro e u2 ⟨p2, rfl, Hp2, hb2⟩
      replace hM := hM.below hb2
      clear hb2
      go_wp2_with (fail)
      refine (raw_c p1 p2 u2 (by have := Hp1.out.1; omega) (by have := Hp2.out.1; omega)).mono ?_
      rintro e u3 ⟨gA, gmA, vA, rfl, hD, hB⟩
      replace hM := hM.add hD hB.g hB.gm hB.v hB.b
      clear hD hB
      have TA := hid (two_all (a := p1) (b := p2) (by have := Hp1.out.1; omega) (by have := Hp2.out.1; omega) Hp1.out.2 Hp2.out.2)
      generalize rawD p1 p2 = dA at *
      clear Hp1 Hp2
      go_wp2_with (fail)
      refine (nums_hd 1 0 1 0 u3 (by omega) (by omega) (by omega) (by unfold maxN; omega) (by unfold roomN; omega)).mono ?_
      rintro e u4 ⟨p3, rfl, Hp3, hb2⟩
      replace hM := hM.below hb2
      clear hb2
      go_wp2_with (fail)
      refine (nums_hd 1099511627776 2 (N + 1) 2 u4 (by omega) (by omega) (by omega) (by unfold maxN; omega) (by unfold roomN; omega)).mono ?_
      rintro e u5 ⟨p4, rfl, Hp4, hb2⟩
      replace hM := hM.below hb2
      clear hb2
      go_wp2_with (fail)
      refine (raw_c p3 p4 u5 (by have := Hp3.out.1; omega) (by have := Hp4.out.1; omega)).mono ?_
      rintro e u6 ⟨gB, gmB, vB, rfl, hD, hB⟩
      replace hM := hM.add hD hB.g hB.gm hB.v hB.b
      clear hD hB
      have TB := hid (full_all (a := p3) (b := p4) (by have := Hp3.out.1; omega) (by have := Hp4.out.1; omega) Hp3.out.2 (N := N + 1) (by omega) (by unfold maxN; omega) Hp4.out.2)
      rw [show ((N + 1 : Nat) : Int) = 1099511627776 by omega] at TB
      generalize rawD p3 p4 = dB at *
      clear Hp3 Hp4
      go_wp2_with (fail)
      refine (nums_hd 1099511627775 0 N 0 u6 (by omega) (by omega) (by omega) (by unfold maxN; omega) (by unfold roomN; omega)).mono ?_
      rintro e u7 ⟨p5, rfl, Hp5, hb2⟩
      replace hM := hM.below hb2
      clear hb2
      go_wp2_with (fail)
      refine (raw_c ⟨#[]⟩ p5 u7 (by decide) (by have := Hp5.out.1; omega)).mono ?_
      rintro e u8 ⟨gC, gmC, vC, rfl, hD, hB⟩
      replace hM := hM.add hD hB.g hB.gm hB.v hB.b
      clear hD hB
      have TC := hid (last_all (a := ⟨#[]⟩) (b := p5) (by decide) (by have := Hp5.out.1; omega) (by rw [show (⟨#[]⟩ : ByteArray) = s0 from rfl, pad_nil]; exact hd_blk) (N := N) (by omega) (by unfold maxN; omega) Hp5.out.2)
      rw [show ((N + 1 : Nat) : Int) = 1099511627776 by omega] at TC
      generalize rawD ⟨#[]⟩ p5 = dC at *
      clear Hp5
      obtain ⟨dC2, okC, cC, tC, okC2, hC2⟩ := TC.out
      obtain ⟨okB, cB, hB2, sB, tB⟩ := TB.out
      obtain ⟨hA2, okA⟩ := TA.out
      have HA2 := hid hA2
      have HB2 := hid hB2
      have SB := hid sB
      have TB := hid tB
      have TC := hid tC
      have HC2 := hid hC2
      clear hA2 hB2 sB tB tC hC2 TA
      have H := hid (has_c gA gmA vA dA 2 ⟨#[]⟩ 7 u8 (hM.at_ 2 rfl) okA (by omega))
      rw [HA2.out] at H
      go_wp2_with (fail)
      refine H.out.mono ?_
      rintro e u9 ⟨rfl, hb⟩
      replace hM := hM.below hb
      clear H hb
      have H := hid (has_c gB gmB vB dB 2 ⟨#[0, 0]⟩ 1099511627776 u9 (hM.at_ 1 rfl) okB (by omega))
      rw [HB2.out] at H
      go_wp2_with (fail)
      refine H.out.mono ?_
      rintro e ua ⟨rfl, hb⟩
      replace hM := hM.below hb
      clear H hb
      have H := hid (slw_c gB gmB vB dB 2 ⟨#[]⟩ ua (hM.at_ 1 rfl) okB (by omega) (by decide))
      rw [SB.out] at H
      go_wp2_with (fail)
      refine H.out.mono ?_
      rintro e ub ⟨vB2, rfl, hD, hTh, hT⟩
      replace hM := hM.set 1 rfl hD hTh hT
      clear H hD hTh hT
      have H := hid (twice2_c gB gmB vB2 dB 2 98303 ⟨#[]⟩ ub (hM.at_ 1 rfl) okB (by omega) (by rw [cB]; exact Nat.zero_le _) (by omega) (by omega) (by decide))
      rw [TB.out] at H
      go_wp2_with (fail)
      refine H.out.mono ?_
      rintro e uc ⟨vB3, rfl, hD, hTh, hT⟩
      replace hM := hM.set 1 rfl hD hTh hT
      clear H hD hTh hT
      have H := hid (twice2_c gC gmC vC dC 2 98303 bY uc (hM.at_ 0 rfl) okC (by omega) (by rw [cC]; exact Nat.zero_le _) (by omega) (by omega) (by decide))
      rw [TC.out] at H
      go_wp2_with (fail)
      refine H.out.mono ?_
      rintro e ud ⟨vC2, rfl, hD, hTh, hT⟩
      replace hM := hM.set 0 rfl hD hTh hT
      clear H hD hTh hT
      have H := hid (has_c gC gmC vC2 dC2 200000 bY 1099511627776 ud (hM.at_ 0 rfl) okC2 (by omega))
      rw [HC2.out] at H
      go_wp2_with (fail)
      refine H.out.mono ?_
      rintro e ue ⟨rfl, hb⟩
      replace hM := hM.below hb
      clear H hb
      have hbe := hM.b
      clear hM okA okB okC okC2 cB cC HA2 HB2 SB TB TC HC2
      obtain ⟨N2, hN2⟩ : ∃ N2 : Nat, N2 = 16776705 := ⟨_, rfl⟩
      go_wp2_with (fail)
      refine (dnew_c ue).mono ?_
      rintro e uf ⟨g, gm, rfl, hD, hg, hgm, hb⟩
      have hM : Many w uf [⟨g, gm, _, dk0⟩] := (Many.nil hbe).add hD hg hgm (fun b h => by cases h) hb
      clear hD hg hgm hb hbe
      have HN3 := hid (show (16776705 : Int) = (N2 : Int) by omega)
      have HN2 := hid hN2
      have hN2b : N2 ≤ 20000000 := by omega
      clear hN2
      go_wp2_with (at_make; refine wpList_make_row elt_u8 _ rfl _ _ rfl .i64 .i64 (16776705 : Int) (16776705 : Int) N2 rfl rfl HN3.out HN3.out (by omega) (by omega) ?_; intro ug hr hsz hk; have hcv := conv_zeros hr)
      replace hM := hM.below hk
      have HZ := hid (show (zs N2).size = 16776705 by rw [zs_size]; exact HN2.out)
      have hZ2 : (zs N2).size ≤ 20000000 := by rw [zs_size]; omega
      clear hr hsz hk hcv HN3
      generalize zs N2 = Z at *
      obtain ⟨e1, a0, d2, d4, d6, e2, ok2, e3, t2, e4, ok4, c4, h4, e5, ok6, h6, p1, p0, p2, c6⟩ := end_all D0.out.1 D0.out.2.1 D0.out.2.2 (z := Z) (by rw [HZ.out]; decide)
      have ok0 := D0.out.1
      have E1 := hid e1
      have A0 := hid a0
      have E2 := hid e2
      have E3 := hid e3
      have T2 := hid t2
      have E4 := hid e4
      have H4 := hid h4
      have E5 := hid e5
      have H6 := hid h6
      have P1 := hid p1
      have P0 := hid p0
      have P2 := hid p2
      have okF : (dk0.fuse 0).Ok 0 := ok0.fuse_ ⟨by omega, by omega⟩
      have okS := ok2.start
      clear e1 a0 e2 e3 t2 e4 h4 e5 h6 p1 p0 p2 D0
      generalize dk0 = d0 at *
      have H := hid (slw_c g gm _ d0 0 Z ug (hM.at_ 0 rfl) ok0 (by omega) (by omega))
      rw [E1.out] at H
      go_wp2_with (fail)
      refine H.out.mono ?_
      rintro e uh ⟨v1, rfl, hD, hTh, hT⟩
      replace hM := hM.set 0 rfl hD hTh hT
      clear H hD hTh hT
      have H := hid (ageD_c g gm v1 d0 0 uh (hM.at_ 0 rfl) ok0 (by omega))
      rw [A0.out] at H
      go_wp2_with (fail)
      refine H.out.mono ?_
      rintro e ui ⟨rfl, hb⟩
      replace hM := hM.below hb
      clear H hb
      have H := hid (fuse_c g gm v1 d0 0 ui (hM.at_ 0 rfl) ⟨by omega, by omega⟩)
      go_wp2_with (fail)
      refine H.out.mono ?_
      rintro e uj ⟨rfl, hD, hT⟩
      replace hM := hM.set 0 rfl hD Then.refl hT
      clear H hD hT
      have H := hid (slw_c g gm v1 (d0.fuse 0) 0 ⟨#[]⟩ uj (hM.at_ 0 rfl) okF (by omega) (by decide))
      rw [E2.out] at H
      go_wp2_with (fail)
      refine H.out.mono ?_
      rintro e uk ⟨v2, rfl, hD, hTh, hT⟩
      replace hM := hM.set 0 rfl hD hTh hT
      clear H hD hTh hT
      have H := hid (slw_c g gm v2 d2 100000 Z uk (hM.at_ 0 rfl) ok2 (by omega) (by omega))
      rw [E3.out] at H
      go_wp2_with (fail)
      refine H.out.mono ?_
      rintro e ul ⟨v3, rfl, hD, hTh, hT⟩
      replace hM := hM.set 0 rfl hD hTh hT
      clear H hD hTh hT
      have H := hid (sreadD_c g gm v3 d2 100000 ul (hM.at_ 0 rfl) ok2 (by omega))
      rw [T2.out] at H
      go_wp2_with (fail)
      refine H.out.mono ?_
      rintro e um ⟨rfl, hb⟩
      replace hM := hM.below hb
      clear H hb
      have H := hid (start_c g gm v3 d2 um (hM.at_ 0 rfl))
      go_wp2_with (fail)
      refine H.out.mono ?_
      rintro e un ⟨rfl, hD, hT⟩
      replace hM := hM.set 0 rfl hD Then.refl hT
      clear H hD hT
      have H := hid (slw_c g gm v3 d2.start 100000 ⟨#[]⟩ un (hM.at_ 0 rfl) okS (by omega) (by decide))
      rw [E4.out] at H
      go_wp2_with (fail)
      refine H.out.mono ?_
      rintro e uo ⟨v4, rfl, hD, hTh, hT⟩
      replace hM := hM.set 0 rfl hD hTh hT
      clear H hD hTh hT
      have H := hid (has_c g gm v4 d4 300000 ⟨#[]⟩ 1 uo (hM.at_ 0 rfl) ok4 (by omega))
      rw [H4.out] at H
      go_wp2_with (fail)
      refine H.out.mono ?_
      rintro e up ⟨rfl, hb⟩
      replace hM := hM.below hb
      clear H hb
      have H := hid (twice2_c g gm v4 d4 300000 98303 bE up (hM.at_ 0 rfl) ok4 (by omega) (by omega) (by omega) (by omega) (by decide))
      rw [E5.out] at H
      go_wp2_with (fail)
      refine H.out.mono ?_
      rintro e uq ⟨v6, rfl, hD, hTh, hT⟩
      replace hM := hM.set 0 rfl hD hTh hT
      clear H hD hTh hT
      have ok7 : d6.Ok 65536 := (hM.at_ 0 rfl).cap ok6 (c := 0) (by rw [c6]; exact Nat.le_refl _)
      have H := hid (has_c g gm v6 d6 65536 bE 3 uq (hM.at_ 0 rfl) ok7 (by omega))
      rw [H6.out] at H
      go_wp2_with (fail)
      refine H.out.mono ?_
      rintro e us ⟨rfl, hb⟩
      replace hM := hM.below hb
      clear H hb
      have hDz : Dsk us g gm v6 d6 := hM.at_ 0 rfl
      have hbz := hM.b
      have C6 := hid c6
      have N21 := hid (show numsS [2, 1, 2] = headS 2 1 by have := numsS_head (a := 2) (n := 1) (by omega) (by omega); simpa using this)
      have N31 := hid (show numsS [3, 1, 3] = headS 3 1 by have := numsS_head (a := 3) (n := 1) (by omega) (by omega); simpa using this)
      have X1 := hid (show (pad (headS 2 1)).extract 0 24 = headS 2 1 by have := pad_front (s := headS 2 1) (by rw [headS_size]; omega); rwa [headS_size] at this)
      have X0 := hid (show (pad (headS 3 1)).extract 0 24 = headS 3 1 by have := pad_front (s := headS 3 1) (by rw [headS_size]; omega); rwa [headS_size] at this)
      have X2 := hid (show (pad bE).extract 0 2 = ⟨#[101, 0]⟩ by decide +kernel)
      have hs1 : (pad (headS 2 1)).size = 512 := pad_size (by rw [headS_size]; omega)
      have hs0 : (pad (headS 3 1)).size = 512 := pad_size (by rw [headS_size]; omega)
      have hs2 : (pad bE).size = 512 := pad_size (by decide)
      generalize pad (headS 2 1) = Q1 at *
      generalize pad (headS 3 1) = Q0 at *
      generalize pad bE = Q2 at *
      generalize headS 2 1 = K1 at *
      generalize headS 3 1 = K0 at *
      clear hM E1 A0 E2 E3 T2 E4 H4 E5 H6 c6 c4 ok0 ok2 ok4 ok6 okF okS HAW
      go_wp2_with (fail)
      refine Rgd.wp_region (l := [_, _, _, _, _, _, _, _, _, _, _, _, _, _, _, _, _, _, _, _, _, _, _, _, _, _, _, _, _, _, _, _, _, _, _, _, _, _, _, _, _, _, _, _, _, _, _, _, _, _, _]) (tail := [_]) (Rgd.keep us [] [(0, 0), (0, 0), (0, 0), (0, 0), (0, 0), (0, 0), (0, 0), (0, 0), (0, 0), (0, 0), (0, 0), (0, 0), (0, 0), (0, 0), (0, 0), (0, 0), (0, 0), (0, 0), (0, 0), (0, 0), (0, 0), (0, 0), (0, 0), (0, 0), (0, 0), (0, 0), (0, 0), (0, 0), (0, 0), (0, 0), (0, 0), (0, 0), (0, 0), (0, 0), (0, 0), (0, 0), (0, 0), (0, 0), (0, 0), (0, 0), (0, 0), (0, 0), (0, 0), (0, 0), (0, 0), (0, 0), (0, 0), (0, 0), (0, 0), (0, 0), (0, 0)]) [some 157, some 158, some 159, some 160, some 161, some 162, some 163, some 164, some 165, some 166, some 167, some 168, some 169, some 170, some 171, some 172, some 173, some 174, some 175, some 176, some 177, some 178, some 179, some 180, some 181, some 182, some 183, some 184, some 185, some 186, some 187, some 188, some 189, some 190, some 191, some 192, some 193, some 194, some 195, some 196, some 197, some 198, some 199, some 200, some 201, some 202, some 203, some 204, some 205, some 206, some 207, some 0] 208 rfl [[], [0], [0, 1], [0, 1, 2], [0, 1, 2, 3], [0, 1, 2, 3, 4], [0, 1, 2, 3, 4, 5], [0, 1, 2, 3, 4, 5, 6], [0, 1, 2, 3, 4, 5, 6, 7], [0, 1, 2, 3, 4, 5, 6, 7, 8], [0, 1, 2, 3, 4, 5, 6, 7, 8, 9], [0, 1, 2, 3, 4, 5, 6, 7, 8, 9, 10], [0, 1, 2, 3, 4, 5, 6, 7, 8, 9, 10, 11], [0, 1, 2, 3, 4, 5, 6, 7, 8, 9, 10, 11, 12], [0, 1, 2, 3, 4, 5, 6, 7, 8, 9, 10, 11, 12, 13], [0, 1, 2, 3, 4, 5, 6, 7, 8, 9, 10, 11, 12, 13, 14], [0, 1, 2, 3, 4, 5, 6, 7, 8, 9, 10, 11, 12, 13, 14, 15], [0, 1, 2, 3, 4, 5, 6, 7, 8, 9, 10, 11, 12, 13, 14, 15, 16], [0, 1, 2, 3, 4, 5, 6, 7, 8, 9, 10, 11, 12, 13, 14, 15, 16, 17], [0, 1, 2, 3, 4, 5, 6, 7, 8, 9, 10, 11, 12, 13, 14, 15, 16, 17, 18], [0, 1, 2, 3, 4, 5, 6, 7, 8, 9, 10, 11, 12, 13, 14, 15, 16, 17, 18, 19], [0, 1, 2, 3, 4, 5, 6, 7, 8, 9, 10, 11, 12, 13, 14, 15, 16, 17, 18, 19, 20], [0, 1, 2, 3, 4, 5, 6, 7, 8, 9, 10, 11, 12, 13, 14, 15, 16, 17, 18, 19, 20, 21], [0, 1, 2, 3, 4, 5, 6, 7, 8, 9, 10, 11, 12, 13, 14, 15, 16, 17, 18, 19, 20, 21, 22], [0, 1, 2, 3, 4, 5, 6, 7, 8, 9, 10, 11, 12, 13, 14, 15, 16, 17, 18, 19, 20, 21, 22, 23], [0, 1, 2, 3, 4, 5, 6, 7, 8, 9, 10, 11, 12, 13, 14, 15, 16, 17, 18, 19, 20, 21, 22, 23, 24], [0, 1, 2, 3, 4, 5, 6, 7, 8, 9, 10, 11, 12, 13, 14, 15, 16, 17, 18, 19, 20, 21, 22, 23, 24, 25], [0, 1, 2, 3, 4, 5, 6, 7, 8, 9, 10, 11, 12, 13, 14, 15, 16, 17, 18, 19, 20, 21, 22, 23, 24, 25, 26], [0, 1, 2, 3, 4, 5, 6, 7, 8, 9, 10, 11, 12, 13, 14, 15, 16, 17, 18, 19, 20, 21, 22, 23, 24], [0, 1, 2, 3, 4, 5, 6, 7, 8, 9, 10, 11, 12, 13, 14, 15, 16, 17, 18, 19, 20, 21, 22, 23, 24, 25, 26, 28], [0, 1, 2, 3, 4, 5, 6, 7, 8, 9, 10, 11, 12, 13, 14, 15, 16, 17, 18, 19, 20, 21, 22, 23, 24, 25, 26, 27, 28, 29], [0, 1, 2, 3, 4, 5, 6, 7, 8, 9, 10, 11, 12, 13, 14, 15, 16, 17, 18, 19, 20, 21, 22, 23, 24, 25, 26, 27, 28, 29, 30], [0, 1, 2, 3, 4, 5, 6, 7, 8, 9, 10, 11, 12, 13, 14, 15, 16, 17, 18, 19, 20, 21, 22, 23, 24, 25, 26, 27, 28, 29, 30, 31], [0, 1, 2, 3, 4, 5, 6, 7, 8, 9, 10, 11, 12, 13, 14, 15, 16, 17, 18, 19, 20, 21, 22, 23, 24, 25, 26, 27, 28, 29, 30, 31, 32], [0, 1, 2, 3, 4, 5, 6, 7, 8, 9, 10, 11, 12, 13, 14, 15, 16, 17, 18, 19, 20, 21, 22, 23, 24, 25, 26, 27, 28, 29, 30, 31, 32, 33], [0, 1, 2, 3, 4, 5, 6, 7, 8, 9, 10, 11, 12, 13, 14, 15, 16, 17, 18, 19, 20, 21, 22, 23, 24, 25, 26, 27, 28, 29, 30, 31, 32, 33, 34], [0, 1, 2, 3, 4, 5, 6, 7, 8, 9, 10, 11, 12, 13, 14, 15, 16, 17, 18, 19, 20, 21, 22, 23, 24, 25, 26, 27, 28, 29, 30, 31, 32], [0, 1, 2, 3, 4, 5, 6, 7, 8, 9, 10, 11, 12, 13, 14, 15, 16, 17, 18, 19, 20, 21, 22, 23, 24, 25, 26, 27, 28, 29, 30, 31, 32, 33, 34, 36], [0, 1, 2, 3, 4, 5, 6, 7, 8, 9, 10, 11, 12, 13, 14, 15, 16, 17, 18, 19, 20, 21, 22, 23, 24, 25, 26, 27, 28, 29, 30, 31, 32, 33, 34, 35, 36, 37], [0, 1, 2, 3, 4, 5, 6, 7, 8, 9, 10, 11, 12, 13, 14, 15, 16, 17, 18, 19, 20, 21, 22, 23, 24, 25, 26, 27, 28, 29, 30, 31, 32, 33, 34, 35, 36, 37, 38], [0, 1, 2, 3, 4, 5, 6, 7, 8, 9, 10, 11, 12, 13, 14, 15, 16, 17, 18, 19, 20, 21, 22, 23, 24, 25, 26, 27, 28, 29, 30, 31, 32, 33, 34, 35, 36, 37, 38, 39], [0, 1, 2, 3, 4, 5, 6, 7, 8, 9, 10, 11, 12, 13, 14, 15, 16, 17, 18, 19, 20, 21, 22, 23, 24, 25, 26, 27, 28, 29, 30, 31, 32, 33, 34, 35, 36, 37, 38, 39, 40], [0, 1, 2, 3, 4, 5, 6, 7, 8, 9, 10, 11, 12, 13, 14, 15, 16, 17, 18, 19, 20, 21, 22, 23, 24, 25, 26, 27, 28, 29, 30, 31, 32, 33, 34, 35, 36, 37, 38, 39, 40, 41], [0, 1, 2, 3, 4, 5, 6, 7, 8, 9, 10, 11, 12, 13, 14, 15, 16, 17, 18, 19, 20, 21, 22, 23, 24, 25, 26, 27, 28, 29, 30, 31, 32, 33, 34, 35, 36, 37, 38, 39, 40, 41, 42], [0, 1, 2, 3, 4, 5, 6, 7, 8, 9, 10, 11, 12, 13, 14, 15, 16, 17, 18, 19, 20, 21, 22, 23, 24, 25, 26, 27, 28, 29, 30, 31, 32, 33, 34, 35, 36, 37, 38, 39, 40, 41, 42, 43], [0, 1, 2, 3, 4, 5, 6, 7, 8, 9, 10, 11, 12, 13, 14, 15, 16, 17, 18, 19, 20, 21, 22, 23, 24, 25, 26, 27, 28, 29, 30, 31, 32, 33, 34, 35, 36, 37, 38, 39, 40, 41, 42, 43, 44], [0, 1, 2, 3, 4, 5, 6, 7, 8, 9, 10, 11, 12, 13, 14, 15, 16, 17, 18, 19, 20, 21, 22, 23, 24, 25, 26, 27, 28, 29, 30, 31, 32, 33, 34, 35, 36, 37, 38, 39, 40, 41, 42, 43, 44, 45], [0, 1, 2, 3, 4, 5, 6, 7, 8, 9, 10, 11, 12, 13, 14, 15, 16, 17, 18, 19, 20, 21, 22, 23, 24, 25, 26, 27, 28, 29, 30, 31, 32, 33, 34, 35, 36, 37, 38, 39, 40, 41, 42, 43, 44, 45, 46], [0, 1, 2, 3, 4, 5, 6, 7, 8, 9, 10, 11, 12, 13, 14, 15, 16, 17, 18, 19, 20, 21, 22, 23, 24, 25, 26, 27, 28, 29, 30, 31, 32, 33, 34, 35, 36, 37, 38, 39, 40, 41, 42, 43, 44, 45, 46, 47], [0, 1, 2, 3, 4, 5, 6, 7, 8, 9, 10, 11, 12, 13, 14, 15, 16, 17, 18, 19, 20, 21, 22, 23, 24, 25, 26, 27, 28, 29, 30, 31, 32, 33, 34, 35, 36, 37, 38, 39, 40, 41, 42, 43, 44, 45, 46, 47, 48], [0, 1, 2, 3, 4, 5, 6, 7, 8, 9, 10, 11, 12, 13, 14, 15, 16, 17, 18, 19, 20, 21, 22, 23, 24, 25, 26, 27, 28, 29, 30, 31, 32, 33, 34, 35, 36, 37, 38, 39, 40, 41, 42, 43, 44, 45, 46, 47, 48, 49]] (by kernel_rfl) (by kernel_rfl) (by kernel_rfl) (by kernel_rfl) (by kernel_rfl) rfl (Rgd.keep_fair) (Rgd.keep_start _) ?_
      refine' Rgd.op_is _ [] 0 0 rfl rfl rfl (by kernel_rfl) ?_ ?_
      rotate_left
      · intro p wx hp1 hp2 hb
        obtain rfl : p = 0 := by omega
        refine Rgd.from_nil fun T hT => ?_
        go_wp2
        refine hT _ _ rfl (by first | exact Rgd.Keep.refl _ | exact below_of_dr hw2 | exact hw2 | exact (Below.refl _ _).alloc (Nat.le_refl _) _) ?_
        simp only [Rgd.last, List.getElem?_toArray, List.getElem?_cons_succ, List.getElem?_cons_zero, Option.getD_some]
        rfl
      refine Rgd.op_is (.bool true) [0] 0 0 rfl rfl rfl (by kernel_rfl) ?_ ?_
      · intro p wx hp1 hp2 hb
        obtain rfl : p = 0 := by omega
        refine Rgd.from_is (some 157) rfl rfl ?_
        refine Rgd.from_nil fun T hT => ?_
        go_wp2
        exact hT _ _ rfl (by first | exact Rgd.Keep.refl _ | exact below_of_dr hw2 | exact hw2 | exact (Below.refl _ _).alloc (Nat.le_refl _) _) (by first | rfl | exact congrArg _ (by decide))
      refine Rgd.op_is (.bool true) [1] 0 0 rfl rfl rfl (by kernel_rfl) ?_ ?_
      · intro p wx hp1 hp2 hb
        obtain rfl : p = 0 := by omega
        refine Rgd.from_is (some 158) rfl rfl ?_
        refine Rgd.from_nil fun T hT => ?_
        go_wp2
        exact hT _ _ rfl (by first | exact Rgd.Keep.refl _ | exact below_of_dr hw2 | exact hw2 | exact (Below.refl _ _).alloc (Nat.le_refl _) _) (by first | rfl | exact congrArg _ (by decide))
      refine' Rgd.op_is _ [] 0 0 rfl rfl rfl (by kernel_rfl) ?_ ?_
      rotate_left
      · intro p wx hp1 hp2 hb
        obtain rfl : p = 0 := by omega
        refine Rgd.from_nil fun T hT => ?_
        go_wp2
        refine hT _ _ rfl (by first | exact Rgd.Keep.refl _ | exact below_of_dr hw2 | exact hw2 | exact (Below.refl _ _).alloc (Nat.le_refl _) _) ?_
        simp only [Rgd.last, List.getElem?_toArray, List.getElem?_cons_succ, List.getElem?_cons_zero, Option.getD_some]
        rfl
      refine Rgd.op_is (.bool true) [3] 0 0 rfl rfl rfl (by kernel_rfl) ?_ ?_
      · intro p wx hp1 hp2 hb
        obtain rfl : p = 0 := by omega
        refine Rgd.from_is (some 160) rfl rfl ?_
        refine Rgd.from_nil fun T hT => ?_
        go_wp2
        exact hT _ _ rfl (by first | exact Rgd.Keep.refl _ | exact below_of_dr hw2 | exact hw2 | exact (Below.refl _ _).alloc (Nat.le_refl _) _) (by first | rfl | exact congrArg _ (by decide))
      refine Rgd.op_is (.bool true) [2, 4] 0 0 rfl rfl rfl (by kernel_rfl) ?_ ?_
      · intro p wx hp1 hp2 hb
        obtain rfl : p = 0 := by omega
        refine Rgd.from_is (some 159) rfl rfl ?_
        refine Rgd.from_is (some 161) rfl rfl ?_
        refine Rgd.from_nil fun T hT => ?_
        go_wp2
        exact hT _ _ rfl (by first | exact Rgd.Keep.refl _ | exact below_of_dr hw2 | exact hw2 | exact (Below.refl _ _).alloc (Nat.le_refl _) _) (by first | rfl | exact congrArg _ (by decide))
      refine Rgd.op_is (.bool true) [5] 0 0 rfl rfl rfl (by kernel_rfl) ?_ ?_
      · intro p wx hp1 hp2 hb
        obtain rfl : p = 0 := by omega
        refine Rgd.from_is (some 162) rfl rfl ?_
        refine Rgd.from_nil fun T hT => ?_
        go_wp2
        exact hT _ _ rfl (by first | exact Rgd.Keep.refl _ | exact below_of_dr hw2 | exact hw2 | exact (Below.refl _ _).alloc (Nat.le_refl _) _) (by first | rfl | exact congrArg _ (by decide))
      refine Rgd.op_is (.bool false) [] 0 0 rfl rfl rfl (by kernel_rfl) ?_ ?_
      · intro p wx hp1 hp2 hb
        obtain rfl : p = 0 := by omega
        refine Rgd.from_nil fun T hT => ?_
        go_wp2
        exact hT _ _ rfl (by first | exact Rgd.Keep.refl _ | exact below_of_dr hw2 | exact hw2 | exact (Below.refl _ _).alloc (Nat.le_refl _) _) (by first | rfl | exact congrArg _ (by decide))
      refine Rgd.op_is (.bool true) [7] 0 0 rfl rfl rfl (by kernel_rfl) ?_ ?_
      · intro p wx hp1 hp2 hb
        obtain rfl : p = 0 := by omega
        refine Rgd.from_is (some 164) rfl rfl ?_
        refine Rgd.from_nil fun T hT => ?_
        go_wp2
        exact hT _ _ rfl (by first | exact Rgd.Keep.refl _ | exact below_of_dr hw2 | exact hw2 | exact (Below.refl _ _).alloc (Nat.le_refl _) _) (by first | rfl | exact congrArg _ (by decide))
      refine Rgd.op_is (.bool true) [6, 8] 0 0 rfl rfl rfl (by kernel_rfl) ?_ ?_
      · intro p wx hp1 hp2 hb
        obtain rfl : p = 0 := by omega
        refine Rgd.from_is (some 163) rfl rfl ?_
        refine Rgd.from_is (some 165) rfl rfl ?_
        refine Rgd.from_nil fun T hT => ?_
        go_wp2
        exact hT _ _ rfl (by first | exact Rgd.Keep.refl _ | exact below_of_dr hw2 | exact hw2 | exact (Below.refl _ _).alloc (Nat.le_refl _) _) (by first | rfl | exact congrArg _ (by decide))
      refine Rgd.op_is (.bool true) [9] 0 0 rfl rfl rfl (by kernel_rfl) ?_ ?_
      · intro p wx hp1 hp2 hb
        obtain rfl : p = 0 := by omega
        refine Rgd.from_is (some 166) rfl rfl ?_
        refine Rgd.from_nil fun T hT => ?_
        go_wp2
        exact hT _ _ rfl (by first | exact Rgd.Keep.refl _ | exact below_of_dr hw2 | exact hw2 | exact (Below.refl _ _).alloc (Nat.le_refl _) _) (by first | rfl | exact congrArg _ (by decide))
      refine' Rgd.op_is _ [] 0 0 rfl rfl rfl (by kernel_rfl) ?_ ?_
      rotate_left
      · intro p wx hp1 hp2 hb
        obtain rfl : p = 0 := by omega
        refine Rgd.from_nil fun T hT => ?_
        go_wp2
        refine hT _ _ rfl (by first | exact Rgd.Keep.refl _ | exact below_of_dr hw2 | exact hw2 | exact (Below.refl _ _).alloc (Nat.le_refl _) _) ?_
        simp only [Rgd.last, List.getElem?_toArray, List.getElem?_cons_succ, List.getElem?_cons_zero, Option.getD_some]
        rfl
      refine Rgd.op_is (.bool true) [11] 0 0 rfl rfl rfl (by kernel_rfl) ?_ ?_
      · intro p wx hp1 hp2 hb
        obtain rfl : p = 0 := by omega
        refine Rgd.from_is (some 168) rfl rfl ?_
        refine Rgd.from_nil fun T hT => ?_
        go_wp2
        exact hT _ _ rfl (by first | exact Rgd.Keep.refl _ | exact below_of_dr hw2 | exact hw2 | exact (Below.refl _ _).alloc (Nat.le_refl _) _) (by first | rfl | exact congrArg _ (by decide))
      refine Rgd.op_is (.bool true) [10, 12] 0 0 rfl rfl rfl (by kernel_rfl) ?_ ?_
      · intro p wx hp1 hp2 hb
        obtain rfl : p = 0 := by omega
        refine Rgd.from_is (some 167) rfl rfl ?_
        refine Rgd.from_is (some 169) rfl rfl ?_
        refine Rgd.from_nil fun T hT => ?_
        go_wp2
        exact hT _ _ rfl (by first | exact Rgd.Keep.refl _ | exact below_of_dr hw2 | exact hw2 | exact (Below.refl _ _).alloc (Nat.le_refl _) _) (by first | rfl | exact congrArg _ (by decide))
      refine Rgd.op_is (.bool true) [13] 0 0 rfl rfl rfl (by kernel_rfl) ?_ ?_
      · intro p wx hp1 hp2 hb
        obtain rfl : p = 0 := by omega
        refine Rgd.from_is (some 170) rfl rfl ?_
        refine Rgd.from_nil fun T hT => ?_
        go_wp2
        exact hT _ _ rfl (by first | exact Rgd.Keep.refl _ | exact below_of_dr hw2 | exact hw2 | exact (Below.refl _ _).alloc (Nat.le_refl _) _) (by first | rfl | exact congrArg _ (by decide))
      refine Rgd.op_is (.bool true) [] 0 0 rfl rfl rfl (by kernel_rfl) ?_ ?_
      · intro p wx hp1 hp2 hb
        obtain rfl : p = 0 := by omega
        refine Rgd.from_nil fun T hT => ?_
        go_wp2
        exact hT _ _ rfl (by first | exact Rgd.Keep.refl _ | exact below_of_dr hw2 | exact hw2 | exact (Below.refl _ _).alloc (Nat.le_refl _) _) (by first | rfl | exact congrArg _ (by decide))
      refine Rgd.op_is (.bool true) [14, 15] 0 0 rfl rfl rfl (by kernel_rfl) ?_ ?_
      · intro p wx hp1 hp2 hb
        obtain rfl : p = 0 := by omega
        refine Rgd.from_is (some 171) rfl rfl ?_
        refine Rgd.from_is (some 172) rfl rfl ?_
        refine Rgd.from_nil fun T hT => ?_
        go_wp2
        exact hT _ _ rfl (by first | exact Rgd.Keep.refl _ | exact below_of_dr hw2 | exact hw2 | exact (Below.refl _ _).alloc (Nat.le_refl _) _) (by first | rfl | exact congrArg _ (by decide))
      refine Rgd.op_is (.bool true) [16] 0 0 rfl rfl rfl (by kernel_rfl) ?_ ?_
      · intro p wx hp1 hp2 hb
        obtain rfl : p = 0 := by omega
        refine Rgd.from_is (some 173) rfl rfl ?_
        refine Rgd.from_nil fun T hT => ?_
        go_wp2
        exact hT _ _ rfl (by first | exact Rgd.Keep.refl _ | exact below_of_dr hw2 | exact hw2 | exact (Below.refl _ _).alloc (Nat.le_refl _) _) (by first | rfl | exact congrArg _ (by decide))
      refine' Rgd.op_is _ [] 0 0 rfl rfl rfl (by kernel_rfl) ?_ ?_
      rotate_left
      · intro p wx hp1 hp2 hb
        obtain rfl : p = 0 := by omega
        refine Rgd.from_nil fun T hT => ?_
        go_wp2
        refine hT _ _ rfl (by first | exact Rgd.Keep.refl _ | exact below_of_dr hw2 | exact hw2 | exact (Below.refl _ _).alloc (Nat.le_refl _) _) ?_
        simp only [Rgd.last, List.getElem?_toArray, List.getElem?_cons_succ, List.getElem?_cons_zero, Option.getD_some]
        rfl
      refine Rgd.op_is (.bool true) [18] 0 0 rfl rfl rfl (by kernel_rfl) ?_ ?_
      · intro p wx hp1 hp2 hb
        obtain rfl : p = 0 := by omega
        refine Rgd.from_is (some 175) rfl rfl ?_
        refine Rgd.from_nil fun T hT => ?_
        go_wp2
        exact hT _ _ rfl (by first | exact Rgd.Keep.refl _ | exact below_of_dr hw2 | exact hw2 | exact (Below.refl _ _).alloc (Nat.le_refl _) _) (by first | rfl | exact congrArg _ (by decide))
      refine Rgd.op_is (.bool true) [17, 19] 0 0 rfl rfl rfl (by kernel_rfl) ?_ ?_
      · intro p wx hp1 hp2 hb
        obtain rfl : p = 0 := by omega
        refine Rgd.from_is (some 174) rfl rfl ?_
        refine Rgd.from_is (some 176) rfl rfl ?_
        refine Rgd.from_nil fun T hT => ?_
        go_wp2
        exact hT _ _ rfl (by first | exact Rgd.Keep.refl _ | exact below_of_dr hw2 | exact hw2 | exact (Below.refl _ _).alloc (Nat.le_refl _) _) (by first | rfl | exact congrArg _ (by decide))
      refine Rgd.op_is (.bool true) [20] 0 0 rfl rfl rfl (by kernel_rfl) ?_ ?_
      · intro p wx hp1 hp2 hb
        obtain rfl : p = 0 := by omega
        refine Rgd.from_is (some 177) rfl rfl ?_
        refine Rgd.from_nil fun T hT => ?_
        go_wp2
        exact hT _ _ rfl (by first | exact Rgd.Keep.refl _ | exact below_of_dr hw2 | exact hw2 | exact (Below.refl _ _).alloc (Nat.le_refl _) _) (by first | rfl | exact congrArg _ (by decide))
      refine Rgd.op_is (.bool true) [] 0 0 rfl rfl rfl (by kernel_rfl) ?_ ?_
      · intro p wx hp1 hp2 hb
        obtain rfl : p = 0 := by omega
        refine Rgd.from_nil fun T hT => ?_
        go_wp2
        exact hT _ _ rfl (by first | exact Rgd.Keep.refl _ | exact below_of_dr hw2 | exact hw2 | exact (Below.refl _ _).alloc (Nat.le_refl _) _) (by first | rfl | exact congrArg _ (by decide))
      refine Rgd.op_is (.bool true) [21, 22] 0 0 rfl rfl rfl (by kernel_rfl) ?_ ?_
      · intro p wx hp1 hp2 hb
        obtain rfl : p = 0 := by omega
        refine Rgd.from_is (some 178) rfl rfl ?_
        refine Rgd.from_is (some 179) rfl rfl ?_
        refine Rgd.from_nil fun T hT => ?_
        go_wp2
        exact hT _ _ rfl (by first | exact Rgd.Keep.refl _ | exact below_of_dr hw2 | exact hw2 | exact (Below.refl _ _).alloc (Nat.le_refl _) _) (by first | rfl | exact congrArg _ (by decide))
      refine Rgd.op_is (.bool true) [23] 0 0 rfl rfl rfl (by kernel_rfl) ?_ ?_
      · intro p wx hp1 hp2 hb
        obtain rfl : p = 0 := by omega
        refine Rgd.from_is (some 180) rfl rfl ?_
        refine Rgd.from_nil fun T hT => ?_
        go_wp2
        exact hT _ _ rfl (by first | exact Rgd.Keep.refl _ | exact below_of_dr hw2 | exact hw2 | exact (Below.refl _ _).alloc (Nat.le_refl _) _) (by first | rfl | exact congrArg _ (by decide))
      refine' Rgd.op_is _ [] 0 0 rfl rfl rfl (by kernel_rfl) ?_ ?_
      rotate_left
      · intro p wx hp1 hp2 hb
        obtain rfl : p = 0 := by omega
        refine Rgd.from_nil fun T hT => ?_
        go_wp2
        refine hT _ _ rfl (by first | exact Rgd.Keep.refl _ | exact below_of_dr hw2 | exact hw2 | exact (Below.refl _ _).alloc (Nat.le_refl _) _) ?_
        simp only [Rgd.last, List.getElem?_toArray, List.getElem?_cons_succ, List.getElem?_cons_zero, Option.getD_some]
        rfl
      refine Rgd.op_is (.string Q1) [25] 0 0 rfl rfl rfl (by kernel_rfl) ?_ ?_
      · intro p wx hp1 hp2 hb
        obtain rfl : p = 0 := by omega
        refine Rgd.from_is (some 182) rfl rfl ?_
        refine Rgd.from_nil fun T hT => ?_
        have hb : Below us.heap.size us wx := hb
        go_wp2_with (fail)
        refine (platter_c g gm v6 d6 32768 _ (hDz.below hb) ⟨by omega, by omega⟩).mono ?_
        rintro e wy ⟨rfl, hk⟩
        go_wp2
        exact hT _ _ rfl hk (by simp [Rgd.last, P1.out])
      refine Rgd.op_is (.string K1) [26] 0 0 rfl rfl rfl (by kernel_rfl) ?_ ?_
      · intro p wx hp1 hp2 hb
        obtain rfl : p = 0 := by omega
        refine Rgd.from_is (some 183) rfl rfl ?_
        refine Rgd.from_nil fun T hT => ?_
        go_wp2
        exact hT _ _ rfl (Rgd.Keep.refl _) (by simp [Rgd.last, X1.out])
      refine Rgd.op_of (fun _ w u => ∃ b, u = .slice (some ⟨b, 0, none⟩) 3 3 ∧ Row1 w b 3 [.int .i64 2, .int .i64 1, .int .i64 2]) [] 0 0 rfl rfl ?_ ?_ rfl (by kernel_rfl) ?_ ?_
      · exact fun p w1 w2 v _ hk ⟨b, h1, h2⟩ => ⟨b, h1, h2.below hk⟩
      · exact fun p w1 w2 v h0 h1 => by simp [Rgd.keep] at h1
      · intro p wx hp1 hp2 hb
        obtain rfl : p = 0 := by omega
        refine Rgd.from_nil fun T hT => ?_
        go_wp2
        exact hT _ _ rfl (below_alloc wx (.cells #[.int .i64 2, .int .i64 1, .int .i64 2] 3)) ⟨_, rfl, row1_new wx [.int .i64 2, .int .i64 1, .int .i64 2] _⟩
      refine Rgd.op_is (.string K1) [28] 0 0 rfl rfl rfl (by kernel_rfl) ?_ ?_
      · intro p wx hp1 hp2 hb
        obtain rfl : p = 0 := by omega
        refine Rgd.from_of (some 185) rfl rfl fun v185 h185 => ?_
        refine Rgd.from_nil fun T hT => ?_
        obtain ⟨bq, rfl, hr⟩ := h185
        go_wp2_with (fail)
        refine (numbers_c (some ⟨bq, 0, none⟩) [2, 1, 2] 3 _ hr.cells (by decide) (fun x hx => by simp only [List.mem_cons, List.not_mem_nil, or_false] at hx; rcases hx with rfl | rfl | rfl <;> exact ⟨by omega, by omega⟩)).mono ?_
        rintro e wy ⟨rfl, hk⟩
        go_wp2
        exact hT _ _ rfl hk (by simp [Rgd.last, N21.out])
      refine Rgd.op_is (.bool true) [27, 29] 0 0 rfl rfl rfl (by kernel_rfl) ?_ ?_
      · intro p wx hp1 hp2 hb
        obtain rfl : p = 0 := by omega
        refine Rgd.from_is (some 184) rfl rfl ?_
        refine Rgd.from_is (some 186) rfl rfl ?_
        refine Rgd.from_nil fun T hT => ?_
        have h2 := str_iff.2 (rfl : K1 = K1)
        go_wp2
        exact hT _ _ rfl (Rgd.Keep.refl _) rfl
      refine Rgd.op_is (.bool true) [24, 30] 0 0 rfl rfl rfl (by kernel_rfl) ?_ ?_
      · intro p wx hp1 hp2 hb
        obtain rfl : p = 0 := by omega
        refine Rgd.from_is (some 181) rfl rfl ?_
        refine Rgd.from_is (some 187) rfl rfl ?_
        refine Rgd.from_nil fun T hT => ?_
        go_wp2
        exact hT _ _ rfl (by first | exact Rgd.Keep.refl _ | exact below_of_dr hw2 | exact hw2 | exact (Below.refl _ _).alloc (Nat.le_refl _) _) (by first | rfl | exact congrArg _ (by decide))
      refine Rgd.op_is (.bool true) [31] 0 0 rfl rfl rfl (by kernel_rfl) ?_ ?_
      · intro p wx hp1 hp2 hb
        obtain rfl : p = 0 := by omega
        refine Rgd.from_is (some 188) rfl rfl ?_
        refine Rgd.from_nil fun T hT => ?_
        go_wp2
        exact hT _ _ rfl (by first | exact Rgd.Keep.refl _ | exact below_of_dr hw2 | exact hw2 | exact (Below.refl _ _).alloc (Nat.le_refl _) _) (by first | rfl | exact congrArg _ (by decide))
      refine' Rgd.op_is _ [] 0 0 rfl rfl rfl (by kernel_rfl) ?_ ?_
      rotate_left
      · intro p wx hp1 hp2 hb
        obtain rfl : p = 0 := by omega
        refine Rgd.from_nil fun T hT => ?_
        go_wp2
        refine hT _ _ rfl (by first | exact Rgd.Keep.refl _ | exact below_of_dr hw2 | exact hw2 | exact (Below.refl _ _).alloc (Nat.le_refl _) _) ?_
        simp only [Rgd.last, List.getElem?_toArray, List.getElem?_cons_succ, List.getElem?_cons_zero, Option.getD_some]
        rfl
      refine Rgd.op_is (.string Q0) [33] 0 0 rfl rfl rfl (by kernel_rfl) ?_ ?_
      · intro p wx hp1 hp2 hb
        obtain rfl : p = 0 := by omega
        refine Rgd.from_is (some 190) rfl rfl ?_
        refine Rgd.from_nil fun T hT => ?_
        have hb : Below us.heap.size us wx := hb
        go_wp2_with (fail)
        refine (platter_c g gm v6 d6 0 _ (hDz.below hb) ⟨by omega, by omega⟩).mono ?_
        rintro e wy ⟨rfl, hk⟩
        go_wp2
        exact hT _ _ rfl hk (by simp [Rgd.last, P0.out])
      refine Rgd.op_is (.string K0) [34] 0 0 rfl rfl rfl (by kernel_rfl) ?_ ?_
      · intro p wx hp1 hp2 hb
        obtain rfl : p = 0 := by omega
        refine Rgd.from_is (some 191) rfl rfl ?_
        refine Rgd.from_nil fun T hT => ?_
        go_wp2
        exact hT _ _ rfl (Rgd.Keep.refl _) (by simp [Rgd.last, X0.out])
      refine Rgd.op_of (fun _ w u => ∃ b, u = .slice (some ⟨b, 0, none⟩) 3 3 ∧ Row1 w b 3 [.int .i64 3, .int .i64 1, .int .i64 3]) [] 0 0 rfl rfl ?_ ?_ rfl (by kernel_rfl) ?_ ?_
      · exact fun p w1 w2 v _ hk ⟨b, h1, h2⟩ => ⟨b, h1, h2.below hk⟩
      · exact fun p w1 w2 v h0 h1 => by simp [Rgd.keep] at h1
      · intro p wx hp1 hp2 hb
        obtain rfl : p = 0 := by omega
        refine Rgd.from_nil fun T hT => ?_
        go_wp2
        exact hT _ _ rfl (below_alloc wx (.cells #[.int .i64 3, .int .i64 1, .int .i64 3] 3)) ⟨_, rfl, row1_new wx [.int .i64 3, .int .i64 1, .int .i64 3] _⟩
      refine Rgd.op_is (.string K0) [36] 0 0 rfl rfl rfl (by kernel_rfl) ?_ ?_
      · intro p wx hp1 hp2 hb
        obtain rfl : p = 0 := by omega
        refine Rgd.from_of (some 193) rfl rfl fun v193 h193 => ?_
        refine Rgd.from_nil fun T hT => ?_
        obtain ⟨bq, rfl, hr⟩ := h193
        go_wp2_with (fail)
        refine (numbers_c (some ⟨bq, 0, none⟩) [3, 1, 3] 3 _ hr.cells (by decide) (fun x hx => by simp only [List.mem_cons, List.not_mem_nil, or_false] at hx; rcases hx with rfl | rfl | rfl <;> exact ⟨by omega, by omega⟩)).mono ?_
        rintro e wy ⟨rfl, hk⟩
        go_wp2
        exact hT _ _ rfl hk (by simp [Rgd.last, N31.out])
      refine Rgd.op_is (.bool true) [35, 37] 0 0 rfl rfl rfl (by kernel_rfl) ?_ ?_
      · intro p wx hp1 hp2 hb
        obtain rfl : p = 0 := by omega
        refine Rgd.from_is (some 192) rfl rfl ?_
        refine Rgd.from_is (some 194) rfl rfl ?_
        refine Rgd.from_nil fun T hT => ?_
        have h2 := str_iff.2 (rfl : K0 = K0)
        go_wp2
        exact hT _ _ rfl (Rgd.Keep.refl _) rfl
      refine Rgd.op_is (.bool true) [32, 38] 0 0 rfl rfl rfl (by kernel_rfl) ?_ ?_
      · intro p wx hp1 hp2 hb
        obtain rfl : p = 0 := by omega
        refine Rgd.from_is (some 189) rfl rfl ?_
        refine Rgd.from_is (some 195) rfl rfl ?_
        refine Rgd.from_nil fun T hT => ?_
        go_wp2
        exact hT _ _ rfl (by first | exact Rgd.Keep.refl _ | exact below_of_dr hw2 | exact hw2 | exact (Below.refl _ _).alloc (Nat.le_refl _) _) (by first | rfl | exact congrArg _ (by decide))
      refine Rgd.op_is (.bool true) [39] 0 0 rfl rfl rfl (by kernel_rfl) ?_ ?_
      · intro p wx hp1 hp2 hb
        obtain rfl : p = 0 := by omega
        refine Rgd.from_is (some 196) rfl rfl ?_
        refine Rgd.from_nil fun T hT => ?_
        go_wp2
        exact hT _ _ rfl (by first | exact Rgd.Keep.refl _ | exact below_of_dr hw2 | exact hw2 | exact (Below.refl _ _).alloc (Nat.le_refl _) _) (by first | rfl | exact congrArg _ (by decide))
      refine' Rgd.op_is _ [] 0 0 rfl rfl rfl (by kernel_rfl) ?_ ?_
      rotate_left
      · intro p wx hp1 hp2 hb
        obtain rfl : p = 0 := by omega
        refine Rgd.from_nil fun T hT => ?_
        go_wp2
        refine hT _ _ rfl (by first | exact Rgd.Keep.refl _ | exact below_of_dr hw2 | exact hw2 | exact (Below.refl _ _).alloc (Nat.le_refl _) _) ?_
        simp only [Rgd.last, List.getElem?_toArray, List.getElem?_cons_succ, List.getElem?_cons_zero, Option.getD_some]
        rfl
      refine Rgd.op_is (.string Q2) [41] 0 0 rfl rfl rfl (by kernel_rfl) ?_ ?_
      · intro p wx hp1 hp2 hb
        obtain rfl : p = 0 := by omega
        refine Rgd.from_is (some 198) rfl rfl ?_
        refine Rgd.from_nil fun T hT => ?_
        have hb : Below us.heap.size us wx := hb
        go_wp2_with (fail)
        refine (platter_c g gm v6 d6 1 _ (hDz.below hb) ⟨by omega, by omega⟩).mono ?_
        rintro e wy ⟨rfl, hk⟩
        go_wp2
        exact hT _ _ rfl hk (by simp [Rgd.last, P2.out])
      refine Rgd.op_is (.string ⟨#[101, 0]⟩) [42] 0 0 rfl rfl rfl (by kernel_rfl) ?_ ?_
      · intro p wx hp1 hp2 hb
        obtain rfl : p = 0 := by omega
        refine Rgd.from_is (some 199) rfl rfl ?_
        refine Rgd.from_nil fun T hT => ?_
        go_wp2
        exact hT _ _ rfl (Rgd.Keep.refl _) (by simp [Rgd.last, X2.out])
      refine Rgd.op_is (.bool true) [43] 0 0 rfl rfl rfl (by kernel_rfl) ?_ ?_
      · intro p wx hp1 hp2 hb
        obtain rfl : p = 0 := by omega
        refine Rgd.from_is (some 200) rfl rfl ?_
        refine Rgd.from_nil fun T hT => ?_
        have h2 := str_iff.2 (rfl : (⟨#[101, 0]⟩ : ByteArray) = (⟨#[101, 0]⟩ : ByteArray))
        go_wp2
        exact hT _ _ rfl (Rgd.Keep.refl _) rfl
      refine Rgd.op_is (.bool true) [40, 44] 0 0 rfl rfl rfl (by kernel_rfl) ?_ ?_
      · intro p wx hp1 hp2 hb
        obtain rfl : p = 0 := by omega
        refine Rgd.from_is (some 197) rfl rfl ?_
        refine Rgd.from_is (some 201) rfl rfl ?_
        refine Rgd.from_nil fun T hT => ?_
        go_wp2
        exact hT _ _ rfl (by first | exact Rgd.Keep.refl _ | exact below_of_dr hw2 | exact hw2 | exact (Below.refl _ _).alloc (Nat.le_refl _) _) (by first | rfl | exact congrArg _ (by decide))
      refine Rgd.op_is (.bool true) [45] 0 0 rfl rfl rfl (by kernel_rfl) ?_ ?_
      · intro p wx hp1 hp2 hb
        obtain rfl : p = 0 := by omega
        refine Rgd.from_is (some 202) rfl rfl ?_
        refine Rgd.from_nil fun T hT => ?_
        go_wp2
        exact hT _ _ rfl (by first | exact Rgd.Keep.refl _ | exact below_of_dr hw2 | exact hw2 | exact (Below.refl _ _).alloc (Nat.le_refl _) _) (by first | rfl | exact congrArg _ (by decide))
      refine' Rgd.op_is _ [] 0 0 rfl rfl rfl (by kernel_rfl) ?_ ?_
      rotate_left
      · intro p wx hp1 hp2 hb
        obtain rfl : p = 0 := by omega
        refine Rgd.from_nil fun T hT => ?_
        go_wp2
        refine hT _ _ rfl (by first | exact Rgd.Keep.refl _ | exact below_of_dr hw2 | exact hw2 | exact (Below.refl _ _).alloc (Nat.le_refl _) _) ?_
        simp only [Rgd.last, List.getElem?_toArray, List.getElem?_cons_succ, List.getElem?_cons_zero, Option.getD_some]
        rfl
      refine Rgd.op_is (.int .i64 0) [47] 0 0 rfl rfl rfl (by kernel_rfl) ?_ ?_
      · intro p wx hp1 hp2 hb
        obtain rfl : p = 0 := by omega
        refine Rgd.from_is (some 204) rfl rfl ?_
        refine Rgd.from_nil fun T hT => ?_
        have hb : Below us.heap.size us wx := hb
        go_wp2_with (fail)
        refine (waits_c g gm v6 d6 _ (hDz.below hb)).mono ?_
        rintro e _ ⟨rfl, rfl⟩
        go_wp2
        exact hT _ _ rfl (Rgd.Keep.refl _) (by simp [Rgd.last, C6.out])
      refine Rgd.op_is (.bool true) [48] 0 0 rfl rfl rfl (by kernel_rfl) ?_ ?_
      · intro p wx hp1 hp2 hb
        obtain rfl : p = 0 := by omega
        refine Rgd.from_is (some 205) rfl rfl ?_
        refine Rgd.from_nil fun T hT => ?_
        go_wp2
        exact hT _ _ rfl (by first | exact Rgd.Keep.refl _ | exact below_of_dr hw2 | exact hw2 | exact (Below.refl _ _).alloc (Nat.le_refl _) _) (by first | rfl | exact congrArg _ (by decide))
      refine Rgd.op_is (.bool true) [46, 49] 0 0 rfl rfl rfl (by kernel_rfl) ?_ ?_
      · intro p wx hp1 hp2 hb
        obtain rfl : p = 0 := by omega
        refine Rgd.from_is (some 203) rfl rfl ?_
        refine Rgd.from_is (some 206) rfl rfl ?_
        refine Rgd.from_nil fun T hT => ?_
        go_wp2
        exact hT _ _ rfl (by first | exact Rgd.Keep.refl _ | exact below_of_dr hw2 | exact hw2 | exact (Below.refl _ _).alloc (Nat.le_refl _) _) (by first | rfl | exact congrArg _ (by decide))
      refine Rgd.walk_nil [0, 1, 2, 3, 4, 5, 6, 7, 8, 9, 10, 11, 12, 13, 14, 15, 16, 17, 18, 19, 20, 21, 22, 23, 24, 25, 26, 27, 28, 29, 30, 31, 32, 33, 34, 35, 36, 37, 38, 39, 40, 41, 42, 43, 44, 45, 46, 47, 48, 49, 50] (by kernel_rfl) ?_
      intro wx hb
      refine Rgd.from_is (some 157) rfl rfl ?_
      refine Rgd.from_is (some 158) rfl rfl ?_
      refine Rgd.from_is (some 159) rfl rfl ?_
      refine Rgd.from_is (some 160) rfl rfl ?_
      refine Rgd.from_is (some 161) rfl rfl ?_
      refine Rgd.from_is (some 162) rfl rfl ?_
      refine Rgd.from_is (some 163) rfl rfl ?_
      refine Rgd.from_is (some 164) rfl rfl ?_
      refine Rgd.from_is (some 165) rfl rfl ?_
      refine Rgd.from_is (some 166) rfl rfl ?_
      refine Rgd.from_is (some 167) rfl rfl ?_
      refine Rgd.from_is (some 168) rfl rfl ?_
      refine Rgd.from_is (some 169) rfl rfl ?_
      refine Rgd.from_is (some 170) rfl rfl ?_
      refine Rgd.from_is (some 171) rfl rfl ?_
      refine Rgd.from_is (some 172) rfl rfl ?_
      refine Rgd.from_is (some 173) rfl rfl ?_
      refine Rgd.from_is (some 174) rfl rfl ?_
      refine Rgd.from_is (some 175) rfl rfl ?_
      refine Rgd.from_is (some 176) rfl rfl ?_
      refine Rgd.from_is (some 177) rfl rfl ?_
      refine Rgd.from_is (some 178) rfl rfl ?_
      refine Rgd.from_is (some 179) rfl rfl ?_
      refine Rgd.from_is (some 180) rfl rfl ?_
      refine Rgd.from_is (some 181) rfl rfl ?_
      refine Rgd.from_is (some 182) rfl rfl ?_
      refine Rgd.from_is (some 183) rfl rfl ?_
      refine Rgd.from_is (some 184) rfl rfl ?_
      refine Rgd.from_of (some 185) rfl rfl fun v185 h185 => ?_
      refine Rgd.from_is (some 186) rfl rfl ?_
      refine Rgd.from_is (some 187) rfl rfl ?_
      refine Rgd.from_is (some 188) rfl rfl ?_
      refine Rgd.from_is (some 189) rfl rfl ?_
      refine Rgd.from_is (some 190) rfl rfl ?_
      refine Rgd.from_is (some 191) rfl rfl ?_
      refine Rgd.from_is (some 192) rfl rfl ?_
      refine Rgd.from_of (some 193) rfl rfl fun v193 h193 => ?_
      refine Rgd.from_is (some 194) rfl rfl ?_
      refine Rgd.from_is (some 195) rfl rfl ?_
      refine Rgd.from_is (some 196) rfl rfl ?_
      refine Rgd.from_is (some 197) rfl rfl ?_
      refine Rgd.from_is (some 198) rfl rfl ?_
      refine Rgd.from_is (some 199) rfl rfl ?_
      refine Rgd.from_is (some 200) rfl rfl ?_
      refine Rgd.from_is (some 201) rfl rfl ?_
      refine Rgd.from_is (some 202) rfl rfl ?_
      refine Rgd.from_is (some 203) rfl rfl ?_
      refine Rgd.from_is (some 204) rfl rfl ?_
      refine Rgd.from_is (some 205) rfl rfl ?_
      refine Rgd.from_is (some 206) rfl rfl ?_
      refine Rgd.from_is (some 207) rfl rfl ?_
      refine Rgd.from_nil ?_
      simp only [List.map, Act.put, List.setIfInBounds_toArray, List.set_cons_zero, List.set_cons_succ]
      have hb : Below us.heap.size us wx := hb
      go_wp2
      go_ret
      exact ⟨rfl, below_next hbz hbz.size hb⟩
set_option maxRecDepth 100000 in
theorem slotsNames_lifted (os : Os) (started : os.Started) (H : Type) (enc : TypeId × Value → H) :
    ReturnsInHanded {} Try.checked os 11 .any (Rows.slotsNamesSpec.pre6 enc Try.prog Try.f11 Rows.slotsNamesRow.domain false) (Rows.slotsNamesSpec.post enc Try.prog Try.f11 false true false false) := by
  haveI : DecidableEq Lit := fun a b => Classical.propDecidable (a = b)
  refine returnsInHanded_of_change_sized (C := Try.checked) Try.own started (by kernel_rfl) Try.func11
    (ChangeSpec.witness6 (enc := enc) (C := Try.checked) false ⟨#[], #[], []⟩ 8 (by kernel_rfl) (by kernel_rfl) (by kernel_rfl) (by kernel_rfl)) ?_
  intro W base args ds gs before hval0 hW hcnd hsz0 _
  have hval : ∀ (j : Nat) t v, Try.f11.params[j]? = some t → args[j]? = some v → Value.okWide Try.prog W .any base t v := hval0
  have hW' := hW
  obtain ⟨p, q, hA0, hV, rfl, hfz, hnd⟩ := hW
  have hA : DataW.TrodAll enc Try.prog W 0 (fun _ => true) true Try.f11.params.toList args.toList ds p := hA0
  rw [Try.params11] at hA hval
  obtain ⟨rfl, rfl, rfl⟩ := trodAll_none hA
  obtain ⟨rfl, rfl⟩ := trodVars_none hV
  clear hA0 hval0
  refine (slotsNames_c  W ).mono fun e W' ⟨he, hb⟩ => ?_
  subst he
  exact ⟨_, rfl, post_true hW' hb Try.laidOut (by kernel_rfl) rfl rfl rfl rfl rfl Try.underlying4⟩

theorem slotsNames_holds : Rows.SlotsNamesSaid :=
  OpenClaim.holds_of_wide 11 Try.f11 rfl rfl rfl rfl rfl rfl rfl ⟨rfl, rfl, rfl, rfl, rfl⟩ rfl rfl rfl rfl rfl (by kernel_rfl) Try.func11 (by kernel_rfl)
    (of_decide_eq_true (by kernel_rfl)) (by unfold Func.isWrapper; first | (rw [if_pos (by decide +kernel)]; kernel_rfl) | (rw [if_neg (by decide +kernel)]; exact ⟨rfl, rfl⟩))
    (fun os started H enc _ => slotsNames_lifted os started H enc)
#print axioms slotsNames_holds
end Go.Proofs.Ythllhnjbddpeoaa
