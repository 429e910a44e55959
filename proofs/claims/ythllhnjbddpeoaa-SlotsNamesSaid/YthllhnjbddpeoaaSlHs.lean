/-
  Write in every case; Twice; a disk's text and its age.
  What a disk's text and age are; a disk of two heads.
  Numbers as a text; a disk of two heads.
-/
import Derived.Test.YthllhnjbddpeoaaSlK

section
namespace Go.Proofs.Ythllhnjbddpeoaa
open Go Go.RowKit Go.Maps Go.Shelf Go.Proofs

set_option maxRecDepth 100000 in
set_option maxHeartbeats 2000000 in
theorem slw_c (g gm : Nat) (v : Value) (d : Dk) (m : Nat) (s : ByteArray) (w : World) (h : Dsk w g gm v d) (hd : d.Ok m) (hm : m ≤ 390000) (hs : s.size ≤ 9223372036854775807) [DecidableEq Lit] :
    Calls Try.prog 43 #[.pointer (some ⟨g, 0, none⟩), .string s] w fun e w' => ∃ v', e = .returned (.int .i64 (d.slw s).1) ∧ Dsk w' g gm v' (d.slw s).2 ∧ Then w v v' ∧ Tch w w' g gm v := by
  by_cases hde : d.de = true
  · have e : d.slw s = (42, d) := by unfold Dk.slw; rw [hde]; rfl
    rw [e]
    clear e hd hm
    have r2 := (row1_new w [.pointer (some ⟨g, 0, none⟩)] 25).alloc (.cells #[.string s] 9)
    have hb1 := (below_alloc w (.cells #[.pointer (some ⟨g, 0, none⟩)] 25)).alloc (by simp) (.cells #[.string s] 9)
    have HDE := hid hde
    clear hde
    go_enter Try.func43, Try.ntmps43
    go_upto_region 1 with (fail)
    have hD1 := h.below hb1
    generalize (w.alloc _).alloc _ = w1 at *
    have HX := hid (dead_c g gm v d w1 hD1)
    rw [HDE.out] at HX
    have c2 := r2.cell (k := 0) rfl
    have HB := hid hb1
    clear hb1
    go_wp2_with (fail)
    refine HX.out.mono ?_
    rintro e _ ⟨rfl, rfl⟩
    go_wp2
    go_ret
    exact ⟨v, rfl, hD1, Then.refl, .of_below HB.out⟩
  · have hde2 : d.de = false := by simpa using hde
    clear hde
    by_cases hr : roomN < s.size
    · have e : d.slw s = (10, d) := by unfold Dk.slw; rw [hde2, if_pos hr]; rfl
      rw [e]
      clear e hd hm
      have hr1 : 16776704 < s.size := hr
      clear hr
      have r2 := (row1_new w [.pointer (some ⟨g, 0, none⟩)] 25).alloc (.cells #[.string s] 9)
      have r3 := row1_new (w.alloc (.cells #[.pointer (some ⟨g, 0, none⟩)] 25)) [.string s] 9
      have hb1 := (below_alloc w (.cells #[.pointer (some ⟨g, 0, none⟩)] 25)).alloc (by simp) (.cells #[.string s] 9)
      simp only [World.size_alloc] at r3
      have HDE := hid hde2
      clear hde2
      go_enter Try.func43, Try.ntmps43
      go_upto_region 1 with (fail)
      have hD1 := h.below hb1
      generalize (w.alloc _).alloc _ = w1 at *
      have HX := hid (dead_c g gm v d w1 hD1)
      rw [HDE.out] at HX
      have c2 := r2.cell (k := 0) rfl
      have c3 := r3.cell (k := 0) rfl
      have HB := hid hb1
      clear hb1
      go_wp2_with (fail)
      refine HX.out.mono ?_
      rintro e _ ⟨rfl, rfl⟩
      go_wp2
      go_ret
      exact ⟨v, rfl, hD1, Then.refl, .of_below HB.out⟩
    · by_cases ha : d.age = maxN
      · have e : d.slw s = (41, d) := by unfold Dk.slw; rw [hde2, if_neg hr, if_pos ha]; rfl
        rw [e]
        have hcl : d.C.length ≤ 1000000 := by have := hd.len; omega
        clear e hd hm
        have hr1 : s.size ≤ 16776704 := by unfold roomN at hr; omega
        clear hr
        have hN2 : (newP (d.read 32768) (d.read 0)).2.1 = 1099511627776 := ha
        have HR := hid (h.reads hcl)
        clear ha
        have r2 := (row1_new w [.pointer (some ⟨g, 0, none⟩)] 25).alloc (.cells #[.string s] 9)
        have r3 := row1_new (w.alloc (.cells #[.pointer (some ⟨g, 0, none⟩)] 25)) [.string s] 9
        have hb1 := (below_alloc w (.cells #[.pointer (some ⟨g, 0, none⟩)] 25)).alloc (by simp) (.cells #[.string s] 9)
        simp only [World.size_alloc] at r3
        have HDE := hid hde2
        have HN2 := hid hN2
        clear hde2 hN2
        go_enter Try.func43, Try.ntmps43
        go_upto_region 1 with (fail)
        have hD1 := h.below hb1
        have HNW := hid (newest_c (.pointer (some ⟨g, 0, none⟩)) d.read _ (HR.out.below hb1))
        rw [HN2.out] at HNW
        generalize (w.alloc _).alloc _ = w1 at *
        have HX := hid (dead_c g gm v d w1 hD1)
        rw [HDE.out] at HX
        have c2 := r2.cell (k := 0) rfl
        have c3 := r3.cell (k := 0) rfl
        have HB := hid hb1
        clear hb1
        go_wp2_with (fail)
        refine HX.out.mono ?_
        rintro e _ ⟨rfl, rfl⟩
        go_wp2_with (fail)
        refine HNW.out.mono ?_
        rintro e w2 ⟨rfl, hb2⟩
        have hb3 := below_next hb2 hb2.size (below_alloc w2 (.cells #[.int .i64 (newP (d.read 32768) (d.read 0)).1] 100))
        go_wp2
        go_ret
        exact ⟨v, rfl, hD1.below hb3, Then.refl, .of_below (below_next HB.out HB.out.size hb3)⟩
      · rw [slw_runK hde2 (by omega) ha]
        exact slw_main g gm v d m s w h hd hm hde2 (by omega) ha
/-- a text is written twice. -/
def Dk.twice (d : Dk) (s : ByteArray) : Int × Dk := if (d.slw s).1 = 0 then (d.slw s).2.slw s else d.slw s
set_option maxRecDepth 100000 in
theorem twice_c (g gm : Nat) (v : Value) (d : Dk) (m m2 : Nat) (s : ByteArray) (w : World) (h : Dsk w g gm v d) (hd : d.Ok m) (hm : m ≤ 390000) (hd2 : (d.slw s).2.Ok m2) (hm2 : m2 ≤ 390000) (hs : s.size ≤ 9223372036854775807) [DecidableEq Lit] :
    Calls Try.prog 46 #[.pointer (some ⟨g, 0, none⟩), .string s] w fun e w' => ∃ v', e = .returned (.int .i64 (d.twice s).1) ∧ Dsk w' g gm v' (d.twice s).2 ∧ Then w v v' ∧ Tch w w' g gm v := by
  have HC := hid (slw_c g gm v d m s w h hd hm hs)
  have HT := hid (show d.twice s = if (d.slw s).1 = 0 then (d.slw s).2.slw s else d.slw s from rfl)
  have HO := hid hd2
  clear hd2 h hd hm
  generalize d.twice s = R at *
  go_enter Try.func46, Try.ntmps46
  go_wp2_with (fail)
  refine HC.out.mono ?_
  rintro e w2 ⟨v', rfl, hD, hTh, hTc⟩
  by_cases hz : (d.slw s).1 = 0
  · have hz1 : ((d.slw s).1 != 0) = false := by simpa using hz
    have HR := hid (HT.out.trans (if_pos hz))
    have HC2 := hid (slw_c g gm v' _ m2 s w2 hD HO.out hm2 hs)
    clear hz HC
    go_wp2_with (fail)
    refine HC2.out.mono ?_
    rintro e w3 ⟨v3, rfl, hD3, hTh3, hTc3⟩
    go_wp2
    go_ret
    exact ⟨v3, by rw [HR.out]; rfl, by rw [HR.out]; exact hD3, hTh.trans hTc.size hTh3, hTc.trans hTh hTc3⟩
  · have hz1 : ((d.slw s).1 != 0) = true := by simpa using hz
    have HR := hid (HT.out.trans (if_neg hz))
    clear hz HC
    go_wp2
    go_ret
    exact ⟨v', by rw [HR.out]; rfl, by rw [HR.out]; exact hD, hTh, hTc⟩
theorem write_snil (s : ByteArray) (w : World) (hs : s.size ≤ 9223372036854775807) : Calls Try.prog 43 #[.pointer none, .string s] w fun e w' => e = .returned (.int .i64 2) ∧ Below w.heap.size w w' := by
  have r2 := (row1_new w [.pointer none] 25).alloc (.cells #[.string s] 9)
  have hb1 := (below_alloc w (.cells #[.pointer none] 25)).alloc (by simp) (.cells #[.string s] 9)
  go_enter Try.func43, Try.ntmps43
  go_upto_region 1 with (fail)
  generalize (w.alloc _).alloc _ = w1 at *
  have c2 := r2.cell (k := 0) rfl
  go_wp2
  go_ret
  exact ⟨rfl, hb1⟩
theorem twice_snil (s : ByteArray) (w : World) (hs : s.size ≤ 9223372036854775807) : Calls Try.prog 46 #[.pointer none, .string s] w fun e w' => e = .returned (.int .i64 2) ∧ Below w.heap.size w w' := by
  have HC := hid (write_snil s w hs)
  go_enter Try.func46, Try.ntmps46
  go_wp2_with (fail)
  refine HC.out.mono ?_
  rintro e w2 ⟨rfl, hb⟩
  go_wp2
  go_ret
  exact ⟨rfl, hb⟩
end Go.Proofs.Ythllhnjbddpeoaa
end

section
namespace Go.Proofs.Ythllhnjbddpeoaa
open Go Go.RowKit Go.Maps Go.Shelf Go.Proofs

theorem plat_size2 {d : Dk} {m : Nat} (h : d.Ok m) (a : Int) : (d.plat a).size = if isS a then 512 else 0 := by
  unfold Dk.plat
  split
  · exact getP_size h.P a
  · rfl
theorem dread_size {d : Dk} {m : Nat} (h : d.Ok m) (hde : d.de = false) {a : Int} (ha : isS a = true) : (d.read a).size = 512 := by
  unfold Dk.read
  rw [hde]
  simp only [Bool.false_eq_true, if_false]
  cases hl : lastC d.C a with
  | none => simp only; rw [plat_size2 h, if_pos ha]
  | some p =>
    simp only
    unfold lastC at hl
    exact h.C.size p (by simpa using List.mem_of_find?_eq_some hl)
theorem dread_le {d : Dk} {m : Nat} (h : d.Ok m) (a : Int) : (d.read a).size ≤ 512 := by
  by_cases hde : d.de = true
  · unfold Dk.read; rw [hde]; exact (by decide : (0:Nat) ≤ 512)
  · have hde2 : d.de = false := by simpa using hde
    by_cases ha : isS a = true
    · rw [dread_size h hde2 ha]; omega
    · have ha2 : isS a = false := by simpa using ha
      unfold Dk.read
      rw [hde2, lastC_is h.C ha2]
      simp only [Bool.false_eq_true, if_false]
      rw [plat_size2 h, if_neg ha]; omega
theorem dread_dead {d : Dk} (h : d.de = true) (a : Int) : d.read a = ⟨#[]⟩ := by unfold Dk.read; rw [h]; rfl
theorem age_dead {d : Dk} (h : d.de = true) : d.newest = (0, 0, 0) := by
  unfold Dk.newest
  rw [dread_dead h, dread_dead h]
  rfl
def Dk.txt (d : Dk) : ByteArray × Bool := readP d.read
def Dk.has (d : Dk) (s : ByteArray) (a : Int) : Bool := d.txt.2 && decide (d.txt.1 = s) && decide ((d.age : Int) = a)
theorem sreadD_c (g gm : Nat) (v : Value) (d : Dk) (m : Nat) (w : World) (h : Dsk w g gm v d) (hd : d.Ok m) (hm : m ≤ 1000000) :
    Calls Try.prog 45 #[.pointer (some ⟨g, 0, none⟩)] w fun e w' => e = .returned (.tuple #[.string d.txt.1, .bool d.txt.2]) ∧ Below w.heap.size w w' := by
  have hcl : d.C.length ≤ 1000000 := by have := hd.len; omega
  refine sread_c _ d.read w (h.reads hcl) (fun a => dread_le hd a) fun a h0 h1 hage => ?_
  by_cases hde : d.de = true
  · have e := age_dead hde
    have e2 : (newP (d.read 32768) (d.read 0)).2.1 = 0 := by
      have : newP (d.read 32768) (d.read 0) = (0, 0, 0) := e
      rw [this]
    omega
  · exact dread_size hd (by simpa using hde) (isS_iff.2 ⟨h0, h1⟩)
theorem ageD_c (g gm : Nat) (v : Value) (d : Dk) (m : Nat) (w : World) (h : Dsk w g gm v d) (hd : d.Ok m) (hm : m ≤ 1000000) :
    Calls Try.prog 42 #[.pointer (some ⟨g, 0, none⟩)] w fun e w' => e = .returned (.int .i64 d.age) ∧ Below w.heap.size w w' :=
  age_c _ d.read w (h.reads (by have := hd.len; omega))
theorem sread_snil (w : World) : Calls Try.prog 45 #[.pointer none] w fun e w' => e = .returned (.tuple #[.string ⟨#[]⟩, .bool false]) ∧ Below w.heap.size w w' :=
  sread_c _ _ w (reads_nil w) (fun _ => by decide) (fun _ _ _ h => absurd h (by decide))
theorem age_snil (w : World) : Calls Try.prog 42 #[.pointer none] w fun e w' => e = .returned (.int .i64 0) ∧ Below w.heap.size w w' := age_c _ _ w (reads_nil w)
set_option maxRecDepth 100000 in
theorem has_c (g gm : Nat) (v : Value) (d : Dk) (m : Nat) (s : ByteArray) (a : Int) (w : World) (h : Dsk w g gm v d) (hd : d.Ok m) (hm : m ≤ 1000000) :
    Calls Try.prog 44 #[.pointer (some ⟨g, 0, none⟩), .string s, .int .i64 a] w fun e w' => e = .returned (.bool (d.has s a)) ∧ Below w.heap.size w w' := by
  have HR := hid (sreadD_c g gm v d m w h hd hm)
  have HA := fun w' (hb : Below w.heap.size w w') => hid (ageD_c g gm v d m w' (h.below hb) hd hm)
  have HAA := hid HA
  have HH := hid (show d.has s a = (d.txt.2 && decide (d.txt.1 = s) && decide ((d.age : Int) = a)) from rfl)
  clear HA h hd hm
  generalize d.has s a = R at *
  go_enter Try.func44, Try.ntmps44
  go_wp2_with (fail)
  refine HR.out.mono ?_
  rintro e w1 ⟨rfl, hb1⟩
  generalize d.txt = T at *
  obtain ⟨t, b⟩ := T
  simp only at HH ⊢
  have HC := HAA.out w1 hb1
  cases b with
  | false =>
    go_wp2
    go_ret
    exact ⟨by rw [HH.out]; rfl, hb1⟩
  | true =>
    by_cases hts : t = s
    · subst hts
      have h2 := str_iff.2 (rfl : t = t)
      go_wp2_with (fail)
      refine HC.out.mono ?_
      rintro e w2 ⟨rfl, hb2⟩
      have hb3 := below_next hb1 hb1.size hb2
      generalize d.age = A at *
      by_cases ha : (A : Int) = a
      · subst ha
        go_wp2
        go_ret
        exact ⟨by rw [HH.out]; simp, hb3⟩
      · have ha2 : ((A : Int) == a) = false := by simpa using ha
        have HN := hid ha
        clear ha
        go_wp2
        go_ret
        exact ⟨by rw [HH.out]; simp [HN.out], hb3⟩
    · have h2 := str_no.2 hts
      have HN := hid hts
      clear hts
      go_wp2
      go_ret
      exact ⟨by rw [HH.out]; simp [HN.out], hb1⟩
end Go.Proofs.Ythllhnjbddpeoaa
end

section
namespace Go.Proofs.Ythllhnjbddpeoaa
open Go Go.RowKit Go.Maps Go.Shelf Go.Proofs

def u64n (x : Int) : Nat := (x % 18446744073709551616).toNat
def numsB (l : List Int) : List UInt8 := l.flatMap fun x => num8 (u64n x)
def numsS (l : List Int) : ByteArray := ⟨(numsB l).toArray⟩
theorem numsB_len (l : List Int) : (numsB l).length = 8 * l.length := by
  induction l with
  | nil => rfl
  | cons x l ih =>
    have : numsB (x :: l) = num8 (u64n x) ++ numsB l := rfl
    rw [this, List.length_append, ih, num8_len, List.length_cons]; omega
theorem numsB_snoc (l : List Int) (x : Int) : numsB (l ++ [x]) = numsB l ++ num8 (u64n x) := by simp [numsB]
theorem wrap_u64 (x : Int) : IntKind.u64.wrap x = ((u64n x : Nat) : Int) := by
  have h3 : IntKind.u64.wrap x = x % 18446744073709551616 := by simp [IntKind.wrap, IntKind.bits, IntKind.signed]
  rw [h3]; unfold u64n; omega
set_option maxRecDepth 100000 in
theorem numbers_c (A : Option Addr) (l : List Int) (c : Nat) (w : World) (hA : Cells w A (l.map (Value.int .i64))) (hl : l.length ≤ 1000) (ho : ∀ x ∈ l, I64 x) :
    Calls Try.prog 47 #[.slice A l.length c] w fun e w' => e = .returned (.string (numsS l)) ∧ Below w.heap.size w w' := by
  have HO := hid ho
  have HA := hid hA
  clear ho hA
  go_enter Try.func47, Try.ntmps47
  go_wp2
  go_loopw [3, 4] (fun s i wr => ∃ k : Nat, i = .int .i64 (k : Int) ∧ k ≤ l.length ∧ s = .string (numsS (l.take k)) ∧ Below w.heap.size w wr) (fun _ i _ => l.length - (intOf i).toNat)
  case atStart => exact ⟨0, rfl, by omega, rfl, Below.refl _ _⟩
  case round =>
    obtain ⟨k, rfl, hk, rfl, hb⟩ := hrel
    by_cases hlt : k < l.length
    · obtain ⟨x, hx⟩ := get_of_lt hlt
      obtain ⟨b, off, rfl, c0⟩ := (HA.out.below hb).at_map hx
      obtain ⟨h1, h2⟩ := HO.out x (List.mem_of_getElem? hx)
      have HS := hid (show numsS (l.take (k + 1)) = ⟨((numsS (l.take k)).data.toList ++ num8 (u64n x)).toArray⟩ by
        rw [take_snoc hx, numsS, numsB_snoc]; rfl)
      have HC := hid (num_c (numsS (l.take k)) (u64n x) wr (by
        have : (numsS (l.take k)).size = (numsB (l.take k)).length := by simp [numsS, ByteArray.size]
        rw [this, numsB_len]
        have := List.length_take_le' k l
        omega) (by unfold u64n; omega))
      clear hx
      go_wp2_with (fail)
      rw [wrap_u64 x]
      refine HC.out.mono ?_
      rintro e w2 ⟨rfl, hb2⟩
      go_wp2
      go_roundw
      case rel => exact ⟨k + 1, by go_num, by omega, by rw [HS.out], below_next hb hb.size hb2⟩
      case measure => simp [intOf]; omega
    · obtain rfl : k = l.length := by omega
      rw [List.take_length]
      go_wp2
      go_ret
      exact ⟨rfl, hb⟩
/-- a disk of two heads. -/
def rawD (a b : ByteArray) : Dk := ((dk0.write 0 a).write 32768 b).sync
theorem rawD_ok (a b : ByteArray) : (rawD a b).Ok 2 := ((dk0_ok.write 0 a).write 32768 b).sync
set_option maxRecDepth 100000 in
theorem raw_c (a b : ByteArray) (w : World) (ha : a.size ≤ 9223372036854775807) (hb : b.size ≤ 9223372036854775807) [DecidableEq Lit] :
    Calls Try.prog 41 #[.string a, .string b] w fun e w' => ∃ g gm v, e = .returned (.pointer (some ⟨g, 0, none⟩)) ∧ Dsk w' g gm v (rawD a b) ∧ Base w w' g gm v := by
  go_enter Try.func41, Try.ntmps41
  go_wp2_with (fail)
  refine (dnew_c w).mono ?_
  rintro e w1 ⟨g, gm, rfl, hD, hg, hgm, hb1⟩
  have hB : Base w w1 g gm (.slice none 0 0) := ⟨hb1, hg, hgm, (fun b h => by cases h)⟩
  have H1 := hid (write_c g gm _ dk0 0 0 a w1 hD dk0_ok (by omega) ⟨by omega, by omega⟩ ha)
  clear hb1 hg hgm hD
  go_wp2_with (fail)
  refine H1.out.mono ?_
  rintro e w2 ⟨v2, rfl, hD2, hTh2, hT2⟩
  have hB2 := hB.step hTh2 hT2
  have H2 := hid (write_c g gm _ (dk0.write 0 a) 1 32768 b w2 hD2 (dk0_ok.write 0 a) (by omega) ⟨by omega, by omega⟩ hb)
  clear hB H1 hTh2 hT2
  go_wp2_with (fail)
  refine H2.out.mono ?_
  rintro e w3 ⟨v3, rfl, hD3, hTh3, hT3⟩
  have hB3 := hB2.step hTh3 hT3
  have H3 := hid (sync_c g gm _ _ 2 w3 hD3 ((dk0_ok.write 0 a).write 32768 b) (by omega))
  clear hB2 H2 hTh3 hT3
  go_wp2_with (fail)
  refine H3.out.mono ?_
  rintro e w4 ⟨v4, rfl, hD4, hTh4, hT4⟩
  have hB4 := hB3.step hTh4 hT4
  go_wp2
  go_ret
  exact ⟨g, gm, v4, rfl, hD4, hB4⟩
end Go.Proofs.Ythllhnjbddpeoaa
end
