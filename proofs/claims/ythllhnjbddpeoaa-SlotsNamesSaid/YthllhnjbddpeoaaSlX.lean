/-
  The examples of layer 11.
-/
import Derived.Test.YthllhnjbddpeoaaSlPl
namespace Go.Proofs.Ythllhnjbddpeoaa
open Go Go.RowKit Go.Maps Go.Shelf Go.Proofs

/-- a Write that was done. -/
structure Done (d : Dk) (s : ByteArray) : Prop where
  e : (d.slw s).1 = 0
  C : (d.slw s).2.C = []
  fu : (d.slw s).2.fu = d.fu
  le : (d.slw s).2.le = if d.fu then d.le - lenD d s else d.le
  de : (d.slw s).2.de = false
  new : (d.slw s).2.newest = (d.place, d.age + 1, s.size)
  txt : (d.slw s).2.txt = (s, true)
  wrote : Wrote d.pc d.place s (hdD d s) (getP (d.slw s).2.P)
theorem slw_ok {d : Dk} {s : ByteArray} (hL : Live d) (hs : s.size ≤ roomN) (hage : d.age ≠ maxN) (hf : d.fu = false ∨ (lenD d s : Int) ≤ d.le) : Done d s := by
  obtain ⟨P', e, hW⟩ := slw_all hL hs hage hf
  obtain ⟨h1, h2⟩ := done_new (f := d.fu) (l := if d.fu then d.le - lenD d s else d.le) hL.de hs hage hW
  have hp : (d.slw s).2.P = P' := by rw [e]
  exact ⟨by rw [e], by rw [e], by rw [e], by rw [e], by rw [e], by rw [e]; exact h1, by rw [e]; exact h2, by rw [hp]; exact hW⟩
theorem Done.age {d : Dk} {s : ByteArray} (h : Done d s) : (d.slw s).2.age = d.age + 1 := by
  unfold Dk.age; rw [h.new]; rfl
theorem Done.has {d : Dk} {s : ByteArray} (h : Done d s) : (d.slw s).2.has s ((d.age : Int) + 1) = true := by
  unfold Dk.has
  rw [h.txt, h.age]
  simp
theorem Done.live {d : Dk} {s : ByteArray} (h : Done d s) (hf : d.fu = false) : Live (d.slw s).2 := ⟨h.de, fun e => by rw [h.fu, hf] at e; cases e⟩
theorem fuse_read (d : Dk) (n : Int) : (d.fuse n).newest = d.newest ∧ (d.fuse n).txt = d.txt ∧ (d.fuse n).pc = d.pc ∧ (d.fuse n).place = d.place ∧ (d.fuse n).de = d.de := ⟨rfl, rfl, rfl, rfl, rfl⟩
/-- what was stopped, and is started again. -/
theorem start_of (y : Pc) : (Dk.mk y.1 y.2 true 0 true).start = ⟨y.1, y.2, false, 0, false⟩ := rfl
theorem stopped_same {d : Dk} {s : ByteArray} (hL : Live d) (hs : s.size ≤ roomN) (hage : d.age ≠ maxN) (hf : d.fu = true) (hl : d.le + 2 ≤ lenD d s) :
    (d.slw s).1 = 42 ∧ (d.slw s).2.start.newest = d.newest ∧ (d.slw s).2.start.txt = d.txt ∧ (d.slw s).2.start.fu = false ∧ (d.slw s).2.start.de = false := by
  obtain ⟨y, e, hst, hk⟩ := slw_dies hL hs hage hf (by omega)
  have hsame := st_same hs hst (by
    have : lenD d s = 6 + (wOf d.place s (usD d s)).length := by unfold lenD wOf; rw [List.length_map]
    have := hL.fu hf
    omega)
  obtain ⟨h1, h2⟩ := same_text (place_vw hL.de) hsame
  obtain ⟨h3, h4⟩ := live_newest hL.de
  have e2 : (d.slw s).2.start = ⟨y.1, y.2, false, 0, false⟩ := by rw [e]; rfl
  obtain ⟨h5, h6⟩ := live_newest (d := (⟨y.1, y.2, false, 0, false⟩ : Dk)) rfl
  rw [e2]
  exact ⟨by rw [e], h5.trans (h1.trans h3.symm), h6.trans (h2.trans h4.symm), rfl, rfl⟩

/-- a Write that was done, with no fuse. -/
structure Next (d : Dk) (s : ByteArray) (d' : Dk) (m : Nat) : Prop where
  e : d.slw s = (0, d')
  ok : d'.Ok (2 * m + 100000)
  live : Live d'
  fu : d'.fu = false
  C : d'.C = []
  age : d'.age = d.age + 1
  new : d'.newest = (d.place, d.age + 1, s.size)
  txt : d'.txt = (s, true)
  has : d'.has s ((d.age : Int) + 1) = true
theorem slw_next {d : Dk} {s : ByteArray} {m : Nat} (hok : d.Ok m) (hL : Live d) (hf : d.fu = false) (hs : s.size ≤ roomN) (hage : d.age ≠ maxN) : ∃ d', Next d s d' m := by
  have h := slw_ok hL hs hage (.inl hf)
  have h2 := h.has
  have h3 := h.age
  have h4 := hok.slw s
  have h5 := h.live hf
  obtain ⟨he, hC, hfu, _, _, hnew, htxt, _⟩ := h
  obtain ⟨⟨e, d'⟩, hd⟩ : ∃ x, d.slw s = x := ⟨_, rfl⟩
  rw [hd] at he hC hfu hnew htxt h2 h3 h4 h5
  simp only at he hC hfu hnew htxt h2 h3 h4 h5
  subst he
  exact ⟨d', hd, h4, h5, hfu.trans hf, hC, h3, hnew, htxt, h2⟩
/-- one that a fuse stopped ahead of the new head, and then a start. -/
theorem slw_stop {d : Dk} {s : ByteArray} {m : Nat} {n : Int} (hok : d.Ok m) (hL : Live d) (hn : 0 ≤ n) (hn2 : n ≤ 4) (hs : s.size ≤ roomN) (hage : d.age ≠ maxN) :
    ∃ d', (d.fuse n).slw s = (42, d') ∧ d'.Ok (2 * m + 100000) ∧ d'.start.newest = d.newest ∧ d'.start.txt = d.txt ∧ Live d'.start ∧ d'.start.fu = false := by
  have hok2 : (d.fuse n).Ok m := hok.fuse_ ⟨by omega, by omega⟩
  have hL2 : Live (d.fuse n) := ⟨hL.de, fun _ => hn⟩
  have hf2 : (d.fuse n).fu = true := by show decide (0 ≤ n) = true; simpa using hn
  have hle : (d.fuse n).le = n := rfl
  have hage2 : (d.fuse n).age ≠ maxN := hage
  have h1 := hok2.slw s
  obtain ⟨r1, r2, _, _, _⟩ := fuse_read d n
  rw [← r1, ← r2]
  generalize d.fuse n = x at *
  obtain ⟨a1, a2, a3, a4, a5⟩ := stopped_same hL2 hs hage2 hf2 (by rw [hle]; unfold lenD; omega)
  obtain ⟨⟨e, d'⟩, hd⟩ : ∃ y, x.slw s = y := ⟨_, rfl⟩
  rw [hd] at a1 a2 a3 a4 a5 h1 ⊢
  simp only at a1 a2 a3 a4 a5 h1
  subst a1
  exact ⟨d', rfl, h1, a2, a3, ⟨a5, fun h => by rw [a4] at h; cases h⟩, a4⟩
theorem has_of {d : Dk} {s : ByteArray} {a : Nat} (h1 : d.txt = (s, true)) (h2 : d.age = a) : d.has s (a : Int) = true := by
  unfold Dk.has
  rw [h1, h2]; simp
theorem dk0_new : dk0.newest = (0, 0, 0) := by decide +kernel
theorem dk0_txt : dk0.txt = (⟨#[]⟩, false) := by
  have : dk0.txt = textP dk0.read dk0.newest := rfl
  rw [this, dk0_new]; rfl
theorem dk0_live : Live dk0 := ⟨rfl, (fun h => by cases h)⟩
abbrev bAB : ByteArray := ⟨#[97, 98]⟩
abbrev bC : ByteArray := ⟨#[99]⟩
abbrev bD : ByteArray := ⟨#[100]⟩
/-- the examples, of whatever disk that is new. -/
theorem ex_all {d : Dk} (hok : d.Ok 0) (hL : Live d) (hf : d.fu = false) (hn : d.newest = (0, 0, 0)) :
    ∃ d1 d2 d4 : Dk, d.slw bAB = (0, d1) ∧ d1.Ok 100000 ∧ d1.has bAB 1 = true ∧ d1.slw bC = (0, d2) ∧ d2.Ok 300000 ∧ d2.has bC 2 = true ∧ (d2.fuse 3).slw bD = (42, d4) ∧ d4.Ok 700000 ∧ d4.start.has bC 2 = true := by
  have ha : d.age = 0 := by unfold Dk.age; rw [hn]
  obtain ⟨d1, h1⟩ := slw_next (s := bAB) hok hL hf (by decide) (by rw [ha]; decide)
  have ha1 : d1.age = 1 := by rw [h1.age, ha]
  obtain ⟨d2, h2⟩ := slw_next (s := bC) h1.ok h1.live h1.fu (by decide) (by rw [ha1]; decide)
  have ha2 : d2.age = 2 := by rw [h2.age, ha1]
  obtain ⟨d4, b1, b2, b3, b4, _, _⟩ := slw_stop (s := bD) (n := 3) h2.ok h2.live (by omega) (by omega) (by decide) (by rw [ha2]; decide)
  refine ⟨d1, d2, d4, h1.e, h1.ok.mono (by omega), has_of h1.txt ha1, h2.e, h2.ok.mono (by omega), has_of h2.txt ha2, b1, b2.mono (by omega), has_of (b4.trans h2.txt) ?_⟩
  show d4.start.newest.2.1 = 2
  rw [b3]; exact ha2
set_option maxRecDepth 100000 in
set_option maxHeartbeats 2000000 in
theorem awake_c (w : World) [DecidableEq Lit] : Calls Try.prog 40 #[] w fun e w' => e = .returned (.bool true) ∧ Below w.heap.size w w' := by
  obtain ⟨w1, w2, w4, e1, w1_ok, k1, e2, w2_ok, k2, e4, w4_ok, k4⟩ := ex_all dk0_ok dk0_live rfl dk0_new
  have T0 := hid dk0_txt
  have E1 := hid e1
  have K1 := hid k1
  have E2 := hid e2
  have K2 := hid k2
  have E4 := hid e4
  have K4 := hid k4
  have w3_ok : (w2.fuse 3).Ok 300000 := w2_ok.fuse_ ⟨by omega, by omega⟩
  have w5_ok := w4_ok.start
  clear e1 k1 e2 k2 e4 k4
  have D0 := hid dk0_ok
  go_enter Try.func40, Try.ntmps40
  go_wp2_with (fail)
  refine (dnew_c w).mono ?_
  rintro e x1 ⟨g, gm, rfl, hD1, hg, hgm, hb1⟩
  have hB1 : Base w x1 g gm (.slice none 0 0) := ⟨hb1, hg, hgm, (fun b h => by cases h)⟩
  clear hb1 hg hgm
  have H := hid (sreadD_c g gm _ dk0 0 x1 hD1 dk0_ok (by omega))
  rw [T0.out] at H
  go_wp2_with (fail)
  refine H.out.mono ?_
  rintro e x2 ⟨rfl, hb2⟩
  have hD2 := hD1.below hb2
  have hB2 := hB1.below hb2
  clear H hD1 hB1 hb2
  have H := hid (slw_c g gm _ dk0 0 bAB x2 hD2 dk0_ok (by omega) (by decide))
  rw [E1.out] at H
  go_wp2_with (fail)
  refine H.out.mono ?_
  rintro e x3 ⟨v3, rfl, hD3, hTh3, hT3⟩
  have hB3 := hB2.step hTh3 hT3
  clear H hD2 hB2 hTh3 hT3
  have H := hid (has_c g gm v3 w1 100000 bAB 1 x3 hD3 w1_ok (by omega))
  rw [K1.out] at H
  go_wp2_with (fail)
  refine H.out.mono ?_
  rintro e x4 ⟨rfl, hb4⟩
  have hD4 : Dsk x4 g gm v3 w1 := hD3.below hb4
  have hB4 := hB3.below hb4
  clear H hD3 hB3 hb4
  have H := hid (slw_c g gm _ w1 100000 bC x4 hD4 w1_ok (by omega) (by decide))
  rw [E2.out] at H
  go_wp2_with (fail)
  refine H.out.mono ?_
  rintro e x5 ⟨v5, rfl, hD5, hTh5, hT5⟩
  have hB5 := hB4.step hTh5 hT5
  clear H hD4 hB4 hTh5 hT5
  have H := hid (has_c g gm v5 w2 300000 bC 2 x5 hD5 w2_ok (by omega))
  rw [K2.out] at H
  go_wp2_with (fail)
  refine H.out.mono ?_
  rintro e x6 ⟨rfl, hb6⟩
  have hD6 : Dsk x6 g gm v5 w2 := hD5.below hb6
  have hB6 := hB5.below hb6
  clear H hD5 hB5 hb6
  have H := hid (fuse_c g gm v5 w2 3 x6 hD6 ⟨by omega, by omega⟩)
  go_wp2_with (fail)
  refine H.out.mono ?_
  rintro e x7 ⟨rfl, hD7, hT7⟩
  have hB7 := hB6.step Then.refl hT7
  clear H hD6 hB6 hT7
  have H := hid (slw_c g gm v5 (w2.fuse 3) 300000 bD x7 hD7 w3_ok (by omega) (by decide))
  rw [E4.out] at H
  go_wp2_with (fail)
  refine H.out.mono ?_
  rintro e x8 ⟨v8, rfl, hD8, hTh8, hT8⟩
  have hB8 := hB7.step hTh8 hT8
  clear H hD7 hB7 hTh8 hT8
  have H := hid (start_c g gm v8 w4 x8 hD8)
  go_wp2_with (fail)
  refine H.out.mono ?_
  rintro e x9 ⟨rfl, hD9, hT9⟩
  have hB9 := hB8.step Then.refl hT9
  clear H hD8 hB8 hT9
  have H := hid (has_c g gm v8 w4.start 700000 bC 2 x9 hD9 w5_ok (by omega))
  rw [K4.out] at H
  go_wp2_with (fail)
  refine H.out.mono ?_
  rintro e xa ⟨rfl, hba⟩
  have hBa := hB9.below hba
  go_wp2
  go_ret
  exact ⟨rfl, hBa.b⟩
end Go.Proofs.Ythllhnjbddpeoaa
