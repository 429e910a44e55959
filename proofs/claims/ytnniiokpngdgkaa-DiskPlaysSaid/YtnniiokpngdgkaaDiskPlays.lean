/-
  PROVED HERE: DiskPlays: whatever is done to a disk: each answer, and all that is told of it, are the document's: for every steps.
-/
import Derived.Test.YtnniiokpngdgkaaRkF
import Derived.Test.YtnniiokpngdgkaaDiskCopies
namespace Go.Proofs.Ytnniiokpngdgkaa
open Go Go.ChangeShapes Go.WideShapes Go.ChangeAt Go.RowKit Go.Maps Go.Shelf Go.Proofs

theorem Tch.rdisk {w w' : World} {g gm h0 : Nat} {v vp vc : Value} {d : Dk} {r : Rk} (hT : Tch w w' g gm v) (hD : Dsk w g gm v d) (hR : RDsk w h0 vp vc r) : RDsk w' h0 vp vc r := by
  have n0 := hD.ne_cells hR.row (by decide) (by decide)
  refine ⟨hR.row.keep (hT.block _ hR.row.lt n0.1 n0.2.1 n0.2.2), ownsRow_tch hR.P hD hT (by decide) (by decide), ownsRow_tch hR.C hD hT (by decide) (by decide)⟩
theorem RT.disk {w w' : World} {g gm h0 : Nat} {v vp vc : Value} {d : Dk} {r : Rk} (hT : RT w w' h0) (hD : Dsk w g gm v d) (hR : RDsk w h0 vp vc r) : Dsk w' g gm v d := by
  have n0 := hD.ne_cells hR.row (by decide) (by decide)
  exact hD.keep (hT.block _ hD.lt.1 (Ne.symm n0.1)) (hT.block _ hD.lt.2.1 (Ne.symm n0.2.1)) fun b hb => hT.block _ (hD.vlt hb).1 fun e => n0.2.2 (by rw [hb, e])
/-- the two disks side by side. -/
def PlS (w0 w : World) (g gm h : Nat) (d : Dk) (r : Rk) : Prop := ∃ v vp vc, Dsk w g gm v d ∧ Base w0 w g gm v ∧ RDsk w h vp vc r ∧ w0.heap.size ≤ h
theorem PlS.below {w0 w w' : World} {g gm h : Nat} {d : Dk} {r : Rk} (k : PlS w0 w g gm h d r) (hb : Below w.heap.size w w') : PlS w0 w' g gm h d r := by
  obtain ⟨v, vp, vc, h1, h2, h3, h4⟩ := k
  exact ⟨v, vp, vc, h1.below hb, h2.below hb, h3.below hb, h4⟩
theorem PlS.dr {w0 w w' : World} {g gm h : Nat} {d : Dk} {r : Rk} (k : PlS w0 w g gm h d r) (hb : Dr w w') : PlS w0 w' g gm h d r := by
  obtain ⟨v, vp, vc, h1, h2, h3, h4⟩ := k
  exact ⟨v, vp, vc, h1.dr hb, h2.dr hb, h3.dr hb, h4⟩
theorem PlS.b {w0 w : World} {g gm h : Nat} {d : Dk} {r : Rk} (k : PlS w0 w g gm h d r) : Below w0.heap.size w0 w := by
  obtain ⟨v, vp, vc, h1, h2, h3, h4⟩ := k
  exact h2.b
def phPl (w0 : World) (g gm h : Nat) (d d' : Dk) (r r' : Rk) (p : Nat) (w : World) : Prop := PlS w0 w g gm h (if p = 0 then d else d') (if p ≤ 1 then r else r')
theorem uses_is {d : Dk} {m : Nat} {us : List Int} (hu : Uses d us) (hd : d.Ok m) : ∀ a ∈ us, I64 a := fun a ha => by
  have his : isS a = true := by
    rcases (hu.2 a).1 ha with ⟨p, hp, rfl⟩ | ⟨p, hp, rfl⟩
    · exact hd.P.at_ p hp
    · exact hd.C.at_ p hp
  have := isS_iff.1 his
  exact ⟨by omega, by omega⟩

theorem cellsI_at {w : World} {b o k : Nat} {xs : List Int} {y : Int} (h : CellsI w (some ⟨b, o, none⟩) xs) (hy : xs[k]? = some y) : w.cell? ⟨b, o + k, none⟩ = some (.int .i64 y) := by
  rcases h with h0 | ⟨b', off', e, h5⟩
  · have : xs = [] := by simpa using h0
    subst this
    simp at hy
  · simp only [Option.some.injEq, Addr.mk.injEq, and_true] at e
    obtain ⟨rfl, rfl⟩ := e
    exact h5 _ _ (by rw [List.getElem?_map, hy]; rfl)
set_option maxRecDepth 100000 in
set_option maxHeartbeats 4000000 in
theorem diskPlays_c (A : Option Addr) (l : List St) (c : Nat) (w : World) (hA : CellsS w A l) (hl : l.length ≤ 9223372036854775807) (ho : ∀ u ∈ l, u.Ok w) [DecidableEq Lit] :
    Calls Try.prog 5 #[.slice A l.length c] w fun e w' => e = .returned (.bool true) ∧ Below w.heap.size w w' := by
  have HO := hid ho
  have HA := hid hA
  clear ho hA
  go_enter Try.func5, Try.ntmps5
  go_wp2_with (fail)
  refine (long_c A l c w HA.out hl fun u hu => ⟨(HO.out u hu).s, (HO.out u hu).kl⟩).mono ?_
  rintro e w1 ⟨⟨b, rfl, hfew⟩, hd⟩
  have hb := below_dr (Below.refl w.heap.size w) hd
  cases b with
  | true =>
    clear hfew hd
    go_wp2
    go_ret
    exact ⟨rfl, hb⟩
  | false =>
    have hfl := hfew rfl
    clear hfew hd
    go_wp2_with (fail)
    refine (far_c A l c w1 (HA.out.below hb) hl).mono ?_
    rintro e _ ⟨⟨b, rfl⟩, rfl⟩
    cases b with
    | true =>
      go_wp2
      go_ret
      exact ⟨rfl, hb⟩
    | false =>
      go_wp2_with (fail)
      refine (dnew_c w1).mono ?_
      rintro e w2 ⟨g, gm, rfl, hD, hg, hgm, hb2⟩
      have hB : Base w1 w2 g gm (.slice none 0 0) := ⟨hb2, hg, hgm, (fun b h => by cases h)⟩
      clear hg hgm
      go_wp2_with (fail)
      refine (rnew_c w2).mono ?_
      rintro e w3 ⟨h, rfl, hR, hh, hb3⟩
      have hP : PlS w1 w3 g gm h dk0 rk0 := ⟨_, _, _, hD.below hb3, hB.below hb3, hR, Nat.le_trans hb2.size hh⟩
      clear hD hB hR hh hb2 hb3
      go_wp2
      go_loopw [5] (fun i wr => ∃ k : Nat, i = .int .i64 k ∧ k ≤ l.length ∧ PlS w1 wr g gm h (runs (l.take k)) (runsR (l.take k))) (fun i _ => l.length - (intOf i).toNat)
      case atStart => exact ⟨0, rfl, by omega, hP⟩
      case round =>
        obtain ⟨k, rfl, hk, hPr⟩ := hrel
        clear hP
        by_cases hlt : k < l.length
        · obtain ⟨x, hx⟩ := get_of_lt hlt
          have hxo := HO.out x (List.mem_of_getElem? hx)
          have hxa := hxo.at_
          have hbr := below_next hb hb.size hPr.b
          obtain ⟨b, off, rfl, d0, d1, d2, d3, d4⟩ := cellsS5 HA.out hbr hx
          have hok := runs_ok (w := w) (l.take k) fun u hu => HO.out u (List.mem_of_mem_take hu)
          have hkl : (l.take k).length ≤ 200 := by have := List.length_take_le' k l; omega
          have hrl := runsR_len (l.take k)
          have hsim := runs_sim (l.take k)
          have HS := hid (show runs (l.take (k + 1)) = (runs (l.take k)).step x ∧ runsR (l.take (k + 1)) = (runsR (l.take k)).step x by rw [take_snoc hx, runs_snoc, runsR_snoc]; exact ⟨rfl, rfl⟩)
          have HX := hid hx
          have HXO := hid (Ok.below hxo hb)
          generalize runs (l.take k) = d at *
          generalize runsR (l.take k) = r at *
          have HOK := hid hok
          have HSI := hid hsim
          have HST := hid (hsim.step x)
          have HOK2 := hid (hok.step hxo)
          have hrl2 := r.step_len x
          clear hx hok hsim hxo d0 d1 d2 d3 d4
          have H0 : phPl w1 g gm h d (d.step x) r (r.step x) 0 wr := hPr
          have HRD := hid (fun y => ((HST.out.1.read HOK2.out y).symm))
          have HPD := hid (fun y => ((HST.out.1.plat y).symm))
          have hlC : (r.step x).P.length + (r.step x).C.length ≤ 1000 := by unfold Rk.len at hrl2 hrl; omega
          have hlD : (d.step x).C.length ≤ 1000000 := by have := HOK2.out.len; omega
          have HCL := hid (show (r.step x).C.length = (d.step x).C.length by rw [HST.out.1.C, List.length_map])
          have HFP := hid HST.out.1.oP
          have HFC := hid HST.out.1.oC
          have HDE := hid HST.out.1.de
          have HSE := hid HST.out.2
          have hbw1 := hPr.b
          have HB0 := hid hb
          clear hPr
          go_wp2_with (fail)
          generalize hd' : d.step x = d' at *
          generalize hr' : r.step x = r' at *
          have HD' := hid hd'
          have HR' := hid hr'
          clear hd' hr'
          refine Rgd.wp_region (l := [_, _, _, _, _, _, _, _, _, _, _, _, _, _, _, _, _, _, _, _, _, _, _, _, _, _, _, _, _, _, _, _, _, _, _, _, _, _, _, _, _, _, _, _, _, _, _, _, _, _, _, _, _, _, _, _, _, _, _, _, _, _, _, _, _]) (tail := [_]) (Rgd.stay w1 (phPl w1 g gm h d d' r r') [5, 11] [(0, 0), (0, 0), (0, 0), (0, 0), (0, 0), (0, 0), (0, 1), (0, 1), (0, 1), (0, 1), (0, 1), (1, 1), (2, 2), (2, 2), (2, 2), (2, 2), (2, 2), (2, 2), (2, 2), (2, 2), (2, 2), (2, 2), (2, 2), (2, 2), (2, 2), (2, 2), (2, 2), (2, 2), (2, 2), (2, 2), (2, 2), (2, 2), (2, 2), (2, 2), (2, 2), (2, 2), (2, 2), (2, 2), (2, 2), (2, 2), (2, 2), (2, 2), (2, 2), (2, 2), (2, 2), (2, 2), (2, 2), (2, 2), (2, 2), (2, 2), (2, 2), (2, 2), (2, 2), (2, 2), (2, 2), (2, 2), (2, 2), (2, 2), (2, 2), (2, 2), (2, 2), (2, 2), (2, 2), (2, 2), (2, 2)]) [some 22, some 23, some 24, some 25, some 26, some 27, some 28, some 29, some 30, some 31, some 32, some 33, some 34, some 35, some 36, some 37, some 38, some 39, some 40, some 41, some 42, some 43, some 44, some 45, some 46, some 47, some 48, some 49, some 50, some 51, some 52, some 53, some 54, some 55, some 56, some 57, some 58, some 59, some 60, some 61, some 62, some 63, some 64, some 65, some 66, some 67, some 68, some 69, some 70, some 71, some 72, some 73, some 74, some 75, some 76, some 77, some 78, some 79, some 80, some 81, some 82, some 83, some 84, some 85, some 86, some 87] 140 rfl [[], [], [0, 1], [0, 1, 2], [], [0, 1, 2, 3, 4], [], [], [6, 7], [6, 7, 8], [], [0, 1, 2, 3, 4, 5, 6, 7, 8, 9, 10], [0, 1, 2, 3, 4, 5, 6, 7, 8, 9, 10, 11], [0, 1, 2, 3, 4, 5, 6, 7, 8, 9, 10, 11, 12], [0, 1, 2, 3, 4, 5, 6, 7, 8, 9, 10, 11, 12, 13], [0, 1, 2, 3, 4, 5, 6, 7, 8, 9, 10, 11, 12, 13, 14], [0, 1, 2, 3, 4, 5, 6, 7, 8, 9, 10, 11, 12, 13], [0, 1, 2, 3, 4, 5, 6, 7, 8, 9, 10, 11, 12, 13, 16], [0, 1, 2, 3, 4, 5, 6, 7, 8, 9, 10, 11, 12, 13, 16, 17], [0, 1, 2, 3, 4, 5, 6, 7, 8, 9, 10, 11, 12, 13, 16, 17, 18], [0, 1, 2, 3, 4, 5, 6, 7, 8, 9, 10, 11, 12, 13, 14, 15, 16, 17, 18, 19], [0, 1, 2, 3, 4, 5, 6, 7, 8, 9, 10, 11, 12, 13, 14, 15, 16, 17, 18, 19, 20], [0, 1, 2, 3, 4, 5, 6, 7, 8, 9, 10, 11, 12, 13, 14, 15, 16, 17, 18, 19, 20, 21], [0, 1, 2, 3, 4, 5, 6, 7, 8, 9, 10, 11, 12, 13, 14, 15, 16, 17, 18, 19, 20, 21, 22], [0, 1, 2, 3, 4, 5, 6, 7, 8, 9, 10, 11, 12, 13, 14, 15, 16, 17, 18, 19, 20, 21, 22, 23], [0, 1, 2, 3, 4, 5, 6, 7, 8, 9, 10, 11, 12, 13, 14, 15, 16, 17, 18, 19, 20, 21, 22], [0, 1, 2, 3, 4, 5, 6, 7, 8, 9, 10, 11, 12, 13, 14, 15, 16, 17, 18, 19, 20, 21, 22, 25], [0, 1, 2, 3, 4, 5, 6, 7, 8, 9, 10, 11, 12, 13, 14, 15, 16, 17, 18, 19, 20, 21, 22, 25, 26], [0, 1, 2, 3, 4, 5, 6, 7, 8, 9, 10, 11, 12, 13, 14, 15, 16, 17, 18, 19, 20, 21, 22, 25, 26, 27], [0, 1, 2, 3, 4, 5, 6, 7, 8, 9, 10, 11, 12, 13, 14, 15, 16, 17, 18, 19, 20, 21, 22, 25, 26, 27, 28], [0, 1, 2, 3, 4, 5, 6, 7, 8, 9, 10, 11, 12, 13, 14, 15, 16, 17, 18, 19, 20, 21, 22, 23, 24, 25, 26, 27, 28, 29], [0, 1, 2, 3, 4, 5, 6, 7, 8, 9, 10, 11, 12, 13, 14, 15, 16, 17, 18, 19, 20, 21, 22, 23, 24, 25, 26, 27, 28, 29, 30], [0, 1, 2, 3, 4, 5, 6, 7, 8, 9, 10, 11, 12, 13, 14, 15, 16, 17, 18, 19, 20, 21, 22, 23, 24, 25, 26, 27, 28, 29, 30, 31], [0, 1, 2, 3, 4, 5, 6, 7, 8, 9, 10, 11, 12, 13, 14, 15, 16, 17, 18, 19, 20, 21, 22, 23, 24, 25, 26, 27, 28, 29, 30, 31, 32], [0, 1, 2, 3, 4, 5, 6, 7, 8, 9, 10, 11, 12, 13, 14, 15, 16, 17, 18, 19, 20, 21, 22, 23, 24, 25, 26, 27, 28, 29, 30, 31, 32], [0, 1, 2, 3, 4, 5, 6, 7, 8, 9, 10, 11, 12, 13, 14, 15, 16, 17, 18, 19, 20, 21, 22, 23, 24, 25, 26, 27, 28, 29, 30, 31, 32], [0, 1, 2, 3, 4, 5, 6, 7, 8, 9, 10, 11, 12, 13, 14, 15, 16, 17, 18, 19, 20, 21, 22, 23, 24, 25, 26, 27, 28, 29, 30, 31, 32, 34, 35], [0, 1, 2, 3, 4, 5, 6, 7, 8, 9, 10, 11, 12, 13, 14, 15, 16, 17, 18, 19, 20, 21, 22, 23, 24, 25, 26, 27, 28, 29, 30, 31, 32, 34, 35, 36], [0, 1, 2, 3, 4, 5, 6, 7, 8, 9, 10, 11, 12, 13, 14, 15, 16, 17, 18, 19, 20, 21, 22, 23, 24, 25, 26, 27, 28, 29, 30, 31, 32, 34, 35, 36, 37], [0, 1, 2, 3, 4, 5, 6, 7, 8, 9, 10, 11, 12, 13, 14, 15, 16, 17, 18, 19, 20, 21, 22, 23, 24, 25, 26, 27, 28, 29, 30, 31, 32, 33, 34, 35, 36, 37, 38], [0, 1, 2, 3, 4, 5, 6, 7, 8, 9, 10, 11, 12, 13, 14, 15, 16, 17, 18, 19, 20, 21, 22, 23, 24, 25, 26, 27, 28, 29, 30, 31, 32], [0, 1, 2, 3, 4, 5, 6, 7, 8, 9, 10, 11, 12, 13, 14, 15, 16, 17, 18, 19, 20, 21, 22, 23, 24, 25, 26, 27, 28, 29, 30, 31, 32], [0, 1, 2, 3, 4, 5, 6, 7, 8, 9, 10, 11, 12, 13, 14, 15, 16, 17, 18, 19, 20, 21, 22, 23, 24, 25, 26, 27, 28, 29, 30, 31, 32], [0, 1, 2, 3, 4, 5, 6, 7, 8, 9, 10, 11, 12, 13, 14, 15, 16, 17, 18, 19, 20, 21, 22, 23, 24, 25, 26, 27, 28, 29, 30, 31, 32, 41, 42], [0, 1, 2, 3, 4, 5, 6, 7, 8, 9, 10, 11, 12, 13, 14, 15, 16, 17, 18, 19, 20, 21, 22, 23, 24, 25, 26, 27, 28, 29, 30, 31, 32, 41, 42, 43], [0, 1, 2, 3, 4, 5, 6, 7, 8, 9, 10, 11, 12, 13, 14, 15, 16, 17, 18, 19, 20, 21, 22, 23, 24, 25, 26, 27, 28, 29, 30, 31, 32, 41, 42, 43, 44], [0, 1, 2, 3, 4, 5, 6, 7, 8, 9, 10, 11, 12, 13, 14, 15, 16, 17, 18, 19, 20, 21, 22, 23, 24, 25, 26, 27, 28, 29, 30, 31, 32, 33, 34, 35, 36, 37, 38, 39, 40, 41, 42, 43, 44, 45], [0, 1, 2, 3, 4, 5, 6, 7, 8, 9, 10, 11, 12, 13, 14, 15, 16, 17, 18, 19, 20, 21, 22, 23, 24, 25, 26, 27, 28, 29, 30, 31, 32, 33, 34, 35, 36, 37, 38, 39, 40, 41, 42, 43, 44, 45, 46], [0, 1, 2, 3, 4, 5, 6, 7, 8, 9, 10, 11, 12, 13, 14, 15, 16, 17, 18, 19, 20, 21, 22, 23, 24, 25, 26, 27, 28, 29, 30, 31, 32, 33, 34, 35, 36, 37, 38, 39, 40, 41, 42, 43, 44, 45, 46, 47], [0, 1, 2, 3, 4, 5, 6, 7, 8, 9, 10, 11, 12, 13, 14, 15, 16, 17, 18, 19, 20, 21, 22, 23, 24, 25, 26, 27, 28, 29, 30, 31, 32, 33, 34, 35, 36, 37, 38, 39, 40, 41, 42, 43, 44, 45, 46, 47, 48], [0, 1, 2, 3, 4, 5, 6, 7, 8, 9, 10, 11, 12, 13, 14, 15, 16, 17, 18, 19, 20, 21, 22, 23, 24, 25, 26, 27, 28, 29, 30, 31, 32, 33, 34, 35, 36, 37, 38, 39, 40, 41, 42, 43, 44, 45, 46, 47, 48, 49], [0, 1, 2, 3, 4, 5, 6, 7, 8, 9, 10, 11, 12, 13, 14, 15, 16, 17, 18, 19, 20, 21, 22, 23, 24, 25, 26, 27, 28, 29, 30, 31, 32, 33, 34, 35, 36, 37, 38, 39, 40, 41, 42, 43, 44, 45, 46, 47, 48, 49], [0, 1, 2, 3, 4, 5, 6, 7, 8, 9, 10, 11, 12, 13, 14, 15, 16, 17, 18, 19, 20, 21, 22, 23, 24, 25, 26, 27, 28, 29, 30, 31, 32, 33, 34, 35, 36, 37, 38, 39, 40, 41, 42, 43, 44, 45, 46, 47, 48, 49], [0, 1, 2, 3, 4, 5, 6, 7, 8, 9, 10, 11, 12, 13, 14, 15, 16, 17, 18, 19, 20, 21, 22, 23, 24, 25, 26, 27, 28, 29, 30, 31, 32, 33, 34, 35, 36, 37, 38, 39, 40, 41, 42, 43, 44, 45, 46, 47, 48, 49, 51, 52], [0, 1, 2, 3, 4, 5, 6, 7, 8, 9, 10, 11, 12, 13, 14, 15, 16, 17, 18, 19, 20, 21, 22, 23, 24, 25, 26, 27, 28, 29, 30, 31, 32, 33, 34, 35, 36, 37, 38, 39, 40, 41, 42, 43, 44, 45, 46, 47, 48, 49, 51, 52, 53], [0, 1, 2, 3, 4, 5, 6, 7, 8, 9, 10, 11, 12, 13, 14, 15, 16, 17, 18, 19, 20, 21, 22, 23, 24, 25, 26, 27, 28, 29, 30, 31, 32, 33, 34, 35, 36, 37, 38, 39, 40, 41, 42, 43, 44, 45, 46, 47, 48, 49, 51, 52, 53, 54], [0, 1, 2, 3, 4, 5, 6, 7, 8, 9, 10, 11, 12, 13, 14, 15, 16, 17, 18, 19, 20, 21, 22, 23, 24, 25, 26, 27, 28, 29, 30, 31, 32, 33, 34, 35, 36, 37, 38, 39, 40, 41, 42, 43, 44, 45, 46, 47, 48, 49, 50, 51, 52, 53, 54, 55], [0, 1, 2, 3, 4, 5, 6, 7, 8, 9, 10, 11, 12, 13, 14, 15, 16, 17, 18, 19, 20, 21, 22, 23, 24, 25, 26, 27, 28, 29, 30, 31, 32, 33, 34, 35, 36, 37, 38, 39, 40, 41, 42, 43, 44, 45, 46, 47, 48, 49], [0, 1, 2, 3, 4, 5, 6, 7, 8, 9, 10, 11, 12, 13, 14, 15, 16, 17, 18, 19, 20, 21, 22, 23, 24, 25, 26, 27, 28, 29, 30, 31, 32, 33, 34, 35, 36, 37, 38, 39, 40, 41, 42, 43, 44, 45, 46, 47, 48, 49], [0, 1, 2, 3, 4, 5, 6, 7, 8, 9, 10, 11, 12, 13, 14, 15, 16, 17, 18, 19, 20, 21, 22, 23, 24, 25, 26, 27, 28, 29, 30, 31, 32, 33, 34, 35, 36, 37, 38, 39, 40, 41, 42, 43, 44, 45, 46, 47, 48, 49], [0, 1, 2, 3, 4, 5, 6, 7, 8, 9, 10, 11, 12, 13, 14, 15, 16, 17, 18, 19, 20, 21, 22, 23, 24, 25, 26, 27, 28, 29, 30, 31, 32, 33, 34, 35, 36, 37, 38, 39, 40, 41, 42, 43, 44, 45, 46, 47, 48, 49, 58, 59], [0, 1, 2, 3, 4, 5, 6, 7, 8, 9, 10, 11, 12, 13, 14, 15, 16, 17, 18, 19, 20, 21, 22, 23, 24, 25, 26, 27, 28, 29, 30, 31, 32, 33, 34, 35, 36, 37, 38, 39, 40, 41, 42, 43, 44, 45, 46, 47, 48, 49, 58, 59, 60], [0, 1, 2, 3, 4, 5, 6, 7, 8, 9, 10, 11, 12, 13, 14, 15, 16, 17, 18, 19, 20, 21, 22, 23, 24, 25, 26, 27, 28, 29, 30, 31, 32, 33, 34, 35, 36, 37, 38, 39, 40, 41, 42, 43, 44, 45, 46, 47, 48, 49, 58, 59, 60, 61], [0, 1, 2, 3, 4, 5, 6, 7, 8, 9, 10, 11, 12, 13, 14, 15, 16, 17, 18, 19, 20, 21, 22, 23, 24, 25, 26, 27, 28, 29, 30, 31, 32, 33, 34, 35, 36, 37, 38, 39, 40, 41, 42, 43, 44, 45, 46, 47, 48, 49, 50, 51, 52, 53, 54, 55, 56, 57, 58, 59, 60, 61, 62], [0, 1, 2, 3, 4, 5, 6, 7, 8, 9, 10, 11, 12, 13, 14, 15, 16, 17, 18, 19, 20, 21, 22, 23, 24, 25, 26, 27, 28, 29, 30, 31, 32, 33, 34, 35, 36, 37, 38, 39, 40, 41, 42, 43, 44, 45, 46, 47, 48, 49, 50, 51, 52, 53, 54, 55, 56, 57, 58, 59, 60, 61, 62, 63]] (by kernel_rfl) (by kernel_rfl) (by kernel_rfl) (by kernel_rfl) (by kernel_rfl) rfl (Rgd.stay_fair fun p w2 w3 hp hk => PlS.below hp hk) (⟨below_next hbw1 hbw1.size (Rgd.keep_drew _), PlS.below H0 (Rgd.keep_drew _)⟩) ?_
          refine' Rgd.op_is _ [] 0 0 rfl rfl rfl (by kernel_rfl) ?_ ?_
          rotate_left
          · intro p wx hp1 hp2 hb
            obtain rfl : p = 0 := by omega
            refine Rgd.from_nil fun T hT => ?_
            go_wp2
            refine hT _ _ rfl (by first | exact Rgd.Keep.refl _ | exact below_of_dr hw2 | exact hw2 | exact (Below.refl _ _).alloc (Nat.le_refl _) _) ?_
            simp only [Rgd.last, List.getElem?_toArray, List.getElem?_cons_succ, List.getElem?_cons_zero, Option.getD_some]
            rfl
          refine' Rgd.op_is _ [] 0 0 rfl rfl rfl (by kernel_rfl) ?_ ?_
          rotate_left
          · intro p wx hp1 hp2 hb
            obtain rfl : p = 0 := by omega
            refine Rgd.from_nil fun T hT => ?_
            go_wp2
            refine hT _ _ rfl (by first | exact Rgd.Keep.refl _ | exact below_of_dr hw2 | exact hw2 | exact (Below.refl _ _).alloc (Nat.le_refl _) _) ?_
            simp only [Rgd.last, List.getElem?_toArray, List.getElem?_cons_succ, List.getElem?_cons_zero, Option.getD_some]
            rfl
          refine' Rgd.op_is _ [0, 1] 0 0 rfl rfl rfl (by kernel_rfl) ?_ ?_
          rotate_left
          · intro p wx hp1 hp2 hb
            obtain rfl : p = 0 := by omega
            refine Rgd.from_is (some 22) rfl rfl ?_
            refine Rgd.from_is (some 23) rfl rfl ?_
            refine Rgd.from_nil fun T hT => ?_
            go_wp2
            refine hT _ _ rfl (by first | exact Rgd.Keep.refl _ | exact below_of_dr hw2 | exact hw2 | exact (Below.refl _ _).alloc (Nat.le_refl _) _) ?_
            simp only [Rgd.last, List.getElem?_toArray, List.getElem?_cons_succ, List.getElem?_cons_zero, Option.getD_some]
            rfl
          refine Rgd.op_is (stval x) [2] 0 0 rfl rfl rfl (by kernel_rfl) ?_ ?_
          · intro p wx hp1 hp2 hb
            obtain rfl : p = 0 := by omega
            refine Rgd.from_is (some 24) rfl rfl ?_
            refine Rgd.from_nil fun T hT => ?_
            have hB : Below w1.heap.size w1 wx := hb.1
            obtain ⟨q0, q1, q2, q3, q4⟩ := cells5_at (HA.out.below (below_next HB0.out HB0.out.size hB)) HX.out
            go_wp2
            exact hT _ _ rfl (by first | exact Rgd.Keep.refl _ | exact below_of_dr hw2 | exact hw2 | exact (Below.refl _ _).alloc (Nat.le_refl _) _) (by first | rfl | exact congrArg _ (by decide))
          refine' Rgd.op_is _ [] 0 0 rfl rfl rfl (by kernel_rfl) ?_ ?_
          rotate_left
          · intro p wx hp1 hp2 hb
            obtain rfl : p = 0 := by omega
            refine Rgd.from_nil fun T hT => ?_
            go_wp2
            refine hT _ _ rfl (by first | exact Rgd.Keep.refl _ | exact below_of_dr hw2 | exact hw2 | exact (Below.refl _ _).alloc (Nat.le_refl _) _) ?_
            simp only [Rgd.last, List.getElem?_toArray, List.getElem?_cons_succ, List.getElem?_cons_zero, Option.getD_some]
            rfl
          refine Rgd.op_turn (.int .i64 (d.stepE x)) [3, 4] 0 rfl rfl (by kernel_rfl) ?_ ?_
          · intro wx hb
            refine Rgd.from_is (some 25) rfl rfl ?_
            refine Rgd.from_is (some 26) rfl rfl ?_
            refine Rgd.from_nil fun T hT => ?_
            obtain ⟨v, vp, vc, hD, hBs, hR, hh⟩ := (show PlS w1 wx g gm h d r from hb.2)
            go_wp2_with (fail)
            refine (do_c w1 g gm v d _ x _ hD HOK.out (by omega) hBs HXO.out).mono ?_
            rintro e wy ⟨v', rfl, hD', hTh, hT'⟩
            rw [HD'.out] at hD'
            go_wp2
            exact hT _ _ rfl trivial ⟨(hBs.step hTh hT').b, v', vp, vc, hD', hBs.step hTh hT', hT'.rdisk hD hR, hh⟩ rfl
          refine' Rgd.op_is _ [] 0 1 rfl rfl rfl (by kernel_rfl) ?_ ?_
          rotate_left
          · intro p wx hp1 hp2 hb
            refine Rgd.from_nil fun T hT => ?_
            go_wp2
            refine hT _ _ rfl (by first | exact Rgd.Keep.refl _ | exact below_of_dr hw2 | exact hw2 | exact (Below.refl _ _).alloc (Nat.le_refl _) _) ?_
            simp only [Rgd.last, List.getElem?_toArray, List.getElem?_cons_succ, List.getElem?_cons_zero, Option.getD_some]
            rfl
          refine' Rgd.op_is _ [] 0 1 rfl rfl rfl (by kernel_rfl) ?_ ?_
          rotate_left
          · intro p wx hp1 hp2 hb
            refine Rgd.from_nil fun T hT => ?_
            go_wp2
            refine hT _ _ rfl (by first | exact Rgd.Keep.refl _ | exact below_of_dr hw2 | exact hw2 | exact (Below.refl _ _).alloc (Nat.le_refl _) _) ?_
            simp only [Rgd.last, List.getElem?_toArray, List.getElem?_cons_succ, List.getElem?_cons_zero, Option.getD_some]
            rfl
          refine' Rgd.op_is _ [6, 7] 0 1 rfl rfl rfl (by kernel_rfl) ?_ ?_
          rotate_left
          · intro p wx hp1 hp2 hb
            refine Rgd.from_is (some 28) rfl rfl ?_
            refine Rgd.from_is (some 29) rfl rfl ?_
            refine Rgd.from_nil fun T hT => ?_
            go_wp2
            refine hT _ _ rfl (by first | exact Rgd.Keep.refl _ | exact below_of_dr hw2 | exact hw2 | exact (Below.refl _ _).alloc (Nat.le_refl _) _) ?_
            simp only [Rgd.last, List.getElem?_toArray, List.getElem?_cons_succ, List.getElem?_cons_zero, Option.getD_some]
            rfl
          refine Rgd.op_is (stval x) [8] 0 1 rfl rfl rfl (by kernel_rfl) ?_ ?_
          · intro p wx hp1 hp2 hb
            refine Rgd.from_is (some 30) rfl rfl ?_
            refine Rgd.from_nil fun T hT => ?_
            have hB : Below w1.heap.size w1 wx := hb.1
            obtain ⟨q0, q1, q2, q3, q4⟩ := cells5_at (HA.out.below (below_next HB0.out HB0.out.size hB)) HX.out
            go_wp2
            exact hT _ _ rfl (by first | exact Rgd.Keep.refl _ | exact below_of_dr hw2 | exact hw2 | exact (Below.refl _ _).alloc (Nat.le_refl _) _) (by first | rfl | exact congrArg _ (by decide))
          refine' Rgd.op_is _ [] 0 1 rfl rfl rfl (by kernel_rfl) ?_ ?_
          rotate_left
          · intro p wx hp1 hp2 hb
            refine Rgd.from_nil fun T hT => ?_
            go_wp2
            refine hT _ _ rfl (by first | exact Rgd.Keep.refl _ | exact below_of_dr hw2 | exact hw2 | exact (Below.refl _ _).alloc (Nat.le_refl _) _) ?_
            simp only [Rgd.last, List.getElem?_toArray, List.getElem?_cons_succ, List.getElem?_cons_zero, Option.getD_some]
            rfl
          refine Rgd.op_turn (.int .i64 (d.stepE x)) [9, 10] 1 rfl rfl (by kernel_rfl) ?_ ?_
          · intro wx hb
            refine Rgd.from_is (some 31) rfl rfl ?_
            refine Rgd.from_is (some 32) rfl rfl ?_
            refine Rgd.from_nil fun T hT => ?_
            obtain ⟨v, vp, vc, hD, hBs, hR, hh⟩ := (show PlS w1 wx g gm h d' r from hb.2)
            go_wp2_with (fail)
            refine (rdo_c w1 h vp vc r d _ x _ hR HSI.out HOK.out (by omega) hBs.b hh HXO.out).mono ?_
            rintro e wy ⟨vp', vc', rfl, hR', hT'⟩
            rw [HR'.out] at hR'
            go_wp2
            have hb9 := hT'.past hBs.b hBs.b.size hh
            exact hT _ _ rfl trivial ⟨hb9, v, vp', vc', hT'.disk hD hR, ⟨hb9, hBs.g, hBs.gm, hBs.v⟩, hR', hh⟩ (by simp [Rgd.last, HSE.out])
          refine Rgd.op_is (.bool false) [5, 11] 2 2 rfl rfl rfl (by kernel_rfl) ?_ ?_
          · intro p wx hp1 hp2 hb
            obtain rfl : p = 2 := by omega
            refine Rgd.from_is (some 27) rfl rfl ?_
            refine Rgd.from_is (some 33) rfl rfl ?_
            refine Rgd.from_nil fun T hT => ?_
            go_wp2
            exact hT _ _ rfl (Rgd.Keep.refl _) (by simp [Rgd.last])
          refine Rgd.op_is (.bool false) [12] 2 2 rfl rfl rfl (by kernel_rfl) ?_ ?_
          · intro p wx hp1 hp2 hb
            obtain rfl : p = 2 := by omega
            refine Rgd.from_is (some 34) rfl rfl ?_
            refine Rgd.from_nil fun T hT => ?_
            go_wp2
            exact hT _ _ rfl (by first | exact Rgd.Keep.refl _ | exact below_of_dr hw2 | exact hw2 | exact (Below.refl _ _).alloc (Nat.le_refl _) _) (by first | rfl | exact congrArg _ (by decide))
          refine' Rgd.op_is _ [] 2 2 rfl rfl rfl (by kernel_rfl) ?_ ?_
          rotate_left
          · intro p wx hp1 hp2 hb
            obtain rfl : p = 2 := by omega
            refine Rgd.from_nil fun T hT => ?_
            go_wp2
            refine hT _ _ rfl (by first | exact Rgd.Keep.refl _ | exact below_of_dr hw2 | exact hw2 | exact (Below.refl _ _).alloc (Nat.le_refl _) _) ?_
            simp only [Rgd.last, List.getElem?_toArray, List.getElem?_cons_succ, List.getElem?_cons_zero, Option.getD_some]
            rfl
          refine Rgd.op_is (.bool d'.de) [14] 2 2 rfl rfl rfl (by kernel_rfl) ?_ ?_
          · intro p wx hp1 hp2 hb
            obtain rfl : p = 2 := by omega
            refine Rgd.from_is (some 36) rfl rfl ?_
            refine Rgd.from_nil fun T hT => ?_
            obtain ⟨v, vp, vc, hD, hBs, hR, hh⟩ := (show PlS w1 wx g gm h d' r' from hb.2)
            go_wp2_with (fail)
            refine (dead_c g gm v d' _ hD).mono ?_
            rintro e _ ⟨rfl, rfl⟩
            go_wp2
            exact hT _ _ rfl (Rgd.Keep.refl _) rfl
          refine' Rgd.op_is _ [] 2 2 rfl rfl rfl (by kernel_rfl) ?_ ?_
          rotate_left
          · intro p wx hp1 hp2 hb
            obtain rfl : p = 2 := by omega
            refine Rgd.from_nil fun T hT => ?_
            go_wp2
            refine hT _ _ rfl (by first | exact Rgd.Keep.refl _ | exact below_of_dr hw2 | exact hw2 | exact (Below.refl _ _).alloc (Nat.le_refl _) _) ?_
            simp only [Rgd.last, List.getElem?_toArray, List.getElem?_cons_succ, List.getElem?_cons_zero, Option.getD_some]
            rfl
          refine' Rgd.op_is _ [16] 2 2 rfl rfl rfl (by kernel_rfl) ?_ ?_
          rotate_left
          · intro p wx hp1 hp2 hb
            obtain rfl : p = 2 := by omega
            refine Rgd.from_is (some 38) rfl rfl ?_
            refine Rgd.from_nil fun T hT => ?_
            go_wp2
            refine hT _ _ rfl (by first | exact Rgd.Keep.refl _ | exact below_of_dr hw2 | exact hw2 | exact (Below.refl _ _).alloc (Nat.le_refl _) _) ?_
            simp only [Rgd.last, List.getElem?_toArray, List.getElem?_cons_succ, List.getElem?_cons_zero, Option.getD_some]
            rfl
          refine' Rgd.op_is _ [17] 2 2 rfl rfl rfl (by kernel_rfl) ?_ ?_
          rotate_left
          · intro p wx hp1 hp2 hb
            obtain rfl : p = 2 := by omega
            refine Rgd.from_is (some 39) rfl rfl ?_
            refine Rgd.from_nil fun T hT => ?_
            go_wp2
            refine hT _ _ rfl (by first | exact Rgd.Keep.refl _ | exact below_of_dr hw2 | exact hw2 | exact (Below.refl _ _).alloc (Nat.le_refl _) _) ?_
            simp only [Rgd.last, List.getElem?_toArray, List.getElem?_cons_succ, List.getElem?_cons_zero, Option.getD_some]
            rfl
          refine Rgd.op_is (.bool d'.de) [18] 2 2 rfl rfl rfl (by kernel_rfl) ?_ ?_
          · intro p wx hp1 hp2 hb
            obtain rfl : p = 2 := by omega
            refine Rgd.from_is (some 40) rfl rfl ?_
            refine Rgd.from_nil fun T hT => ?_
            obtain ⟨v, vp, vc, hD, hBs, hR, hh⟩ := (show PlS w1 wx g gm h d' r' from hb.2)
            obtain ⟨c0, c1, c2, c3, c4⟩ := hR.cells
            rw [← HDE.out] at c4
            go_wp2
            exact hT _ _ rfl (by first | exact Rgd.Keep.refl _ | exact below_of_dr hw2 | exact hw2 | exact (Below.refl _ _).alloc (Nat.le_refl _) _) (by first | rfl | exact congrArg _ (by decide))
          refine Rgd.op_is (.bool false) [15, 19] 2 2 rfl rfl rfl (by kernel_rfl) ?_ ?_
          · intro p wx hp1 hp2 hb
            obtain rfl : p = 2 := by omega
            refine Rgd.from_is (some 37) rfl rfl ?_
            refine Rgd.from_is (some 41) rfl rfl ?_
            refine Rgd.from_nil fun T hT => ?_
            go_wp2
            exact hT _ _ rfl (Rgd.Keep.refl _) (by simp [Rgd.last])
          refine Rgd.op_is (.bool false) [13, 20] 2 2 rfl rfl rfl (by kernel_rfl) ?_ ?_
          · intro p wx hp1 hp2 hb
            obtain rfl : p = 2 := by omega
            refine Rgd.from_is (some 35) rfl rfl ?_
            refine Rgd.from_is (some 42) rfl rfl ?_
            refine Rgd.from_nil fun T hT => ?_
            go_wp2
            exact hT _ _ rfl (by first | exact Rgd.Keep.refl _ | exact below_of_dr hw2 | exact hw2 | exact (Below.refl _ _).alloc (Nat.le_refl _) _) (by first | rfl | exact congrArg _ (by decide))
          refine Rgd.op_is (.bool false) [21] 2 2 rfl rfl rfl (by kernel_rfl) ?_ ?_
          · intro p wx hp1 hp2 hb
            obtain rfl : p = 2 := by omega
            refine Rgd.from_is (some 43) rfl rfl ?_
            refine Rgd.from_nil fun T hT => ?_
            go_wp2
            exact hT _ _ rfl (by first | exact Rgd.Keep.refl _ | exact below_of_dr hw2 | exact hw2 | exact (Below.refl _ _).alloc (Nat.le_refl _) _) (by first | rfl | exact congrArg _ (by decide))
          refine' Rgd.op_is _ [] 2 2 rfl rfl rfl (by kernel_rfl) ?_ ?_
          rotate_left
          · intro p wx hp1 hp2 hb
            obtain rfl : p = 2 := by omega
            refine Rgd.from_nil fun T hT => ?_
            go_wp2
            refine hT _ _ rfl (by first | exact Rgd.Keep.refl _ | exact below_of_dr hw2 | exact hw2 | exact (Below.refl _ _).alloc (Nat.le_refl _) _) ?_
            simp only [Rgd.last, List.getElem?_toArray, List.getElem?_cons_succ, List.getElem?_cons_zero, Option.getD_some]
            rfl
          refine Rgd.op_is (.int .i64 (d'.C.length : Int)) [23] 2 2 rfl rfl rfl (by kernel_rfl) ?_ ?_
          · intro p wx hp1 hp2 hb
            obtain rfl : p = 2 := by omega
            refine Rgd.from_is (some 45) rfl rfl ?_
            refine Rgd.from_nil fun T hT => ?_
            obtain ⟨v, vp, vc, hD, hBs, hR, hh⟩ := (show PlS w1 wx g gm h d' r' from hb.2)
            go_wp2_with (fail)
            refine (waits_c g gm v d' _ hD).mono ?_
            rintro e _ ⟨rfl, rfl⟩
            go_wp2
            exact hT _ _ rfl (Rgd.Keep.refl _) rfl
          refine' Rgd.op_is _ [] 2 2 rfl rfl rfl (by kernel_rfl) ?_ ?_
          rotate_left
          · intro p wx hp1 hp2 hb
            obtain rfl : p = 2 := by omega
            refine Rgd.from_nil fun T hT => ?_
            go_wp2
            refine hT _ _ rfl (by first | exact Rgd.Keep.refl _ | exact below_of_dr hw2 | exact hw2 | exact (Below.refl _ _).alloc (Nat.le_refl _) _) ?_
            simp only [Rgd.last, List.getElem?_toArray, List.getElem?_cons_succ, List.getElem?_cons_zero, Option.getD_some]
            rfl
          refine' Rgd.op_is _ [25] 2 2 rfl rfl rfl (by kernel_rfl) ?_ ?_
          rotate_left
          · intro p wx hp1 hp2 hb
            obtain rfl : p = 2 := by omega
            refine Rgd.from_is (some 47) rfl rfl ?_
            refine Rgd.from_nil fun T hT => ?_
            go_wp2
            refine hT _ _ rfl (by first | exact Rgd.Keep.refl _ | exact below_of_dr hw2 | exact hw2 | exact (Below.refl _ _).alloc (Nat.le_refl _) _) ?_
            simp only [Rgd.last, List.getElem?_toArray, List.getElem?_cons_succ, List.getElem?_cons_zero, Option.getD_some]
            rfl
          refine' Rgd.op_is _ [26] 2 2 rfl rfl rfl (by kernel_rfl) ?_ ?_
          rotate_left
          · intro p wx hp1 hp2 hb
            obtain rfl : p = 2 := by omega
            refine Rgd.from_is (some 48) rfl rfl ?_
            refine Rgd.from_nil fun T hT => ?_
            go_wp2
            refine hT _ _ rfl (by first | exact Rgd.Keep.refl _ | exact below_of_dr hw2 | exact hw2 | exact (Below.refl _ _).alloc (Nat.le_refl _) _) ?_
            simp only [Rgd.last, List.getElem?_toArray, List.getElem?_cons_succ, List.getElem?_cons_zero, Option.getD_some]
            rfl
          refine Rgd.op_of (fun _ _ u => ∃ A c, u = .slice A r'.C.length c) [27] 2 2 rfl rfl ?_ ?_ rfl (by kernel_rfl) ?_ ?_
          · exact fun p w1 w2 v _ hk h => h
          · exact fun p w1 w2 v h0 h1 => by simp [Rgd.stay] at h1; omega
          · intro p wx hp1 hp2 hb
            obtain rfl : p = 2 := by omega
            refine Rgd.from_is (some 49) rfl rfl ?_
            refine Rgd.from_nil fun T hT => ?_
            obtain ⟨v, vp, vc, hD, hBs, hR, hh⟩ := (show PlS w1 wx g gm h d' r' from hb.2)
            obtain ⟨c0, c1, c2, c3, c4⟩ := hR.cells
            obtain ⟨A6, c6, rfl, -⟩ := hR.C.cellsP
            go_wp2
            exact hT _ _ rfl (Rgd.Keep.refl _) ⟨_, _, rfl⟩
          refine Rgd.op_is (.int .i64 (d'.C.length : Int)) [28] 2 2 rfl rfl rfl (by kernel_rfl) ?_ ?_
          · intro p wx hp1 hp2 hb
            obtain rfl : p = 2 := by omega
            refine Rgd.from_of (some 50) rfl rfl fun v50 h50 => ?_
            refine Rgd.from_nil fun T hT => ?_
            obtain ⟨A6, c6, rfl⟩ := h50
            go_wp2
            exact hT _ _ rfl (Rgd.Keep.refl _) (by simp [Rgd.last, HCL.out])
          refine Rgd.op_is (.bool false) [24, 29] 2 2 rfl rfl rfl (by kernel_rfl) ?_ ?_
          · intro p wx hp1 hp2 hb
            obtain rfl : p = 2 := by omega
            refine Rgd.from_is (some 46) rfl rfl ?_
            refine Rgd.from_is (some 51) rfl rfl ?_
            refine Rgd.from_nil fun T hT => ?_
            go_wp2
            exact hT _ _ rfl (Rgd.Keep.refl _) (by simp [Rgd.last])
          refine Rgd.op_is (.bool false) [22, 30] 2 2 rfl rfl rfl (by kernel_rfl) ?_ ?_
          · intro p wx hp1 hp2 hb
            obtain rfl : p = 2 := by omega
            refine Rgd.from_is (some 44) rfl rfl ?_
            refine Rgd.from_is (some 52) rfl rfl ?_
            refine Rgd.from_nil fun T hT => ?_
            go_wp2
            exact hT _ _ rfl (by first | exact Rgd.Keep.refl _ | exact below_of_dr hw2 | exact hw2 | exact (Below.refl _ _).alloc (Nat.le_refl _) _) (by first | rfl | exact congrArg _ (by decide))
          refine Rgd.op_is (.bool false) [31] 2 2 rfl rfl rfl (by kernel_rfl) ?_ ?_
          · intro p wx hp1 hp2 hb
            obtain rfl : p = 2 := by omega
            refine Rgd.from_is (some 53) rfl rfl ?_
            refine Rgd.from_nil fun T hT => ?_
            go_wp2
            exact hT _ _ rfl (by first | exact Rgd.Keep.refl _ | exact below_of_dr hw2 | exact hw2 | exact (Below.refl _ _).alloc (Nat.le_refl _) _) (by first | rfl | exact congrArg _ (by decide))
          refine' Rgd.op_is _ [] 2 2 rfl rfl rfl (by kernel_rfl) ?_ ?_
          rotate_left
          · intro p wx hp1 hp2 hb
            obtain rfl : p = 2 := by omega
            refine Rgd.from_nil fun T hT => ?_
            go_wp2
            refine hT _ _ rfl (by first | exact Rgd.Keep.refl _ | exact below_of_dr hw2 | exact hw2 | exact (Below.refl _ _).alloc (Nat.le_refl _) _) ?_
            simp only [Rgd.last, List.getElem?_toArray, List.getElem?_cons_succ, List.getElem?_cons_zero, Option.getD_some]
            rfl
          refine' Rgd.op_is _ [] 2 2 rfl rfl rfl (by kernel_rfl) ?_ ?_
          rotate_left
          · intro p wx hp1 hp2 hb
            obtain rfl : p = 2 := by omega
            refine Rgd.from_nil fun T hT => ?_
            go_wp2
            refine hT _ _ rfl (by first | exact Rgd.Keep.refl _ | exact below_of_dr hw2 | exact hw2 | exact (Below.refl _ _).alloc (Nat.le_refl _) _) ?_
            simp only [Rgd.last, List.getElem?_toArray, List.getElem?_cons_succ, List.getElem?_cons_zero, Option.getD_some]
            rfl
          refine' Rgd.op_is _ [] 2 2 rfl rfl rfl (by kernel_rfl) ?_ ?_
          rotate_left
          · intro p wx hp1 hp2 hb
            obtain rfl : p = 2 := by omega
            refine Rgd.from_nil fun T hT => ?_
            go_wp2
            refine hT _ _ rfl (by first | exact Rgd.Keep.refl _ | exact below_of_dr hw2 | exact hw2 | exact (Below.refl _ _).alloc (Nat.le_refl _) _) ?_
            simp only [Rgd.last, List.getElem?_toArray, List.getElem?_cons_succ, List.getElem?_cons_zero, Option.getD_some]
            rfl
          refine' Rgd.op_is _ [34, 35] 2 2 rfl rfl rfl (by kernel_rfl) ?_ ?_
          rotate_left
          · intro p wx hp1 hp2 hb
            obtain rfl : p = 2 := by omega
            refine Rgd.from_is (some 56) rfl rfl ?_
            refine Rgd.from_is (some 57) rfl rfl ?_
            refine Rgd.from_nil fun T hT => ?_
            go_wp2
            refine hT _ _ rfl (by first | exact Rgd.Keep.refl _ | exact below_of_dr hw2 | exact hw2 | exact (Below.refl _ _).alloc (Nat.le_refl _) _) ?_
            simp only [Rgd.last, List.getElem?_toArray, List.getElem?_cons_succ, List.getElem?_cons_zero, Option.getD_some]
            rfl
          refine' Rgd.op_is _ [36] 2 2 rfl rfl rfl (by kernel_rfl) ?_ ?_
          rotate_left
          · intro p wx hp1 hp2 hb
            obtain rfl : p = 2 := by omega
            refine Rgd.from_is (some 58) rfl rfl ?_
            refine Rgd.from_nil fun T hT => ?_
            go_wp2
            refine hT _ _ rfl (by first | exact Rgd.Keep.refl _ | exact below_of_dr hw2 | exact hw2 | exact (Below.refl _ _).alloc (Nat.le_refl _) _) ?_
            simp only [Rgd.last, List.getElem?_toArray, List.getElem?_cons_succ, List.getElem?_cons_zero, Option.getD_some]
            rfl
          refine Rgd.op_is (.int .i64 x.at_) [37] 2 2 rfl rfl rfl (by kernel_rfl) ?_ ?_
          · intro p wx hp1 hp2 hb
            obtain rfl : p = 2 := by omega
            refine Rgd.from_is (some 59) rfl rfl ?_
            refine Rgd.from_nil fun T hT => ?_
            have hB : Below w1.heap.size w1 wx := hb.1
            obtain ⟨q0, q1, q2, q3, q4⟩ := cells5_at (HA.out.below (below_next HB0.out HB0.out.size hB)) HX.out
            go_wp2
            exact hT _ _ rfl (by first | exact Rgd.Keep.refl _ | exact below_of_dr hw2 | exact hw2 | exact (Below.refl _ _).alloc (Nat.le_refl _) _) (by first | rfl | exact congrArg _ (by decide))
          refine Rgd.op_is (.string (d'.read x.at_)) [33, 38] 2 2 rfl rfl rfl (by kernel_rfl) ?_ ?_
          · intro p wx hp1 hp2 hb
            obtain rfl : p = 2 := by omega
            refine Rgd.from_is (some 55) rfl rfl ?_
            refine Rgd.from_is (some 60) rfl rfl ?_
            refine Rgd.from_nil fun T hT => ?_
            obtain ⟨v, vp, vc, hD, hBs, hR, hh⟩ := (show PlS w1 wx g gm h d' r' from hb.2)
            go_wp2_with (fail)
            refine (read_c g gm v d' x.at_ _ hD hxa hlD).mono ?_
            rintro e wy ⟨rfl, hk⟩
            go_wp2
            exact hT _ _ rfl hk rfl
          refine' Rgd.op_is _ [] 2 2 rfl rfl rfl (by kernel_rfl) ?_ ?_
          rotate_left
          · intro p wx hp1 hp2 hb
            obtain rfl : p = 2 := by omega
            refine Rgd.from_nil fun T hT => ?_
            go_wp2
            refine hT _ _ rfl (by first | exact Rgd.Keep.refl _ | exact below_of_dr hw2 | exact hw2 | exact (Below.refl _ _).alloc (Nat.le_refl _) _) ?_
            simp only [Rgd.last, List.getElem?_toArray, List.getElem?_cons_succ, List.getElem?_cons_zero, Option.getD_some]
            rfl
          refine' Rgd.op_is _ [] 2 2 rfl rfl rfl (by kernel_rfl) ?_ ?_
          rotate_left
          · intro p wx hp1 hp2 hb
            obtain rfl : p = 2 := by omega
            refine Rgd.from_nil fun T hT => ?_
            go_wp2
            refine hT _ _ rfl (by first | exact Rgd.Keep.refl _ | exact below_of_dr hw2 | exact hw2 | exact (Below.refl _ _).alloc (Nat.le_refl _) _) ?_
            simp only [Rgd.last, List.getElem?_toArray, List.getElem?_cons_succ, List.getElem?_cons_zero, Option.getD_some]
            rfl
          refine' Rgd.op_is _ [] 2 2 rfl rfl rfl (by kernel_rfl) ?_ ?_
          rotate_left
          · intro p wx hp1 hp2 hb
            obtain rfl : p = 2 := by omega
            refine Rgd.from_nil fun T hT => ?_
            go_wp2
            refine hT _ _ rfl (by first | exact Rgd.Keep.refl _ | exact below_of_dr hw2 | exact hw2 | exact (Below.refl _ _).alloc (Nat.le_refl _) _) ?_
            simp only [Rgd.last, List.getElem?_toArray, List.getElem?_cons_succ, List.getElem?_cons_zero, Option.getD_some]
            rfl
          refine' Rgd.op_is _ [41, 42] 2 2 rfl rfl rfl (by kernel_rfl) ?_ ?_
          rotate_left
          · intro p wx hp1 hp2 hb
            obtain rfl : p = 2 := by omega
            refine Rgd.from_is (some 63) rfl rfl ?_
            refine Rgd.from_is (some 64) rfl rfl ?_
            refine Rgd.from_nil fun T hT => ?_
            go_wp2
            refine hT _ _ rfl (by first | exact Rgd.Keep.refl _ | exact below_of_dr hw2 | exact hw2 | exact (Below.refl _ _).alloc (Nat.le_refl _) _) ?_
            simp only [Rgd.last, List.getElem?_toArray, List.getElem?_cons_succ, List.getElem?_cons_zero, Option.getD_some]
            rfl
          refine' Rgd.op_is _ [43] 2 2 rfl rfl rfl (by kernel_rfl) ?_ ?_
          rotate_left
          · intro p wx hp1 hp2 hb
            obtain rfl : p = 2 := by omega
            refine Rgd.from_is (some 65) rfl rfl ?_
            refine Rgd.from_nil fun T hT => ?_
            go_wp2
            refine hT _ _ rfl (by first | exact Rgd.Keep.refl _ | exact below_of_dr hw2 | exact hw2 | exact (Below.refl _ _).alloc (Nat.le_refl _) _) ?_
            simp only [Rgd.last, List.getElem?_toArray, List.getElem?_cons_succ, List.getElem?_cons_zero, Option.getD_some]
            rfl
          refine Rgd.op_is (.int .i64 x.at_) [44] 2 2 rfl rfl rfl (by kernel_rfl) ?_ ?_
          · intro p wx hp1 hp2 hb
            obtain rfl : p = 2 := by omega
            refine Rgd.from_is (some 66) rfl rfl ?_
            refine Rgd.from_nil fun T hT => ?_
            have hB : Below w1.heap.size w1 wx := hb.1
            obtain ⟨q0, q1, q2, q3, q4⟩ := cells5_at (HA.out.below (below_next HB0.out HB0.out.size hB)) HX.out
            go_wp2
            exact hT _ _ rfl (by first | exact Rgd.Keep.refl _ | exact below_of_dr hw2 | exact hw2 | exact (Below.refl _ _).alloc (Nat.le_refl _) _) (by first | rfl | exact congrArg _ (by decide))
          refine Rgd.op_is (.string (d'.read x.at_)) [40, 45] 2 2 rfl rfl rfl (by kernel_rfl) ?_ ?_
          · intro p wx hp1 hp2 hb
            obtain rfl : p = 2 := by omega
            refine Rgd.from_is (some 62) rfl rfl ?_
            refine Rgd.from_is (some 67) rfl rfl ?_
            refine Rgd.from_nil fun T hT => ?_
            obtain ⟨v, vp, vc, hD, hBs, hR, hh⟩ := (show PlS w1 wx g gm h d' r' from hb.2)
            go_wp2_with (fail)
            refine (rread_c h vp vc r' x.at_ _ hR (by omega) (by omega) HFP.out HFC.out).mono ?_
            rintro e wy ⟨rfl, hk⟩
            go_wp2
            exact hT _ _ rfl hk (by simp [Rgd.last, HRD.out])
          refine Rgd.op_is (.bool false) [39, 46] 2 2 rfl rfl rfl (by kernel_rfl) ?_ ?_
          · intro p wx hp1 hp2 hb
            obtain rfl : p = 2 := by omega
            refine Rgd.from_is (some 61) rfl rfl ?_
            refine Rgd.from_is (some 68) rfl rfl ?_
            refine Rgd.from_nil fun T hT => ?_
            go_wp2
            exact hT _ _ rfl (Rgd.Keep.refl _) (by simp [Rgd.last])
          refine Rgd.op_is (.bool false) [32, 47] 2 2 rfl rfl rfl (by kernel_rfl) ?_ ?_
          · intro p wx hp1 hp2 hb
            obtain rfl : p = 2 := by omega
            refine Rgd.from_is (some 54) rfl rfl ?_
            refine Rgd.from_is (some 69) rfl rfl ?_
            refine Rgd.from_nil fun T hT => ?_
            go_wp2
            exact hT _ _ rfl (by first | exact Rgd.Keep.refl _ | exact below_of_dr hw2 | exact hw2 | exact (Below.refl _ _).alloc (Nat.le_refl _) _) (by first | rfl | exact congrArg _ (by decide))
          refine Rgd.op_is (.bool false) [48] 2 2 rfl rfl rfl (by kernel_rfl) ?_ ?_
          · intro p wx hp1 hp2 hb
            obtain rfl : p = 2 := by omega
            refine Rgd.from_is (some 70) rfl rfl ?_
            refine Rgd.from_nil fun T hT => ?_
            go_wp2
            exact hT _ _ rfl (by first | exact Rgd.Keep.refl _ | exact below_of_dr hw2 | exact hw2 | exact (Below.refl _ _).alloc (Nat.le_refl _) _) (by first | rfl | exact congrArg _ (by decide))
          refine' Rgd.op_is _ [] 2 2 rfl rfl rfl (by kernel_rfl) ?_ ?_
          rotate_left
          · intro p wx hp1 hp2 hb
            obtain rfl : p = 2 := by omega
            refine Rgd.from_nil fun T hT => ?_
            go_wp2
            refine hT _ _ rfl (by first | exact Rgd.Keep.refl _ | exact below_of_dr hw2 | exact hw2 | exact (Below.refl _ _).alloc (Nat.le_refl _) _) ?_
            simp only [Rgd.last, List.getElem?_toArray, List.getElem?_cons_succ, List.getElem?_cons_zero, Option.getD_some]
            rfl
          refine' Rgd.op_is _ [] 2 2 rfl rfl rfl (by kernel_rfl) ?_ ?_
          rotate_left
          · intro p wx hp1 hp2 hb
            obtain rfl : p = 2 := by omega
            refine Rgd.from_nil fun T hT => ?_
            go_wp2
            refine hT _ _ rfl (by first | exact Rgd.Keep.refl _ | exact below_of_dr hw2 | exact hw2 | exact (Below.refl _ _).alloc (Nat.le_refl _) _) ?_
            simp only [Rgd.last, List.getElem?_toArray, List.getElem?_cons_succ, List.getElem?_cons_zero, Option.getD_some]
            rfl
          refine' Rgd.op_is _ [] 2 2 rfl rfl rfl (by kernel_rfl) ?_ ?_
          rotate_left
          · intro p wx hp1 hp2 hb
            obtain rfl : p = 2 := by omega
            refine Rgd.from_nil fun T hT => ?_
            go_wp2
            refine hT _ _ rfl (by first | exact Rgd.Keep.refl _ | exact below_of_dr hw2 | exact hw2 | exact (Below.refl _ _).alloc (Nat.le_refl _) _) ?_
            simp only [Rgd.last, List.getElem?_toArray, List.getElem?_cons_succ, List.getElem?_cons_zero, Option.getD_some]
            rfl
          refine' Rgd.op_is _ [51, 52] 2 2 rfl rfl rfl (by kernel_rfl) ?_ ?_
          rotate_left
          · intro p wx hp1 hp2 hb
            obtain rfl : p = 2 := by omega
            refine Rgd.from_is (some 73) rfl rfl ?_
            refine Rgd.from_is (some 74) rfl rfl ?_
            refine Rgd.from_nil fun T hT => ?_
            go_wp2
            refine hT _ _ rfl (by first | exact Rgd.Keep.refl _ | exact below_of_dr hw2 | exact hw2 | exact (Below.refl _ _).alloc (Nat.le_refl _) _) ?_
            simp only [Rgd.last, List.getElem?_toArray, List.getElem?_cons_succ, List.getElem?_cons_zero, Option.getD_some]
            rfl
          refine' Rgd.op_is _ [53] 2 2 rfl rfl rfl (by kernel_rfl) ?_ ?_
          rotate_left
          · intro p wx hp1 hp2 hb
            obtain rfl : p = 2 := by omega
            refine Rgd.from_is (some 75) rfl rfl ?_
            refine Rgd.from_nil fun T hT => ?_
            go_wp2
            refine hT _ _ rfl (by first | exact Rgd.Keep.refl _ | exact below_of_dr hw2 | exact hw2 | exact (Below.refl _ _).alloc (Nat.le_refl _) _) ?_
            simp only [Rgd.last, List.getElem?_toArray, List.getElem?_cons_succ, List.getElem?_cons_zero, Option.getD_some]
            rfl
          refine Rgd.op_is (.int .i64 x.at_) [54] 2 2 rfl rfl rfl (by kernel_rfl) ?_ ?_
          · intro p wx hp1 hp2 hb
            obtain rfl : p = 2 := by omega
            refine Rgd.from_is (some 76) rfl rfl ?_
            refine Rgd.from_nil fun T hT => ?_
            have hB : Below w1.heap.size w1 wx := hb.1
            obtain ⟨q0, q1, q2, q3, q4⟩ := cells5_at (HA.out.below (below_next HB0.out HB0.out.size hB)) HX.out
            go_wp2
            exact hT _ _ rfl (by first | exact Rgd.Keep.refl _ | exact below_of_dr hw2 | exact hw2 | exact (Below.refl _ _).alloc (Nat.le_refl _) _) (by first | rfl | exact congrArg _ (by decide))
          refine Rgd.op_is (.string (d'.plat x.at_)) [50, 55] 2 2 rfl rfl rfl (by kernel_rfl) ?_ ?_
          · intro p wx hp1 hp2 hb
            obtain rfl : p = 2 := by omega
            refine Rgd.from_is (some 72) rfl rfl ?_
            refine Rgd.from_is (some 77) rfl rfl ?_
            refine Rgd.from_nil fun T hT => ?_
            obtain ⟨v, vp, vc, hD, hBs, hR, hh⟩ := (show PlS w1 wx g gm h d' r' from hb.2)
            go_wp2_with (fail)
            refine (platter_c g gm v d' x.at_ _ hD hxa).mono ?_
            rintro e wy ⟨rfl, hk⟩
            go_wp2
            exact hT _ _ rfl hk rfl
          refine' Rgd.op_is _ [] 2 2 rfl rfl rfl (by kernel_rfl) ?_ ?_
          rotate_left
          · intro p wx hp1 hp2 hb
            obtain rfl : p = 2 := by omega
            refine Rgd.from_nil fun T hT => ?_
            go_wp2
            refine hT _ _ rfl (by first | exact Rgd.Keep.refl _ | exact below_of_dr hw2 | exact hw2 | exact (Below.refl _ _).alloc (Nat.le_refl _) _) ?_
            simp only [Rgd.last, List.getElem?_toArray, List.getElem?_cons_succ, List.getElem?_cons_zero, Option.getD_some]
            rfl
          refine' Rgd.op_is _ [] 2 2 rfl rfl rfl (by kernel_rfl) ?_ ?_
          rotate_left
          · intro p wx hp1 hp2 hb
            obtain rfl : p = 2 := by omega
            refine Rgd.from_nil fun T hT => ?_
            go_wp2
            refine hT _ _ rfl (by first | exact Rgd.Keep.refl _ | exact below_of_dr hw2 | exact hw2 | exact (Below.refl _ _).alloc (Nat.le_refl _) _) ?_
            simp only [Rgd.last, List.getElem?_toArray, List.getElem?_cons_succ, List.getElem?_cons_zero, Option.getD_some]
            rfl
          refine' Rgd.op_is _ [] 2 2 rfl rfl rfl (by kernel_rfl) ?_ ?_
          rotate_left
          · intro p wx hp1 hp2 hb
            obtain rfl : p = 2 := by omega
            refine Rgd.from_nil fun T hT => ?_
            go_wp2
            refine hT _ _ rfl (by first | exact Rgd.Keep.refl _ | exact below_of_dr hw2 | exact hw2 | exact (Below.refl _ _).alloc (Nat.le_refl _) _) ?_
            simp only [Rgd.last, List.getElem?_toArray, List.getElem?_cons_succ, List.getElem?_cons_zero, Option.getD_some]
            rfl
          refine' Rgd.op_is _ [58, 59] 2 2 rfl rfl rfl (by kernel_rfl) ?_ ?_
          rotate_left
          · intro p wx hp1 hp2 hb
            obtain rfl : p = 2 := by omega
            refine Rgd.from_is (some 80) rfl rfl ?_
            refine Rgd.from_is (some 81) rfl rfl ?_
            refine Rgd.from_nil fun T hT => ?_
            go_wp2
            refine hT _ _ rfl (by first | exact Rgd.Keep.refl _ | exact below_of_dr hw2 | exact hw2 | exact (Below.refl _ _).alloc (Nat.le_refl _) _) ?_
            simp only [Rgd.last, List.getElem?_toArray, List.getElem?_cons_succ, List.getElem?_cons_zero, Option.getD_some]
            rfl
          refine' Rgd.op_is _ [60] 2 2 rfl rfl rfl (by kernel_rfl) ?_ ?_
          rotate_left
          · intro p wx hp1 hp2 hb
            obtain rfl : p = 2 := by omega
            refine Rgd.from_is (some 82) rfl rfl ?_
            refine Rgd.from_nil fun T hT => ?_
            go_wp2
            refine hT _ _ rfl (by first | exact Rgd.Keep.refl _ | exact below_of_dr hw2 | exact hw2 | exact (Below.refl _ _).alloc (Nat.le_refl _) _) ?_
            simp only [Rgd.last, List.getElem?_toArray, List.getElem?_cons_succ, List.getElem?_cons_zero, Option.getD_some]
            rfl
          refine Rgd.op_is (.int .i64 x.at_) [61] 2 2 rfl rfl rfl (by kernel_rfl) ?_ ?_
          · intro p wx hp1 hp2 hb
            obtain rfl : p = 2 := by omega
            refine Rgd.from_is (some 83) rfl rfl ?_
            refine Rgd.from_nil fun T hT => ?_
            have hB : Below w1.heap.size w1 wx := hb.1
            obtain ⟨q0, q1, q2, q3, q4⟩ := cells5_at (HA.out.below (below_next HB0.out HB0.out.size hB)) HX.out
            go_wp2
            exact hT _ _ rfl (by first | exact Rgd.Keep.refl _ | exact below_of_dr hw2 | exact hw2 | exact (Below.refl _ _).alloc (Nat.le_refl _) _) (by first | rfl | exact congrArg _ (by decide))
          refine Rgd.op_is (.string (d'.plat x.at_)) [57, 62] 2 2 rfl rfl rfl (by kernel_rfl) ?_ ?_
          · intro p wx hp1 hp2 hb
            obtain rfl : p = 2 := by omega
            refine Rgd.from_is (some 79) rfl rfl ?_
            refine Rgd.from_is (some 84) rfl rfl ?_
            refine Rgd.from_nil fun T hT => ?_
            obtain ⟨v, vp, vc, hD, hBs, hR, hh⟩ := (show PlS w1 wx g gm h d' r' from hb.2)
            go_wp2_with (fail)
            refine (rplat_c h vp vc r' x.at_ _ hR (by omega) HFP.out).mono ?_
            rintro e wy ⟨rfl, hk⟩
            go_wp2
            exact hT _ _ rfl hk (by simp [Rgd.last, HPD.out])
          refine Rgd.op_is (.bool false) [56, 63] 2 2 rfl rfl rfl (by kernel_rfl) ?_ ?_
          · intro p wx hp1 hp2 hb
            obtain rfl : p = 2 := by omega
            refine Rgd.from_is (some 78) rfl rfl ?_
            refine Rgd.from_is (some 85) rfl rfl ?_
            refine Rgd.from_nil fun T hT => ?_
            go_wp2
            exact hT _ _ rfl (Rgd.Keep.refl _) (by simp [Rgd.last])
          refine Rgd.walk_nil [0, 1, 2, 3, 4, 5, 6, 7, 8, 9, 10, 11, 12, 13, 14, 15, 16, 17, 18, 19, 20, 21, 22, 23, 24, 25, 26, 27, 28, 29, 30, 31, 32, 33, 34, 35, 36, 37, 38, 39, 40, 41, 42, 43, 44, 45, 46, 47, 48, 49, 50, 51, 52, 53, 54, 55, 56, 57, 58, 59, 60, 61, 62, 63, 64] (by kernel_rfl) ?_
          intro wx hb
          refine Rgd.from_is (some 22) rfl rfl ?_
          refine Rgd.from_is (some 23) rfl rfl ?_
          refine Rgd.from_is (some 24) rfl rfl ?_
          refine Rgd.from_is (some 25) rfl rfl ?_
          refine Rgd.from_is (some 26) rfl rfl ?_
          refine Rgd.from_is (some 27) rfl rfl ?_
          refine Rgd.from_is (some 28) rfl rfl ?_
          refine Rgd.from_is (some 29) rfl rfl ?_
          refine Rgd.from_is (some 30) rfl rfl ?_
          refine Rgd.from_is (some 31) rfl rfl ?_
          refine Rgd.from_is (some 32) rfl rfl ?_
          refine Rgd.from_is (some 33) rfl rfl ?_
          refine Rgd.from_is (some 34) rfl rfl ?_
          refine Rgd.from_is (some 35) rfl rfl ?_
          refine Rgd.from_is (some 36) rfl rfl ?_
          refine Rgd.from_is (some 37) rfl rfl ?_
          refine Rgd.from_is (some 38) rfl rfl ?_
          refine Rgd.from_is (some 39) rfl rfl ?_
          refine Rgd.from_is (some 40) rfl rfl ?_
          refine Rgd.from_is (some 41) rfl rfl ?_
          refine Rgd.from_is (some 42) rfl rfl ?_
          refine Rgd.from_is (some 43) rfl rfl ?_
          refine Rgd.from_is (some 44) rfl rfl ?_
          refine Rgd.from_is (some 45) rfl rfl ?_
          refine Rgd.from_is (some 46) rfl rfl ?_
          refine Rgd.from_is (some 47) rfl rfl ?_
          refine Rgd.from_is (some 48) rfl rfl ?_
          refine Rgd.from_is (some 49) rfl rfl ?_
          refine Rgd.from_of (some 50) rfl rfl fun v50 h50 => ?_
          refine Rgd.from_is (some 51) rfl rfl ?_
          refine Rgd.from_is (some 52) rfl rfl ?_
          refine Rgd.from_is (some 53) rfl rfl ?_
          refine Rgd.from_is (some 54) rfl rfl ?_
          refine Rgd.from_is (some 55) rfl rfl ?_
          refine Rgd.from_is (some 56) rfl rfl ?_
          refine Rgd.from_is (some 57) rfl rfl ?_
          refine Rgd.from_is (some 58) rfl rfl ?_
          refine Rgd.from_is (some 59) rfl rfl ?_
          refine Rgd.from_is (some 60) rfl rfl ?_
          refine Rgd.from_is (some 61) rfl rfl ?_
          refine Rgd.from_is (some 62) rfl rfl ?_
          refine Rgd.from_is (some 63) rfl rfl ?_
          refine Rgd.from_is (some 64) rfl rfl ?_
          refine Rgd.from_is (some 65) rfl rfl ?_
          refine Rgd.from_is (some 66) rfl rfl ?_
          refine Rgd.from_is (some 67) rfl rfl ?_
          refine Rgd.from_is (some 68) rfl rfl ?_
          refine Rgd.from_is (some 69) rfl rfl ?_
          refine Rgd.from_is (some 70) rfl rfl ?_
          refine Rgd.from_is (some 71) rfl rfl ?_
          refine Rgd.from_is (some 72) rfl rfl ?_
          refine Rgd.from_is (some 73) rfl rfl ?_
          refine Rgd.from_is (some 74) rfl rfl ?_
          refine Rgd.from_is (some 75) rfl rfl ?_
          refine Rgd.from_is (some 76) rfl rfl ?_
          refine Rgd.from_is (some 77) rfl rfl ?_
          refine Rgd.from_is (some 78) rfl rfl ?_
          refine Rgd.from_is (some 79) rfl rfl ?_
          refine Rgd.from_is (some 80) rfl rfl ?_
          refine Rgd.from_is (some 81) rfl rfl ?_
          refine Rgd.from_is (some 82) rfl rfl ?_
          refine Rgd.from_is (some 83) rfl rfl ?_
          refine Rgd.from_is (some 84) rfl rfl ?_
          refine Rgd.from_is (some 85) rfl rfl ?_
          refine Rgd.from_is (some 86) rfl rfl ?_
          refine Rgd.from_nil ?_
          simp only [List.map, Act.put, List.setIfInBounds_toArray, List.set_cons_zero, List.set_cons_succ]
          have hPx : PlS w1 wx g gm h d' r' := hb.2
          have hm5 : ((k : Int)).tmod 5 = ((k % 5 : Nat) : Int) := by rw [Int.tmod_eq_emod_of_nonneg (by omega)]; omega
          have hrl9 : r'.len ≤ 800000 := by unfold Rk.len; omega
          clear H0 hb h50
          by_cases h54 : k % 5 = 4
          · rw [h54] at hm5
            obtain ⟨v, vp, vc, hD, hBs, hR, hh⟩ := hPx
            go_wp2_with (fail)
            refine (used_c g gm v d' _ wx hD HOK2.out (by omega)).mono ?_
            rintro e w5 ⟨v5, us, rfl, hu, hO5, hb5⟩
            go_wp2_with (fail)
            refine (rused_c h vp vc r' w5 (hR.below hb5) hrl9 HFC.out HFP.out).mono ?_
            rintro e w6 ⟨v6, M, rfl, hO6, hM6, hb6⟩
            obtain rfl := uses_eq hu (HST.out.1.uses hM6 HOK2.out)
            have hlen := hO5.len
            replace hO5 := hO5.below hb6
            obtain ⟨A5, c5, rfl, hc5⟩ := hO5.cellsI
            obtain ⟨A6, c6', rfl, hc6⟩ := hO6.cellsI
            have hb9 := below_next hb5 hb5.size hb6
            clear hu hb5 hb6 hO5 hO6 hM6
            generalize usR r' M = us at *
            go_wp2_with (fail)
            refine (ints_c A5 A6 us us c5 c6' w6 hc5 hc6 hlen hlen).mono ?_
            rintro e w7 ⟨rfl, hdr⟩
            rw [show decide (us = us) = true from decide_eq_true rfl]
            have hPl : PlS w1 w7 g gm h d' r' := PlS.dr (PlS.below ⟨v, vp, vc, hD, hBs, hR, hh⟩ hb9) hdr
            go_wp2
            go_roundw
            case rel => exact ⟨k + 1, by go_num, by omega, by rw [HS.out.1, HS.out.2]; exact hPl⟩
            case measure => simp [intOf]; omega
          · have hne : ((k % 5 : Nat) : Int) ≠ 4 := by omega
            generalize ((k % 5 : Nat) : Int) = q at *
            go_wp2
            go_roundw
            case rel => exact ⟨k + 1, by go_num, by omega, by rw [HS.out.1, HS.out.2]; exact hPx⟩
            case measure => simp [intOf]; omega
        · obtain rfl : k = l.length := by omega
          rw [List.take_length] at hPr
          have hok := runs_ok (w := w) l HO.out
          have hrl := runsR_len l
          have hsim := runs_sim l
          generalize runs l = d at *
          generalize runsR l = r at *
          have HOK := hid hok
          have HSI := hid hsim
          obtain ⟨v, vp, vc, hD, hBs, hR, hh⟩ := hPr
          have hlC : r.P.length + r.C.length ≤ 1000 := by unfold Rk.len at hrl; omega
          have hlD : d.C.length ≤ 1000000 := by have := hok.len; omega
          clear hok hsim
          go_wp2_with (fail)
          refine (rused_c h vp vc r wr hR (by omega) HSI.out.oC HSI.out.oP).mono ?_
          rintro e w5 ⟨v5, M, rfl, hO5, hM5, hb5⟩
          replace hD := hD.below hb5
          replace hBs := hBs.below hb5
          replace hR := hR.below hb5
          go_wp2_with (fail)
          refine (used_c g gm v d _ w5 hD HOK.out (by omega)).mono ?_
          rintro e w6 ⟨v6, us, rfl, hu, hO6, hb6⟩
          have HUI := hid (uses_is hu HOK.out)
          obtain rfl := uses_eq hu (HSI.out.uses hM5 HOK.out)
          replace hD := hD.below hb6
          replace hBs := hBs.below hb6
          replace hR := hR.below hb6
          have hlen := hO5.len
          replace hO5 := hO5.below hb6
          obtain ⟨A5, c5, rfl, hc5⟩ := hO5.cellsI
          obtain ⟨A6, c6', rfl, hc6⟩ := hO6.cellsI
          clear hu hb5 hb6 hO5 hO6 hM5
          generalize usR r M = us at *
          go_wp2_with (fail)
          refine (ints_c A6 A5 us us c6' c5 w6 hc6 hc5 hlen hlen).mono ?_
          rintro e w7 ⟨rfl, hdr⟩
          rw [show decide (us = us) = true from decide_eq_true rfl]
          have HD := hid (hD.dr hdr)
          have HBs := hid (hBs.dr hdr)
          have HR := hid (hR.dr hdr)
          have HC5 := hid (hc5.below (below_dr (Below.refl w6.heap.size w6) hdr))
          clear hD hBs hR hc5 hc6 hdr
          have HFP := hid HSI.out.oP
          have HFC := hid HSI.out.oC
          have HRD := hid (fun y => ((HSI.out.read HOK.out y).symm))
          have HPD := hid (fun y => ((HSI.out.plat y).symm))
          go_wp2
          go_loopw [7] (fun i wq => ∃ k : Nat, i = .int .i64 k ∧ k ≤ us.length ∧ Below w7.heap.size w7 wq) (fun i _ => us.length - (intOf i).toNat)
          case atStart => exact ⟨0, rfl, by omega, Below.refl _ _⟩
          case round =>
            obtain ⟨k, rfl, hk, hbq⟩ := hrel
            by_cases hlt : k < us.length
            · obtain ⟨y, hy⟩ := get_of_lt hlt
              have hyi := HUI.out y (List.mem_of_getElem? hy)
              have hcq := HC5.out.below hbq
              obtain ⟨b5, o5, rfl, q5⟩ := hcq.at_map hy
              have HQ := hid (fun wx (hbx : Below w7.heap.size w7 wx) => cellsI_at (HC5.out.below hbx) hy)
              clear hy hcq q5
              go_wp2_with (fail)
              refine Rgd.wp_region (l := [_, _, _, _, _, _, _, _, _, _, _, _, _, _, _, _, _, _, _, _, _, _, _, _, _, _, _]) (tail := [_]) (Rgd.keep wr [] [(0, 0), (0, 0), (0, 0), (0, 0), (0, 0), (0, 0), (0, 0), (0, 0), (0, 0), (0, 0), (0, 0), (0, 0), (0, 0), (0, 0), (0, 0), (0, 0), (0, 0), (0, 0), (0, 0), (0, 0), (0, 0), (0, 0), (0, 0), (0, 0), (0, 0), (0, 0), (0, 0)]) [some 112, some 113, some 114, some 115, some 116, some 117, some 118, some 119, some 120, some 121, some 122, some 123, some 124, some 125, some 126, some 127, some 128, some 129, some 130, some 131, some 132, some 133, some 134, some 135, some 136, some 137, some 138, some 139] 140 rfl [[], [], [], [1, 2], [1, 2, 3], [0, 1, 2, 3, 4], [], [], [], [7, 8], [7, 8, 9], [0, 1, 2, 3, 4, 5, 6, 7, 8, 9, 10], [0, 1, 2, 3, 4, 5, 6, 7, 8, 9, 10, 11], [0, 1, 2, 3, 4, 5, 6, 7, 8, 9, 10, 11, 12], [0, 1, 2, 3, 4, 5, 6, 7, 8, 9, 10, 11, 12, 13], [0, 1, 2, 3, 4, 5, 6, 7, 8, 9, 10, 11, 12, 13], [0, 1, 2, 3, 4, 5, 6, 7, 8, 9, 10, 11, 12, 13], [0, 1, 2, 3, 4, 5, 6, 7, 8, 9, 10, 11, 12, 13, 15, 16], [0, 1, 2, 3, 4, 5, 6, 7, 8, 9, 10, 11, 12, 13, 15, 16, 17], [0, 1, 2, 3, 4, 5, 6, 7, 8, 9, 10, 11, 12, 13, 14, 15, 16, 17, 18], [0, 1, 2, 3, 4, 5, 6, 7, 8, 9, 10, 11, 12, 13], [0, 1, 2, 3, 4, 5, 6, 7, 8, 9, 10, 11, 12, 13], [0, 1, 2, 3, 4, 5, 6, 7, 8, 9, 10, 11, 12, 13], [0, 1, 2, 3, 4, 5, 6, 7, 8, 9, 10, 11, 12, 13, 21, 22], [0, 1, 2, 3, 4, 5, 6, 7, 8, 9, 10, 11, 12, 13, 21, 22, 23], [0, 1, 2, 3, 4, 5, 6, 7, 8, 9, 10, 11, 12, 13, 14, 15, 16, 17, 18, 19, 20, 21, 22, 23, 24], [0, 1, 2, 3, 4, 5, 6, 7, 8, 9, 10, 11, 12, 13, 14, 15, 16, 17, 18, 19, 20, 21, 22, 23, 24, 25]] (by kernel_rfl) (by kernel_rfl) (by kernel_rfl) (by kernel_rfl) (by kernel_rfl) rfl (Rgd.keep_fair) (Rgd.keep_start _) ?_
              refine' Rgd.op_is _ [] 0 0 rfl rfl rfl (by kernel_rfl) ?_ ?_
              rotate_left
              · intro p wx hp1 hp2 hb
                obtain rfl : p = 0 := by omega
                refine Rgd.from_nil fun T hT => ?_
                go_wp2
                refine hT _ _ rfl (by first | exact Rgd.Keep.refl _ | exact below_of_dr hw2 | exact hw2 | exact (Below.refl _ _).alloc (Nat.le_refl _) _) ?_
                simp only [Rgd.last, List.getElem?_toArray, List.getElem?_cons_succ, List.getElem?_cons_zero, Option.getD_some]
                rfl
              refine' Rgd.op_is _ [] 0 0 rfl rfl rfl (by kernel_rfl) ?_ ?_
              rotate_left
              · intro p wx hp1 hp2 hb
                obtain rfl : p = 0 := by omega
                refine Rgd.from_nil fun T hT => ?_
                go_wp2
                refine hT _ _ rfl (by first | exact Rgd.Keep.refl _ | exact below_of_dr hw2 | exact hw2 | exact (Below.refl _ _).alloc (Nat.le_refl _) _) ?_
                simp only [Rgd.last, List.getElem?_toArray, List.getElem?_cons_succ, List.getElem?_cons_zero, Option.getD_some]
                rfl
              refine' Rgd.op_is _ [] 0 0 rfl rfl rfl (by kernel_rfl) ?_ ?_
              rotate_left
              · intro p wx hp1 hp2 hb
                obtain rfl : p = 0 := by omega
                refine Rgd.from_nil fun T hT => ?_
                go_wp2
                refine hT _ _ rfl (by first | exact Rgd.Keep.refl _ | exact below_of_dr hw2 | exact hw2 | exact (Below.refl _ _).alloc (Nat.le_refl _) _) ?_
                simp only [Rgd.last, List.getElem?_toArray, List.getElem?_cons_succ, List.getElem?_cons_zero, Option.getD_some]
                rfl
              refine' Rgd.op_is _ [1, 2] 0 0 rfl rfl rfl (by kernel_rfl) ?_ ?_
              rotate_left
              · intro p wx hp1 hp2 hb
                obtain rfl : p = 0 := by omega
                refine Rgd.from_is (some 113) rfl rfl ?_
                refine Rgd.from_is (some 114) rfl rfl ?_
                refine Rgd.from_nil fun T hT => ?_
                go_wp2
                refine hT _ _ rfl (by first | exact Rgd.Keep.refl _ | exact below_of_dr hw2 | exact hw2 | exact (Below.refl _ _).alloc (Nat.le_refl _) _) ?_
                simp only [Rgd.last, List.getElem?_toArray, List.getElem?_cons_succ, List.getElem?_cons_zero, Option.getD_some]
                rfl
              refine Rgd.op_is (.int .i64 y) [3] 0 0 rfl rfl rfl (by kernel_rfl) ?_ ?_
              · intro p wx hp1 hp2 hb
                obtain rfl : p = 0 := by omega
                refine Rgd.from_is (some 115) rfl rfl ?_
                refine Rgd.from_nil fun T hT => ?_
                have q5 := HQ.out wx (below_next hbq hbq.size hb)
                go_wp2
                exact hT _ _ rfl (by first | exact Rgd.Keep.refl _ | exact below_of_dr hw2 | exact hw2 | exact (Below.refl _ _).alloc (Nat.le_refl _) _) (by first | rfl | exact congrArg _ (by decide))
              refine Rgd.op_is (.string (d.read y)) [0, 4] 0 0 rfl rfl rfl (by kernel_rfl) ?_ ?_
              · intro p wx hp1 hp2 hb
                obtain rfl : p = 0 := by omega
                refine Rgd.from_is (some 112) rfl rfl ?_
                refine Rgd.from_is (some 116) rfl rfl ?_
                refine Rgd.from_nil fun T hT => ?_
                go_wp2_with (fail)
                refine (read_c g gm v d y _ (HD.out.below (below_next hbq hbq.size hb)) hyi hlD).mono ?_
                rintro e wy ⟨rfl, hk⟩
                go_wp2
                exact hT _ _ rfl hk rfl
              refine' Rgd.op_is _ [] 0 0 rfl rfl rfl (by kernel_rfl) ?_ ?_
              rotate_left
              · intro p wx hp1 hp2 hb
                obtain rfl : p = 0 := by omega
                refine Rgd.from_nil fun T hT => ?_
                go_wp2
                refine hT _ _ rfl (by first | exact Rgd.Keep.refl _ | exact below_of_dr hw2 | exact hw2 | exact (Below.refl _ _).alloc (Nat.le_refl _) _) ?_
                simp only [Rgd.last, List.getElem?_toArray, List.getElem?_cons_succ, List.getElem?_cons_zero, Option.getD_some]
                rfl
              refine' Rgd.op_is _ [] 0 0 rfl rfl rfl (by kernel_rfl) ?_ ?_
              rotate_left
              · intro p wx hp1 hp2 hb
                obtain rfl : p = 0 := by omega
                refine Rgd.from_nil fun T hT => ?_
                go_wp2
                refine hT _ _ rfl (by first | exact Rgd.Keep.refl _ | exact below_of_dr hw2 | exact hw2 | exact (Below.refl _ _).alloc (Nat.le_refl _) _) ?_
                simp only [Rgd.last, List.getElem?_toArray, List.getElem?_cons_succ, List.getElem?_cons_zero, Option.getD_some]
                rfl
              refine' Rgd.op_is _ [] 0 0 rfl rfl rfl (by kernel_rfl) ?_ ?_
              rotate_left
              · intro p wx hp1 hp2 hb
                obtain rfl : p = 0 := by omega
                refine Rgd.from_nil fun T hT => ?_
                go_wp2
                refine hT _ _ rfl (by first | exact Rgd.Keep.refl _ | exact below_of_dr hw2 | exact hw2 | exact (Below.refl _ _).alloc (Nat.le_refl _) _) ?_
                simp only [Rgd.last, List.getElem?_toArray, List.getElem?_cons_succ, List.getElem?_cons_zero, Option.getD_some]
                rfl
              refine' Rgd.op_is _ [7, 8] 0 0 rfl rfl rfl (by kernel_rfl) ?_ ?_
              rotate_left
              · intro p wx hp1 hp2 hb
                obtain rfl : p = 0 := by omega
                refine Rgd.from_is (some 119) rfl rfl ?_
                refine Rgd.from_is (some 120) rfl rfl ?_
                refine Rgd.from_nil fun T hT => ?_
                go_wp2
                refine hT _ _ rfl (by first | exact Rgd.Keep.refl _ | exact below_of_dr hw2 | exact hw2 | exact (Below.refl _ _).alloc (Nat.le_refl _) _) ?_
                simp only [Rgd.last, List.getElem?_toArray, List.getElem?_cons_succ, List.getElem?_cons_zero, Option.getD_some]
                rfl
              refine Rgd.op_is (.int .i64 y) [9] 0 0 rfl rfl rfl (by kernel_rfl) ?_ ?_
              · intro p wx hp1 hp2 hb
                obtain rfl : p = 0 := by omega
                refine Rgd.from_is (some 121) rfl rfl ?_
                refine Rgd.from_nil fun T hT => ?_
                have q5 := HQ.out wx (below_next hbq hbq.size hb)
                go_wp2
                exact hT _ _ rfl (by first | exact Rgd.Keep.refl _ | exact below_of_dr hw2 | exact hw2 | exact (Below.refl _ _).alloc (Nat.le_refl _) _) (by first | rfl | exact congrArg _ (by decide))
              refine Rgd.op_is (.string (d.read y)) [6, 10] 0 0 rfl rfl rfl (by kernel_rfl) ?_ ?_
              · intro p wx hp1 hp2 hb
                obtain rfl : p = 0 := by omega
                refine Rgd.from_is (some 118) rfl rfl ?_
                refine Rgd.from_is (some 122) rfl rfl ?_
                refine Rgd.from_nil fun T hT => ?_
                go_wp2_with (fail)
                refine (rread_c h vp vc r y _ (HR.out.below (below_next hbq hbq.size hb)) (by omega) (by omega) HFP.out HFC.out).mono ?_
                rintro e wy ⟨rfl, hk⟩
                go_wp2
                exact hT _ _ rfl hk (by simp [Rgd.last, HRD.out])
              refine Rgd.op_is (.bool false) [5, 11] 0 0 rfl rfl rfl (by kernel_rfl) ?_ ?_
              · intro p wx hp1 hp2 hb
                obtain rfl : p = 0 := by omega
                refine Rgd.from_is (some 117) rfl rfl ?_
                refine Rgd.from_is (some 123) rfl rfl ?_
                refine Rgd.from_nil fun T hT => ?_
                go_wp2
                exact hT _ _ rfl (Rgd.Keep.refl _) (by simp [Rgd.last])
              refine Rgd.op_is (.bool false) [12] 0 0 rfl rfl rfl (by kernel_rfl) ?_ ?_
              · intro p wx hp1 hp2 hb
                obtain rfl : p = 0 := by omega
                refine Rgd.from_is (some 124) rfl rfl ?_
                refine Rgd.from_nil fun T hT => ?_
                go_wp2
                exact hT _ _ rfl (by first | exact Rgd.Keep.refl _ | exact below_of_dr hw2 | exact hw2 | exact (Below.refl _ _).alloc (Nat.le_refl _) _) (by first | rfl | exact congrArg _ (by decide))
              refine' Rgd.op_is _ [] 0 0 rfl rfl rfl (by kernel_rfl) ?_ ?_
              rotate_left
              · intro p wx hp1 hp2 hb
                obtain rfl : p = 0 := by omega
                refine Rgd.from_nil fun T hT => ?_
                go_wp2
                refine hT _ _ rfl (by first | exact Rgd.Keep.refl _ | exact below_of_dr hw2 | exact hw2 | exact (Below.refl _ _).alloc (Nat.le_refl _) _) ?_
                simp only [Rgd.last, List.getElem?_toArray, List.getElem?_cons_succ, List.getElem?_cons_zero, Option.getD_some]
                rfl
              refine' Rgd.op_is _ [] 0 0 rfl rfl rfl (by kernel_rfl) ?_ ?_
              rotate_left
              · intro p wx hp1 hp2 hb
                obtain rfl : p = 0 := by omega
                refine Rgd.from_nil fun T hT => ?_
                go_wp2
                refine hT _ _ rfl (by first | exact Rgd.Keep.refl _ | exact below_of_dr hw2 | exact hw2 | exact (Below.refl _ _).alloc (Nat.le_refl _) _) ?_
                simp only [Rgd.last, List.getElem?_toArray, List.getElem?_cons_succ, List.getElem?_cons_zero, Option.getD_some]
                rfl
              refine' Rgd.op_is _ [] 0 0 rfl rfl rfl (by kernel_rfl) ?_ ?_
              rotate_left
              · intro p wx hp1 hp2 hb
                obtain rfl : p = 0 := by omega
                refine Rgd.from_nil fun T hT => ?_
                go_wp2
                refine hT _ _ rfl (by first | exact Rgd.Keep.refl _ | exact below_of_dr hw2 | exact hw2 | exact (Below.refl _ _).alloc (Nat.le_refl _) _) ?_
                simp only [Rgd.last, List.getElem?_toArray, List.getElem?_cons_succ, List.getElem?_cons_zero, Option.getD_some]
                rfl
              refine' Rgd.op_is _ [15, 16] 0 0 rfl rfl rfl (by kernel_rfl) ?_ ?_
              rotate_left
              · intro p wx hp1 hp2 hb
                obtain rfl : p = 0 := by omega
                refine Rgd.from_is (some 127) rfl rfl ?_
                refine Rgd.from_is (some 128) rfl rfl ?_
                refine Rgd.from_nil fun T hT => ?_
                go_wp2
                refine hT _ _ rfl (by first | exact Rgd.Keep.refl _ | exact below_of_dr hw2 | exact hw2 | exact (Below.refl _ _).alloc (Nat.le_refl _) _) ?_
                simp only [Rgd.last, List.getElem?_toArray, List.getElem?_cons_succ, List.getElem?_cons_zero, Option.getD_some]
                rfl
              refine Rgd.op_is (.int .i64 y) [17] 0 0 rfl rfl rfl (by kernel_rfl) ?_ ?_
              · intro p wx hp1 hp2 hb
                obtain rfl : p = 0 := by omega
                refine Rgd.from_is (some 129) rfl rfl ?_
                refine Rgd.from_nil fun T hT => ?_
                have q5 := HQ.out wx (below_next hbq hbq.size hb)
                go_wp2
                exact hT _ _ rfl (by first | exact Rgd.Keep.refl _ | exact below_of_dr hw2 | exact hw2 | exact (Below.refl _ _).alloc (Nat.le_refl _) _) (by first | rfl | exact congrArg _ (by decide))
              refine Rgd.op_is (.string (d.plat y)) [14, 18] 0 0 rfl rfl rfl (by kernel_rfl) ?_ ?_
              · intro p wx hp1 hp2 hb
                obtain rfl : p = 0 := by omega
                refine Rgd.from_is (some 126) rfl rfl ?_
                refine Rgd.from_is (some 130) rfl rfl ?_
                refine Rgd.from_nil fun T hT => ?_
                go_wp2_with (fail)
                refine (platter_c g gm v d y _ (HD.out.below (below_next hbq hbq.size hb)) hyi).mono ?_
                rintro e wy ⟨rfl, hk⟩
                go_wp2
                exact hT _ _ rfl hk rfl
              refine' Rgd.op_is _ [] 0 0 rfl rfl rfl (by kernel_rfl) ?_ ?_
              rotate_left
              · intro p wx hp1 hp2 hb
                obtain rfl : p = 0 := by omega
                refine Rgd.from_nil fun T hT => ?_
                go_wp2
                refine hT _ _ rfl (by first | exact Rgd.Keep.refl _ | exact below_of_dr hw2 | exact hw2 | exact (Below.refl _ _).alloc (Nat.le_refl _) _) ?_
                simp only [Rgd.last, List.getElem?_toArray, List.getElem?_cons_succ, List.getElem?_cons_zero, Option.getD_some]
                rfl
              refine' Rgd.op_is _ [] 0 0 rfl rfl rfl (by kernel_rfl) ?_ ?_
              rotate_left
              · intro p wx hp1 hp2 hb
                obtain rfl : p = 0 := by omega
                refine Rgd.from_nil fun T hT => ?_
                go_wp2
                refine hT _ _ rfl (by first | exact Rgd.Keep.refl _ | exact below_of_dr hw2 | exact hw2 | exact (Below.refl _ _).alloc (Nat.le_refl _) _) ?_
                simp only [Rgd.last, List.getElem?_toArray, List.getElem?_cons_succ, List.getElem?_cons_zero, Option.getD_some]
                rfl
              refine' Rgd.op_is _ [] 0 0 rfl rfl rfl (by kernel_rfl) ?_ ?_
              rotate_left
              · intro p wx hp1 hp2 hb
                obtain rfl : p = 0 := by omega
                refine Rgd.from_nil fun T hT => ?_
                go_wp2
                refine hT _ _ rfl (by first | exact Rgd.Keep.refl _ | exact below_of_dr hw2 | exact hw2 | exact (Below.refl _ _).alloc (Nat.le_refl _) _) ?_
                simp only [Rgd.last, List.getElem?_toArray, List.getElem?_cons_succ, List.getElem?_cons_zero, Option.getD_some]
                rfl
              refine' Rgd.op_is _ [21, 22] 0 0 rfl rfl rfl (by kernel_rfl) ?_ ?_
              rotate_left
              · intro p wx hp1 hp2 hb
                obtain rfl : p = 0 := by omega
                refine Rgd.from_is (some 133) rfl rfl ?_
                refine Rgd.from_is (some 134) rfl rfl ?_
                refine Rgd.from_nil fun T hT => ?_
                go_wp2
                refine hT _ _ rfl (by first | exact Rgd.Keep.refl _ | exact below_of_dr hw2 | exact hw2 | exact (Below.refl _ _).alloc (Nat.le_refl _) _) ?_
                simp only [Rgd.last, List.getElem?_toArray, List.getElem?_cons_succ, List.getElem?_cons_zero, Option.getD_some]
                rfl
              refine Rgd.op_is (.int .i64 y) [23] 0 0 rfl rfl rfl (by kernel_rfl) ?_ ?_
              · intro p wx hp1 hp2 hb
                obtain rfl : p = 0 := by omega
                refine Rgd.from_is (some 135) rfl rfl ?_
                refine Rgd.from_nil fun T hT => ?_
                have q5 := HQ.out wx (below_next hbq hbq.size hb)
                go_wp2
                exact hT _ _ rfl (by first | exact Rgd.Keep.refl _ | exact below_of_dr hw2 | exact hw2 | exact (Below.refl _ _).alloc (Nat.le_refl _) _) (by first | rfl | exact congrArg _ (by decide))
              refine Rgd.op_is (.string (d.plat y)) [20, 24] 0 0 rfl rfl rfl (by kernel_rfl) ?_ ?_
              · intro p wx hp1 hp2 hb
                obtain rfl : p = 0 := by omega
                refine Rgd.from_is (some 132) rfl rfl ?_
                refine Rgd.from_is (some 136) rfl rfl ?_
                refine Rgd.from_nil fun T hT => ?_
                go_wp2_with (fail)
                refine (rplat_c h vp vc r y _ (HR.out.below (below_next hbq hbq.size hb)) (by omega) HFP.out).mono ?_
                rintro e wy ⟨rfl, hk⟩
                go_wp2
                exact hT _ _ rfl hk (by simp [Rgd.last, HPD.out])
              refine Rgd.op_is (.bool false) [19, 25] 0 0 rfl rfl rfl (by kernel_rfl) ?_ ?_
              · intro p wx hp1 hp2 hb
                obtain rfl : p = 0 := by omega
                refine Rgd.from_is (some 131) rfl rfl ?_
                refine Rgd.from_is (some 137) rfl rfl ?_
                refine Rgd.from_nil fun T hT => ?_
                go_wp2
                exact hT _ _ rfl (Rgd.Keep.refl _) (by simp [Rgd.last])
              refine Rgd.walk_nil [0, 1, 2, 3, 4, 5, 6, 7, 8, 9, 10, 11, 12, 13, 14, 15, 16, 17, 18, 19, 20, 21, 22, 23, 24, 25, 26] (by kernel_rfl) ?_
              intro wx hb
              refine Rgd.from_is (some 112) rfl rfl ?_
              refine Rgd.from_is (some 113) rfl rfl ?_
              refine Rgd.from_is (some 114) rfl rfl ?_
              refine Rgd.from_is (some 115) rfl rfl ?_
              refine Rgd.from_is (some 116) rfl rfl ?_
              refine Rgd.from_is (some 117) rfl rfl ?_
              refine Rgd.from_is (some 118) rfl rfl ?_
              refine Rgd.from_is (some 119) rfl rfl ?_
              refine Rgd.from_is (some 120) rfl rfl ?_
              refine Rgd.from_is (some 121) rfl rfl ?_
              refine Rgd.from_is (some 122) rfl rfl ?_
              refine Rgd.from_is (some 123) rfl rfl ?_
              refine Rgd.from_is (some 124) rfl rfl ?_
              refine Rgd.from_is (some 125) rfl rfl ?_
              refine Rgd.from_is (some 126) rfl rfl ?_
              refine Rgd.from_is (some 127) rfl rfl ?_
              refine Rgd.from_is (some 128) rfl rfl ?_
              refine Rgd.from_is (some 129) rfl rfl ?_
              refine Rgd.from_is (some 130) rfl rfl ?_
              refine Rgd.from_is (some 131) rfl rfl ?_
              refine Rgd.from_is (some 132) rfl rfl ?_
              refine Rgd.from_is (some 133) rfl rfl ?_
              refine Rgd.from_is (some 134) rfl rfl ?_
              refine Rgd.from_is (some 135) rfl rfl ?_
              refine Rgd.from_is (some 136) rfl rfl ?_
              refine Rgd.from_is (some 137) rfl rfl ?_
              refine Rgd.from_is (some 138) rfl rfl ?_
              refine Rgd.from_nil ?_
              simp only [List.map, Act.put, List.setIfInBounds_toArray, List.set_cons_zero, List.set_cons_succ]
              have hbq2 := below_next hbq hbq.size hb
              go_wp2
              go_roundw
              case rel => exact ⟨k + 1, by go_num, by omega, hbq2⟩
              case measure => simp [intOf]; omega
            · obtain rfl : k = us.length := by omega
              go_wp2
              go_ret
              exact ⟨rfl, below_next hb hb.size (HBs.out.below hbq).b⟩
set_option maxRecDepth 100000 in
theorem diskPlays_lifted (os : Os) (started : os.Started) (H : Type) (enc : TypeId × Value → H) :
    ReturnsInHanded {} Try.checked os 5 .any (Rows.diskPlaysSpec.pre6 enc Try.prog Try.f5 Rows.diskPlaysRow.domain false) (Rows.diskPlaysSpec.post enc Try.prog Try.f5 false true false false) := by
  haveI : DecidableEq Lit := fun a b => Classical.propDecidable (a = b)
  refine returnsInHanded_of_change_sized (C := Try.checked) Try.own started (by kernel_rfl) Try.func5
    (ChangeSpec.witness6 (enc := enc) (C := Try.checked) false ⟨#[], #[.slice none 0 0], []⟩ 8 (by kernel_rfl) (by kernel_rfl) (by kernel_rfl) (by kernel_rfl)) ?_
  intro W base args ds gs before hval0 hW hcnd hsz0 _
  have hval : ∀ (j : Nat) t v, Try.f5.params[j]? = some t → args[j]? = some v → Value.okWide Try.prog W .any base t v := hval0
  have hW' := hW
  obtain ⟨p, q, hA0, hV, rfl, hfz, hnd⟩ := hW
  have hA : DataW.TrodAll enc Try.prog W 0 (fun _ => true) true Try.f5.params.toList args.toList ds p := hA0
  rw [Try.params5] at hA hval
  obtain ⟨v0, d0, rfl, rfl, h0⟩ := trodAll_one hA
  obtain ⟨rfl, rfl⟩ := trodVars_none hV
  have hsz : ∀ n ∈ DataW.weightsEach Try.prog [22] [d0], n ≤ reachBytes := fun n hn => by
    have := List.all_eq_true.1 hsz0 n (by rw [Try.params5]; exact hn)
    simpa using this
  obtain ⟨_, k0⟩ := one_ofV Try.underlying22 (hval 0 22 v0 rfl rfl) h0
  obtain ⟨A0, x0, c0, rfl, a0, b0, e0⟩ := steps_at k0 (fun n hn => hsz n (DataW.weights_mem_each (j := 0) rfl rfl n hn))
  clear hA0 hval0
  refine (diskPlays_c A0 x0 c0 W a0 b0 e0).mono fun e W' ⟨he, hb⟩ => ?_
  subst he
  exact ⟨_, rfl, post_true hW' hb Try.laidOut (by kernel_rfl) rfl rfl rfl rfl rfl Try.underlying4⟩

theorem diskPlays_holds : Rows.DiskPlaysSaid :=
  OpenClaim.holds_of_wide 5 Try.f5 rfl rfl rfl rfl rfl rfl rfl ⟨rfl, rfl, rfl, rfl, rfl⟩ rfl rfl rfl rfl rfl (by kernel_rfl) Try.func5 (by kernel_rfl)
    (of_decide_eq_true (by kernel_rfl)) (by unfold Func.isWrapper; first | (rw [if_pos (by decide +kernel)]; kernel_rfl) | (rw [if_neg (by decide +kernel)]; exact ⟨rfl, rfl⟩))
    (fun os started H enc _ => diskPlays_lifted os started H enc)
#print axioms diskPlays_holds
end Go.Proofs.Ytnniiokpngdgkaa
