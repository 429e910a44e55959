/-
  What statements on admitted queries ask first: few ones; a prime.
-/
import Derived.Test.YtcojnjhffmhbiaaDoorAdmQ1
import Derived.Test.YtcojnjhffmhbiaaDoorAdmQ2
import Derived.Test.YtcojnjhffmhbiaaDoorAdmQ3
import Derived.Test.YtcojnjhffmhbiaaDoorAdmQ4
import Derived.Test.YtcojnjhffmhbiaaDoorAdmQ5
import Derived.Test.YtcojnjhffmhbiaaDoorAdmQ6
import Derived.Test.YtcojnjhffmhbiaaDoorAdmQ7
import Derived.Test.YtcojnjhffmhbiaaDoorAdmQ8
import Derived.Test.YtcojnjhffmhbiaaDoorAdmQ9
import Derived.Test.YtcojnjhffmhbiaaDoorAdP
namespace Go.Proofs.YtcojnjhffmhbiaaDoor
open Go Go.RowKit Go.Maps Go.Shelf Go.Proofs

attribute [local go_sem] Oper.semAt_some

set_option maxRecDepth 100000 in
set_option maxHeartbeats 1000000 in
theorem large21_c (A : Option Addr) (l : List Ask) (c : Nat) (w : World) (hA : Asks w A l) (hln : l.length ≤ 9223372036854775807) :
    Calls Tryd.prog 34 #[.slice A l.length c] w fun e w' => (∃ b, e = .returned (.bool b) ∧ (b = false → l.length ≤ 10 ∧ ∀ a ∈ l, a.x.length ≤ 40)) ∧ Below w.heap.size w w' := by
  have HA := hid hA
  clear hA
  go_enter Tryd.func34, Tryd.ntmps34
  by_cases h10 : (l.length : Int) > 10
  · go_wp2
    go_ret
    exact ⟨⟨true, rfl, fun h => by cases h⟩, Below.refl _ _⟩
  · go_wp2
    go_loopw [3] (fun i wr => ∃ k : Nat, i = .int .i64 (k : Int) ∧ k ≤ l.length ∧ Hid ((∀ a ∈ l.take k, a.x.length ≤ 40) ∧ Below w.heap.size w wr)) (fun i _ => l.length - (intOf i).toNat)
    case atStart => exact ⟨0, rfl, by omega, hid ⟨fun a h => by simp at h, Below.refl _ _⟩⟩
    case round =>
      obtain ⟨k, rfl, hk, HI⟩ := hrel
      by_cases hlt : k < l.length
      · have hlt' : (k : Int) < (l.length : Int) := by omega
        obtain ⟨a, ha⟩ := get_of_lt hlt
        obtain ⟨b, off, A', c', rfl, _, cx, _, _⟩ := (HA.out.below HI.out.2).at_ ha
        have HH := hid ha
        clear ha
        by_cases h40 : (a.x.length : Int) > 40
        · go_wp2
          go_ret
          exact ⟨⟨true, rfl, fun h => by cases h⟩, HI.out.2⟩
        · have HN := hid (show (∀ a ∈ l.take (k + 1), a.x.length ≤ 40) ∧ Below w.heap.size w wr from ⟨fun z hz => by
            rw [take_snocR HH.out] at hz
            rcases List.mem_append.1 hz with h | h
            · exact HI.out.1 z h
            · rw [List.mem_singleton.1 h]; omega, HI.out.2⟩)
          clear HI
          go_wp2
          go_roundw
          case rel => exact ⟨k + 1, by go_num, by omega, HN⟩
          case measure => simp [intOf]; omega
      · obtain rfl : k = l.length := by omega
        have HE := hid (show ∀ a ∈ l, a.x.length ≤ 40 by have := HI.out.1; rwa [List.take_length] at this)
        go_wp2
        go_ret
        exact ⟨⟨false, rfl, fun _ => ⟨by omega, HE.out⟩⟩, HI.out.2⟩
abbrev someP : List Int := [2, 3, 11, 101, 65537, 2305843009213693951]
def prPar (p : Par) : Par := if primeV p.Q = true then p else { p with Q := someP.getD (p.Q % 6).toNat 0 }
theorem someP_ok : ∀ q ∈ someP, primeV q = true := by
  have h : (someP.all fun q => primeV q) = true := by decide +kernel
  intro q hq
  exact List.all_eq_true.1 h q hq
theorem someP_at {n : Int} (_h0 : 0 ≤ n) : someP.getD (n % 6).toNat 0 ∈ someP := by
  have hl : (n % 6).toNat < someP.length := by simp; omega
  rw [List.getD_eq_getElem?_getD, List.getElem?_eq_getElem hl]
  exact List.getElem_mem hl
theorem cellP {w : World} {g : Nat} {e : TypeId} (h : Row1 w g e (someP.map (.int .u64))) {n : Int} (_h0 : 0 ≤ n) : w.cell? ⟨g, (n % 6).toNat, none⟩ = some (.int .u64 (someP.getD (n % 6).toNat 0)) := by
  have hl : (n % 6).toNat < someP.length := by simp; omega
  refine h.cell ?_
  rw [List.getElem?_map, List.getD_eq_getElem?_getD, List.getElem?_eq_getElem hl]; rfl
theorem prPar_ok {p : Par} (hp : p.ok) : (prPar p).ok ∧ primeV (prPar p).Q = true ∧ (prPar p).R = p.R := by
  unfold prPar
  split
  · rename_i h
    exact ⟨hp, h, rfl⟩
  · have h1 := someP_ok _ (someP_at hp.Q.lo)
    obtain ⟨h2, h3⟩ := okm_prime h1
    refine ⟨⟨hp.P, ⟨by show 0 ≤ someP.getD _ 0; omega, by have := okm_le h2; show someP.getD _ 0 < _; omega⟩, hp.G, hp.H, hp.Nodes, hp.N, hp.T, hp.K, hp.D, hp.R, hp.M, hp.X⟩, h1, rfl⟩
set_option maxRecDepth 100000 in
set_option maxHeartbeats 2000000 in
theorem prime21_c (p : Par) (hp : p.ok) (w : World) (hTab : Tabs w) :
    Calls Tryd.prog 36 #[pval p] w fun e w' => e = .returned (pval (prPar p)) ∧ Below w.heap.size w w' := by
  have hb1 := below_alloc w (.cells (pcells p).toArray 43)
  have hP := row1_new w (pcells p) 43
  have hb2 := below_alloc (w.alloc (.cells (pcells p).toArray 43)) (.cells (pcells pZ).toArray 43)
  have hZ := row1_new (w.alloc (.cells (pcells p).toArray 43)) (pcells pZ) 43
  have hP2 := hP.below hb2
  have hbb := below_next hb1 hb1.size hb2
  have hTb := hTab.below hbb
  have hs : (w.alloc (.cells (pcells p).toArray 43)).heap.size = w.heap.size + 1 := by simp
  rw [hs] at hZ
  have hq := hp.Q
  clear hTab hb1 hb2 hP hs
  go_enter Tryd.func36, Tryd.ntmps36
  go_wp2_with (fail)
  refine (prime_c p.Q hq _ hTb).mono ?_
  rintro e w2 ⟨rfl, hd⟩
  have hP3 : Row1 w2 w.heap.size 43 (pcells p) := hP2.below (below_of_dr hd)
  have hZ3 : Row1 w2 (w.heap.size + 1) 43 (pcells pZ) := hZ.below (below_of_dr hd)
  have hbw : Below w.heap.size w w2 := below_dr hbb hd
  clear hP2 hZ hbb hd hTb
  cases hv : primeV p.Q with
  | true =>
    have HV := hid (show prPar p = p from if_pos hv)
    clear hv
    obtain ⟨p0, p1, p2, p3, p4, p5, p6, p7, p8, p9, p10, p11⟩ := par_cells hP3
    obtain ⟨z0, z1, z2, z3, z4, z5, z6, z7, z8, z9, z10, z11⟩ := par_cells hZ3
    obtain ⟨f0, f1, f2, f3, f4, f5, f6, f7, f8, f9, f10, f11⟩ := par_frozen hZ3
    have HQ := hid (⟨parLaid_row (p := p) hZ3, parLaid_below (p := p) hbw (by omega)⟩ : Row1 (parLaid w2 (w.heap.size + 1) (p)) (w.heap.size + 1) 43 (pcells (p)) ∧ Below w.heap.size w (parLaid w2 (w.heap.size + 1) (p)))
    clear hP3 hZ3 hbw
    go_wp2
    obtain ⟨w17, hw17⟩ : ∃ w17, parLaid w2 (w.heap.size + 1) (p) = w17 := ⟨_, rfl⟩
    rw [hw17] at HQ
    unfold parLaid at hw17
    rw [hw17]
    clear hw17 z0 z1 z2 z3 z4 z5 z6 z7 z8 z9 z10 z11 f0 f1 f2 f3 f4 f5 f6 f7 f8 f9 f10 f11 p0 p1 p2 p3 p4 p5 p6 p7 p8 p9 p10 p11
    obtain ⟨r0, r1, r2, r3, r4, r5, r6, r7, r8, r9, r10, r11⟩ := par_cells HQ.out.1
    refine bodyPost_ret (v := pval (p)) (by simp [results, Tryd.f36, go_sem, r0, r1, r2, r3, r4, r5, r6, r7, r8, r9, r10, r11]) rfl ⟨by rw [HV.out], HQ.out.2⟩
  | false =>
    have HV := hid (show prPar p = { p with Q := someP.getD (p.Q % 6).toNat 0 } from if_neg (by rw [hv]; decide))
    have h0 := hq.lo
    have h6 := Int.tmod_eq_emod_of_nonneg (b := 6) h0
    have hr6 : 0 ≤ p.Q % 6 ∧ p.Q % 6 < 6 := by omega
    have hB := Bun.nil w2
    clear hv
    obtain ⟨Z, hZq⟩ : ∃ Z, someP.getD (p.Q % 6).toNat 0 = Z := ⟨_, rfl⟩
    rw [hZq] at HV
    have HZ := hid hZq
    clear hZq
    have hc1 := hP3.cell (k := 1) rfl
    have hf1 := (par_frozen hP3).2.1
    go_upto_region 3 with (first | (refine wpList_named hB rfl ?_; clear hB; intro wn gn hB hbn hg; (try rw [hg]); clear hg; have cq := cellP (hB.row (i := 0) rfl) h0; rw [HZ.out] at cq; replace hc1 := (hP3.below hbn).cell (k := 1) rfl; replace hf1 := (par_frozen (hP3.below hbn)).2.1; replace hP3 := hP3.below hbn; replace hZ3 := hZ3.below hbn; replace hbw := below_next hbw hbw.size hbn; clear hbn) | fail)
    replace hP3 : Row1 (wn.setCell ⟨w.heap.size, 1, none⟩ (.int .u64 Z)) w.heap.size 43 (pcells { p with Q := Z }) := hP3.set 1 (.int .u64 Z)
    replace hZ3 := hZ3.far (p := ⟨w.heap.size, 1, none⟩) (by show w.heap.size ≠ w.heap.size + 1; omega) (.int .u64 Z)
    replace hbw := hbw.setCell (p := ⟨w.heap.size, 1, none⟩) (Nat.le_refl _) (.int .u64 Z)
    clear hB cq hc1 hf1 HZ h6 hr6
    generalize wn.setCell ⟨w.heap.size, 1, none⟩ (.int .u64 Z) = w4 at *
    obtain ⟨p0, p1, p2, p3, p4, p5, p6, p7, p8, p9, p10, p11⟩ := par_cells hP3
    obtain ⟨z0, z1, z2, z3, z4, z5, z6, z7, z8, z9, z10, z11⟩ := par_cells hZ3
    obtain ⟨f0, f1, f2, f3, f4, f5, f6, f7, f8, f9, f10, f11⟩ := par_frozen hZ3
    have HQ := hid (⟨parLaid_row (p := { p with Q := Z }) hZ3, parLaid_below (p := { p with Q := Z }) hbw (by omega)⟩ : Row1 (parLaid w4 (w.heap.size + 1) ({ p with Q := Z })) (w.heap.size + 1) 43 (pcells ({ p with Q := Z })) ∧ Below w.heap.size w (parLaid w4 (w.heap.size + 1) ({ p with Q := Z })))
    clear hP3 hZ3 hbw
    go_wp2
    obtain ⟨w17, hw17⟩ : ∃ w17, parLaid w4 (w.heap.size + 1) ({ p with Q := Z }) = w17 := ⟨_, rfl⟩
    rw [hw17] at HQ
    unfold parLaid at hw17
    rw [hw17]
    clear hw17 z0 z1 z2 z3 z4 z5 z6 z7 z8 z9 z10 z11 f0 f1 f2 f3 f4 f5 f6 f7 f8 f9 f10 f11 p0 p1 p2 p3 p4 p5 p6 p7 p8 p9 p10 p11
    obtain ⟨r0, r1, r2, r3, r4, r5, r6, r7, r8, r9, r10, r11⟩ := par_cells HQ.out.1
    refine bodyPost_ret (v := pval ({ p with Q := Z })) (by simp [results, Tryd.f36, go_sem, r0, r1, r2, r3, r4, r5, r6, r7, r8, r9, r10, r11]) rfl ⟨by rw [HV.out], HQ.out.2⟩
end Go.Proofs.YtcojnjhffmhbiaaDoor
