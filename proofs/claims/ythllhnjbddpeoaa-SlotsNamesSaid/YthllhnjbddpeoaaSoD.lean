/-
  A turn is done: a fuse, and a text once or twice.
-/
import Derived.Test.YthllhnjbddpeoaaSoU
namespace Go.Proofs.Ythllhnjbddpeoaa
open Go Go.RowKit Go.Maps Go.Shelf Go.Proofs

set_option maxRecDepth 100000 in
theorem twice2_c (g gm : Nat) (v : Value) (d : Dk) (m c : Nat) (s : ByteArray) (w : World) (h : Dsk w g gm v d) (hd : d.Ok m) (hm : m ≤ 390000) (hc : d.C.length ≤ c) (hc1 : 98303 ≤ c) (hc2 : c ≤ 200000) (hs : s.size ≤ 9223372036854775807) [DecidableEq Lit] :
    Calls Try.prog 46 #[.pointer (some ⟨g, 0, none⟩), .string s] w fun e w' => ∃ v', e = .returned (.int .i64 (d.twice s).1) ∧ Dsk w' g gm v' (d.twice s).2 ∧ Then w v v' ∧ Tch w w' g gm v := by
  have HC := hid (slw_c g gm v d m s w h hd hm hs)
  have HT := hid (show d.twice s = if (d.slw s).1 = 0 then (d.slw s).2.slw s else d.slw s from rfl)
  have HO := hid (⟨hd.slw s, slw_C hd.fuse hc hc1⟩ : (d.slw s).2.Ok (2 * m + 100000) ∧ (d.slw s).2.C.length ≤ c)
  clear h hd hm
  generalize d.twice s = R at *
  go_enter Try.func46, Try.ntmps46
  go_wp2_with (fail)
  refine HC.out.mono ?_
  rintro e w2 ⟨v', rfl, hD, hTh, hTc⟩
  by_cases hz : (d.slw s).1 = 0
  · have hz1 : ((d.slw s).1 != 0) = false := by simpa using hz
    have HR := hid (HT.out.trans (if_pos hz))
    have HC2 := hid (slw_c g gm v' _ (65536 + c) s w2 hD (hD.cap HO.out.1 HO.out.2) (by omega) hs)
    clear hz HC
    go_wp2_with (fail)
    refine HC2.out.mono ?_
    rintro e w3 ⟨v3, rfl, hD3, hTh3, hTc3⟩
    go_wp2
    go_ret
    exact ⟨v3, by rw [HR.out]; rfl, by rw [HR.out]; exact hD3, hTh.trans hTc.size hTh3, hTc.trans hTh hTc3⟩
  · have hz1 : ((d.slw s).1 != 0) = true := by simpa using hz
    have HR := hid (HT.out.trans (if_neg hz))
    clear hz HC
    go_wp2
    go_ret
    exact ⟨v', by rw [HR.out]; rfl, by rw [HR.out]; exact hD, hTh, hTc⟩
/-- what a turn leaves is no longer than that. -/
theorem twice_C {d : Dk} {s : ByteArray} {m c : Nat} (hd : d.Ok m) (hc : d.C.length ≤ c) (hc2 : 98303 ≤ c) : (d.twice s).2.C.length ≤ c ∧ (d.twice s).2.Ok (2 * (2 * m + 100000) + 100000) := by
  have h1 := slw_C (s := s) hd.fuse hc hc2
  have h2 := hd.slw s
  unfold Dk.twice
  split
  · exact ⟨slw_C h2.fuse h1 hc2, h2.slw s⟩
  · exact ⟨h1, h2.mono (by omega)⟩
theorem tdo_C {d : Dk} {tw : Bool} {s : ByteArray} {m c : Nat} (hd : d.Ok m) (hc : d.C.length ≤ c) (hc2 : 98303 ≤ c) : (tdo d tw s).2.C.length ≤ c ∧ (tdo d tw s).2.Ok (2 * (2 * m + 100000) + 100000) := by
  unfold tdo
  cases tw with
  | true => exact twice_C hd hc hc2
  | false => exact ⟨slw_C hd.fuse hc hc2, (hd.slw s).mono (by omega)⟩
abbrev tuval (u : Tu) : Value := .agg #[.string u.s, .bool u.tw, .int .i64 u.fu, .bool u.cr, .slice u.ksA u.ks.length u.ksC, .int .i64 u.at_]
set_option maxRecDepth 100000 in
set_option maxHeartbeats 1000000 in
theorem tdo_c (g gm : Nat) (v : Value) (d : Dk) (m c : Nat) (u : Tu) (w : World) (h : Dsk w g gm v d) (hd : d.Ok m) (hm : m ≤ 390000) (hc : d.C.length ≤ c) (hc1 : 98303 ≤ c) (hc2 : c ≤ 200000) (h1 : u.s.size ≤ 140737488355327) (h2 : I64 u.fu) [DecidableEq Lit] :
    Calls Try.prog 49 #[tuval u, .pointer (some ⟨g, 0, none⟩)] w fun e w' => ∃ v', e = .returned (.int .i64 (tdo (d.fuse u.fu) u.tw u.s).1) ∧ Dsk w' g gm v' (tdo (d.fuse u.fu) u.tw u.s).2 ∧ Then w v v' ∧ Tch w w' g gm v := by
  obtain ⟨s, tw, fu, cr, ka, ks, kc, a⟩ := u
  have h1 : s.size ≤ 140737488355327 := h1
  have h2 : I64 fu := h2
  have hb0 := below_alloc w (.cells #[.string s, .bool tw, .int .i64 fu, .bool cr, .slice ka ks.length kc, .int .i64 a] 69)
  have r0 := row1_new w [.string s, .bool tw, .int .i64 fu, .bool cr, .slice ka ks.length kc, .int .i64 a] 69
  have hD := h.below hb0
  have hT0 : Tch w (w.alloc (.cells #[.string s, .bool tw, .int .i64 fu, .bool cr, .slice ka ks.length kc, .int .i64 a] 69)) g gm v := .of_below hb0
  have hs0 := hb0.size
  have HF := hid (fuse_c g gm v d fu _ hD h2)
  have HOK : Hid ((d.fuse fu).Ok m ∧ (d.fuse fu).C.length ≤ c) := hid ⟨hd.fuse_ ⟨h2.1, by have := h2.2; omega⟩, hc⟩
  have HT := hid (show tdo (d.fuse fu) tw s = if tw then (d.fuse fu).twice s else (d.fuse fu).slw s from rfl)
  have HB := hid (⟨hT0, hs0⟩ : _ ∧ _)
  clear hd hc hb0 h hT0 hs0
  show Calls _ _ _ _ fun e w' => ∃ v', e = .returned (.int .i64 (tdo (d.fuse fu) tw s).1) ∧ Dsk w' g gm v' (tdo (d.fuse fu) tw s).2 ∧ Then w v v' ∧ Tch w w' g gm v
  generalize tdo (d.fuse fu) tw s = R at *
  cases tw with
  | true =>
    go_enter Try.func49, Try.ntmps49
    go_wp2_with (fail)
    refine HF.out.mono ?_
    rintro e w2 ⟨rfl, hD2, hT2⟩
    have r2 := row1_tch r0 hD hT2 (by decide) (by decide)
    have HTT := hid (HB.out.1.trans Then.refl hT2)
    have HSS := hid HB.out.2
    have c0 := r2.cell (k := 0) rfl
    have c1 := r2.cell (k := 1) rfl
    have HC := hid (twice2_c g gm v (d.fuse fu) m c s w2 hD2 HOK.out.1 hm HOK.out.2 hc1 hc2 (by omega))
    clear HF HOK r0 r2 hD hT2 hD2 HB
    go_wp2_with (fail)
    refine HC.out.mono ?_
    rintro e w3 ⟨v', rfl, hD3, hTh, hT⟩
    go_wp2
    go_ret
    exact ⟨v', by rw [HT.out]; rfl, by rw [HT.out]; exact hD3, fun b hb => (hTh b hb).imp id (Nat.le_trans HTT.out.size), HTT.out.trans Then.refl hT⟩
  | false =>
    go_enter Try.func49, Try.ntmps49
    go_wp2_with (fail)
    refine HF.out.mono ?_
    rintro e w2 ⟨rfl, hD2, hT2⟩
    have r2 := row1_tch r0 hD hT2 (by decide) (by decide)
    have HTT := hid (HB.out.1.trans Then.refl hT2)
    have HSS := hid HB.out.2
    have c0 := r2.cell (k := 0) rfl
    have c1 := r2.cell (k := 1) rfl
    have HC := hid (slw_c g gm v (d.fuse fu) m s w2 hD2 HOK.out.1 hm (by omega))
    clear HF HOK r0 r2 hD hT2 hD2 HB
    go_wp2_with (fail)
    refine HC.out.mono ?_
    rintro e w3 ⟨v', rfl, hD3, hTh, hT⟩
    go_wp2
    go_ret
    exact ⟨v', by rw [HT.out]; rfl, by rw [HT.out]; exact hD3, fun b hb => (hTh b hb).imp id (Nat.le_trans HTT.out.size), HTT.out.trans Then.refl hT⟩
end Go.Proofs.Ythllhnjbddpeoaa
