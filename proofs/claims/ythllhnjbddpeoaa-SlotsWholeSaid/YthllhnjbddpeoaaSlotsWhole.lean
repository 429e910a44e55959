/-
  THE STAGE'S THEOREM: whatever a fuse stops, behind whatever crash, a disk has, when it starts again, the text that it had, or the one that was to be written; behind a Write that was done always that one: for any turns.
-/
import Derived.Test.YthllhnjbddpeoaaSoD
namespace Go.Proofs.Ythllhnjbddpeoaa
open Go Go.RowKit Go.Maps Go.Shelf Go.Proofs Go.ChangeShapes Go.WideShapes Go.ChangeAt

/-- what may be told. -/
def MayB (l : List ByteArray) (no : Bool) (t : ByteArray × Bool) : Prop := (t.2 = false ∧ no = true) ∨ (t.2 = true ∧ ∃ k : Nat, l[k]? = some t.1 ∧ (0 < k ∨ no = false))
theorem mayB_one {s : ByteArray} {t : ByteArray × Bool} (h : t = (s, true)) : MayB [s] false t := by
  subst h
  exact .inr ⟨rfl, 0, rfl, .inr rfl⟩
theorem mayB_more {l : List ByteArray} {no : Bool} {s : ByteArray} {t : ByteArray × Bool} (hl : l ≠ []) (h : MayB l no t ∨ t = (s, true)) : MayB (l ++ [s]) no t := by
  have hp : 0 < l.length := List.length_pos_iff.2 hl
  rcases h with (⟨h1, h2⟩ | ⟨h1, k, h2, h3⟩) | rfl
  · exact .inl ⟨h1, h2⟩
  · refine .inr ⟨h1, k, ?_, h3⟩
    rw [List.getElem?_append_left (List.getElem?_eq_some_iff.1 h2).1]; exact h2
  · refine .inr ⟨rfl, l.length, by simp, .inl hp⟩
theorem mayB_told {t : ByteArray} {b : Bool} {z : ByteArray × Bool} (h : z = (t, b)) : MayB [t] (!b) z := by
  subst h
  cases b with
  | false => exact .inl ⟨rfl, rfl⟩
  | true => exact .inr ⟨rfl, 0, rfl, .inr rfl⟩
theorem cells6_at {w : World} {b off : Nat} {L : List Tu} (h : CellsU w (some ⟨b, off, none⟩) L) {i : Nat} {v : Tu} (hv : L[i]? = some v) :
    w.cell? ⟨b, off + i * 6, none⟩ = some (.string v.s) ∧ w.cell? ⟨b, off + i * 6 + 1, none⟩ = some (.bool v.tw) ∧ w.cell? ⟨b, off + i * 6 + 2, none⟩ = some (.int .i64 v.fu) ∧ w.cell? ⟨b, off + i * 6 + 3, none⟩ = some (.bool v.cr) ∧ w.cell? ⟨b, off + i * 6 + 4, none⟩ = some (.slice v.ksA v.ks.length v.ksC) ∧ w.cell? ⟨b, off + i * 6 + 5, none⟩ = some (.int .i64 v.at_) := by
  obtain ⟨b', off', e, h⟩ := h.at_ hv
  cases e
  exact h
theorem own_ne {w : World} {g gm base : Nat} {u v : Value} {d : Dk} {e : TypeId} {xs : List Value} (hO : Own w base e v xs) (hD : Dsk w g gm u d) (h1 : e ≠ 85) (h2 : e ≠ 80) {b : Nat} (hb : v.ownBlock = some b) : b ≠ g ∧ b ≠ gm ∧ u.ownBlock ≠ some b := by
  rcases hO.2 with ⟨rfl, _⟩ | ⟨b', cap, cur, rfl, _, hg, _⟩
  · cases hb
  · cases hb
    exact hD.ne_cells hg h1 h2
theorem Dsk.push {w w' : World} {g gm base : Nat} {u v : Value} {d : Dk} {e : TypeId} {xs : List Value} (hD : Dsk w g gm u d) (hO : Own w base e v xs) (h1 : e ≠ 85) (h2 : e ≠ 80) (hk : ∀ k, k < w.heap.size → some k ≠ v.ownBlock → w'.heap[k]? = w.heap[k]?) : Dsk w' g gm u d :=
  hD.keep (hk g hD.lt.1 fun e => (own_ne hO hD h1 h2 e.symm).1 rfl) (hk gm hD.lt.2.1 fun e => (own_ne hO hD h1 h2 e.symm).2.1 rfl) fun b hb => hk b (hD.vlt hb).1 fun e => (own_ne hO hD h1 h2 e.symm).2.2 hb
theorem fuse_live {d : Dk} (h : d.de = false) (n : Int) : Live (d.fuse n) := ⟨h, fun e => by simpa [Dk.fuse] using e⟩
theorem start_live (d : Dk) : Live d.start := ⟨rfl, fun e => by have e : false = true := e; cases e⟩
/-- a turn, and what it leaves. -/
structure Turned (d : Dk) (s : ByteArray) (c : Nat) (M : ByteArray × Bool → Prop) (e : Int) (d' : Dk) : Prop where
  ok : e = 0 ∧ Live d' ∧ Inv d'.pc (c + 2) (fun t => t = (s, true)) ∨ e = 42 ∧ Inv d'.pc (c + 2) (fun t => M t ∨ t = (s, true))

set_option maxRecDepth 100000 in
set_option maxHeartbeats 8000000 in
theorem slotsWhole_c (A : Option Addr) (l : List Tu) (c : Nat) (w : World) (hA : CellsU w A l) (hl : l.length ≤ 9223372036854775807) (ho : ∀ u ∈ l, u.Ok w) [DecidableEq Lit] :
    Calls Try.prog 13 #[.slice A l.length c] w fun e w' => e = .returned (.bool true) ∧ Below w.heap.size w w' := by
  have HO := hid ho
  have HA := hid hA
  have HAW := hid (fun w' : World => awake_c w')
  clear ho hA
  go_enter Try.func13, Try.ntmps13
  go_wp2_with (fail)
  refine (manyU_c A l c w HA.out hl fun u hu => ⟨(HO.out u hu).s, (HO.out u hu).ksL⟩).mono ?_
  rintro e w1 ⟨⟨b, rfl, hfew⟩, hd⟩
  have hb1 : Below w.heap.size w w1 := below_of_dr hd
  cases b with
  | true =>
    clear hfew hd
    go_wp2_with (fail)
    refine (HAW.out w1).mono ?_
    rintro e w2 ⟨rfl, hb2⟩
    go_wp2
    go_ret
    exact ⟨rfl, below_next hb1 hb1.size hb2⟩
  | false =>
    obtain ⟨hfl, hfs⟩ := hfew rfl
    have HFS := hid hfs
    clear hfew hd hfs
    go_wp2_with (fail)
    refine (HAW.out w1).mono ?_
    rintro e w2 ⟨rfl, hb2⟩
    have hb3 := below_next hb1 hb1.size hb2
    clear hb1 hb2
    go_wp2_with (fail)
    refine (dnew_c w2).mono ?_
    rintro e w3 ⟨g, gm, rfl, hD, hg, hgm, hb4⟩
    have hB : Base w w3 g gm (.slice none 0 0) := ⟨below_next hb3 hb3.size hb4, Nat.le_trans hb3.size hg, Nat.le_trans hb3.size hgm, fun b h => by cases h⟩
    clear hb3 hb4 hg hgm
    have hba := below_alloc w3 (.cells #[.string ⟨#[]⟩] 9)
    have hro := row1_new w3 [.string ⟨#[]⟩] 9
    have HST := hid (⟨hD.below hba, hB.below hba, hro.own (base := w.heap.size) hB.b.size (by decide)⟩ : _ ∧ _ ∧ _)
    clear hba hro hD hB
    go_wp2_with (fail)
    go_loopw [4, 5, 6] (fun vm vn vi wr => ∃ (k c : Nat) (v : Value) (d : Dk) (L : List ByteArray) (no : Bool) (vw : Value), vw = vm ∧ vi = .int .i64 k ∧ vn = .bool no ∧ k ≤ l.length ∧ Dsk wr g gm v d ∧ Own wr w.heap.size 9 vm (L.map Value.string) ∧ Base w wr g gm v ∧ L.length ≤ 1 + k ∧ Hid (d.Ok 200000 ∧ Live d ∧ d.C.length ≤ 98400 ∧ L ≠ [] ∧ c ≤ 2 * k ∧ Inv d.pc c (MayB L no))) (fun _ _ i _ => l.length - (intOf i).toNat)
    case atStart => exact ⟨0, 0, _, dk0, [⟨#[]⟩], true, _, rfl, rfl, rfl, by omega, HST.out.1, HST.out.2.2, HST.out.2.1, by simp, hid ⟨dk0_ok.mono (by omega), dk0_live, by decide, by simp, by omega, inv_new.mono (by omega) fun t h => .inl ⟨by rw [h], rfl⟩⟩⟩
    case round =>
      obtain ⟨k, c, v, d, L, no, vm, rfl, rfl, rfl, hk, hD, hO, hB, hLk, HI⟩ := hrel
      clear HST
      by_cases hlt : k < l.length
      · obtain ⟨x, hx⟩ := get_of_lt hlt
        have hxo := HO.out x (List.mem_of_getElem? hx)
        have hxs := HFS.out x (List.mem_of_getElem? hx)
        have HX := hid hx
        obtain ⟨bb, off, rfl, q0, q1, q2, q3, q4, q5⟩ := CellsU.at_ (HA.out.below hB.b) hx
        have HCELL := hid (fun wx (hbx : Below w.heap.size w wx) => cells6_at (HA.out.below hbx) HX.out)
        have HC := hid (tdo_c g gm v d 200000 98400 x wr hD HI.out.1 (by omega) HI.out.2.2.1 (by omega) (by omega) hxo.s hxo.fu)
        have hc2 : c + 2 ≤ maxN := by have := HI.out.2.2.2.2.1; unfold maxN; omega
        have HT := hid (tdo_inv (tw := x.tw) (s := x.s) (fuse_live HI.out.2.1.de x.fu) (show Inv (d.fuse x.fu).pc c (MayB L no) from HI.out.2.2.2.2.2) (by unfold roomN; omega) hc2)
        have HK := hid (tdo_C (tw := x.tw) (s := x.s) (d := d.fuse x.fu) (HI.out.1.fuse_ ⟨hxo.fu.1, by have := hxo.fu.2; omega⟩) (show (d.fuse x.fu).C.length ≤ 98400 from HI.out.2.2.1) (by omega))
        have hcx : I64 x.at_ := hxo.at_
        have HKS := hid (⟨hxo.ks, hxo.ksL⟩ : _ ∧ _)
        have hLc : c + 2 ≤ 2 * (k + 1) := by have := HI.out.2.2.2.2.1; omega
        have hLn := HI.out.2.2.2.1
        clear hx hxo hc2 HI
        go_wp2_with (fail)
        refine HC.out.mono ?_
        clear HC
        generalize tdo (d.fuse x.fu) x.tw x.s = R at *
        obtain ⟨e4, d4⟩ := R
        simp only at HT HK
        rintro e w4 ⟨v4, rfl, hD4, hTh4, hT4⟩
        have hB4 := hB.step hTh4 hT4
        have hO4 : Own w4 w.heap.size 9 vm (L.map Value.string) := ownsRow_tch hO hD hT4 (by decide) (by decide)
        have hok4 : d4.Ok 200000 := (hD4.cap HK.out.2 HK.out.1).mono (by omega)
        have HOK := hid (⟨hok4, HK.out.1⟩ : _ ∧ _)
        clear HK hok4 hO hD hB hTh4 hT4 q0 q1 q2 q3 q4 q5
        obtain ⟨q0, q1, q2, q3, q4, q5⟩ := HCELL.out w4 hB4.b
        rcases HT.out with ⟨rfl, hL4, hI4⟩ | ⟨rfl, hI4⟩
        · have HSZ := hid (hB4.b.size)
          have hba := below_alloc w4 (.cells #[.string x.s] 9)
          have hro := row1_new w4 [.string x.s] 9
          have HF := hid (fuse_c g gm v4 d4 (-1) _ (hD4.below hba) ⟨by omega, by omega⟩)
          have hD4a := hD4.below hba
          have hB4a := hB4.below hba
          have HI := hid hI4
          have hde := hL4.de
          clear hba hD4 hB4 hO4 hL4 hI4 HT
          go_wp2_with (fail)
          refine HF.out.mono ?_
          rintro e w5 ⟨rfl, hD5, hT5⟩
          have hB5 := hB4a.step Then.refl hT5
          have hO5 : Own w5 w.heap.size 9 (.slice (some ⟨w4.heap.size, 0, none⟩) 1 1) ([x.s].map Value.string) := (row1_tch hro hD4a hT5 (by decide) (by decide)).own (by have := hB4a.b.size; have := HSZ.out; omega) (by show 1 ≤ _; omega)
          obtain ⟨L5, hL5⟩ : ∃ L5 : List ByteArray, L5 = [x.s] := ⟨_, rfl⟩
          obtain ⟨V5, hV5⟩ : ∃ V5 : Value, V5 = .slice (some ⟨w4.heap.size, 0, none⟩) 1 1 := ⟨_, rfl⟩
          rw [← hL5, ← hV5] at hO5
          rw [← hV5]
          have HL5' := hid hL5
          have hLl : L5.length ≤ 100 := by rw [hL5]; simp
          clear hL5 hV5
          have HOK5 : Hid ((d4.fuse (-1)).Ok 200000 ∧ (d4.fuse (-1)).C.length ≤ 98400) := hid ⟨HOK.out.1.fuse_ ⟨by omega, by omega⟩, HOK.out.2⟩
          have HL5 := hid (fuse_live hde (-1))
          have htx : (d4.fuse (-1)).txt = (x.s, true) := inv_txt (M := fun t => t = (x.s, true)) hde HI.out
          clear HF hro hD4a hB4a hT5 hde
          have HR := hid (sreadD_c g gm v4 (d4.fuse (-1)) 200000 w5 hD5 HOK5.out.1 (by omega))
          rw [htx] at HR
          have HI5 : Hid (Inv (d4.fuse (-1)).pc (c + 2) (fun t => t = (x.s, true))) := hid HI.out
          generalize d4.fuse (-1) = d5 at *
          clear htx HI HOK
          go_wp2_with (fail)
          refine HR.out.mono ?_
          rintro e w6 ⟨rfl, hb6⟩
          have hD6 := hD5.below hb6
          have hB6 := hB5.below hb6
          have hO6 := hO5.below hb6
          clear hD5 hB5 hO5 hb6 HR
          obtain ⟨A6, cap6, hA6, hC6⟩ := hO6.form
          have HC6 := hid hC6
          clear hC6
          rw [List.length_map] at hA6
          rw [hA6] at hO6 ⊢
          go_wp2
          go_loopw [10, 11] (fun vk vj wq => ∃ (j : Nat) (kb : Bool), vj = .int .i64 j ∧ vk = .bool kb ∧ j ≤ (L5).length ∧ Below w6.heap.size w6 wq ∧ Hid (kb = true ∨ ∃ q : Nat, j ≤ q ∧ (L5)[q]? = some x.s ∧ (0 < q ∨ false = false))) (fun _ i _ => (L5).length - (intOf i).toNat)
          case atStart => exact ⟨0, false, rfl, rfl, by omega, Below.refl _ _, hid (.inr ⟨0, by omega, by rw [HL5'.out]; rfl, .inr rfl⟩)⟩
          case round =>
            obtain ⟨j, kb, rfl, rfl, hj, hbq, HW⟩ := hrel
            by_cases hjl : j < (L5).length
            · obtain ⟨y, hy⟩ := get_of_lt hjl
              obtain ⟨b2, off2, e2, c0⟩ := (HC6.out.below hbq).at_map hy
              cases e2
              try rw [Nat.zero_add] at c0
              have HY := hid hy
              clear hy
              cases kb with
              | true =>
                clear c0
                go_wp2
                go_roundw
                case rel => exact ⟨j + 1, true, by go_num, rfl, by omega, hbq, hid (.inl rfl)⟩
                case measure => simp [intOf]; omega
              | false =>
                by_cases hyt : y = x.s
                · have h2 := str_iff.2 hyt
                  by_cases hj0 : 0 < j
                  · go_wp2
                    go_roundw
                    case rel => exact ⟨j + 1, true, by go_num, rfl, by omega, hbq, hid (.inl rfl)⟩
                    case measure => simp [intOf]; omega
                  · go_wp2
                    go_roundw
                    case rel => exact ⟨j + 1, true, by go_num, rfl, by omega, hbq, hid (.inl rfl)⟩
                    case measure => simp [intOf]; omega
                · have h2 := str_no.2 hyt
                  go_wp2
                  go_roundw
                  case rel =>
                    refine ⟨j + 1, false, by go_num, rfl, by omega, hbq, hid (.inr ?_)⟩
                    rcases HW.out with h | ⟨q, h1, h3, h4⟩
                    · cases h
                    · refine ⟨q, ?_, h3, by first | exact h4 | simp⟩
                      rcases Nat.lt_or_ge j q with h5 | h5
                      · exact h5
                      · obtain rfl : q = j := by omega
                        rw [HY.out] at h3
                        cases h3
                        exact absurd rfl hyt
                  case measure => simp [intOf]; omega
            · obtain rfl : j = (L5).length := by omega
              have hkb : kb = true := by
                rcases HW.out with h | ⟨q, h1, h3, _⟩
                · exact h
                · exact absurd (List.getElem?_eq_some_iff.1 h3).1 (by omega)
              subst hkb
              clear HW hjl hj
              go_wp2
              go_roundw
              case rel => exact ⟨k + 1, c + 2, v4, d5, L5, false, _, rfl, by go_num, rfl, by omega, hD6.below hbq, hO6.below hbq, hB6.below hbq, by rw [HL5'.out]; simp, hid ⟨HOK5.out.1, HL5.out, HOK5.out.2, by rw [HL5'.out]; simp, by omega, HI5.out.mono (by omega) fun t h => by rw [HL5'.out]; exact mayB_one h⟩⟩
              case measure => simp [intOf]; omega
        · have HI := hid hI4
          have hll : (L.map Value.string).length = L.length := List.length_map ..
          clear hI4 HT
          have hbs : w.heap.size ≤ w4.heap.size := hB4.b.size
          have HD5 := hid (fun (v5 : Value) (w5 : World) (hk5 : ∀ k, k < w4.heap.size → some k ≠ vm.ownBlock → w5.heap[k]? = w4.heap[k]?) => hD4.push hO4 (by decide) (by decide) hk5)
          cases hcr : x.cr with
          | false =>
            go_wp2_with (at_builtin; refine wpList_push elt_str w4 rfl _ _ rfl w.heap.size hO4 rfl (.string x.s) rfl rfl (by rw [hll]; omega) (by rw [hll]; omega) hbs ?_; intro v5 w5 hO5 hk5 hb5; have hD5 := HD5.out v5 w5 hk5; have hB5 : Base w w5 g gm v4 := ⟨hB4.b.trans hb5, hB4.g, hB4.gm, hB4.v⟩; clear hD4 hB4 hO4 hk5 hb5 hbs hll HD5 q0 q1 q2 q3 q4 q5; obtain ⟨q0, q1, q2, q3, q4, q5⟩ := HCELL.out w5 hB5.b; rw [hcr] at q3)
            obtain ⟨L5, hL5⟩ : ∃ L5 : List ByteArray, L5 = L ++ [x.s] := ⟨_, rfl⟩
            have hO5a : Own w5 w.heap.size 9 v5 (L5.map Value.string) := by rw [hL5, List.map_append]; exact hO5
            have hLl : L5.length ≤ 1 + (k + 1) := by rw [hL5, List.length_append]; show L.length + 1 ≤ 1 + (k + 1); omega
            have HLn5 := hid (show L5 ≠ [] by rw [hL5]; simp)
            have HMM := hid (fun (z : ByteArray × Bool) (h : MayB L no z ∨ z = (x.s, true)) => show MayB L5 no z by rw [hL5]; exact mayB_more hLn h)
            clear hO5 hL5
            have HS := hid (start_c g gm v4 d4 w5 hD5)
            go_wp2_with (fail)
            refine HS.out.mono ?_
            rintro e w6' ⟨rfl, hD6', hT6⟩
            have hB6' := hB5.step Then.refl hT6
            have hO6' : Own w6' w.heap.size 9 v5 (L5.map Value.string) := ownsRow_tch hO5a hD5 hT6 (by decide) (by decide)
            have HOK5 : Hid (d4.start.Ok 200000 ∧ d4.start.C.length ≤ 98400) := hid ⟨HOK.out.1.start, HOK.out.2⟩
            have HI5 : Hid (Inv d4.start.pc (c + 2) (MayB L5 no)) := hid (Inv.mono (x := d4.start.pc) HI.out (Nat.le_refl _) HMM.out)
            have HL5 := hid (start_live d4)
            clear HS hD5 hB5 hO5a hT6 HI HOK
            have HMB := hid (inv_txt rfl HI5.out)
            have HR := hid (sreadD_c g gm v4 d4.start 200000 w6' hD6' HOK5.out.1 (by omega))
            obtain ⟨⟨t, is⟩, ht⟩ : ∃ z, (d4.start).txt = z := ⟨_, rfl⟩
            have HZ := hid ht
            rw [ht] at HR HMB
            clear ht
            go_wp2_with (fail)
            refine HR.out.mono ?_
            rintro e w6 ⟨rfl, hb6⟩
            have hD6 := hD6'.below hb6
            have hB6 := hB6'.below hb6
            have hO6 := hO6'.below hb6
            clear hD6' hB6' hO6' hb6 HR
            obtain ⟨A6, cap6, hA6, hC6⟩ := hO6.form
            have HC6 := hid hC6
            clear hC6
            rw [List.length_map] at hA6
            rw [hA6] at hO6 ⊢
            cases is with
            | false =>
              obtain rfl : no = true := by
                rcases HMB.out with ⟨_, h⟩ | ⟨h, _⟩
                · exact h
                · cases h
              go_wp2
              go_loopw [10, 11] (fun vk vj wq => ∃ (j : Nat), vj = .int .i64 j ∧ vk = .bool true ∧ j ≤ (L5).length ∧ Below w6.heap.size w6 wq) (fun _ i _ => (L5).length - (intOf i).toNat)
              case atStart => exact ⟨0, rfl, rfl, by omega, Below.refl _ _⟩
              case round =>
                obtain ⟨j, rfl, rfl, hj, hbq⟩ := hrel
                by_cases hjl : j < (L5).length
                · go_wp2
                  go_roundw
                  case rel => exact ⟨j + 1, by go_num, rfl, by omega, hbq⟩
                  case measure => simp [intOf]; omega
                · obtain rfl : j = (L5).length := by omega
                  clear hjl hj
                  obtain ⟨q0, q1, q2, q3, q4, q5⟩ := HCELL.out wr (below_next hB6.b hB6.b.size hbq)
                  rw [hcr] at q3
                  go_wp2
                  go_roundw
                  case rel => exact ⟨k + 1, c + 2, v4, d4.start, L5, true, _, rfl, by go_num, rfl, by omega, hD6.below hbq, hO6.below hbq, hB6.below hbq, hLl, hid ⟨HOK5.out.1, HL5.out, HOK5.out.2, HLn5.out, by omega, HI5.out⟩⟩
                  case measure => simp [intOf]; omega
            | true =>
              have hwit : Hid (∃ q : Nat, 0 ≤ q ∧ L5[q]? = some t ∧ (0 < q ∨ no = false)) := by
                rcases HMB.out with ⟨h, _⟩ | ⟨_, q, h1, h2⟩
                · cases h
                · exact hid ⟨q, by omega, h1, h2⟩
              go_wp2
              go_loopw [10, 11] (fun vk vj wq => ∃ (j : Nat) (kb : Bool), vj = .int .i64 j ∧ vk = .bool kb ∧ j ≤ (L5).length ∧ Below w6.heap.size w6 wq ∧ Hid (kb = true ∨ ∃ q : Nat, j ≤ q ∧ (L5)[q]? = some t ∧ (0 < q ∨ no = false))) (fun _ i _ => (L5).length - (intOf i).toNat)
              case atStart => exact ⟨0, false, rfl, rfl, by omega, Below.refl _ _, hid (.inr hwit.out)⟩
              case round =>
                obtain ⟨j, kb, rfl, rfl, hj, hbq, HW⟩ := hrel
                by_cases hjl : j < (L5).length
                · obtain ⟨y, hy⟩ := get_of_lt hjl
                  obtain ⟨b2, off2, e2, c0⟩ := (HC6.out.below hbq).at_map hy
                  cases e2
                  try rw [Nat.zero_add] at c0
                  have HY := hid hy
                  clear hy
                  cases kb with
                  | true =>
                    clear c0
                    go_wp2
                    go_roundw
                    case rel => exact ⟨j + 1, true, by go_num, rfl, by omega, hbq, hid (.inl rfl)⟩
                    case measure => simp [intOf]; omega
                  | false =>
                    by_cases hyt : y = t
                    · have h2 := str_iff.2 hyt
                      by_cases hj0 : 0 < j
                      · go_wp2
                        go_roundw
                        case rel => exact ⟨j + 1, true, by go_num, rfl, by omega, hbq, hid (.inl rfl)⟩
                        case measure => simp [intOf]; omega
                      · cases hno : no with
                        | false =>
                          go_wp2
                          go_roundw
                          case rel => exact ⟨j + 1, true, by go_num, rfl, by omega, hbq, hid (.inl rfl)⟩
                          case measure => simp [intOf]; omega
                        | true =>
                          go_wp2
                          go_roundw
                          case rel =>
                            refine ⟨j + 1, false, by go_num, rfl, by omega, hbq, hid (.inr ?_)⟩
                            rcases HW.out with h | ⟨q, h1, h3, h4⟩
                            · cases h
                            · exact ⟨q, (by rcases h4 with h4 | h4; exact (by omega : j + 1 ≤ q); exact absurd (hno.symm.trans h4) (by decide)), h3, (by rw [hno] at h4; exact h4)⟩
                          case measure => simp [intOf]; omega
                    · have h2 := str_no.2 hyt
                      go_wp2
                      go_roundw
                      case rel =>
                        refine ⟨j + 1, false, by go_num, rfl, by omega, hbq, hid (.inr ?_)⟩
                        rcases HW.out with h | ⟨q, h1, h3, h4⟩
                        · cases h
                        · refine ⟨q, ?_, h3, by first | exact h4 | simp⟩
                          rcases Nat.lt_or_ge j q with h5 | h5
                          · exact h5
                          · obtain rfl : q = j := by omega
                            rw [HY.out] at h3
                            cases h3
                            exact absurd rfl hyt
                      case measure => simp [intOf]; omega
                · obtain rfl : j = (L5).length := by omega
                  have hkb : kb = true := by
                    rcases HW.out with h | ⟨q, h1, h3, _⟩
                    · exact h
                    · exact absurd (List.getElem?_eq_some_iff.1 h3).1 (by omega)
                  subst hkb
                  clear HW hjl hj
                  obtain ⟨q0, q1, q2, q3, q4, q5⟩ := HCELL.out wr (below_next hB6.b hB6.b.size hbq)
                  rw [hcr] at q3
                  go_wp2
                  go_roundw
                  case rel => exact ⟨k + 1, c + 2, v4, d4.start, L5, no, _, rfl, by go_num, rfl, by omega, hD6.below hbq, hO6.below hbq, hB6.below hbq, hLl, hid ⟨HOK5.out.1, HL5.out, HOK5.out.2, HLn5.out, by omega, HI5.out⟩⟩
                  case measure => simp [intOf]; omega
          | true =>
            go_wp2_with (at_builtin; refine wpList_push elt_str w4 rfl _ _ rfl w.heap.size hO4 rfl (.string x.s) rfl rfl (by rw [hll]; omega) (by rw [hll]; omega) hbs ?_; intro v5 w5 hO5 hk5 hb5; have hD5 := HD5.out v5 w5 hk5; have hB5 : Base w w5 g gm v4 := ⟨hB4.b.trans hb5, hB4.g, hB4.gm, hB4.v⟩; clear hD4 hB4 hO4 hk5 hb5 hbs hll HD5 q0 q1 q2 q3 q4 q5; obtain ⟨q0, q1, q2, q3, q4, q5⟩ := HCELL.out w5 hB5.b; rw [hcr] at q3)
            obtain ⟨L5, hL5⟩ : ∃ L5 : List ByteArray, L5 = L ++ [x.s] := ⟨_, rfl⟩
            have hO5a : Own w5 w.heap.size 9 v5 (L5.map Value.string) := by rw [hL5, List.map_append]; exact hO5
            have hLl : L5.length ≤ 1 + (k + 1) := by rw [hL5, List.length_append]; show L.length + 1 ≤ 1 + (k + 1); omega
            have HLn5 := hid (show L5 ≠ [] by rw [hL5]; simp)
            have HMM := hid (fun (z : ByteArray × Bool) (h : MayB L no z ∨ z = (x.s, true)) => show MayB L5 no z by rw [hL5]; exact mayB_more hLn h)
            clear hO5 hL5
            refine Rgd.wp_region (l := [_, _, _, _, _, _, _, _, _, _, _]) (tail := [_]) (Rgd.keep w5 [] [(0, 0), (0, 0), (0, 0), (0, 0), (0, 0), (0, 0), (0, 0), (0, 0), (0, 0), (0, 0), (0, 0)]) [some 58, some 59, some 60, some 61, some 62, some 63, some 64, some 65, some 66, some 67, some 68, some 69] 123 rfl [[], [], [], [1, 2], [1, 2, 3], [1, 2, 3, 4], [], [], [6, 7], [6, 7, 8], [6, 7, 8, 9]] (by kernel_rfl) (by kernel_rfl) (by kernel_rfl) (by kernel_rfl) (by kernel_rfl) rfl (Rgd.keep_fair) (Rgd.keep_start _) ?_
            refine' Rgd.op_is _ [] 0 0 rfl rfl rfl (by kernel_rfl) ?_ ?_
            rotate_left
            · intro p wx hp1 hp2 hb
              obtain rfl : p = 0 := by omega
              refine Rgd.from_nil fun T hT => ?_
              go_wp2
              refine hT _ _ rfl (by first | exact Rgd.Keep.refl _ | exact below_of_dr hw2 | exact hw2 | exact (Below.refl _ _).alloc (Nat.le_refl _) _) ?_
              simp only [Rgd.last, List.getElem?_toArray, List.getElem?_cons_succ, List.getElem?_cons_zero, Option.getD_some]
              rfl
            refine' Rgd.op_is _ [] 0 0 rfl rfl rfl (by kernel_rfl) ?_ ?_
            rotate_left
            · intro p wx hp1 hp2 hb
              obtain rfl : p = 0 := by omega
              refine Rgd.from_nil fun T hT => ?_
              go_wp2
              refine hT _ _ rfl (by first | exact Rgd.Keep.refl _ | exact below_of_dr hw2 | exact hw2 | exact (Below.refl _ _).alloc (Nat.le_refl _) _) ?_
              simp only [Rgd.last, List.getElem?_toArray, List.getElem?_cons_succ, List.getElem?_cons_zero, Option.getD_some]
              rfl
            refine' Rgd.op_is _ [] 0 0 rfl rfl rfl (by kernel_rfl) ?_ ?_
            rotate_left
            · intro p wx hp1 hp2 hb
              obtain rfl : p = 0 := by omega
              refine Rgd.from_nil fun T hT => ?_
              go_wp2
              refine hT _ _ rfl (by first | exact Rgd.Keep.refl _ | exact below_of_dr hw2 | exact hw2 | exact (Below.refl _ _).alloc (Nat.le_refl _) _) ?_
              simp only [Rgd.last, List.getElem?_toArray, List.getElem?_cons_succ, List.getElem?_cons_zero, Option.getD_some]
              rfl
            refine' Rgd.op_is _ [1, 2] 0 0 rfl rfl rfl (by kernel_rfl) ?_ ?_
            rotate_left
            · intro p wx hp1 hp2 hb
              obtain rfl : p = 0 := by omega
              refine Rgd.from_is (some 59) rfl rfl ?_
              refine Rgd.from_is (some 60) rfl rfl ?_
              refine Rgd.from_nil fun T hT => ?_
              go_wp2
              refine hT _ _ rfl (by first | exact Rgd.Keep.refl _ | exact below_of_dr hw2 | exact hw2 | exact (Below.refl _ _).alloc (Nat.le_refl _) _) ?_
              simp only [Rgd.last, List.getElem?_toArray, List.getElem?_cons_succ, List.getElem?_cons_zero, Option.getD_some]
              rfl
            refine' Rgd.op_is _ [3] 0 0 rfl rfl rfl (by kernel_rfl) ?_ ?_
            rotate_left
            · intro p wx hp1 hp2 hb
              obtain rfl : p = 0 := by omega
              refine Rgd.from_is (some 61) rfl rfl ?_
              refine Rgd.from_nil fun T hT => ?_
              go_wp2
              refine hT _ _ rfl (by first | exact Rgd.Keep.refl _ | exact below_of_dr hw2 | exact hw2 | exact (Below.refl _ _).alloc (Nat.le_refl _) _) ?_
              simp only [Rgd.last, List.getElem?_toArray, List.getElem?_cons_succ, List.getElem?_cons_zero, Option.getD_some]
              rfl
            refine Rgd.op_is (.slice x.ksA x.ks.length x.ksC) [4] 0 0 rfl rfl rfl (by kernel_rfl) ?_ ?_
            · intro p wx hp1 hp2 hb
              obtain rfl : p = 0 := by omega
              refine Rgd.from_is (some 62) rfl rfl ?_
              refine Rgd.from_nil fun T hT => ?_
              have q := (HCELL.out wx (below_next hB5.b hB5.b.size hb)).2.2.2.2.1
              go_wp2
              exact hT _ _ rfl (by first | exact Rgd.Keep.refl _ | exact below_of_dr hw2 | exact hw2 | exact (Below.refl _ _).alloc (Nat.le_refl _) _) (by first | rfl | exact congrArg _ (by decide))
            refine' Rgd.op_is _ [] 0 0 rfl rfl rfl (by kernel_rfl) ?_ ?_
            rotate_left
            · intro p wx hp1 hp2 hb
              obtain rfl : p = 0 := by omega
              refine Rgd.from_nil fun T hT => ?_
              go_wp2
              refine hT _ _ rfl (by first | exact Rgd.Keep.refl _ | exact below_of_dr hw2 | exact hw2 | exact (Below.refl _ _).alloc (Nat.le_refl _) _) ?_
              simp only [Rgd.last, List.getElem?_toArray, List.getElem?_cons_succ, List.getElem?_cons_zero, Option.getD_some]
              rfl
            refine' Rgd.op_is _ [] 0 0 rfl rfl rfl (by kernel_rfl) ?_ ?_
            rotate_left
            · intro p wx hp1 hp2 hb
              obtain rfl : p = 0 := by omega
              refine Rgd.from_nil fun T hT => ?_
              go_wp2
              refine hT _ _ rfl (by first | exact Rgd.Keep.refl _ | exact below_of_dr hw2 | exact hw2 | exact (Below.refl _ _).alloc (Nat.le_refl _) _) ?_
              simp only [Rgd.last, List.getElem?_toArray, List.getElem?_cons_succ, List.getElem?_cons_zero, Option.getD_some]
              rfl
            refine' Rgd.op_is _ [6, 7] 0 0 rfl rfl rfl (by kernel_rfl) ?_ ?_
            rotate_left
            · intro p wx hp1 hp2 hb
              obtain rfl : p = 0 := by omega
              refine Rgd.from_is (some 64) rfl rfl ?_
              refine Rgd.from_is (some 65) rfl rfl ?_
              refine Rgd.from_nil fun T hT => ?_
              go_wp2
              refine hT _ _ rfl (by first | exact Rgd.Keep.refl _ | exact below_of_dr hw2 | exact hw2 | exact (Below.refl _ _).alloc (Nat.le_refl _) _) ?_
              simp only [Rgd.last, List.getElem?_toArray, List.getElem?_cons_succ, List.getElem?_cons_zero, Option.getD_some]
              rfl
            refine' Rgd.op_is _ [8] 0 0 rfl rfl rfl (by kernel_rfl) ?_ ?_
            rotate_left
            · intro p wx hp1 hp2 hb
              obtain rfl : p = 0 := by omega
              refine Rgd.from_is (some 66) rfl rfl ?_
              refine Rgd.from_nil fun T hT => ?_
              go_wp2
              refine hT _ _ rfl (by first | exact Rgd.Keep.refl _ | exact below_of_dr hw2 | exact hw2 | exact (Below.refl _ _).alloc (Nat.le_refl _) _) ?_
              simp only [Rgd.last, List.getElem?_toArray, List.getElem?_cons_succ, List.getElem?_cons_zero, Option.getD_some]
              rfl
            refine Rgd.op_is (.int .i64 x.at_) [9] 0 0 rfl rfl rfl (by kernel_rfl) ?_ ?_
            · intro p wx hp1 hp2 hb
              obtain rfl : p = 0 := by omega
              refine Rgd.from_is (some 67) rfl rfl ?_
              refine Rgd.from_nil fun T hT => ?_
              have q := (HCELL.out wx (below_next hB5.b hB5.b.size hb)).2.2.2.2.2
              go_wp2
              exact hT _ _ rfl (by first | exact Rgd.Keep.refl _ | exact below_of_dr hw2 | exact hw2 | exact (Below.refl _ _).alloc (Nat.le_refl _) _) (by first | rfl | exact congrArg _ (by decide))
            refine Rgd.walk_nil [0, 1, 2, 3, 4, 5, 6, 7, 8, 9, 10] (by kernel_rfl) ?_
            intro wx hb
            refine Rgd.from_is (some 58) rfl rfl ?_
            refine Rgd.from_is (some 59) rfl rfl ?_
            refine Rgd.from_is (some 60) rfl rfl ?_
            refine Rgd.from_is (some 61) rfl rfl ?_
            refine Rgd.from_is (some 62) rfl rfl ?_
            refine Rgd.from_is (some 63) rfl rfl ?_
            refine Rgd.from_is (some 64) rfl rfl ?_
            refine Rgd.from_is (some 65) rfl rfl ?_
            refine Rgd.from_is (some 66) rfl rfl ?_
            refine Rgd.from_is (some 67) rfl rfl ?_
            refine Rgd.from_is (some 68) rfl rfl ?_
            refine Rgd.from_nil ?_
            simp only [List.map, Act.put, List.setIfInBounds_toArray, List.set_cons_zero, List.set_cons_succ]
            have hDx := hD5.below hb
            have hBx := hB5.below hb
            have hOx := hO5a.below hb
            clear hD5 hB5 hO5a
            have HCR := hid (crash_any_c g gm v4 d4 200000 x.ksA x.ks x.ksC x.at_ wx hDx HOK.out.1 (by omega) (fun wr hT => HKS.out.1.below (hT.past hBx.b hBx.b.size hBx.g hBx.gm hBx.v)) (by have := HKS.out.2; omega) hcx)
            go_wp2_with (fail)
            refine HCR.out.mono ?_
            rintro e w7 ⟨v7, rfl, hD7, hTh7, hT7⟩
            have hB7 := hBx.step hTh7 hT7
            have hO7 : Own w7 w.heap.size 9 v5 (L5.map Value.string) := ownsRow_tch hOx hDx hT7 (by decide) (by decide)
            have HIC := hid (inv_crash HI.out x.ks x.at_)
            have HOKC : Hid ((d4.crash x.ks x.at_).Ok 200000 ∧ (d4.crash x.ks x.at_).C.length ≤ 98400) := hid ⟨HOK.out.1.crash _ _, by show 0 ≤ 98400; omega⟩
            clear HCR hDx hBx hOx hTh7 hT7 HI HOK
            have HS := hid (start_c g gm v7 (d4.crash x.ks x.at_) w7 hD7)
            go_wp2_with (fail)
            refine HS.out.mono ?_
            rintro e w6' ⟨rfl, hD6', hT6⟩
            have hB6' := hB7.step Then.refl hT6
            have hO6' : Own w6' w.heap.size 9 v5 (L5.map Value.string) := ownsRow_tch hO7 hD7 hT6 (by decide) (by decide)
            have HOK5 : Hid ((d4.crash x.ks x.at_).start.Ok 200000 ∧ (d4.crash x.ks x.at_).start.C.length ≤ 98400) := hid ⟨HOKC.out.1.start, HOKC.out.2⟩
            have HI5 := hid HIC.out.1
            have HMB := hid (HMM.out _ HIC.out.2)
            have HL5 := hid (start_live (d4.crash x.ks x.at_))
            clear HS hD7 hB7 hO7 hT6 HIC HOKC
            generalize (d4.crash x.ks x.at_).start = d5s at *
            have HR := hid (sreadD_c g gm v7 d5s 200000 w6' hD6' HOK5.out.1 (by omega))
            obtain ⟨⟨t, is⟩, ht⟩ : ∃ z, (d5s).txt = z := ⟨_, rfl⟩
            have HZ := hid ht
            rw [ht] at HR HMB
            clear ht
            go_wp2_with (fail)
            refine HR.out.mono ?_
            rintro e w6 ⟨rfl, hb6⟩
            have hD6 := hD6'.below hb6
            have hB6 := hB6'.below hb6
            have hO6 := hO6'.below hb6
            clear hD6' hB6' hO6' hb6 HR
            obtain ⟨A6, cap6, hA6, hC6⟩ := hO6.form
            have HC6 := hid hC6
            clear hC6
            rw [List.length_map] at hA6
            rw [hA6] at hO6 ⊢
            cases is with
            | false =>
              obtain rfl : no = true := by
                rcases HMB.out with ⟨_, h⟩ | ⟨h, _⟩
                · exact h
                · cases h
              go_wp2
              go_loopw [10, 11] (fun vk vj wq => ∃ (j : Nat), vj = .int .i64 j ∧ vk = .bool true ∧ j ≤ (L5).length ∧ Below w6.heap.size w6 wq) (fun _ i _ => (L5).length - (intOf i).toNat)
              case atStart => exact ⟨0, rfl, rfl, by omega, Below.refl _ _⟩
              case round =>
                obtain ⟨j, rfl, rfl, hj, hbq⟩ := hrel
                by_cases hjl : j < (L5).length
                · go_wp2
                  go_roundw
                  case rel => exact ⟨j + 1, by go_num, rfl, by omega, hbq⟩
                  case measure => simp [intOf]; omega
                · obtain rfl : j = (L5).length := by omega
                  clear hjl hj
                  obtain ⟨q0, q1, q2, q3, q4, q5⟩ := HCELL.out wr (below_next hB6.b hB6.b.size hbq)
                  rw [hcr] at q3
                  have hbz := below_alloc wr (.cells #[.string t] 9)
                  have hroz := row1_new wr [.string t] 9
                  have hszz : w.heap.size ≤ wr.heap.size := Nat.le_trans hB6.b.size hbq.size
                  go_wp2
                  go_roundw
                  case rel => exact ⟨k + 1, c + 2, v7, d5s, [t], true, _, rfl, by go_num, rfl, by omega, (hD6.below hbq).below hbz, hroz.own hszz (by show 1 ≤ _; omega), (hB6.below hbq).below hbz, by simp, hid ⟨HOK5.out.1, HL5.out, HOK5.out.2, by simp, by omega, HI5.out.mono (by omega) fun z h => mayB_told (h.trans HZ.out)⟩⟩
                  case measure => simp [intOf]; omega
            | true =>
              have hwit : Hid (∃ q : Nat, 0 ≤ q ∧ L5[q]? = some t ∧ (0 < q ∨ no = false)) := by
                rcases HMB.out with ⟨h, _⟩ | ⟨_, q, h1, h2⟩
                · cases h
                · exact hid ⟨q, by omega, h1, h2⟩
              go_wp2
              go_loopw [10, 11] (fun vk vj wq => ∃ (j : Nat) (kb : Bool), vj = .int .i64 j ∧ vk = .bool kb ∧ j ≤ (L5).length ∧ Below w6.heap.size w6 wq ∧ Hid (kb = true ∨ ∃ q : Nat, j ≤ q ∧ (L5)[q]? = some t ∧ (0 < q ∨ no = false))) (fun _ i _ => (L5).length - (intOf i).toNat)
              case atStart => exact ⟨0, false, rfl, rfl, by omega, Below.refl _ _, hid (.inr hwit.out)⟩
              case round =>
                obtain ⟨j, kb, rfl, rfl, hj, hbq, HW⟩ := hrel
                by_cases hjl : j < (L5).length
                · obtain ⟨y, hy⟩ := get_of_lt hjl
                  obtain ⟨b2, off2, e2, c0⟩ := (HC6.out.below hbq).at_map hy
                  cases e2
                  try rw [Nat.zero_add] at c0
                  have HY := hid hy
                  clear hy
                  cases kb with
                  | true =>
                    clear c0
                    go_wp2
                    go_roundw
                    case rel => exact ⟨j + 1, true, by go_num, rfl, by omega, hbq, hid (.inl rfl)⟩
                    case measure => simp [intOf]; omega
                  | false =>
                    by_cases hyt : y = t
                    · have h2 := str_iff.2 hyt
                      by_cases hj0 : 0 < j
                      · go_wp2
                        go_roundw
                        case rel => exact ⟨j + 1, true, by go_num, rfl, by omega, hbq, hid (.inl rfl)⟩
                        case measure => simp [intOf]; omega
                      · cases hno : no with
                        | false =>
                          go_wp2
                          go_roundw
                          case rel => exact ⟨j + 1, true, by go_num, rfl, by omega, hbq, hid (.inl rfl)⟩
                          case measure => simp [intOf]; omega
                        | true =>
                          go_wp2
                          go_roundw
                          case rel =>
                            refine ⟨j + 1, false, by go_num, rfl, by omega, hbq, hid (.inr ?_)⟩
                            rcases HW.out with h | ⟨q, h1, h3, h4⟩
                            · cases h
                            · exact ⟨q, (by rcases h4 with h4 | h4; exact (by omega : j + 1 ≤ q); exact absurd (hno.symm.trans h4) (by decide)), h3, (by rw [hno] at h4; exact h4)⟩
                          case measure => simp [intOf]; omega
                    · have h2 := str_no.2 hyt
                      go_wp2
                      go_roundw
                      case rel =>
                        refine ⟨j + 1, false, by go_num, rfl, by omega, hbq, hid (.inr ?_)⟩
                        rcases HW.out with h | ⟨q, h1, h3, h4⟩
                        · cases h
                        · refine ⟨q, ?_, h3, by first | exact h4 | simp⟩
                          rcases Nat.lt_or_ge j q with h5 | h5
                          · exact h5
                          · obtain rfl : q = j := by omega
                            rw [HY.out] at h3
                            cases h3
                            exact absurd rfl hyt
                      case measure => simp [intOf]; omega
                · obtain rfl : j = (L5).length := by omega
                  have hkb : kb = true := by
                    rcases HW.out with h | ⟨q, h1, h3, _⟩
                    · exact h
                    · exact absurd (List.getElem?_eq_some_iff.1 h3).1 (by omega)
                  subst hkb
                  clear HW hjl hj
                  obtain ⟨q0, q1, q2, q3, q4, q5⟩ := HCELL.out wr (below_next hB6.b hB6.b.size hbq)
                  rw [hcr] at q3
                  have hbz := below_alloc wr (.cells #[.string t] 9)
                  have hroz := row1_new wr [.string t] 9
                  have hszz : w.heap.size ≤ wr.heap.size := Nat.le_trans hB6.b.size hbq.size
                  go_wp2
                  go_roundw
                  case rel => exact ⟨k + 1, c + 2, v7, d5s, [t], false, _, rfl, by go_num, rfl, by omega, (hD6.below hbq).below hbz, hroz.own hszz (by show 1 ≤ _; omega), (hB6.below hbq).below hbz, by simp, hid ⟨HOK5.out.1, HL5.out, HOK5.out.2, by simp, by omega, HI5.out.mono (by omega) fun z h => mayB_told (h.trans HZ.out)⟩⟩
                  case measure => simp [intOf]; omega
      · obtain rfl : k = l.length := by omega
        go_wp2
        go_ret
        exact ⟨rfl, hB.b⟩
set_option maxRecDepth 100000 in
theorem slotsWhole_lifted (os : Os) (started : os.Started) (H : Type) (enc : TypeId × Value → H) :
    ReturnsInHanded {} Try.checked os 13 .any (Rows.slotsWholeSpec.pre6 enc Try.prog Try.f13 Rows.slotsWholeRow.domain false) (Rows.slotsWholeSpec.post enc Try.prog Try.f13 false true false false) := by
  haveI : DecidableEq Lit := fun a b => Classical.propDecidable (a = b)
  refine returnsInHanded_of_change_sized (C := Try.checked) Try.own started (by kernel_rfl) Try.func13
    (ChangeSpec.witness6 (enc := enc) (C := Try.checked) false ⟨#[], #[.slice none 0 0], []⟩ 8 (by kernel_rfl) (by kernel_rfl) (by kernel_rfl) (by kernel_rfl)) ?_
  intro W base args ds gs before hval0 hW hcnd hsz0 _
  have hval : ∀ (j : Nat) t v, Try.f13.params[j]? = some t → args[j]? = some v → Value.okWide Try.prog W .any base t v := hval0
  have hW' := hW
  obtain ⟨p, q, hA0, hV, rfl, hfz, hnd⟩ := hW
  have hA : DataW.TrodAll enc Try.prog W 0 (fun _ => true) true Try.f13.params.toList args.toList ds p := hA0
  rw [Try.params13] at hA hval
  obtain ⟨v0, d0, rfl, rfl, h0⟩ := trodAll_one hA
  obtain ⟨rfl, rfl⟩ := trodVars_none hV
  have hsz : ∀ n ∈ DataW.weightsEach Try.prog [66] [d0], n ≤ reachBytes := fun n hn => by
    have := List.all_eq_true.1 hsz0 n (by rw [Try.params13]; exact hn)
    simpa using this
  obtain ⟨_, k0⟩ := one_ofV Try.underlying66 (hval 0 66 v0 rfl rfl) h0
  obtain ⟨A0, x0, c0, rfl, a0, b0, e0⟩ := turns_at k0 (fun n hn => hsz n (DataW.weights_mem_each (j := 0) rfl rfl n hn))
  clear hA0 hval0
  refine (slotsWhole_c A0 x0 c0 W a0 b0 e0).mono fun e W' ⟨he, hb⟩ => ?_
  subst he
  exact ⟨_, rfl, post_true hW' hb Try.laidOut (by kernel_rfl) rfl rfl rfl rfl rfl Try.underlying4⟩

theorem slotsWhole_holds : Rows.SlotsWholeSaid :=
  OpenClaim.holds_of_wide 13 Try.f13 rfl rfl rfl rfl rfl rfl rfl ⟨rfl, rfl, rfl, rfl, rfl⟩ rfl rfl rfl rfl rfl (by kernel_rfl) Try.func13 (by kernel_rfl)
    (of_decide_eq_true (by kernel_rfl)) (by unfold Func.isWrapper; first | (rw [if_pos (by decide +kernel)]; kernel_rfl) | (rw [if_neg (by decide +kernel)]; exact ⟨rfl, rfl⟩))
    (fun os started H enc _ => slotsWhole_lifted os started H enc)
#print axioms slotsWhole_holds
end Go.Proofs.Ythllhnjbddpeoaa
