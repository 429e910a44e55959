/-
  What is left of a row: the program's.
-/
import Derived.Test.YtgdfphcggjclkaaDoorRaA
import Derived.Laws.EntriesVeiled
import Derived.Deep.Cut
namespace Go.Proofs.YtgdfphcggjclkaaDoor
open Go Go.RowKit Go.Maps Go.Shelf Go.Proofs

/-- an entry: a row by where it begins, and the block that it lies in. -/
structure Ent where
  en : En
  blk : Nat
abbrev entS (e : Ent) : Value := .slice (some ⟨e.blk, 0, none⟩) e.en.row.length e.en.row.length
def rR (v : Value) : Option (DataW Value × List MemPlace) := some (.held v, [])
theorem wf_i64 {x : Int} (h : I64 x) : (Lit.int .i64 x).wf = true := by
  obtain ⟨h1, h2⟩ := h
  simp only [Lit.wf, IntKind.min, IntKind.max, IntKind.signed, IntKind.bits]
  simp
  omega
def rM : MK Tryd.prog 3 Ent Value where
  R := rR
  key e := .int .i64 e.en.at_
  tok e := entS e
  kv e := .int .i64 e.en.at_
  val e := entS e
  ok e := I64 (e.en.at_ : Int)
  K := int_keyed Tryd.underlying3
  hkey _ h := keyOf_int_mk Tryd.underlying3 (wf_i64 h)
  hval _ _ := rfl
  inv v a ps h := by
    unfold rR at h
    simp only [Option.some.injEq, Prod.mk.injEq, DataW.held.injEq] at h
    exact h.1
/-- a space in memory. -/
structure SpAt (w : World) (base gs gm W : Nat) (q : Int) (L : List Ent) : Prop where
  row : Row1 w gs 84 (spV q W gm)
  map : MapAt rM w gm L
  cells : ∀ e ∈ L, Row1 w e.blk 23 (u64v e.en.row)
  nd : L.Pairwise fun e e' => e.blk ≠ e'.blk
  lo : base ≤ gs ∧ base ≤ gm ∧ ∀ e ∈ L, base ≤ e.blk
theorem SpAt.below {w w' : World} {base gs gm W : Nat} {q : Int} {L : List Ent} (h : SpAt w base gs gm W q L) (hb : Below w.heap.size w w') : SpAt w' base gs gm W q L :=
  ⟨h.row.below hb, h.map.below hb, fun e he => (h.cells e he).below hb, h.nd, h.lo⟩
abbrev ens (L : List Ent) : List En := L.map Ent.en
theorem U64s.of_red {q : Int} (hq : okm q = true) {l : List Int} (h : RedL q l) : U64s l := by
  intro z hz
  obtain ⟨j, hj, rfl⟩ := List.getElem_of_mem hz
  have := h j
  rw [nth_lt hj] at this
  have := okm_le hq
  exact ⟨by omega, by omega⟩
theorem firstL_at {o : List Int} {k : Nat} (hk : k < o.length) (h0 : ∀ j, j < k → nth o j = 0) (h1 : nth o k ≠ 0) : firstL o = some k := by
  unfold firstL
  rw [List.findIdx?_eq_some_iff_getElem]
  refine ⟨hk, ?_, fun j hj => ?_⟩
  · rw [nth_lt hk] at h1; simpa using h1
  · have := h0 j hj
    rw [nth_lt (by omega)] at this
    simpa using this
theorem firstL_none {o : List Int} (h0 : ∀ j, j < o.length → nth o j = 0) : firstL o = none := by
  unfold firstL
  rw [List.findIdx?_eq_none_iff]
  intro x hx
  obtain ⟨j, hj, rfl⟩ := List.getElem_of_mem hx
  have := h0 j hj
  rw [nth_lt hj] at this
  simpa using this
/-- where it begins, as the program tells it. -/
def firstI (o : List Int) : Int := match firstL o with
  | some k => (k : Int)
  | none => -1
theorem wpList_range_rk (w : World) {ops : Array Oper} {rest : List Oper} {o : Oper} {a : Act} {Q : Exit → Act → World → Prop} {b : Nat} {L : List Ent} (hg : o.guard = none) (m : Operand) (hop : o.op = Op.range 82 m) (hm : a.eval m = .map (some b)) (h : MapAt rM w b L)
    (hK : ∀ w' cnt, RangeAt rM w' b w.heap.size L L cnt → w.grownBy w' none → w'.heap.size = w.heap.size + 1 → wpList Tryd.prog ops Q rest (a.put o.dst (.pointer (some ⟨w.heap.size, 0, none⟩))) w') :
    wpList Tryd.prog ops Q (o :: rest) a w := wpList_range_tab w hg m _ hop _ Tryd.underlying82 hm h hK
theorem wpList_next_rk (w : World) {ops : Array Oper} {rest : List Oper} {o : Oper} {a : Act} {Q : Exit → Act → World → Prop} {b : Nat} {L : List Ent} (hg : o.guard = none) (it : Operand) (hop : o.op = Op.next it false) {r cnt : Nat} {left : List Ent} (hit : a.eval it = .pointer (some ⟨r, 0, none⟩)) (h : RangeAt rM w b r L left cnt)
    (hDone : left = [] → wpList Tryd.prog ops Q rest (a.put o.dst (.tuple #[.bool false])) w)
    (hMore : (∀ (x : Ent) (left' : List Ent) (w' : World) (cnt' : Nat), left.Perm (x :: left') → x ∈ L → RangeAt rM w' b r L left' cnt' → cnt' < cnt → w.grownBy w' (some r) → w'.heap.size = w.heap.size →
      (Instr.entry (.pointer (some ⟨r, 0, none⟩))).run Tryd.prog w' = .ok (.tuple #[.int .i64 (x.en.at_ : Int), entS x]) w' → wpList Tryd.prog ops Q rest (a.put o.dst (.tuple #[.bool true, .int .i64 (x.en.at_ : Int), entS x])) w')) :
    wpList Tryd.prog ops Q (o :: rest) a w := wpList_next_tab w hg it hop hit h hDone hMore
theorem grown_up {w0 w w' : World} {b : Nat} (h : Below w0.heap.size w0 w) (k : w.grownBy w' (some b)) (hb : w0.heap.size ≤ b) : Below w0.heap.size w0 w' := h.grown k h.size fun j e => by cases e; exact hb
set_option maxRecDepth 100000 in
set_option maxHeartbeats 2000000 in
theorem left_c (base gs gm W : Nat) (q : Int) (L : List Ent) (A : Option Addr) (row : List Int) (c : Nat) (w : World) (h : SpAt w base gs gm W q L) (hG : GoodS q W (ens L)) (hA : Cells w A (u64v row)) (hq : okm q = true) (hru : U64s row) (hl : row.length ≤ 100000000) (hW : W ≤ 100000000) :
    Calls Tryd.prog 78 #[.pointer (some ⟨gs, 0, none⟩), .slice A row.length c] w fun e w' => ∃ b, e = .returned (.tuple #[.slice (some ⟨b, 0, none⟩) (max W row.length) (max W row.length), .int .i64 (firstI (leftL q W (ens L) row))]) ∧ w.heap.size ≤ b ∧ Row1 w' b 23 (u64v (leftL q W (ens L) row)) ∧ Below w.heap.size w w' := by
  have HH := hid h
  have HG := hid hG
  have HQ := hid hq
  have hq1 := okm_pos hq
  have HOW := hid (own_c gs gm W q A row c w h.row hA hq hru hl hW)
  have HLEN := hid (leftL_len q W (ens L) row)
  have HRED := hid (redL_red hq1 W row)
  obtain ⟨N, hN⟩ : ∃ N, max W row.length = N := ⟨_, rfl⟩
  have hWN : W ≤ N := by omega
  have hNl : N ≤ 100000000 := by omega
  have HLR := hid (show (redL W q row).length = N by unfold redL; rw [tabL_len, hN])
  rw [hN] at HOW HLEN ⊢
  have HEQ := hid (show leftL q W (ens L) row = (ens L).foldl (stepL q) (redL W q row) from rfl)
  clear h hG hA hq hru hN
  generalize redL W q row = o0 at *
  generalize leftL q W (ens L) row = oF at *
  go_enter Tryd.func78, Tryd.ntmps78
  go_wp2_with (fail)
  refine HOW.out.mono ?_
  rintro e w1 ⟨b0, rfl, hb0, hr1, hb1⟩
  have h1 := HH.out.below hb1
  have c2 := h1.row.cell (k := 2) rfl
  have HM1 := h1.map
  have HB1 := hid hb1
  have HR1 := hid hr1
  have hs1 := hb1.size
  have hb0l := hr1.lt
  clear HOW hb1 hr1 h1
  go_wp2_with (at_range; refine wpList_range_rk _ rfl _ rfl rfl HM1 ?_; intro w2 cnt hrg2 hg2 hs2)
  go_frame
  have HB2 := hid (HB1.out.grown hg2 HB1.out.size fun j e => by cases e)
  have HR2 := hid (HR1.out.keep (hg2.block b0 hb0l fun e => by cases e))
  clear hg2 HM1 c2 hs1
  obtain ⟨r, hr⟩ : ∃ r, w1.heap.size = r := ⟨_, rfl⟩
  have hbr : b0 < r := by omega
  rw [hr] at hrg2 ⊢
  clear hr hs2 hb0l
  go_loopw [7, 8] (fun _ _ wr => ∃ (rest : List Ent) (cnt : Nat) (pre : List Ent) (cur : List Int), RangeAt rM wr gm r L rest cnt ∧ cur.length = N ∧ Hid (L.Perm (pre ++ rest) ∧ cur = (ens pre).foldl (stepL q) o0 ∧ RedL q cur ∧ Row1 wr b0 23 (u64v cur) ∧ Below w.heap.size w wr)) (fun _ _ wr => wr.rangeLeft gm r)
  case atStart => exact ⟨L, cnt, [], o0, hrg2, HLR.out, hid ⟨.refl _, rfl, HRED.out, HR2.out, HB2.out⟩⟩
  case round =>
    obtain ⟨rest, cnt2, pre, cur, hrg, hcl, HI⟩ := hrel
    rename_i wr
    have HL := hid hrg.left
    clear hrg2 HB1 HR1 HR2 HB2
    go_wp2_with (at_next; refine wpList_next_rk _ rfl _ rfl rfl hrg ?_ ?_)
    · intro hr0
      have HF := hid (show oF = cur by
        rw [HEQ.out, HI.out.2.1]
        refine foldl_perm ?_ HG.out o0
        have hp := HI.out.1
        rw [hr0, List.append_nil] at hp
        exact hp.map Ent.en)
      have HRW := hid HI.out.2.2.2
      clear hrg hr0 HL HEQ HRED HI
      go_wp2
      generalize wr = wo at *
      go_loopw [34] (fun i wz => ∃ k : Nat, i = .int .i64 (k : Int) ∧ k ≤ N ∧ Hid (∀ j, j < k → nth cur j = 0) ∧ Hid (wo = wz)) (fun i _ => N - (intOf i).toNat)
      case atStart => exact ⟨0, rfl, by omega, hid (fun j hj => by omega), hid rfl⟩
      case round =>
        obtain ⟨k, rfl, hk, HZ, HWZ⟩ := hrel
        have hwz := HWZ.out
        subst hwz
        by_cases hlt : k < N
        · have ck := HRW.out.1.cell (u64v_at (show k < cur.length by omega))
          obtain ⟨z, hz0⟩ : ∃ z, nth cur k = z := ⟨_, rfl⟩
          rw [hz0] at ck
          have HZ0 := hid hz0
          clear hz0
          by_cases hz : z = 0
          · have hne : (z != 0) = false := by simpa using hz
            have HZ2 := hid (show ∀ j, j < k + 1 → nth cur j = 0 from fun j hj => by
              by_cases e : j = k
              · rw [e, HZ0.out]; exact hz
              · exact HZ.out j (by omega))
            clear hz HZ HZ0
            go_wp2
            go_roundw
            case rel => exact ⟨k + 1, by go_num, by omega, HZ2, hid (by trivial)⟩
            case measure => simp [intOf]; omega
          · have hne : (z != 0) = true := by simpa using hz
            have HFI := hid (show firstI oF = (k : Int) by
              unfold firstI
              rw [HF.out, firstL_at (by omega) HZ.out (by rw [HZ0.out]; exact hz)])
            clear hz HZ HZ0
            go_wp2
            go_ret2
            exact ⟨b0, by rw [HFI.out]; rfl, hb0, by rw [HF.out]; exact HRW.out.1, HRW.out.2⟩
        · obtain rfl : k = N := by omega
          have HFI := hid (show firstI oF = -1 by
            unfold firstI
            rw [HF.out, firstL_none (fun j hj => HZ.out j (by omega))])
          go_wp2
          go_ret2
          exact ⟨b0, by rw [HFI.out]; rfl, hb0, by rw [HF.out]; exact HRW.out.1, HRW.out.2⟩
    · intro x rest' w3 cnt3 hperm hx hrg3 hlt hg3 hs3 hen
      have HPM := hid hperm
      have hxS : x.en ∈ ens L := List.mem_map.2 ⟨x, hx, rfl⟩
      have hxl := HG.out.len _ hxS
      have hxa := HG.out.lt _ hxS
      have HXU := hid (U64s.of_red HQ.out (HG.out.red _ hxS))
      have HB3 := hid (grown_up HI.out.2.2.2.2 hg3 (by omega))
      have h3 := HH.out.below HB3.out
      have hr3 := HI.out.2.2.2.1.keep (hg3.block b0 HI.out.2.2.2.1.lt fun e => by cases e; omega)
      have hc3 := h3.cells x hx
      have hgs3 := h3.row
      have HCU := hid (U64s.of_red HQ.out HI.out.2.2.1)
      have hxb : x.blk < w.heap.size := (HH.out.cells x hx).lt
      have catx := hr3.cell (u64v_at (show x.en.at_ < cur.length by omega))
      have HLE := hid (less_c gs b0 x.blk gm W q cur x.en.row (nth cur x.en.at_) w3 hgs3 hr3 hc3 (by omega) HQ.out HCU.out HXU.out (HCU.out.nth _) (by omega) (by omega))
      have HST := hid (show lessL q cur x.en.row (nth cur x.en.at_) = stepL q cur x.en from rfl)
      have HRD := hid (show RedL q (stepL q cur x.en) from foldl_red (by omega) [x.en] cur HI.out.2.2.1)
      have HSL := hid (show (stepL q cur x.en).length = N by rw [stepL_len]; exact hcl)
      rw [HST.out] at HLE
      rw [hcl] at HLE
      have HCF := hid (show stepL q cur x.en = (ens (pre ++ [x])).foldl (stepL q) o0 by
        rw [HI.out.2.1]
        simp [ens, List.foldl_append])
      have HPP := hid (show L.Perm ((pre ++ [x]) ++ rest') by
        rw [List.append_assoc]
        exact HI.out.1.trans (HPM.out.append_left pre))
      have hgm3 := hrg3.lt
      have hgmb : gm < w.heap.size := HH.out.map.lt
      clear hperm hs3 hg3 hrg h3 hr3 hc3 hgs3 HI HST
      generalize stepL q cur x.en = cur2 at *
      go_wp2_with (fail)
      refine HLE.out.mono ?_
      rintro e w4 ⟨rfl, hr4, hg4⟩
      have hrg4 := hrg3.keep (hg4.block gm hgm3.1 fun e => by cases e; omega) (hg4.block r hgm3.2.1 fun e => by cases e; omega)
      have HB4 := hid (grown_up HB3.out hg4 hb0)
      have HR4 := hid hr4
      clear HLE hr4 hg4 HB3 catx hen
      go_wp2
      go_roundw
      case rel => exact ⟨rest', cnt3, pre ++ [x], cur2, hrg4, HSL.out, hid ⟨HPP.out, HCF.out, HRD.out, HR4.out, HB4.out⟩⟩
      case measure => rw [HL.out, hrg4.left]; exact hlt
end Go.Proofs.YtgdfphcggjclkaaDoor
