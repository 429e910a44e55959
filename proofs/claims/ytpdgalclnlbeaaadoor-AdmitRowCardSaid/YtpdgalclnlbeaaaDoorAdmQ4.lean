/-
  Parts of these texts that the statement needs: RaB, RaC, RaD.
-/
import Derived.Test.YtpdgalclnlbeaaaDoorAdmQ3
import Derived.Laws.EntriesVeiled
import Derived.Deep.Cut

section
namespace Go.Proofs.YtpdgalclnlbeaaaDoor
open Go Go.RowKit Go.Maps Go.Shelf Go.Proofs
/-- an entry: a row by where it begins, and the block that it lies in. -/
structure Ent where
  en : En
  blk : Nat
abbrev entS (e : Ent) : Value := .slice (some ⟨e.blk, 0, none⟩) e.en.row.length e.en.row.length
def rR (v : Value) : Option (DataW Value × List MemPlace) := some (.held v, [])
theorem wf_i64 {x : Int} (h : I64 x) : (Lit.int .i64 x).wf = true := by
  obtain ⟨h1, h2⟩ := h
  simp only [Lit.wf, IntKind.min, IntKind.max, IntKind.signed, IntKind.bits]
  simp
  omega
def rM : MK Tryd.prog 3 Ent Value where
  R := rR
  key e := .int .i64 e.en.at_
  tok e := entS e
  kv e := .int .i64 e.en.at_
  val e := entS e
  ok e := I64 (e.en.at_ : Int)
  K := int_keyed Tryd.underlying3
  hkey _ h := keyOf_int_mk Tryd.underlying3 (wf_i64 h)
  hval _ _ := rfl
  inv v a ps h := by
    unfold rR at h
    simp only [Option.some.injEq, Prod.mk.injEq, DataW.held.injEq] at h
    exact h.1
/-- a space in memory. -/
structure SpAt (w : World) (base gs gm W : Nat) (q : Int) (L : List Ent) : Prop where
  row : Row1 w gs 63 (spV q W gm)
  map : MapAt rM w gm L
  cells : ∀ e ∈ L, Row1 w e.blk 22 (u64v e.en.row)
  nd : L.Pairwise fun e e' => e.blk ≠ e'.blk
  lo : base ≤ gs ∧ base ≤ gm ∧ ∀ e ∈ L, base ≤ e.blk
theorem SpAt.below {w w' : World} {base gs gm W : Nat} {q : Int} {L : List Ent} (h : SpAt w base gs gm W q L) (hb : Below w.heap.size w w') : SpAt w' base gs gm W q L :=
  ⟨h.row.below hb, h.map.below hb, fun e he => (h.cells e he).below hb, h.nd, h.lo⟩
abbrev ens (L : List Ent) : List En := L.map Ent.en
theorem U64s.of_red {q : Int} (hq : okm q = true) {l : List Int} (h : RedL q l) : U64s l := by
  intro z hz
  obtain ⟨j, hj, rfl⟩ := List.getElem_of_mem hz
  have := h j
  rw [nth_lt hj] at this
  have := okm_le hq
  exact ⟨by omega, by omega⟩
theorem firstL_at {o : List Int} {k : Nat} (hk : k < o.length) (h0 : ∀ j, j < k → nth o j = 0) (h1 : nth o k ≠ 0) : firstL o = some k := by
  unfold firstL
  rw [List.findIdx?_eq_some_iff_getElem]
  refine ⟨hk, ?_, fun j hj => ?_⟩
  · rw [nth_lt hk] at h1; simpa using h1
  · have := h0 j hj
    rw [nth_lt (by omega)] at this
    simpa using this
theorem firstL_none {o : List Int} (h0 : ∀ j, j < o.length → nth o j = 0) : firstL o = none := by
  unfold firstL
  rw [List.findIdx?_eq_none_iff]
  intro x hx
  obtain ⟨j, hj, rfl⟩ := List.getElem_of_mem hx
  have := h0 j hj
  rw [nth_lt hj] at this
  simpa using this
/-- where it begins, as the program tells it. -/
def firstI (o : List Int) : Int := match firstL o with
  | some k => (k : Int)
  | none => -1
theorem wpList_range_rk (w : World) {ops : Array Oper} {rest : List Oper} {o : Oper} {a : Act} {Q : Exit → Act → World → Prop} {b : Nat} {L : List Ent} (hg : o.guard = none) (m : Operand) (hop : o.op = Op.range 61 m) (hm : a.eval m = .map (some b)) (h : MapAt rM w b L)
    (hK : ∀ w' cnt, RangeAt rM w' b w.heap.size L L cnt → w.grownBy w' none → w'.heap.size = w.heap.size + 1 → wpList Tryd.prog ops Q rest (a.put o.dst (.pointer (some ⟨w.heap.size, 0, none⟩))) w') :
    wpList Tryd.prog ops Q (o :: rest) a w := wpList_range_tab w hg m _ hop _ Tryd.underlying61 hm h hK
theorem wpList_next_rk (w : World) {ops : Array Oper} {rest : List Oper} {o : Oper} {a : Act} {Q : Exit → Act → World → Prop} {b : Nat} {L : List Ent} (hg : o.guard = none) (it : Operand) (hop : o.op = Op.next it false) {r cnt : Nat} {left : List Ent} (hit : a.eval it = .pointer (some ⟨r, 0, none⟩)) (h : RangeAt rM w b r L left cnt)
    (hDone : left = [] → wpList Tryd.prog ops Q rest (a.put o.dst (.tuple #[.bool false])) w)
    (hMore : (∀ (x : Ent) (left' : List Ent) (w' : World) (cnt' : Nat), left.Perm (x :: left') → x ∈ L → RangeAt rM w' b r L left' cnt' → cnt' < cnt → w.grownBy w' (some r) → w'.heap.size = w.heap.size →
      (Instr.entry (.pointer (some ⟨r, 0, none⟩))).run Tryd.prog w' = .ok (.tuple #[.int .i64 (x.en.at_ : Int), entS x]) w' → wpList Tryd.prog ops Q rest (a.put o.dst (.tuple #[.bool true, .int .i64 (x.en.at_ : Int), entS x])) w')) :
    wpList Tryd.prog ops Q (o :: rest) a w := wpList_next_tab w hg it hop hit h hDone hMore
theorem grown_up {w0 w w' : World} {b : Nat} (h : Below w0.heap.size w0 w) (k : w.grownBy w' (some b)) (hb : w0.heap.size ≤ b) : Below w0.heap.size w0 w' := h.grown k h.size fun j e => by cases e; exact hb
set_option maxRecDepth 100000 in
set_option maxHeartbeats 2000000 in
theorem left_c (base gs gm W : Nat) (q : Int) (L : List Ent) (A : Option Addr) (row : List Int) (c : Nat) (w : World) (h : SpAt w base gs gm W q L) (hG : GoodS q W (ens L)) (hA : Cells w A (u64v row)) (hq : okm q = true) (hru : U64s row) (hl : row.length ≤ 100000000) (hW : W ≤ 100000000) :
    Calls Tryd.prog 41 #[.pointer (some ⟨gs, 0, none⟩), .slice A row.length c] w fun e w' => ∃ b, e = .returned (.tuple #[.slice (some ⟨b, 0, none⟩) (max W row.length) (max W row.length), .int .i64 (firstI (leftL q W (ens L) row))]) ∧ w.heap.size ≤ b ∧ Row1 w' b 22 (u64v (leftL q W (ens L) row)) ∧ Below w.heap.size w w' := by
  have HH := hid h
  have HG := hid hG
  have HQ := hid hq
  have hq1 := okm_pos hq
  have HOW := hid (own_c gs gm W q A row c w h.row hA hq hru hl hW)
  have HLEN := hid (leftL_len q W (ens L) row)
  have HRED := hid (redL_red hq1 W row)
  obtain ⟨N, hN⟩ : ∃ N, max W row.length = N := ⟨_, rfl⟩
  have hWN : W ≤ N := by omega
  have hNl : N ≤ 100000000 := by omega
  have HLR := hid (show (redL W q row).length = N by unfold redL; rw [tabL_len, hN])
  rw [hN] at HOW HLEN ⊢
  have HEQ := hid (show leftL q W (ens L) row = (ens L).foldl (stepL q) (redL W q row) from rfl)
  clear h hG hA hq hru hN
  generalize redL W q row = o0 at *
  generalize leftL q W (ens L) row = oF at *
  go_enter Tryd.func41, Tryd.ntmps41
  go_wp2_with (fail)
  refine HOW.out.mono ?_
  rintro e w1 ⟨b0, rfl, hb0, hr1, hb1⟩
  have h1 := HH.out.below hb1
  have c2 := h1.row.cell (k := 2) rfl
  have HM1 := h1.map
  have HB1 := hid hb1
  have HR1 := hid hr1
  have hs1 := hb1.size
  have hb0l := hr1.lt
  clear HOW hb1 hr1 h1
  go_wp2_with (at_range; refine wpList_range_rk _ rfl _ rfl rfl HM1 ?_; intro w2 cnt hrg2 hg2 hs2)
  go_frame
  have HB2 := hid (HB1.out.grown hg2 HB1.out.size fun j e => by cases e)
  have HR2 := hid (HR1.out.keep (hg2.block b0 hb0l fun e => by cases e))
  clear hg2 HM1 c2 hs1
  obtain ⟨r, hr⟩ : ∃ r, w1.heap.size = r := ⟨_, rfl⟩
  have hbr : b0 < r := by omega
  rw [hr] at hrg2 ⊢
  clear hr hs2 hb0l
  go_loopw [7, 8] (fun _ _ wr => ∃ (rest : List Ent) (cnt : Nat) (pre : List Ent) (cur : List Int), RangeAt rM wr gm r L rest cnt ∧ cur.length = N ∧ Hid (L.Perm (pre ++ rest) ∧ cur = (ens pre).foldl (stepL q) o0 ∧ RedL q cur ∧ Row1 wr b0 22 (u64v cur) ∧ Below w.heap.size w wr)) (fun _ _ wr => wr.rangeLeft gm r)
  case atStart => exact ⟨L, cnt, [], o0, hrg2, HLR.out, hid ⟨.refl _, rfl, HRED.out, HR2.out, HB2.out⟩⟩
  case round =>
    obtain ⟨rest, cnt2, pre, cur, hrg, hcl, HI⟩ := hrel
    rename_i wr
    have HL := hid hrg.left
    clear hrg2 HB1 HR1 HR2 HB2
    go_wp2_with (at_next; refine wpList_next_rk _ rfl _ rfl rfl hrg ?_ ?_)
    · intro hr0
      have HF := hid (show oF = cur by
        rw [HEQ.out, HI.out.2.1]
        refine foldl_perm ?_ HG.out o0
        have hp := HI.out.1
        rw [hr0, List.append_nil] at hp
        exact hp.map Ent.en)
      have HRW := hid HI.out.2.2.2
      clear hrg hr0 HL HEQ HRED HI
      go_wp2
      generalize wr = wo at *
      go_loopw [34] (fun i wz => ∃ k : Nat, i = .int .i64 (k : Int) ∧ k ≤ N ∧ Hid (∀ j, j < k → nth cur j = 0) ∧ Hid (wo = wz)) (fun i _ => N - (intOf i).toNat)
      case atStart => exact ⟨0, rfl, by omega, hid (fun j hj => by omega), hid rfl⟩
      case round =>
        obtain ⟨k, rfl, hk, HZ, HWZ⟩ := hrel
        have hwz := HWZ.out
        subst hwz
        by_cases hlt : k < N
        · have ck := HRW.out.1.cell (u64v_at (show k < cur.length by omega))
          obtain ⟨z, hz0⟩ : ∃ z, nth cur k = z := ⟨_, rfl⟩
          rw [hz0] at ck
          have HZ0 := hid hz0
          clear hz0
          by_cases hz : z = 0
          · have hne : (z != 0) = false := by simpa using hz
            have HZ2 := hid (show ∀ j, j < k + 1 → nth cur j = 0 from fun j hj => by
              by_cases e : j = k
              · rw [e, HZ0.out]; exact hz
              · exact HZ.out j (by omega))
            clear hz HZ HZ0
            go_wp2
            go_roundw
            case rel => exact ⟨k + 1, by go_num, by omega, HZ2, hid (by trivial)⟩
            case measure => simp [intOf]; omega
          · have hne : (z != 0) = true := by simpa using hz
            have HFI := hid (show firstI oF = (k : Int) by
              unfold firstI
              rw [HF.out, firstL_at (by omega) HZ.out (by rw [HZ0.out]; exact hz)])
            clear hz HZ HZ0
            go_wp2
            go_ret2
            exact ⟨b0, by rw [HFI.out]; rfl, hb0, by rw [HF.out]; exact HRW.out.1, HRW.out.2⟩
        · obtain rfl : k = N := by omega
          have HFI := hid (show firstI oF = -1 by
            unfold firstI
            rw [HF.out, firstL_none (fun j hj => HZ.out j (by omega))])
          go_wp2
          go_ret2
          exact ⟨b0, by rw [HFI.out]; rfl, hb0, by rw [HF.out]; exact HRW.out.1, HRW.out.2⟩
    · intro x rest' w3 cnt3 hperm hx hrg3 hlt hg3 hs3 hen
      have HPM := hid hperm
      have hxS : x.en ∈ ens L := List.mem_map.2 ⟨x, hx, rfl⟩
      have hxl := HG.out.len _ hxS
      have hxa := HG.out.lt _ hxS
      have HXU := hid (U64s.of_red HQ.out (HG.out.red _ hxS))
      have HB3 := hid (grown_up HI.out.2.2.2.2 hg3 (by omega))
      have h3 := HH.out.below HB3.out
      have hr3 := HI.out.2.2.2.1.keep (hg3.block b0 HI.out.2.2.2.1.lt fun e => by cases e; omega)
      have hc3 := h3.cells x hx
      have hgs3 := h3.row
      have HCU := hid (U64s.of_red HQ.out HI.out.2.2.1)
      have hxb : x.blk < w.heap.size := (HH.out.cells x hx).lt
      have catx := hr3.cell (u64v_at (show x.en.at_ < cur.length by omega))
      have HLE := hid (less_c gs b0 x.blk gm W q cur x.en.row (nth cur x.en.at_) w3 hgs3 hr3 hc3 (by omega) HQ.out HCU.out HXU.out (HCU.out.nth _) (by omega) (by omega))
      have HST := hid (show lessL q cur x.en.row (nth cur x.en.at_) = stepL q cur x.en from rfl)
      have HRD := hid (show RedL q (stepL q cur x.en) from foldl_red (by omega) [x.en] cur HI.out.2.2.1)
      have HSL := hid (show (stepL q cur x.en).length = N by rw [stepL_len]; exact hcl)
      rw [HST.out] at HLE
      rw [hcl] at HLE
      have HCF := hid (show stepL q cur x.en = (ens (pre ++ [x])).foldl (stepL q) o0 by
        rw [HI.out.2.1]
        simp [ens, List.foldl_append])
      have HPP := hid (show L.Perm ((pre ++ [x]) ++ rest') by
        rw [List.append_assoc]
        exact HI.out.1.trans (HPM.out.append_left pre))
      have hgm3 := hrg3.lt
      have hgmb : gm < w.heap.size := HH.out.map.lt
      clear hperm hs3 hg3 hrg h3 hr3 hc3 hgs3 HI HST
      generalize stepL q cur x.en = cur2 at *
      go_wp2_with (fail)
      refine HLE.out.mono ?_
      rintro e w4 ⟨rfl, hr4, hg4⟩
      have hrg4 := hrg3.keep (hg4.block gm hgm3.1 fun e => by cases e; omega) (hg4.block r hgm3.2.1 fun e => by cases e; omega)
      have HB4 := hid (grown_up HB3.out hg4 hb0)
      have HR4 := hid hr4
      clear HLE hr4 hg4 HB3 catx hen
      go_wp2
      go_roundw
      case rel => exact ⟨rest', cnt3, pre ++ [x], cur2, hrg4, HSL.out, hid ⟨HPP.out, HCF.out, HRD.out, HR4.out, HB4.out⟩⟩
      case measure => rw [HL.out, hrg4.left]; exact hlt
end Go.Proofs.YtpdgalclnlbeaaaDoor
end

section
namespace Go.Proofs.YtpdgalclnlbeaaaDoor
open Go Go.RowKit Go.Maps Go.Shelf Go.Proofs
theorem iVal_range {a m : Int} (h : okm m = true) : 0 ≤ iVal a m ∧ iVal a m < m := by
  by_cases hx : ∃ x, InvIs a m x
  · obtain ⟨x, hx⟩ := hx
    rw [iVal_is h hx]
    exact ⟨hx.1, hx.2.1⟩
  · rw [iVal_none hx]
    exact ⟨Int.le_refl 0, okm_pos h⟩
theorem inv_of {q : Int} (h : okm q = true) (h2 : 2 ≤ q) : InvOf q (fun x => iVal x q) := ⟨fun a => by
  by_cases hx : ∃ x, InvIs a q x
  · obtain ⟨x, hx⟩ := hx
    right
    show a * iVal a q % q = 1
    rw [iVal_is h hx]
    obtain ⟨_, _, k, hk⟩ := hx
    rw [Int.mul_comm, hk, Int.add_mul_emod_self_left]
    exact Int.emod_eq_of_lt (by omega) (by omega)
  · left; exact iVal_none hx⟩
/-- a row, so far multiplied. -/
def timesK (q : Int) (o : List Int) (b : Int) (k : Nat) : List Int := tabL o.length fun j => if j < k then nth o j * b % q else nth o j
theorem timesK_zero (q : Int) (o : List Int) (b : Int) : timesK q o b 0 = o := by
  unfold timesK
  rw [tabL_congr (g := nth o) fun j _ => if_neg (by omega), tabL_nth]
theorem timesK_all (q : Int) (o : List Int) (b : Int) : timesK q o b o.length = timesL q o b := tabL_congr fun _j hj => if_pos hj
theorem timesK_len (q : Int) (o : List Int) (b : Int) (k : Nat) : (timesK q o b k).length = o.length := tabL_len ..
theorem timesK_at {q : Int} {o : List Int} {b : Int} {k : Nat} (h : k < o.length) : nth (timesK q o b k) k = nth o k := by
  unfold timesK
  rw [tabL_at h, if_neg (by omega)]
theorem timesK_set {q : Int} {o : List Int} {b : Int} {k : Nat} : (u64v (timesK q o b k)).set k (.int .u64 (nth o k * b % q)) = u64v (timesK q o b (k + 1)) := by
  unfold timesK
  have := tabL_set (n := o.length) (f := fun j => if j < k then nth o j * b % q else nth o j) (g := fun j => if j < k + 1 then nth o j * b % q else nth o j) (k := k) fun j hj => by
    by_cases h1 : j < k
    · simp only [if_pos h1, if_pos (show j < k + 1 by omega)]
    · simp only [if_neg h1, if_neg (show ¬ j < k + 1 by omega)]
  simp only [if_pos (Nat.lt_succ_self k)] at this
  exact this
theorem MapAt.conv {w : World} {b : Nat} {L : List Ent} (f : Ent → Ent) (h : MapAt rM w b L) (hk : ∀ e ∈ L, (f e).en.at_ = e.en.at_ ∧ entS (f e) = entS e) : MapAt rM w b (L.map f) := by
  obtain ⟨h1, h2, D, h3, es, rfl, h4⟩ := h
  refine ⟨?_, ?_, _, ?_, es, rfl, ?_⟩
  · intro e he
    obtain ⟨a, ha, rfl⟩ := List.mem_map.1 he
    show I64 _
    rw [(hk a ha).1]
    exact h1 a ha
  · rw [List.pairwise_map]
    refine h2.imp_of_mem fun {a c} ha hc hne => ?_
    show (Lit.int .i64 _) ≠ Lit.int .i64 _
    rw [(hk a ha).1, (hk c hc).1]
    exact hne
  · rw [List.length_map]; exact h3
  · refine h4.trans (List.Perm.of_eq ?_)
    rw [List.map_map]
    refine List.map_congr_left fun e he => ?_
    show (Lit.int .i64 (e.en.at_ : Int), DataW.held (entS e)) = (Lit.int .i64 ((f e).en.at_ : Int), DataW.held (entS (f e)))
    rw [(hk e he).1, (hk e he).2]
theorem row1_ne {w : World} {a b : Nat} {e e' : TypeId} {xs ys : List Value} (h : Row1 w a e xs) (k : Row1 w b e' ys) (hne : e ≠ e') : a ≠ b := by
  rintro rfl
  unfold Row1 at h k
  rw [h] at k
  simp only [Option.some.injEq, Obj.cells.injEq] at k
  exact hne k.2.1
/-- an entry less so many times the new row. -/
def updE (q : Int) (rr : List Int) (k : Nat) (e : Ent) : Ent := ⟨⟨e.en.at_, lessL q e.en.row rr (nth e.en.row k)⟩, e.blk⟩
theorem updE_same (q : Int) (rr : List Int) (k : Nat) (e : Ent) : (updE q rr k e).en.at_ = e.en.at_ ∧ entS (updE q rr k e) = entS e := by
  refine ⟨rfl, ?_⟩
  unfold updE entS
  simp only [lessL_len]
theorem ens_put [DecidableEq Lit] (q : Int) (rr : List Int) (k b : Nat) (L : List Ent) : ens (⟨⟨k, rr⟩, b⟩ :: (L.map (updE q rr k)).filter fun c => decide (rM.key c ≠ rM.key (⟨⟨k, rr⟩, b⟩ : Ent))) = ⟨k, rr⟩ :: ((ens L).map fun p => (⟨p.at_, lessL q p.row rr (nth p.row k)⟩ : En)).filter fun p => decide (p.at_ ≠ k) := by
  show _ :: _ = _
  congr 1
  induction L with
  | nil => rfl
  | cons e L ih =>
    have hd : decide (rM.key (updE q rr k e) ≠ rM.key (⟨⟨k, rr⟩, b⟩ : Ent)) = decide (e.en.at_ ≠ k) := by
      have : rM.key (updE q rr k e) = rM.key (⟨⟨k, rr⟩, b⟩ : Ent) ↔ e.en.at_ = k := by
        show Lit.int .i64 (e.en.at_ : Int) = Lit.int .i64 (k : Int) ↔ _
        constructor
        · intro h
          have := (Lit.int.inj h).2
          omega
        · rintro rfl; rfl
      simp only [ne_eq, this]
    simp only [List.map_cons, List.filter_cons, hd]
    by_cases he : e.en.at_ ≠ k
    · simp only [decide_eq_true he, if_true, List.map_cons]
      rw [ih]
      rfl
    · simp only [decide_eq_false he]
      exact ih
set_option maxRecDepth 100000 in
set_option maxHeartbeats 4000000 in
theorem put_c (base gs gm W : Nat) (q : Int) (L : List Ent) (A : Option Addr) (row : List Int) (c : Nat) (w : World) (h : SpAt w base gs gm W q L) (hG : GoodS q W (ens L)) (hA : Cells w A (u64v row)) (hq : okm q = true) (hru : U64s row) (hl : row.length ≤ W) (hW : W ≤ 100000000) (hbase : base ≤ w.heap.size) [DecidableEq Lit] :
    Calls Tryd.prog 47 #[.pointer (some ⟨gs, 0, none⟩), .slice A row.length c] w fun e w' => e = .returned (.tuple #[]) ∧ ∃ L', ens L' = putL q (fun x => iVal x q) W (ens L) row ∧ SpAt w' base gs gm W q L' ∧ Below base w w' := by
  have HH := hid h
  have HG := hid hG
  have HQ := hid hq
  have hq1 := okm_pos hq
  have hq2 := okm_le hq
  have HLF := hid (left_c base gs gm W q L A row c w h hG hA hq hru (by omega) hW)
  have hmx : max W row.length = W := by omega
  have HLEN := hid (show (leftL q W (ens L) row).length = W by rw [leftL_len, hmx])
  have HRED := hid (leftL_red hq1 W (ens L) row)
  have HPUT := hid (show putL q (fun x => iVal x q) W (ens L) row = match firstL (leftL q W (ens L) row) with
    | none => ens L
    | some k => ⟨k, timesL q (leftL q W (ens L) row) (iVal (nth (leftL q W (ens L) row) k) q)⟩ :: ((ens L).map fun p => (⟨p.at_, lessL q p.row (timesL q (leftL q W (ens L) row) (iVal (nth (leftL q W (ens L) row) k) q)) (nth p.row k)⟩ : En)).filter fun p => decide (p.at_ ≠ k) from rfl)
  rw [hmx] at HLF
  clear h hG hA hq hru hmx
  generalize putL q (fun x => iVal x q) W (ens L) row = PP at *
  generalize leftL q W (ens L) row = o at *
  go_enter Tryd.func47, Tryd.ntmps47
  cases hf : firstL o with
  | none =>
    have hfi : firstI o = -1 := by unfold firstI; rw [hf]
    rw [hfi] at HLF
    rw [hf] at HPUT
    clear hf hfi
    go_wp2_with (fail)
    refine HLF.out.mono ?_
    rintro e w1 ⟨b0, rfl, hb0, hr1, hb1⟩
    go_wp2
    refine bodyPost_ret (results_none rfl _ _ _) rfl ?_
    exact ⟨rfl, L, HPUT.out.symm, HH.out.below hb1, hb1.mono hbase⟩
  | some k =>
    have hfi : firstI o = (k : Int) := by unfold firstI; rw [hf]
    obtain ⟨hk1, hk2⟩ := firstL_some hf
    rw [hfi] at HLF
    rw [hf] at HPUT
    have hkW : k < W := by have := HLEN.out; omega
    have hW0 := HLEN.out
    clear hf hfi hk2
    go_wp2_with (fail)
    refine HLF.out.mono ?_
    rintro e w1 ⟨b0, rfl, hb0, hr1, hb1⟩
    have H1 := hid (HH.out.below hb1)
    have HR1 := hid hr1
    have HB1 := hid hb1
    obtain ⟨x1, x2⟩ := (U64s.of_red HQ.out HRED.out).nth k
    have HIV := hid (iVal_range (a := nth o k) HQ.out)
    have HXK := hid (u64v_at hk1)
    clear HLF hr1 hb1
    generalize nth o k = x at *
    go_wp2_with (fail)
    refine Rgd.wp_region (l := [_, _, _, _, _, _, _, _, _, _, _, _, _, _]) (tail := []) (Rgd.keep w1 [] [(0, 0), (0, 0), (0, 0), (0, 0), (0, 0), (0, 0), (0, 0), (0, 0), (0, 0), (0, 0), (0, 0), (0, 0), (0, 0), (0, 0)]) [some 20, some 21, some 22, some 23, some 24, some 25, some 26, some 27, some 28, some 19, some 29, some 30, some 6, some 7] 73 rfl [[], [], [0, 1], [0, 1, 2], [], [4], [4, 5], [4, 5, 6], [0, 1, 2, 3, 4, 5, 6, 7], [0, 1, 2, 3, 4, 5, 6, 7, 8], [0, 1, 2, 3, 4, 5, 6, 7, 8, 9], [0, 1, 2, 3, 4, 5, 6, 7, 8, 9], [0, 1, 2, 3, 4, 5, 6, 7, 8, 9, 10], [0, 1, 2, 3, 4, 5, 6, 7, 8, 9, 10, 11, 12]] (by kernel_rfl) (by kernel_rfl) (by kernel_rfl) (by kernel_rfl) (by kernel_rfl) rfl (Rgd.keep_fair) (Rgd.keep_start _) ?_
    refine' Rgd.op_is _ [] 0 0 rfl rfl rfl (by kernel_rfl) ?_ ?_
    rotate_left
    · intro p wx hp1 hp2 hb
      obtain rfl : p = 0 := by omega
      refine Rgd.from_nil fun T hT => ?_
      go_wp2
      refine hT _ _ rfl (by first | exact Rgd.Keep.refl _ | exact below_of_dr hw2 | exact hw2 | exact (Below.refl _ _).alloc (Nat.le_refl _) _) ?_
      simp only [Rgd.last, List.getElem?_toArray, List.getElem?_cons_succ, List.getElem?_cons_zero, Option.getD_some]
      rfl
    refine' Rgd.op_is _ [] 0 0 rfl rfl rfl (by kernel_rfl) ?_ ?_
    rotate_left
    · intro p wx hp1 hp2 hb
      obtain rfl : p = 0 := by omega
      refine Rgd.from_nil fun T hT => ?_
      go_wp2
      refine hT _ _ rfl (by first | exact Rgd.Keep.refl _ | exact below_of_dr hw2 | exact hw2 | exact (Below.refl _ _).alloc (Nat.le_refl _) _) ?_
      simp only [Rgd.last, List.getElem?_toArray, List.getElem?_cons_succ, List.getElem?_cons_zero, Option.getD_some]
      rfl
    refine' Rgd.op_is _ [0, 1] 0 0 rfl rfl rfl (by kernel_rfl) ?_ ?_
    rotate_left
    · intro p wx hp1 hp2 hb
      obtain rfl : p = 0 := by omega
      refine Rgd.from_is (some 20) rfl rfl ?_
      refine Rgd.from_is (some 21) rfl rfl ?_
      refine Rgd.from_nil fun T hT => ?_
      go_wp2
      refine hT _ _ rfl (by first | exact Rgd.Keep.refl _ | exact below_of_dr hw2 | exact hw2 | exact (Below.refl _ _).alloc (Nat.le_refl _) _) ?_
      simp only [Rgd.last, List.getElem?_toArray, List.getElem?_cons_succ, List.getElem?_cons_zero, Option.getD_some]
      rfl
    refine Rgd.op_is (.int .u64 x) [2] 0 0 rfl rfl rfl (by kernel_rfl) ?_ ?_
    · intro p wx hp1 hp2 hb
      obtain rfl : p = 0 := by omega
      refine Rgd.from_is (some 22) rfl rfl ?_
      refine Rgd.from_nil fun T hT => ?_
      have q3 := (HR1.out.below hb).cell HXK.out
      go_wp2
      exact hT _ _ rfl (by first | exact Rgd.Keep.refl _ | exact below_of_dr hw2 | exact hw2 | exact (Below.refl _ _).alloc (Nat.le_refl _) _) (by first | rfl | exact congrArg _ (by decide))
    refine' Rgd.op_is _ [] 0 0 rfl rfl rfl (by kernel_rfl) ?_ ?_
    rotate_left
    · intro p wx hp1 hp2 hb
      obtain rfl : p = 0 := by omega
      refine Rgd.from_nil fun T hT => ?_
      go_wp2
      refine hT _ _ rfl (by first | exact Rgd.Keep.refl _ | exact below_of_dr hw2 | exact hw2 | exact (Below.refl _ _).alloc (Nat.le_refl _) _) ?_
      simp only [Rgd.last, List.getElem?_toArray, List.getElem?_cons_succ, List.getElem?_cons_zero, Option.getD_some]
      rfl
    refine' Rgd.op_is _ [4] 0 0 rfl rfl rfl (by kernel_rfl) ?_ ?_
    rotate_left
    · intro p wx hp1 hp2 hb
      obtain rfl : p = 0 := by omega
      refine Rgd.from_is (some 24) rfl rfl ?_
      refine Rgd.from_nil fun T hT => ?_
      go_wp2
      refine hT _ _ rfl (by first | exact Rgd.Keep.refl _ | exact below_of_dr hw2 | exact hw2 | exact (Below.refl _ _).alloc (Nat.le_refl _) _) ?_
      simp only [Rgd.last, List.getElem?_toArray, List.getElem?_cons_succ, List.getElem?_cons_zero, Option.getD_some]
      rfl
    refine' Rgd.op_is _ [5] 0 0 rfl rfl rfl (by kernel_rfl) ?_ ?_
    rotate_left
    · intro p wx hp1 hp2 hb
      obtain rfl : p = 0 := by omega
      refine Rgd.from_is (some 25) rfl rfl ?_
      refine Rgd.from_nil fun T hT => ?_
      go_wp2
      refine hT _ _ rfl (by first | exact Rgd.Keep.refl _ | exact below_of_dr hw2 | exact hw2 | exact (Below.refl _ _).alloc (Nat.le_refl _) _) ?_
      simp only [Rgd.last, List.getElem?_toArray, List.getElem?_cons_succ, List.getElem?_cons_zero, Option.getD_some]
      rfl
    refine Rgd.op_is (.int .u64 q) [6] 0 0 rfl rfl rfl (by kernel_rfl) ?_ ?_
    · intro p wx hp1 hp2 hb
      obtain rfl : p = 0 := by omega
      refine Rgd.from_is (some 26) rfl rfl ?_
      refine Rgd.from_nil fun T hT => ?_
      have q3 := (H1.out.row.below hb).cell (k := 0) rfl
      go_wp2
      exact hT _ _ rfl (by first | exact Rgd.Keep.refl _ | exact below_of_dr hw2 | exact hw2 | exact (Below.refl _ _).alloc (Nat.le_refl _) _) (by first | rfl | exact congrArg _ (by decide))
    refine Rgd.op_is (.tuple #[.int .u64 (iVal x q), .int .i64 (iErr x q)]) [3, 7] 0 0 rfl rfl rfl (by kernel_rfl) ?_ ?_
    · intro p wx hp1 hp2 hb
      obtain rfl : p = 0 := by omega
      refine Rgd.from_is (some 23) rfl rfl ?_
      refine Rgd.from_is (some 27) rfl rfl ?_
      refine Rgd.from_nil fun T hT => ?_
      go_wp2_with (fail)
      refine (inv_c x q ⟨x1, x2⟩ ⟨by omega, by omega⟩ _).mono ?_
      rintro e wy ⟨rfl, hk⟩
      go_wp2
      exact hT _ _ rfl (below_of_dr hk) (by simp [Rgd.last])
    refine Rgd.op_is (.tuple #[.int .u64 (iVal x q), .int .i64 (iErr x q)]) [8] 0 0 rfl rfl rfl (by kernel_rfl) ?_ ?_
    · intro p wx hp1 hp2 hb
      obtain rfl : p = 0 := by omega
      refine Rgd.from_is (some 28) rfl rfl ?_
      refine Rgd.from_nil fun T hT => ?_
      go_wp2
      exact hT _ _ rfl (by first | exact Rgd.Keep.refl _ | exact below_of_dr hw2 | exact hw2 | exact (Below.refl _ _).alloc (Nat.le_refl _) _) (by first | rfl | exact congrArg _ (by decide))
    refine Rgd.op_is (.int .u64 (iVal x q)) [9] 0 0 rfl rfl rfl (by kernel_rfl) ?_ ?_
    · intro p wx hp1 hp2 hb
      obtain rfl : p = 0 := by omega
      refine Rgd.from_is (some 19) rfl rfl ?_
      refine Rgd.from_nil fun T hT => ?_
      go_wp2
      exact hT _ _ rfl (by first | exact Rgd.Keep.refl _ | exact below_of_dr hw2 | exact hw2 | exact (Below.refl _ _).alloc (Nat.le_refl _) _) (by first | rfl | exact congrArg _ (by decide))
    refine Rgd.op_is (.int .i64 (iErr x q)) [9] 0 0 rfl rfl rfl (by kernel_rfl) ?_ ?_
    · intro p wx hp1 hp2 hb
      obtain rfl : p = 0 := by omega
      refine Rgd.from_is (some 19) rfl rfl ?_
      refine Rgd.from_nil fun T hT => ?_
      go_wp2
      exact hT _ _ rfl (by first | exact Rgd.Keep.refl _ | exact below_of_dr hw2 | exact hw2 | exact (Below.refl _ _).alloc (Nat.le_refl _) _) (by first | rfl | exact congrArg _ (by decide))
    refine Rgd.op_is (.int .u64 (iVal x q)) [10] 0 0 rfl rfl rfl (by kernel_rfl) ?_ ?_
    · intro p wx hp1 hp2 hb
      obtain rfl : p = 0 := by omega
      refine Rgd.from_is (some 29) rfl rfl ?_
      refine Rgd.from_nil fun T hT => ?_
      go_wp2
      exact hT _ _ rfl (by first | exact Rgd.Keep.refl _ | exact below_of_dr hw2 | exact hw2 | exact (Below.refl _ _).alloc (Nat.le_refl _) _) (by first | rfl | exact congrArg _ (by decide))
    refine Rgd.op_is (.int .i64 (iErr x q)) [11] 0 0 rfl rfl rfl (by kernel_rfl) ?_ ?_
    · intro p wx hp1 hp2 hb
      obtain rfl : p = 0 := by omega
      refine Rgd.from_is (some 30) rfl rfl ?_
      refine Rgd.from_nil fun T hT => ?_
      go_wp2
      exact hT _ _ rfl (by first | exact Rgd.Keep.refl _ | exact below_of_dr hw2 | exact hw2 | exact (Below.refl _ _).alloc (Nat.le_refl _) _) (by first | rfl | exact congrArg _ (by decide))
    refine Rgd.walk_nil [0, 1, 2, 3, 4, 5, 6, 7, 8, 9, 10, 11, 12, 13] (by kernel_rfl) ?_
    intro wx hb
    refine Rgd.from_is (some 20) rfl rfl ?_
    refine Rgd.from_is (some 21) rfl rfl ?_
    refine Rgd.from_is (some 22) rfl rfl ?_
    refine Rgd.from_is (some 23) rfl rfl ?_
    refine Rgd.from_is (some 24) rfl rfl ?_
    refine Rgd.from_is (some 25) rfl rfl ?_
    refine Rgd.from_is (some 26) rfl rfl ?_
    refine Rgd.from_is (some 27) rfl rfl ?_
    refine Rgd.from_is (some 28) rfl rfl ?_
    refine Rgd.from_is (some 19) rfl rfl ?_
    refine Rgd.from_is (some 29) rfl rfl ?_
    refine Rgd.from_is (some 30) rfl rfl ?_
    refine Rgd.from_is (some 6) rfl rfl ?_
    refine Rgd.from_is (some 7) rfl rfl ?_
    refine Rgd.from_nil ?_
    simp only [List.map, Act.put, List.setIfInBounds_toArray, List.set_cons_zero, List.set_cons_succ]
    have hb : Below w1.heap.size w1 wx := hb
    have H2 := hid (H1.out.below hb)
    have HR2 := hid (HR1.out.below hb)
    have HB2 := hid (below_next HB1.out HB1.out.size hb)
    obtain ⟨v1, v2⟩ := HIV.out
    generalize iVal x q = bk at *
    generalize iErr x q = er at *
    clear H1 HR1 HB1 hb HIV HXK
    have HTA := hid (timesK_all q o bk)
    have HTR := hid (show RedL q (timesL q o bk) from fun j => by
      by_cases hj : j < o.length
      · unfold timesL; rw [tabL_at hj]; exact ⟨Int.emod_nonneg _ (by omega), Int.emod_lt_of_pos _ hq1⟩
      · rw [nth_ge (by unfold timesL; rw [tabL_len]; omega)]; exact ⟨Int.le_refl 0, hq1⟩)
    have HTL := hid (show (timesL q o bk).length = W by unfold timesL; rw [tabL_len]; exact hW0)
    go_wp2
    go_loopw [33] (fun i wr => ∃ j : Nat, i = .int .i64 (j : Int) ∧ j ≤ W ∧ Hid (Row1 wr b0 22 (u64v (timesK q o bk j)) ∧ Below w.heap.size w wr)) (fun i _ => W - (intOf i).toNat)
    case atStart => exact ⟨0, rfl, by omega, hid ⟨by rw [timesK_zero]; exact HR2.out, HB2.out⟩⟩
    case round =>
      obtain ⟨j, rfl, hj, HI⟩ := hrel
      by_cases hlt : j < W
      · have HGr := hid ((HH.out.below HI.out.2).row)
        obtain ⟨y1, y2⟩ := (U64s.of_red HQ.out HRED.out).nth j
        have HX := hid (show (u64v (timesK q o bk j))[j]? = some (.int .u64 (nth o j)) by rw [u64v_at (by rw [timesK_len]; omega), timesK_at (by omega)])
        have HS := hid (timesK_set (q := q) (o := o) (b := bk) (k := j))
        have HMM := hid (show mMul (nth o j) bk q = nth o j * bk % q from mMul_ok HQ.out)
        generalize nth o j = y at *
        clear H2 HR2 HB2
        go_wp2_with (fail)
        refine Rgd.wp_region (l := [_, _, _, _, _, _, _, _, _, _, _, _, _]) (tail := [_]) (Rgd.keep wr [] [(0, 0), (0, 0), (0, 0), (0, 0), (0, 0), (0, 0), (0, 0), (0, 0), (0, 0), (0, 0), (0, 0), (0, 0), (0, 0)]) [some 36, some 37, some 38, some 39, some 40, some 41, some 42, some 43, some 44, some 45, some 46, some 47, some 48, none] 73 rfl [[], [], [], [], [2, 3], [2, 3, 4], [], [], [7], [7, 8], [7, 8, 9], [2, 3, 4, 5, 6, 7, 8, 9, 10], [0, 1, 2, 3, 4, 5, 6, 7, 8, 9, 10, 11]] (by kernel_rfl) (by kernel_rfl) (by kernel_rfl) (by kernel_rfl) (by kernel_rfl) rfl (Rgd.keep_fair) (Rgd.keep_start _) ?_
        refine' Rgd.op_is _ [] 0 0 rfl rfl rfl (by kernel_rfl) ?_ ?_
        rotate_left
        · intro p wx hp1 hp2 hb
          obtain rfl : p = 0 := by omega
          refine Rgd.from_nil fun T hT => ?_
          go_wp2
          refine hT _ _ rfl (by first | exact Rgd.Keep.refl _ | exact below_of_dr hw2 | exact hw2 | exact (Below.refl _ _).alloc (Nat.le_refl _) _) ?_
          simp only [Rgd.last, List.getElem?_toArray, List.getElem?_cons_succ, List.getElem?_cons_zero, Option.getD_some]
          rfl
        refine' Rgd.op_is _ [] 0 0 rfl rfl rfl (by kernel_rfl) ?_ ?_
        rotate_left
        · intro p wx hp1 hp2 hb
          obtain rfl : p = 0 := by omega
          refine Rgd.from_nil fun T hT => ?_
          go_wp2
          refine hT _ _ rfl (by first | exact Rgd.Keep.refl _ | exact below_of_dr hw2 | exact hw2 | exact (Below.refl _ _).alloc (Nat.le_refl _) _) ?_
          simp only [Rgd.last, List.getElem?_toArray, List.getElem?_cons_succ, List.getElem?_cons_zero, Option.getD_some]
          rfl
        refine' Rgd.op_is _ [] 0 0 rfl rfl rfl (by kernel_rfl) ?_ ?_
        rotate_left
        · intro p wx hp1 hp2 hb
          obtain rfl : p = 0 := by omega
          refine Rgd.from_nil fun T hT => ?_
          go_wp2
          refine hT _ _ rfl (by first | exact Rgd.Keep.refl _ | exact below_of_dr hw2 | exact hw2 | exact (Below.refl _ _).alloc (Nat.le_refl _) _) ?_
          simp only [Rgd.last, List.getElem?_toArray, List.getElem?_cons_succ, List.getElem?_cons_zero, Option.getD_some]
          rfl
        refine' Rgd.op_is _ [] 0 0 rfl rfl rfl (by kernel_rfl) ?_ ?_
        rotate_left
        · intro p wx hp1 hp2 hb
          obtain rfl : p = 0 := by omega
          refine Rgd.from_nil fun T hT => ?_
          go_wp2
          refine hT _ _ rfl (by first | exact Rgd.Keep.refl _ | exact below_of_dr hw2 | exact hw2 | exact (Below.refl _ _).alloc (Nat.le_refl _) _) ?_
          simp only [Rgd.last, List.getElem?_toArray, List.getElem?_cons_succ, List.getElem?_cons_zero, Option.getD_some]
          rfl
        refine' Rgd.op_is _ [2, 3] 0 0 rfl rfl rfl (by kernel_rfl) ?_ ?_
        rotate_left
        · intro p wx hp1 hp2 hb
          obtain rfl : p = 0 := by omega
          refine Rgd.from_is (some 38) rfl rfl ?_
          refine Rgd.from_is (some 39) rfl rfl ?_
          refine Rgd.from_nil fun T hT => ?_
          go_wp2
          refine hT _ _ rfl (by first | exact Rgd.Keep.refl _ | exact below_of_dr hw2 | exact hw2 | exact (Below.refl _ _).alloc (Nat.le_refl _) _) ?_
          simp only [Rgd.last, List.getElem?_toArray, List.getElem?_cons_succ, List.getElem?_cons_zero, Option.getD_some]
          rfl
        refine Rgd.op_is (.int .u64 y) [4] 0 0 rfl rfl rfl (by kernel_rfl) ?_ ?_
        · intro p wx hp1 hp2 hb
          obtain rfl : p = 0 := by omega
          refine Rgd.from_is (some 40) rfl rfl ?_
          refine Rgd.from_nil fun T hT => ?_
          have q3 := (HI.out.1.below hb).cell HX.out
          go_wp2
          exact hT _ _ rfl (by first | exact Rgd.Keep.refl _ | exact below_of_dr hw2 | exact hw2 | exact (Below.refl _ _).alloc (Nat.le_refl _) _) (by first | rfl | exact congrArg _ (by decide))
        refine' Rgd.op_is _ [] 0 0 rfl rfl rfl (by kernel_rfl) ?_ ?_
        rotate_left
        · intro p wx hp1 hp2 hb
          obtain rfl : p = 0 := by omega
          refine Rgd.from_nil fun T hT => ?_
          go_wp2
          refine hT _ _ rfl (by first | exact Rgd.Keep.refl _ | exact below_of_dr hw2 | exact hw2 | exact (Below.refl _ _).alloc (Nat.le_refl _) _) ?_
          simp only [Rgd.last, List.getElem?_toArray, List.getElem?_cons_succ, List.getElem?_cons_zero, Option.getD_some]
          rfl
        refine' Rgd.op_is _ [] 0 0 rfl rfl rfl (by kernel_rfl) ?_ ?_
        rotate_left
        · intro p wx hp1 hp2 hb
          obtain rfl : p = 0 := by omega
          refine Rgd.from_nil fun T hT => ?_
          go_wp2
          refine hT _ _ rfl (by first | exact Rgd.Keep.refl _ | exact below_of_dr hw2 | exact hw2 | exact (Below.refl _ _).alloc (Nat.le_refl _) _) ?_
          simp only [Rgd.last, List.getElem?_toArray, List.getElem?_cons_succ, List.getElem?_cons_zero, Option.getD_some]
          rfl
        refine' Rgd.op_is _ [7] 0 0 rfl rfl rfl (by kernel_rfl) ?_ ?_
        rotate_left
        · intro p wx hp1 hp2 hb
          obtain rfl : p = 0 := by omega
          refine Rgd.from_is (some 43) rfl rfl ?_
          refine Rgd.from_nil fun T hT => ?_
          go_wp2
          refine hT _ _ rfl (by first | exact Rgd.Keep.refl _ | exact below_of_dr hw2 | exact hw2 | exact (Below.refl _ _).alloc (Nat.le_refl _) _) ?_
          simp only [Rgd.last, List.getElem?_toArray, List.getElem?_cons_succ, List.getElem?_cons_zero, Option.getD_some]
          rfl
        refine' Rgd.op_is _ [8] 0 0 rfl rfl rfl (by kernel_rfl) ?_ ?_
        rotate_left
        · intro p wx hp1 hp2 hb
          obtain rfl : p = 0 := by omega
          refine Rgd.from_is (some 44) rfl rfl ?_
          refine Rgd.from_nil fun T hT => ?_
          go_wp2
          refine hT _ _ rfl (by first | exact Rgd.Keep.refl _ | exact below_of_dr hw2 | exact hw2 | exact (Below.refl _ _).alloc (Nat.le_refl _) _) ?_
          simp only [Rgd.last, List.getElem?_toArray, List.getElem?_cons_succ, List.getElem?_cons_zero, Option.getD_some]
          rfl
        refine Rgd.op_is (.int .u64 q) [9] 0 0 rfl rfl rfl (by kernel_rfl) ?_ ?_
        · intro p wx hp1 hp2 hb
          obtain rfl : p = 0 := by omega
          refine Rgd.from_is (some 45) rfl rfl ?_
          refine Rgd.from_nil fun T hT => ?_
          have q3 := (HGr.out.below hb).cell (k := 0) rfl
          go_wp2
          exact hT _ _ rfl (by first | exact Rgd.Keep.refl _ | exact below_of_dr hw2 | exact hw2 | exact (Below.refl _ _).alloc (Nat.le_refl _) _) (by first | rfl | exact congrArg _ (by decide))
        refine Rgd.op_is (.int .u64 (y * bk % q)) [5, 6, 10] 0 0 rfl rfl rfl (by kernel_rfl) ?_ ?_
        · intro p wx hp1 hp2 hb
          obtain rfl : p = 0 := by omega
          refine Rgd.from_is (some 41) rfl rfl ?_
          refine Rgd.from_is (some 42) rfl rfl ?_
          refine Rgd.from_is (some 46) rfl rfl ?_
          refine Rgd.from_nil fun T hT => ?_
          go_wp2_with (fail)
          refine (mul_c y bk q ⟨y1, y2⟩ ⟨by omega, by omega⟩ ⟨by omega, by omega⟩ _).mono ?_
          rintro e wy ⟨rfl, hk⟩
          rw [HMM.out]
          go_wp2
          exact hT _ _ rfl (below_of_dr hk) (by simp [Rgd.last])
        refine' Rgd.op_is _ [0, 1] 0 0 rfl rfl rfl (by kernel_rfl) ?_ ?_
        rotate_left
        · intro p wx hp1 hp2 hb
          obtain rfl : p = 0 := by omega
          refine Rgd.from_is (some 36) rfl rfl ?_
          refine Rgd.from_is (some 37) rfl rfl ?_
          refine Rgd.from_nil fun T hT => ?_
          go_wp2
          refine hT _ _ rfl (by first | exact Rgd.Keep.refl _ | exact below_of_dr hw2 | exact hw2 | exact (Below.refl _ _).alloc (Nat.le_refl _) _) ?_
          simp only [Rgd.last, List.getElem?_toArray, List.getElem?_cons_succ, List.getElem?_cons_zero, Option.getD_some]
          rfl
        refine Rgd.walk_nil [0, 1, 2, 3, 4, 5, 6, 7, 8, 9, 10, 11, 12] (by kernel_rfl) ?_
        intro wx hb
        refine Rgd.from_is (some 36) rfl rfl ?_
        refine Rgd.from_is (some 37) rfl rfl ?_
        refine Rgd.from_is (some 38) rfl rfl ?_
        refine Rgd.from_is (some 39) rfl rfl ?_
        refine Rgd.from_is (some 40) rfl rfl ?_
        refine Rgd.from_is (some 41) rfl rfl ?_
        refine Rgd.from_is (some 42) rfl rfl ?_
        refine Rgd.from_is (some 43) rfl rfl ?_
        refine Rgd.from_is (some 44) rfl rfl ?_
        refine Rgd.from_is (some 45) rfl rfl ?_
        refine Rgd.from_is (some 46) rfl rfl ?_
        refine Rgd.from_is (some 47) rfl rfl ?_
        refine Rgd.from_is (some 48) rfl rfl ?_
        refine Rgd.from_nil ?_
        simp only [List.map, Act.put, List.setIfInBounds_toArray, List.set_cons_zero, List.set_cons_succ]
        have hb : Below wr.heap.size wr wx := hb
        have hrx := HI.out.1.below hb
        have hfz := hrx.frozen j
        have hcx := hrx.cell HX.out
        have HN := hid (hrx.set j (.int .u64 (y * bk % q)))
        rw [HS.out] at HN
        have HBN := hid (below_set (k := j) (u := .int .u64 (y * bk % q)) (below_next HI.out.2 HI.out.2.size hb) hb0)
        clear hrx
        go_wp2
        go_roundw
        case rel => exact ⟨j + 1, by go_num, by omega, hid ⟨HN.out, HBN.out⟩⟩
        case measure => simp [intOf]; omega
      · obtain rfl : W = j := by omega
        rw [← hW0, HTA.out] at HI
        have HUR := hid (U64s.of_red HQ.out HTR.out)
        have HSP := hid (show PP = _ from HPUT.out)
        have HM1 := (HH.out.below HI.out.2).map
        have hgs0 := (HH.out.below HI.out.2).row
        have c2 := hgs0.cell (k := 2) rfl
        have hb0l := HI.out.1.lt
        have HI2 := hid (⟨HI.out.1, HI.out.2⟩ : _ ∧ _)
        have hLW : L.length ≤ W := by have := good_len HG.out; rwa [List.length_map] at this
        clear H2 HR2 HB2 HTA hlt hj HI HRED
        generalize timesL q o bk = rr at *
        have hrl := HTL.out
        clear HTL hW0 HLEN
        subst hrl
        go_wp2_with (at_range; refine wpList_range_rk _ rfl _ rfl rfl HM1 ?_; intro w2 cnt hrg2 hg2 hs2)
        go_frame
        have HB3 := hid (HI2.out.2.grown hg2 HI2.out.2.size fun j e => by cases e)
        have HR3 := hid (HI2.out.1.keep (hg2.block b0 hb0l fun e => by cases e))
        have H3 := hid (HH.out.below HB3.out)
        clear hg2 HM1 c2 hgs0
        obtain ⟨r, hr⟩ : ∃ r, wr.heap.size = r := ⟨_, rfl⟩
        have hbr : b0 < r := by omega
        rw [hr] at hrg2 ⊢
        clear hr hs2 hb0l HI2
        generalize wr = wo at *
        go_loopw [10] (fun _ wz => ∃ (rest : List Ent) (cnt : Nat) (pre : List Ent), RangeAt rM wz gm r L rest cnt ∧ Hid (L.Perm (pre ++ rest) ∧ (∀ e ∈ pre, Row1 wz e.blk 22 (u64v (updE q rr k e).en.row)) ∧ (∀ e ∈ rest, Row1 wz e.blk 22 (u64v e.en.row)) ∧ Row1 wz b0 22 (u64v rr) ∧ Row1 wz gs 63 (spV q rr.length gm) ∧ Below base w wz)) (fun _ wz => wz.rangeLeft gm r)
        case atStart => exact ⟨L, cnt, [], hrg2, hid ⟨.refl _, (fun e h => by cases h), H3.out.cells, HR3.out, H3.out.row, HB3.out.mono hbase⟩⟩
        case round =>
          obtain ⟨rest, cnt2, pre, hrg, HI⟩ := hrel
          have HL := hid hrg.left
          clear hrg2 HB3 HR3 H3
          go_wp2_with (at_next; refine wpList_next_rk _ rfl _ rfl rfl hrg ?_ ?_)
          · intro hr0
            have HALL := hid (show ∀ e ∈ L, Row1 wr e.blk 22 (u64v (updE q rr k e).en.row) from fun e he => by
              have hp := HI.out.1
              rw [hr0, List.append_nil] at hp
              exact HI.out.2.1 e (hp.mem_iff.1 he))
            have HMM := hrg.map.conv (updE q rr k) fun e _ => updE_same q rr k e
            have hgs := HI.out.2.2.2.2.1
            have c2 := hgs.cell (k := 2) rfl
            have HMH := hid HMM
            clear hrg hr0 HL
            go_wp2_with (at_mapUpdate; refine wpList_store_tab (M := rM) _ rfl _ _ _ 61 rfl 44 Tryd.underlying61 rfl HMM (by rw [List.length_map]; unfold maxLen; omega) (u := (⟨⟨k, rr⟩, b0⟩ : Ent)) (show I64 (k : Int) from ⟨by omega, by omega⟩) rfl rfl ?_; intro w4 hM4 hg4)
            go_end0
            have hgm := HMH.out.isMap
            refine ⟨rfl, _, ?_, ⟨hgs.but hg4 (HMH.out.ne_row hgs), hM4, ?_, ?_, ?_⟩, HI.out.2.2.2.2.2.grown hg4 (Nat.le_trans hbase HI.out.2.2.2.2.2.size) fun j e => by cases e; exact HH.out.lo.2.1⟩
            · rw [ens_put]; exact HPUT.out.symm
            · intro e he
              rcases List.mem_cons.1 he with rfl | he
              · exact HI.out.2.2.2.1.but hg4 (HMH.out.ne_row HI.out.2.2.2.1)
              · obtain ⟨e0, he0, rfl⟩ := List.mem_map.1 (List.mem_filter.1 he).1
                exact (HALL.out e0 he0).but hg4 (HMH.out.ne_row (HALL.out e0 he0))
            · refine List.pairwise_cons.2 ⟨fun e he => ?_, ?_⟩
              · obtain ⟨e0, he0, rfl⟩ := List.mem_map.1 (List.mem_filter.1 he).1
                have := (HH.out.cells e0 he0).lt
                show b0 ≠ e0.blk
                omega
              · refine List.Pairwise.filter _ ?_
                rw [List.pairwise_map]
                exact HH.out.nd
            · refine ⟨HH.out.lo.1, HH.out.lo.2.1, fun e he => ?_⟩
              rcases List.mem_cons.1 he with rfl | he
              · exact Nat.le_trans hbase hb0
              · obtain ⟨e0, he0, rfl⟩ := List.mem_map.1 (List.mem_filter.1 he).1
                exact HH.out.lo.2.2 e0 he0
          · intro x rest' w3 cnt3 hperm hx hrg3 hlt hg3 hs3 hen
            have HPM := hid hperm
            have hxS : x.en ∈ ens L := List.mem_map.2 ⟨x, hx, rfl⟩
            have hxl := HG.out.len _ hxS
            have HXU := hid (U64s.of_red HQ.out (HG.out.red _ hxS))
            have hxb : x.blk < w.heap.size := (HH.out.cells x hx).lt
            have hlt' : ∀ e ∈ L, e.blk < w.heap.size := fun e he => (HH.out.cells e he).lt
            have hne3 : ∀ (b : Nat) (ys : List Value) (ty : TypeId), Row1 wr b ty ys → b ≠ r → Row1 w3 b ty ys := fun b ys ty h hb => h.keep (hg3.block b h.lt fun e => hb (Option.some.inj e))
            have HPP := hid (show L.Perm ((pre ++ [x]) ++ rest') by
              rw [List.append_assoc]
              exact HI.out.1.trans (HPM.out.append_left pre))
            have HNDD := hid (show (pre ++ ([x] ++ rest')).Pairwise fun e e' => e.blk ≠ e'.blk by
              have := (HPP.out.pairwise_iff fun {_ _} hne => Ne.symm hne).1 HH.out.nd
              rwa [List.append_assoc] at this)
            have hc3 := hne3 _ _ _ (HI.out.2.2.1 x (HPM.out.mem_iff.2 (List.mem_cons_self ..))) (by omega)
            have hr3 := hne3 _ _ _ HI.out.2.2.2.1 (by omega)
            have hgs3 := hne3 _ _ _ HI.out.2.2.2.2.1 (by have := HH.out.row.lt; omega)
            have catx := hc3.cell (u64v_at (show k < x.en.row.length by omega))
            obtain ⟨tk, htk⟩ : ∃ z, nth x.en.row k = z := ⟨_, rfl⟩
            have HTU := hid (show U64 tk by rw [← htk]; exact HXU.out.nth _)
            have HUPD := hid (show lessL q x.en.row rr tk = (updE q rr k x).en.row by rw [← htk]; rfl)
            rw [htk] at catx
            clear htk
            have HLE := hid (less_c gs x.blk b0 gm rr.length q x.en.row rr tk w3 hgs3 hc3 hr3 (by omega) HQ.out HXU.out HUR.out HTU.out (by omega) (by omega))
            rw [hxl, HUPD.out] at HLE
            have HPRE := hid (show (∀ e ∈ pre, Row1 w3 e.blk 22 (u64v (updE q rr k e).en.row)) ∧ (∀ e ∈ rest', Row1 w3 e.blk 22 (u64v e.en.row)) from
              ⟨fun e he => hne3 _ _ _ (HI.out.2.1 e he) (by have := hlt' e (HI.out.1.mem_iff.2 (List.mem_append_left _ he)); omega),
               fun e he => hne3 _ _ _ (HI.out.2.2.1 e (HPM.out.mem_iff.2 (List.mem_cons_of_mem _ he))) (by have := hlt' e (HI.out.1.mem_iff.2 (List.mem_append_right _ (HPM.out.mem_iff.2 (List.mem_cons_of_mem _ he)))); omega)⟩)
            have HR4 := hid hr3
            have HGS4 := hid hgs3
            have HB4 := hid (HI.out.2.2.2.2.2.grown hg3 (Nat.le_trans hbase HI.out.2.2.2.2.2.size) fun j e => by cases e; omega)
            have hgm3 := hrg3.lt
            have hgmb : gm < w.heap.size := HH.out.map.lt
            have hgmx : x.blk ≠ gm := HH.out.map.ne_row (HH.out.cells x hx)
            have hgsx : gs ≠ x.blk := row1_ne HH.out.row (HH.out.cells x hx) (by decide)
            have hxlo := HH.out.lo.2.2 x hx
            clear hperm hs3 hg3 hrg hc3 hr3 hgs3 HI hne3 hlt'
            have HES := hid (show entS x = .slice (some ⟨x.blk, 0, none⟩) rr.length rr.length by unfold entS; rw [hxl])
            go_wp2_with (fail)
            rw [HES.out]
            refine HLE.out.mono ?_
            rintro e w4 ⟨rfl, hr4, hg4⟩
            have hrg4 := hrg3.keep (hg4.block gm hgm3.1 fun e => hgmx (Option.some.inj e).symm) (hg4.block r hgm3.2.1 fun e => by cases e; omega)
            have HNEW := hid (show (∀ e ∈ pre ++ [x], Row1 w4 e.blk 22 (u64v (updE q rr k e).en.row)) ∧ (∀ e ∈ rest', Row1 w4 e.blk 22 (u64v e.en.row)) ∧ Row1 w4 b0 22 (u64v rr) ∧ Row1 w4 gs 63 (spV q rr.length gm) ∧ Below base w w4 from by
              obtain ⟨n1, n2, n3⟩ := List.pairwise_append.1 HNDD.out
              refine ⟨fun e he => ?_, fun e he => ?_, HR4.out.but hg4 (by omega), HGS4.out.but hg4 hgsx, HB4.out.grown hg4 (Nat.le_trans hbase HB4.out.size) fun j e => by cases e; exact hxlo⟩
              · rcases List.mem_append.1 he with he | he
                · exact (HPRE.out.1 e he).but hg4 (n3 e he x (by simp))
                · obtain rfl := List.mem_singleton.1 he
                  exact hr4
              · exact (HPRE.out.2 e he).but hg4 (Ne.symm ((List.pairwise_cons.1 n2).1 e he)))
            clear HLE hr4 hg4 HB4 HR4 HGS4 HPRE HNDD catx hen
            go_wp2
            go_roundw
            case rel => exact ⟨rest', cnt3, pre ++ [x], hrg4, hid ⟨HPP.out, HNEW.out⟩⟩
            case measure => rw [HL.out, hrg4.left]; exact hlt
end Go.Proofs.YtpdgalclnlbeaaaDoor
end

section
namespace Go.Proofs.YtpdgalclnlbeaaaDoor
open Go Go.RowKit Go.Maps Go.Shelf Go.Proofs
/-- a value that reads as a list of uint64s. -/
def RowV (w : World) (v : Value) (l : List Int) : Prop := ∃ A c, v = .slice A l.length c ∧ Cells w A (l.map (.int .u64)) ∧ l.length ≤ 9223372036854775807
theorem RowV.keep {w w' : World} {v : Value} {l : List Int} (h : RowV w v l) (hk : ∀ p : Addr, p.block < w.heap.size → w'.cell? p = w.cell? p) : RowV w' v l := by
  obtain ⟨A, c, rfl, h1, h2⟩ := h
  exact ⟨A, c, rfl, h1.keep hk, h2⟩
/-- the slice at A reads as these lists. -/
def Grid (w : World) (A : Option Addr) (f : List (List Int)) : Prop :=
  ∃ vs : List Value, Cells w A vs ∧ vs.length = f.length ∧ ∀ (i : Nat) (l : List Int), f[i]? = some l → ∃ v, vs[i]? = some v ∧ RowV w v l
theorem Grid.keep {w w' : World} {A : Option Addr} {f : List (List Int)} (h : Grid w A f) (hk : ∀ p : Addr, p.block < w.heap.size → w'.cell? p = w.cell? p) : Grid w' A f := by
  obtain ⟨vs, h1, h2, h3⟩ := h
  exact ⟨vs, h1.keep hk, h2, fun i l hl => let ⟨v, a, b⟩ := h3 i l hl; ⟨v, a, b.keep hk⟩⟩
theorem Grid.below {w w' : World} {A : Option Addr} {f : List (List Int)} (h : Grid w A f) (hb : Below w.heap.size w w') : Grid w' A f := h.keep fun _ hp => hb.cell hp
theorem Grid.dr {w w' : World} {A : Option Addr} {f : List (List Int)} (h : Grid w A f) (hd : Dr w w') : Grid w' A f := by
  obtain ⟨n, rfl⟩ := hd; exact h
theorem Grid.at_ {w : World} {A : Option Addr} {f : List (List Int)} (h : Grid w A f) {k : Nat} {l : List Int} (hk : f[k]? = some l) :
    ∃ b off A' c, A = some ⟨b, off, none⟩ ∧ w.cell? ⟨b, off + k, none⟩ = some (.slice A' l.length c) ∧ Cells w A' (l.map (.int .u64)) ∧ l.length ≤ 9223372036854775807 := by
  obtain ⟨vs, h1, h2, h3⟩ := h
  obtain ⟨v, hv, A', c, rfl, hc, hl⟩ := h3 k l hk
  obtain ⟨b, off, rfl, hcell⟩ := h1.at_ hv
  exact ⟨b, off, A', c, rfl, hcell, hc, hl⟩
theorem take_snocR {α : Type} {l : List α} {k : Nat} {x : α} (h : l[k]? = some x) : l.take (k + 1) = l.take k ++ [x] := by
  rw [List.take_add_one, h]; rfl
theorem wideL_take {f : List (List Int)} {k : Nat} {l : List Int} (h : f[k]? = some l) : wideL (f.take (k + 1)) = max (wideL (f.take k)) l.length := by
  rw [take_snocR h]; unfold wideL; rw [List.foldl_append]; rfl
theorem wideL_max {f : List (List Int)} {m : Nat} (hf : ∀ l ∈ f, l.length ≤ m) : wideL f ≤ m := by
  have key : ∀ (f : List (List Int)) (n : Nat), (∀ l ∈ f, l.length ≤ m) → n ≤ m → f.foldl (fun n l => max n l.length) n ≤ m := by
    intro f
    induction f with
    | nil => intro n _ h; exact h
    | cons a f ih =>
      intro n hf h
      exact ih _ (fun l hl => hf l (List.mem_cons_of_mem _ hl)) (Nat.max_le.2 ⟨h, hf a (List.mem_cons_self ..)⟩)
  exact key f 0 hf (Nat.zero_le _)
/-- rows of numbers, none too long. -/
structure RowsOk (f : List (List Int)) : Prop where
  few : f.length ≤ 1000000
  len : ∀ l ∈ f, l.length ≤ 1000000
  u : ∀ l ∈ f, U64s l
noncomputable abbrev iv (q : Int) : Int → Int := fun x => iVal x q
set_option maxRecDepth 100000 in
set_option maxHeartbeats 4000000 in
theorem of_c (A : Option Addr) (f : List (List Int)) (c : Nat) (q : Int) (w : World) (hA : Grid w A f) (hf : RowsOk f) (hq : okm q = true) (h2 : 2 ≤ q) [DecidableEq Lit] :
    Calls Tryd.prog 35 #[.slice A f.length c, .int .u64 q] w fun e w' => ∃ gs gm L, e = .returned (.pointer (some ⟨gs, 0, none⟩)) ∧ ens L = spaceL q (iv q) (wideL f) f ∧ SpAt w' w.heap.size gs gm (wideL f) q L ∧ GoodS q (wideL f) (ens L) ∧ Below w.heap.size w w' := by
  have HA := hid hA
  have HF := hid hf
  have HQ := hid hq
  have hq1 := okm_pos hq
  have hq2 := okm_le hq
  have hfl := hf.few
  have HI0 := hid (inv_of hq h2)
  have hmm := @run_makeMap Tryd.prog
  obtain ⟨W, hWd⟩ : ∃ W, wideL f = W := ⟨_, rfl⟩
  have HWF := hid hWd
  have hW : W ≤ 1000000 := by rw [← hWd]; exact wideL_max hf.len
  have HWL := hid (wideL_le f)
  have HGS := hid (fun (k : Nat) => space_good hq1 HI0.out (W := wideL f) (f.take k) [] (GoodS.nil q (wideL f)) fun r hr => wideL_le f r (List.mem_of_mem_take hr))
  have HSD := hid (show spaceL q (iv q) (wideL f) f = (f.take f.length).foldl (putL q (iv q) (wideL f)) [] by rw [List.take_length]; rfl)
  rw [hWd] at HWL HGS HSD ⊢
  generalize spaceL q (iv q) W f = SP at *
  clear hA hf hq hWd
  have HR0 := hid (show Row1 ((w.alloc (.map #[] 0)).alloc (.cells #[.int .u64 q, .int .i64 0, .map (some w.heap.size)] 63)) (w.heap.size + 1) 63 (spV q 0 w.heap.size) by
    show Row1 _ _ _ [.int .u64 q, .int .i64 0, .map (some w.heap.size)]
    have := row1_new (w.alloc (.map #[] 0)) [.int .u64 q, .int .i64 0, .map (some w.heap.size)] 63
    simpa using this)
  have HM0 := hid (show MapAt rM ((w.alloc (.map #[] 0)).alloc (.cells #[.int .u64 q, .int .i64 0, .map (some w.heap.size)] 63)) w.heap.size [] from (mapAt_made w).alloc _)
  have HB0 := hid (show Below w.heap.size w ((w.alloc (.map #[] 0)).alloc (.cells #[.int .u64 q, .int .i64 0, .map (some w.heap.size)] 63)) from (below_alloc w _).alloc (by simp) _)
  go_enter Tryd.func35, Tryd.ntmps35
  go_wp2
  generalize (w.alloc (.map #[] 0)).alloc (.cells #[.int .u64 q, .int .i64 0, .map (some w.heap.size)] 63) = w1 at *
  obtain ⟨gs, hgs⟩ : ∃ g, w.heap.size + 1 = g := ⟨_, rfl⟩
  obtain ⟨gm, hgm⟩ : ∃ g, w.heap.size = g := ⟨_, rfl⟩
  have hbase : w.heap.size ≤ gs ∧ w.heap.size ≤ gm ∧ gs ≠ gm := by omega
  rw [hgs, hgm] at HR0
  rw [hgm] at HM0
  rw [hgs, hgm]
  clear hgs hgm hmm
  go_loopw [16] (fun i wr => ∃ k : Nat, i = .int .i64 (k : Int) ∧ k ≤ f.length ∧ Hid (Row1 wr gs 63 (spV q (wideL (f.take k)) gm) ∧ MapAt rM wr gm [] ∧ Below w.heap.size w wr)) (fun i _ => f.length - (intOf i).toNat)
  case atStart => exact ⟨0, rfl, by omega, hid ⟨HR0.out, HM0.out, HB0.out⟩⟩
  case round =>
    obtain ⟨k, rfl, hk, HI⟩ := hrel
    by_cases hlt : k < f.length
    · obtain ⟨l, hl⟩ := get_of_lt hlt
      obtain ⟨bb, off, A', cc, rfl, c0, _, _⟩ := (HA.out.below HI.out.2.2).at_ hl
      have hll := HF.out.len l (List.mem_of_getElem? hl)
      have hrow := HI.out.1
      have c1 := hrow.cell (k := 1) rfl
      have hfz := hrow.frozen 1
      have HWT := hid (wideL_take hl)
      have hwle : wideL (f.take k) ≤ 1000000 := wideL_max fun x hx => HF.out.len x (List.mem_of_mem_take hx)
      obtain ⟨wk, hwk⟩ : ∃ n, wideL (f.take k) = n := ⟨_, rfl⟩
      obtain ⟨wn, hwn⟩ : ∃ n, max wk l.length = n := ⟨_, rfl⟩
      rw [hwk] at c1 HWT hwle
      have hmax : max (wk : Int) (l.length : Int) = (wn : Int) := by omega
      have HRN := hid (show Row1 (wr.setCell ⟨gs, 1, none⟩ (.int .i64 (wn : Int))) gs 63 (spV q (wideL (f.take (k + 1))) gm) by
        rw [HWT.out, hwn]
        exact hrow.set 1 _)
      have HMN := hid (HI.out.2.1.far (p := ⟨gs, 1, none⟩) hbase.2.2 (.int .i64 (wn : Int)))
      have HBN := hid (below_set (k := 1) (u := .int .i64 (wn : Int)) HI.out.2.2 hbase.1)
      clear hrow hl HI HWT hwk hwn
      go_wp2
      go_roundw
      case rel => exact ⟨k + 1, by go_num, by omega, hid ⟨HRN.out, HMN.out, HBN.out⟩⟩
      case measure => simp [intOf]; omega
    · obtain rfl : k = f.length := by omega
      rw [List.take_length, HWF.out] at HI
      have HSP := hid (show SpAt wr w.heap.size gs gm W q [] from ⟨HI.out.1, HI.out.2.1, (fun e h => by cases h), .nil, hbase.1, hbase.2.1, fun e h => by cases h⟩)
      have HBB := hid HI.out.2.2
      clear HI hlt hk HR0 HM0 HB0
      go_wp2
      generalize wr = wo at *
      go_loopw [33] (fun i wr => ∃ (k : Nat) (L : List Ent), i = .int .i64 (k : Int) ∧ k ≤ f.length ∧ Hid (ens L = (f.take k).foldl (putL q (iv q) W) [] ∧ SpAt wr w.heap.size gs gm W q L ∧ Below w.heap.size w wr)) (fun i _ => f.length - (intOf i).toNat)
      case atStart => exact ⟨0, [], rfl, by omega, hid ⟨rfl, HSP.out, HBB.out⟩⟩
      case round =>
        obtain ⟨k, L, rfl, hk, HI⟩ := hrel
        by_cases hlt : k < f.length
        · obtain ⟨l, hl⟩ := get_of_lt hlt
          obtain ⟨bb, off, A', cc, rfl, c0, hcl, _⟩ := (HA.out.below HI.out.2.2).at_ hl
          have HP := hid (put_c w.heap.size gs gm W q L A' l cc wr HI.out.2.1 (by rw [HI.out.1]; exact HGS.out k) hcl HQ.out (HF.out.u l (List.mem_of_getElem? hl)) (HWL.out l (List.mem_of_getElem? hl)) (by omega) HI.out.2.2.size)
          have HT := hid (show (f.take (k + 1)).foldl (putL q (iv q) W) [] = putL q (iv q) W (ens L) l by rw [take_snocR hl, List.foldl_append, ← HI.out.1]; rfl)
          have HBW := hid HI.out.2.2
          clear hl hcl HI
          go_wp2_with (fail)
          refine HP.out.mono ?_
          rintro e w3 ⟨rfl, L', he, hsp, hb3⟩
          have HN := hid (show ens L' = (f.take (k + 1)).foldl (putL q (iv q) W) [] ∧ SpAt w3 w.heap.size gs gm W q L' ∧ Below w.heap.size w w3 from ⟨he.trans HT.out.symm, hsp, HBW.out.trans hb3⟩)
          clear he hsp hb3 HP HBW
          go_wp2
          go_roundw
          case rel => exact ⟨k + 1, L', by go_num, by omega, HN⟩
          case measure => simp [intOf]; omega
        · obtain rfl : k = f.length := by omega
          go_wp2
          go_ret
          exact ⟨gs, gm, L, rfl, HI.out.1.trans HSD.out.symm, HI.out.2.1, by rw [HI.out.1]; exact HGS.out _, HI.out.2.2⟩
theorem MapAt.len_run {w : World} {b : Nat} {L : List Ent} (h : MapAt rM w b L) (ty : TypeId) : (Builtin.len_ #[61] ty #[.map (some b)]).run Tryd.prog w = .ok (.int .i64 (L.length : Int)) w := by
  obtain ⟨_, _, D, h3, es, rfl, h4⟩ := h
  rw [h3.len Tryd.underlying61 ty]
  have := h4.length_eq
  rw [List.length_map] at this
  rw [← this]
  rfl
set_option maxRecDepth 100000 in
theorem rmay_c (q : Int) (hq : U64 q) (w : World) (hT : Tabs w) :
    Calls Tryd.prog 34 #[.int .u64 q] w fun e w' => e = .returned (.bool (primeV q)) ∧ Dr w w' := by
  have HP := hid (prime_c q hq w hT)
  obtain ⟨q1, q2⟩ := hq
  by_cases hhi : q ≤ 2305843009213693952
  · have hd2 : decide (q ≤ 2305843009213693952) = true := by simpa using hhi
    generalize primeV q = R at *
    go_enter Tryd.func34, Tryd.ntmps34
    go_wp2_with (fail)
    refine HP.out.mono ?_
    rintro e w2 ⟨rfl, hd⟩
    go_wp2
    go_ret
    exact ⟨rfl, hd⟩
  · have hd2 : decide (q ≤ 2305843009213693952) = false := by simpa using hhi
    have HR := hid (show primeV q = false by unfold primeV; rw [if_pos (.inr (by omega))])
    generalize primeV q = R at *
    go_enter Tryd.func34, Tryd.ntmps34
    go_wp2
    go_ret
    exact ⟨by rw [HR.out]; rfl, Dr.refl _⟩
/-- what is told of rows. -/
noncomputable def rankV (f : List (List Int)) (q : Int) : Nat := if primeV q then rankL q (iv q) f else 0
noncomputable def hangsV (f : List (List Int)) (row : List Int) (q : Int) : Bool := primeV q && hangsL q (iv q) f row
theorem okm_prime {q : Int} (h : primeV q = true) : okm q = true ∧ 2 ≤ q := by
  have := primeV_ge h
  exact ⟨okm_of (by omega) this.2, this.1⟩
set_option maxRecDepth 100000 in
theorem rank_c (A : Option Addr) (f : List (List Int)) (c : Nat) (q : Int) (w : World) (hA : Grid w A f) (hf : RowsOk f) (hq : U64 q) (hT : Tabs w) [DecidableEq Lit] :
    Calls Tryd.prog 18 #[.slice A f.length c, .int .u64 q] w fun e w' => e = .returned (.int .i64 (rankV f q)) ∧ Below w.heap.size w w' := by
  have HP := hid (rmay_c q hq w hT)
  cases hp : primeV q with
  | false =>
    rw [hp] at HP
    have HR := hid (show rankV f q = 0 by unfold rankV; rw [hp]; rfl)
    generalize rankV f q = R at *
    clear hp hA
    go_enter Tryd.func18, Tryd.ntmps18
    go_wp2_with (fail)
    refine HP.out.mono ?_
    rintro e w2 ⟨rfl, hd⟩
    go_wp2
    go_ret
    exact ⟨by rw [HR.out]; rfl, below_of_dr hd⟩
  | true =>
    rw [hp] at HP
    obtain ⟨h1, h2⟩ := okm_prime hp
    have HR := hid (show rankV f q = (spaceL q (iv q) (wideL f) f).length by unfold rankV; rw [hp]; rfl)
    generalize rankV f q = R at *
    have HO := hid (fun w' (hb : Below w.heap.size w w') => of_c A f c q w' (hA.below hb) hf h1 h2)
    clear hp hA hf h1 h2
    go_enter Tryd.func18, Tryd.ntmps18
    go_wp2_with (fail)
    refine HP.out.mono ?_
    rintro e w2 ⟨rfl, hd⟩
    have hb2 := below_of_dr hd (B := w.heap.size)
    have HC := hid (HO.out w2 hb2)
    clear HO hd HP
    go_wp2_with (fail)
    refine HC.out.mono ?_
    rintro e w3 ⟨gs, gm, L, rfl, he, hsp, _, hb3⟩
    have c2 := hsp.row.cell (k := 2) rfl
    have HLN := hid (show (L.length : Int) = (R : Int) by rw [HR.out, ← he]; simp)
    have hmap := hsp.map
    have hlr := hmap.len_run 3
    rw [HLN.out] at hlr
    clear he hsp HC hmap HLN
    go_wp2
    go_ret
    exact ⟨rfl, below_next hb2 hb2.size hb3⟩
set_option maxRecDepth 100000 in
theorem hangs_c (A : Option Addr) (f : List (List Int)) (c : Nat) (A2 : Option Addr) (row : List Int) (c2 : Nat) (q : Int) (w : World) (hA : Grid w A f) (hf : RowsOk f) (hA2 : Cells w A2 (u64v row)) (hrl : row.length ≤ 1000000) (hru : U64s row) (hq : U64 q) (hT : Tabs w) [DecidableEq Lit] :
    Calls Tryd.prog 29 #[.slice A f.length c, .slice A2 row.length c2, .int .u64 q] w fun e w' => e = .returned (.bool (hangsV f row q)) ∧ Below w.heap.size w w' := by
  have HP := hid (rmay_c q hq w hT)
  cases hp : primeV q with
  | false =>
    rw [hp] at HP
    have HR := hid (show hangsV f row q = false by unfold hangsV; rw [hp]; rfl)
    generalize hangsV f row q = R at *
    clear hp hA
    go_enter Tryd.func29, Tryd.ntmps29
    go_wp2_with (fail)
    refine HP.out.mono ?_
    rintro e w2 ⟨rfl, hd⟩
    go_wp2
    go_ret
    exact ⟨by rw [HR.out]; rfl, below_of_dr hd⟩
  | true =>
    rw [hp] at HP
    obtain ⟨h1, h2⟩ := okm_prime hp
    have HR := hid (show hangsV f row q = (firstL (leftL q (wideL f) (spaceL q (iv q) (wideL f) f) row)).isNone by unfold hangsV; rw [hp]; rfl)
    have hW := wideL_max hf.len
    generalize hangsV f row q = R at *
    have HO := hid (fun w' (hb : Below w.heap.size w w') => of_c A f c q w' (hA.below hb) hf h1 h2)
    have HA2 := hid hA2
    have HU := hid hru
    have HQ := hid h1
    obtain ⟨W, hWd⟩ : ∃ W, wideL f = W := ⟨_, rfl⟩
    rw [hWd] at HR HO hW
    generalize spaceL q (iv q) W f = SP at *
    clear hp hA hA2 hru hf h1 h2 hWd
    go_enter Tryd.func29, Tryd.ntmps29
    go_wp2_with (fail)
    refine HP.out.mono ?_
    rintro e w2 ⟨rfl, hd⟩
    have hb2 := below_of_dr hd (B := w.heap.size)
    have HC := hid (HO.out w2 hb2)
    clear HO hd HP
    go_wp2_with (fail)
    refine HC.out.mono ?_
    rintro e w3 ⟨gs, gm, L, rfl, he, hsp, hgd, hb3⟩
    have hb4 := below_next hb2 hb2.size hb3
    have HLF := hid (left_c w2.heap.size gs gm W q L A2 row c2 w3 hsp hgd (HA2.out.below hb4) HQ.out HU.out (by omega) (by omega))
    rw [he] at HLF
    clear hsp hgd HC hb3 he
    generalize leftL q W SP row = o at *
    cases hf : firstL o with
    | none =>
      have hfi : firstI o = -1 := by unfold firstI; rw [hf]
      have HR2 := hid (show R = true by rw [HR.out, hf]; rfl)
      rw [hfi] at HLF
      clear hf hfi HR
      go_wp2_with (fail)
      refine HLF.out.mono ?_
      rintro e w5 ⟨b, rfl, _, _, hb5⟩
      go_wp2
      go_ret
      exact ⟨by rw [HR2.out]; rfl, below_next hb4 hb4.size hb5⟩
    | some k =>
      have hfi : firstI o = (k : Int) := by unfold firstI; rw [hf]
      have HR2 := hid (show R = false by rw [HR.out, hf]; rfl)
      rw [hfi] at HLF
      clear hf hfi HR
      go_wp2_with (fail)
      refine HLF.out.mono ?_
      rintro e w5 ⟨b, rfl, _, _, hb5⟩
      go_wp2
      go_ret
      exact ⟨by rw [HR2.out]; rfl, below_next hb4 hb4.size hb5⟩
end Go.Proofs.YtpdgalclnlbeaaaDoor
end
