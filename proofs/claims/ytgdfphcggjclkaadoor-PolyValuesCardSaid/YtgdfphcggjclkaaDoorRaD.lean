/-
  The rank of rows, and whether a row hangs on them: the program's.
-/
import Derived.Test.YtgdfphcggjclkaaDoorRaC
namespace Go.Proofs.YtgdfphcggjclkaaDoor
open Go Go.RowKit Go.Maps Go.Shelf Go.Proofs

/-- a value that reads as a list of uint64s. -/
def RowV (w : World) (v : Value) (l : List Int) : Prop := ∃ A c, v = .slice A l.length c ∧ Cells w A (l.map (.int .u64)) ∧ l.length ≤ 9223372036854775807
theorem RowV.keep {w w' : World} {v : Value} {l : List Int} (h : RowV w v l) (hk : ∀ p : Addr, p.block < w.heap.size → w'.cell? p = w.cell? p) : RowV w' v l := by
  obtain ⟨A, c, rfl, h1, h2⟩ := h
  exact ⟨A, c, rfl, h1.keep hk, h2⟩
/-- the slice at A reads as these lists. -/
def Grid (w : World) (A : Option Addr) (f : List (List Int)) : Prop :=
  ∃ vs : List Value, Cells w A vs ∧ vs.length = f.length ∧ ∀ (i : Nat) (l : List Int), f[i]? = some l → ∃ v, vs[i]? = some v ∧ RowV w v l
theorem Grid.keep {w w' : World} {A : Option Addr} {f : List (List Int)} (h : Grid w A f) (hk : ∀ p : Addr, p.block < w.heap.size → w'.cell? p = w.cell? p) : Grid w' A f := by
  obtain ⟨vs, h1, h2, h3⟩ := h
  exact ⟨vs, h1.keep hk, h2, fun i l hl => let ⟨v, a, b⟩ := h3 i l hl; ⟨v, a, b.keep hk⟩⟩
theorem Grid.below {w w' : World} {A : Option Addr} {f : List (List Int)} (h : Grid w A f) (hb : Below w.heap.size w w') : Grid w' A f := h.keep fun _ hp => hb.cell hp
theorem Grid.dr {w w' : World} {A : Option Addr} {f : List (List Int)} (h : Grid w A f) (hd : Dr w w') : Grid w' A f := by
  obtain ⟨n, rfl⟩ := hd; exact h
theorem Grid.at_ {w : World} {A : Option Addr} {f : List (List Int)} (h : Grid w A f) {k : Nat} {l : List Int} (hk : f[k]? = some l) :
    ∃ b off A' c, A = some ⟨b, off, none⟩ ∧ w.cell? ⟨b, off + k, none⟩ = some (.slice A' l.length c) ∧ Cells w A' (l.map (.int .u64)) ∧ l.length ≤ 9223372036854775807 := by
  obtain ⟨vs, h1, h2, h3⟩ := h
  obtain ⟨v, hv, A', c, rfl, hc, hl⟩ := h3 k l hk
  obtain ⟨b, off, rfl, hcell⟩ := h1.at_ hv
  exact ⟨b, off, A', c, rfl, hcell, hc, hl⟩


theorem take_snocR {α : Type} {l : List α} {k : Nat} {x : α} (h : l[k]? = some x) : l.take (k + 1) = l.take k ++ [x] := by
  rw [List.take_add_one, h]; rfl
theorem wideL_take {f : List (List Int)} {k : Nat} {l : List Int} (h : f[k]? = some l) : wideL (f.take (k + 1)) = max (wideL (f.take k)) l.length := by
  rw [take_snocR h]; unfold wideL; rw [List.foldl_append]; rfl
theorem wideL_max {f : List (List Int)} {m : Nat} (hf : ∀ l ∈ f, l.length ≤ m) : wideL f ≤ m := by
  have key : ∀ (f : List (List Int)) (n : Nat), (∀ l ∈ f, l.length ≤ m) → n ≤ m → f.foldl (fun n l => max n l.length) n ≤ m := by
    intro f
    induction f with
    | nil => intro n _ h; exact h
    | cons a f ih =>
      intro n hf h
      exact ih _ (fun l hl => hf l (List.mem_cons_of_mem _ hl)) (Nat.max_le.2 ⟨h, hf a (List.mem_cons_self ..)⟩)
  exact key f 0 hf (Nat.zero_le _)
/-- rows of numbers, none too long. -/
structure RowsOk (f : List (List Int)) : Prop where
  few : f.length ≤ 1000000
  len : ∀ l ∈ f, l.length ≤ 1000000
  u : ∀ l ∈ f, U64s l
noncomputable abbrev iv (q : Int) : Int → Int := fun x => iVal x q
set_option maxRecDepth 100000 in
set_option maxHeartbeats 4000000 in
theorem of_c (A : Option Addr) (f : List (List Int)) (c : Nat) (q : Int) (w : World) (hA : Grid w A f) (hf : RowsOk f) (hq : okm q = true) (h2 : 2 ≤ q) [DecidableEq Lit] :
    Calls Tryd.prog 74 #[.slice A f.length c, .int .u64 q] w fun e w' => ∃ gs gm L, e = .returned (.pointer (some ⟨gs, 0, none⟩)) ∧ ens L = spaceL q (iv q) (wideL f) f ∧ SpAt w' w.heap.size gs gm (wideL f) q L ∧ GoodS q (wideL f) (ens L) ∧ Below w.heap.size w w' := by
  have HA := hid hA
  have HF := hid hf
  have HQ := hid hq
  have hq1 := okm_pos hq
  have hq2 := okm_le hq
  have hfl := hf.few
  have HI0 := hid (inv_of hq h2)
  have hmm := @run_makeMap Tryd.prog
  obtain ⟨W, hWd⟩ : ∃ W, wideL f = W := ⟨_, rfl⟩
  have HWF := hid hWd
  have hW : W ≤ 1000000 := by rw [← hWd]; exact wideL_max hf.len
  have HWL := hid (wideL_le f)
  have HGS := hid (fun (k : Nat) => space_good hq1 HI0.out (W := wideL f) (f.take k) [] (GoodS.nil q (wideL f)) fun r hr => wideL_le f r (List.mem_of_mem_take hr))
  have HSD := hid (show spaceL q (iv q) (wideL f) f = (f.take f.length).foldl (putL q (iv q) (wideL f)) [] by rw [List.take_length]; rfl)
  rw [hWd] at HWL HGS HSD ⊢
  generalize spaceL q (iv q) W f = SP at *
  clear hA hf hq hWd
  have HR0 := hid (show Row1 ((w.alloc (.map #[] 0)).alloc (.cells #[.int .u64 q, .int .i64 0, .map (some w.heap.size)] 84)) (w.heap.size + 1) 84 (spV q 0 w.heap.size) by
    show Row1 _ _ _ [.int .u64 q, .int .i64 0, .map (some w.heap.size)]
    have := row1_new (w.alloc (.map #[] 0)) [.int .u64 q, .int .i64 0, .map (some w.heap.size)] 84
    simpa using this)
  have HM0 := hid (show MapAt rM ((w.alloc (.map #[] 0)).alloc (.cells #[.int .u64 q, .int .i64 0, .map (some w.heap.size)] 84)) w.heap.size [] from (mapAt_made w).alloc _)
  have HB0 := hid (show Below w.heap.size w ((w.alloc (.map #[] 0)).alloc (.cells #[.int .u64 q, .int .i64 0, .map (some w.heap.size)] 84)) from (below_alloc w _).alloc (by simp) _)
  go_enter Tryd.func74, Tryd.ntmps74
  go_wp2
  generalize (w.alloc (.map #[] 0)).alloc (.cells #[.int .u64 q, .int .i64 0, .map (some w.heap.size)] 84) = w1 at *
  obtain ⟨gs, hgs⟩ : ∃ g, w.heap.size + 1 = g := ⟨_, rfl⟩
  obtain ⟨gm, hgm⟩ : ∃ g, w.heap.size = g := ⟨_, rfl⟩
  have hbase : w.heap.size ≤ gs ∧ w.heap.size ≤ gm ∧ gs ≠ gm := by omega
  rw [hgs, hgm] at HR0
  rw [hgm] at HM0
  rw [hgs, hgm]
  clear hgs hgm hmm
  go_loopw [16] (fun i wr => ∃ k : Nat, i = .int .i64 (k : Int) ∧ k ≤ f.length ∧ Hid (Row1 wr gs 84 (spV q (wideL (f.take k)) gm) ∧ MapAt rM wr gm [] ∧ Below w.heap.size w wr)) (fun i _ => f.length - (intOf i).toNat)
  case atStart => exact ⟨0, rfl, by omega, hid ⟨HR0.out, HM0.out, HB0.out⟩⟩
  case round =>
    obtain ⟨k, rfl, hk, HI⟩ := hrel
    by_cases hlt : k < f.length
    · obtain ⟨l, hl⟩ := get_of_lt hlt
      obtain ⟨bb, off, A', cc, rfl, c0, _, _⟩ := (HA.out.below HI.out.2.2).at_ hl
      have hll := HF.out.len l (List.mem_of_getElem? hl)
      have hrow := HI.out.1
      have c1 := hrow.cell (k := 1) rfl
      have hfz := hrow.frozen 1
      have HWT := hid (wideL_take hl)
      have hwle : wideL (f.take k) ≤ 1000000 := wideL_max fun x hx => HF.out.len x (List.mem_of_mem_take hx)
      obtain ⟨wk, hwk⟩ : ∃ n, wideL (f.take k) = n := ⟨_, rfl⟩
      obtain ⟨wn, hwn⟩ : ∃ n, max wk l.length = n := ⟨_, rfl⟩
      rw [hwk] at c1 HWT hwle
      have hmax : max (wk : Int) (l.length : Int) = (wn : Int) := by omega
      have HRN := hid (show Row1 (wr.setCell ⟨gs, 1, none⟩ (.int .i64 (wn : Int))) gs 84 (spV q (wideL (f.take (k + 1))) gm) by
        rw [HWT.out, hwn]
        exact hrow.set 1 _)
      have HMN := hid (HI.out.2.1.far (p := ⟨gs, 1, none⟩) hbase.2.2 (.int .i64 (wn : Int)))
      have HBN := hid (below_set (k := 1) (u := .int .i64 (wn : Int)) HI.out.2.2 hbase.1)
      clear hrow hl HI HWT hwk hwn
      go_wp2
      go_roundw
      case rel => exact ⟨k + 1, by go_num, by omega, hid ⟨HRN.out, HMN.out, HBN.out⟩⟩
      case measure => simp [intOf]; omega
    · obtain rfl : k = f.length := by omega
      rw [List.take_length, HWF.out] at HI
      have HSP := hid (show SpAt wr w.heap.size gs gm W q [] from ⟨HI.out.1, HI.out.2.1, (fun e h => by cases h), .nil, hbase.1, hbase.2.1, fun e h => by cases h⟩)
      have HBB := hid HI.out.2.2
      clear HI hlt hk HR0 HM0 HB0
      go_wp2
      generalize wr = wo at *
      go_loopw [33] (fun i wr => ∃ (k : Nat) (L : List Ent), i = .int .i64 (k : Int) ∧ k ≤ f.length ∧ Hid (ens L = (f.take k).foldl (putL q (iv q) W) [] ∧ SpAt wr w.heap.size gs gm W q L ∧ Below w.heap.size w wr)) (fun i _ => f.length - (intOf i).toNat)
      case atStart => exact ⟨0, [], rfl, by omega, hid ⟨rfl, HSP.out, HBB.out⟩⟩
      case round =>
        obtain ⟨k, L, rfl, hk, HI⟩ := hrel
        by_cases hlt : k < f.length
        · obtain ⟨l, hl⟩ := get_of_lt hlt
          obtain ⟨bb, off, A', cc, rfl, c0, hcl, _⟩ := (HA.out.below HI.out.2.2).at_ hl
          have HP := hid (put_c w.heap.size gs gm W q L A' l cc wr HI.out.2.1 (by rw [HI.out.1]; exact HGS.out k) hcl HQ.out (HF.out.u l (List.mem_of_getElem? hl)) (HWL.out l (List.mem_of_getElem? hl)) (by omega) HI.out.2.2.size)
          have HT := hid (show (f.take (k + 1)).foldl (putL q (iv q) W) [] = putL q (iv q) W (ens L) l by rw [take_snocR hl, List.foldl_append, ← HI.out.1]; rfl)
          have HBW := hid HI.out.2.2
          clear hl hcl HI
          go_wp2_with (fail)
          refine HP.out.mono ?_
          rintro e w3 ⟨rfl, L', he, hsp, hb3⟩
          have HN := hid (show ens L' = (f.take (k + 1)).foldl (putL q (iv q) W) [] ∧ SpAt w3 w.heap.size gs gm W q L' ∧ Below w.heap.size w w3 from ⟨he.trans HT.out.symm, hsp, HBW.out.trans hb3⟩)
          clear he hsp hb3 HP HBW
          go_wp2
          go_roundw
          case rel => exact ⟨k + 1, L', by go_num, by omega, HN⟩
          case measure => simp [intOf]; omega
        · obtain rfl : k = f.length := by omega
          go_wp2
          go_ret
          exact ⟨gs, gm, L, rfl, HI.out.1.trans HSD.out.symm, HI.out.2.1, by rw [HI.out.1]; exact HGS.out _, HI.out.2.2⟩
theorem MapAt.len_run {w : World} {b : Nat} {L : List Ent} (h : MapAt rM w b L) (ty : TypeId) : (Builtin.len_ #[82] ty #[.map (some b)]).run Tryd.prog w = .ok (.int .i64 (L.length : Int)) w := by
  obtain ⟨_, _, D, h3, es, rfl, h4⟩ := h
  rw [h3.len Tryd.underlying82 ty]
  have := h4.length_eq
  rw [List.length_map] at this
  rw [← this]
  rfl
set_option maxRecDepth 100000 in
theorem rmay_c (q : Int) (hq : U64 q) (w : World) (hT : Tabs w) :
    Calls Tryd.prog 73 #[.int .u64 q] w fun e w' => e = .returned (.bool (primeV q)) ∧ Dr w w' := by
  have HP := hid (prime_c q hq w hT)
  obtain ⟨q1, q2⟩ := hq
  by_cases hhi : q ≤ 2305843009213693952
  · have hd2 : decide (q ≤ 2305843009213693952) = true := by simpa using hhi
    generalize primeV q = R at *
    go_enter Tryd.func73, Tryd.ntmps73
    go_wp2_with (fail)
    refine HP.out.mono ?_
    rintro e w2 ⟨rfl, hd⟩
    go_wp2
    go_ret
    exact ⟨rfl, hd⟩
  · have hd2 : decide (q ≤ 2305843009213693952) = false := by simpa using hhi
    have HR := hid (show primeV q = false by unfold primeV; rw [if_pos (.inr (by omega))])
    generalize primeV q = R at *
    go_enter Tryd.func73, Tryd.ntmps73
    go_wp2
    go_ret
    exact ⟨by rw [HR.out]; rfl, Dr.refl _⟩
/-- what is told of rows. -/
noncomputable def rankV (f : List (List Int)) (q : Int) : Nat := if primeV q then rankL q (iv q) f else 0
noncomputable def hangsV (f : List (List Int)) (row : List Int) (q : Int) : Bool := primeV q && hangsL q (iv q) f row
theorem okm_prime {q : Int} (h : primeV q = true) : okm q = true ∧ 2 ≤ q := by
  have := primeV_ge h
  exact ⟨okm_of (by omega) this.2, this.1⟩
set_option maxRecDepth 100000 in
theorem rank_c (A : Option Addr) (f : List (List Int)) (c : Nat) (q : Int) (w : World) (hA : Grid w A f) (hf : RowsOk f) (hq : U64 q) (hT : Tabs w) [DecidableEq Lit] :
    Calls Tryd.prog 44 #[.slice A f.length c, .int .u64 q] w fun e w' => e = .returned (.int .i64 (rankV f q)) ∧ Below w.heap.size w w' := by
  have HP := hid (rmay_c q hq w hT)
  cases hp : primeV q with
  | false =>
    rw [hp] at HP
    have HR := hid (show rankV f q = 0 by unfold rankV; rw [hp]; rfl)
    generalize rankV f q = R at *
    clear hp hA
    go_enter Tryd.func44, Tryd.ntmps44
    go_wp2_with (fail)
    refine HP.out.mono ?_
    rintro e w2 ⟨rfl, hd⟩
    go_wp2
    go_ret
    exact ⟨by rw [HR.out]; rfl, below_of_dr hd⟩
  | true =>
    rw [hp] at HP
    obtain ⟨h1, h2⟩ := okm_prime hp
    have HR := hid (show rankV f q = (spaceL q (iv q) (wideL f) f).length by unfold rankV; rw [hp]; rfl)
    generalize rankV f q = R at *
    have HO := hid (fun w' (hb : Below w.heap.size w w') => of_c A f c q w' (hA.below hb) hf h1 h2)
    clear hp hA hf h1 h2
    go_enter Tryd.func44, Tryd.ntmps44
    go_wp2_with (fail)
    refine HP.out.mono ?_
    rintro e w2 ⟨rfl, hd⟩
    have hb2 := below_of_dr hd (B := w.heap.size)
    have HC := hid (HO.out w2 hb2)
    clear HO hd HP
    go_wp2_with (fail)
    refine HC.out.mono ?_
    rintro e w3 ⟨gs, gm, L, rfl, he, hsp, _, hb3⟩
    have c2 := hsp.row.cell (k := 2) rfl
    have HLN := hid (show (L.length : Int) = (R : Int) by rw [HR.out, ← he]; simp)
    have hmap := hsp.map
    have hlr := hmap.len_run 3
    rw [HLN.out] at hlr
    clear he hsp HC hmap HLN
    go_wp2
    go_ret
    exact ⟨rfl, below_next hb2 hb2.size hb3⟩
set_option maxRecDepth 100000 in
theorem hangs_c (A : Option Addr) (f : List (List Int)) (c : Nat) (A2 : Option Addr) (row : List Int) (c2 : Nat) (q : Int) (w : World) (hA : Grid w A f) (hf : RowsOk f) (hA2 : Cells w A2 (u64v row)) (hrl : row.length ≤ 1000000) (hru : U64s row) (hq : U64 q) (hT : Tabs w) [DecidableEq Lit] :
    Calls Tryd.prog 46 #[.slice A f.length c, .slice A2 row.length c2, .int .u64 q] w fun e w' => e = .returned (.bool (hangsV f row q)) ∧ Below w.heap.size w w' := by
  have HP := hid (rmay_c q hq w hT)
  cases hp : primeV q with
  | false =>
    rw [hp] at HP
    have HR := hid (show hangsV f row q = false by unfold hangsV; rw [hp]; rfl)
    generalize hangsV f row q = R at *
    clear hp hA
    go_enter Tryd.func46, Tryd.ntmps46
    go_wp2_with (fail)
    refine HP.out.mono ?_
    rintro e w2 ⟨rfl, hd⟩
    go_wp2
    go_ret
    exact ⟨by rw [HR.out]; rfl, below_of_dr hd⟩
  | true =>
    rw [hp] at HP
    obtain ⟨h1, h2⟩ := okm_prime hp
    have HR := hid (show hangsV f row q = (firstL (leftL q (wideL f) (spaceL q (iv q) (wideL f) f) row)).isNone by unfold hangsV; rw [hp]; rfl)
    have hW := wideL_max hf.len
    generalize hangsV f row q = R at *
    have HO := hid (fun w' (hb : Below w.heap.size w w') => of_c A f c q w' (hA.below hb) hf h1 h2)
    have HA2 := hid hA2
    have HU := hid hru
    have HQ := hid h1
    obtain ⟨W, hWd⟩ : ∃ W, wideL f = W := ⟨_, rfl⟩
    rw [hWd] at HR HO hW
    generalize spaceL q (iv q) W f = SP at *
    clear hp hA hA2 hru hf h1 h2 hWd
    go_enter Tryd.func46, Tryd.ntmps46
    go_wp2_with (fail)
    refine HP.out.mono ?_
    rintro e w2 ⟨rfl, hd⟩
    have hb2 := below_of_dr hd (B := w.heap.size)
    have HC := hid (HO.out w2 hb2)
    clear HO hd HP
    go_wp2_with (fail)
    refine HC.out.mono ?_
    rintro e w3 ⟨gs, gm, L, rfl, he, hsp, hgd, hb3⟩
    have hb4 := below_next hb2 hb2.size hb3
    have HLF := hid (left_c w2.heap.size gs gm W q L A2 row c2 w3 hsp hgd (HA2.out.below hb4) HQ.out HU.out (by omega) (by omega))
    rw [he] at HLF
    clear hsp hgd HC hb3 he
    generalize leftL q W SP row = o at *
    cases hf : firstL o with
    | none =>
      have hfi : firstI o = -1 := by unfold firstI; rw [hf]
      have HR2 := hid (show R = true by rw [HR.out, hf]; rfl)
      rw [hfi] at HLF
      clear hf hfi HR
      go_wp2_with (fail)
      refine HLF.out.mono ?_
      rintro e w5 ⟨b, rfl, _, _, hb5⟩
      go_wp2
      go_ret
      exact ⟨by rw [HR2.out]; rfl, below_next hb4 hb4.size hb5⟩
    | some k =>
      have hfi : firstI o = (k : Int) := by unfold firstI; rw [hf]
      have HR2 := hid (show R = false by rw [HR.out, hf]; rfl)
      rw [hfi] at HLF
      clear hf hfi HR
      go_wp2_with (fail)
      refine HLF.out.mono ?_
      rintro e w5 ⟨b, rfl, _, _, hb5⟩
      go_wp2
      go_ret
      exact ⟨by rw [HR2.out]; rfl, below_next hb4 hb4.size hb5⟩
end Go.Proofs.YtgdfphcggjclkaaDoor
