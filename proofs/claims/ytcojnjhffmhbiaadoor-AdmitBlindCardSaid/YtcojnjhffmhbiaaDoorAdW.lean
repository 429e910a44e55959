/-
  Parts of Core, Tab, RaE, ScA: equations solved; a product with a query.
-/
import Derived.Test.YtcojnjhffmhbiaaDoorAdmQ1
import Derived.Test.YtcojnjhffmhbiaaDoorAdmQ2
import Derived.Test.YtcojnjhffmhbiaaDoorAdmQ3
import Derived.Test.YtcojnjhffmhbiaaDoorAdmQ4
import Derived.Test.YtcojnjhffmhbiaaDoorAdmQ5
import Derived.Test.YtcojnjhffmhbiaaDoorAdmQ6
import Derived.Test.YtcojnjhffmhbiaaDoorAdmQ7
import Derived.Test.YtcojnjhffmhbiaaDoorAdmQ8
import Derived.Test.YtcojnjhffmhbiaaDoorAdmQ9
import Derived.Test.YtcojnjhffmhbiaaDoorAdP
import Derived.WalkKit
import Derived.WalkSpells
import Derived.WalkLawsBesides
import Derived.Deep.QuietTactic
import Derived.Deep.Upon
import Derived.BigQuiet
import Derived.OwnWalk
import Derived.Maps.AppendAt
import Derived.Maps.RangeWalk
import Derived.Maps.OwnOps
import Derived.Maps.OwnSet
import Derived.Maps.Views
import Derived.Maps.Keyed
import Derived.Shelf.Small.Bits
import Derived.Shelf.Strconv.Itoa0
import Derived.Shelf.Bits.Mul64
import Derived.Shelf.Spec.TrailingZeros
import Derived.Shelf.Lays7
import Derived.Lib.BitFns
import Derived.Lib.ItoaNum
import Derived.Laws.BitsAllLaws
import Derived.Deep.LoopGhost
import Derived.Orders
import Derived.NoCompiler
import Derived.Laws.CopyOwn
import Derived.Laws.EntriesVeiled
import Derived.Deep.Cut
import Derived.RangeFuncNested
import Derived.RangeFuncBound
import Derived.RangeFuncCalls
import Derived.RangeFuncLeaves
import Derived.RangeFuncFrom
import Derived.StillTailTactics
import Derived.Laws.AppendOwnNone
section
namespace Go.Proofs.YtcojnjhffmhbiaaDoor
open Go.RowKit
section
variable {w w' : World} {base : Nat} {e : TypeId} {v : Value} {xs : List Value}
end
section
variable {w w' : World} {g : Nat} {e : TypeId} {xs : List Value}
end
section
variable {w w' : World} {e e0 : TypeId} {v v0 : Value} {xs ys : List Value} {base : Nat}
end
section
variable {w w' : World} {e e0 : TypeId} {v v' : Value} {f : List (List Value)} {base : Nat}
end
theorem quiet_dr {P : Program} {f : FuncId} {args : Array Value} {w : World} {n : Nat} {v : Value}
    (h : Calls P f args (w.drewN n) fun e w' => e = .returned v ∧ Dr (w.drewN n) w') : Calls P f args (w.drewN n) fun e w'' => e = .returned v ∧ ∃ m, w'' = w.drewN m :=
  h.mono fun _ _ ⟨he, m, hm⟩ => ⟨he, n + m, by rw [hm, World.drewN_drewN]⟩
end Go.Proofs.YtcojnjhffmhbiaaDoor
end

section
namespace Go.Proofs.YtcojnjhffmhbiaaDoor
open Go.RowKit Go.Maps Go.WideElems Go.ChangeMaps Go.MapKept Go.WideShapes
section
variable {P : Program} {k : TypeId} {α H : Type} (M : MK P k α H)
variable {M} {w w' : World} {b : Nat} {L : List α}
end
section
variable {P : Program} {k : TypeId} {α H : Type} {M : MK P k α H} (w : World) {ops : Array Oper} {rest : List Oper} {o : Oper} {a : Act} {Q : Exit → Act → World → Prop} {b : Nat} {L : List α}
theorem wpList_look_tab (hg : o.guard = none) (m x : Operand) (t : TypeId) (c : Bool) (hop : o.op = Op.lookup t m x c) (e : TypeId) (ht : P.underlying t = some (.map k e)) {z : Value} (hz : (zeroValue e).run P w = .ok z w) (hm : a.eval m = .map (some b)) (h : MapAt M w b L)
    {kv : Value} {kl : Lit} (hx : a.eval x = kv) (hkey : keyOf P k kv = some kl)
    (hNo : (∀ u ∈ L, M.key u ≠ kl) → wpList P ops Q rest (a.put o.dst (if c then .tuple #[z, .bool false] else z)) w)
    (hYes : ∀ u ∈ L, M.key u = kl → wpList P ops Q rest (a.put o.dst (if c then .tuple #[M.val u, .bool true] else M.val u)) w) :
    wpList P ops Q (o :: rest) a w := by
  refine wpList_plain hg fun K' hK' => ?_
  unfold Oper.wp
  rcases h.look c ht hz hkey with ⟨h0, hrun⟩ | ⟨u, hu, he, hrun⟩
  · simp only [execOp, hop, hm, hx, hrun, Sem.run_bind, Sem.run_pure, Result.andThen]
    exact hK' _ _ (hNo h0)
  · simp only [execOp, hop, hm, hx, hrun, Sem.run_bind, Sem.run_pure, Result.andThen]
    exact hK' _ _ (hYes u hu he)
end
end Go.Proofs.YtcojnjhffmhbiaaDoor
end

section
namespace Go.Proofs.YtcojnjhffmhbiaaDoor
open Go Go.RowKit Go.Maps Go.Shelf Go.Proofs
/-- a row with its right behind. -/
def withR (W : Nat) (row : List Int) (x : Int) : List Int := tabL (W + 1) fun j => if j = W then x else nth row j
def allR (W : Nat) (f : List (List Int)) (right : List Int) (k : Nat) : List (List Int) := (List.range k).map fun i => withR W (f.getD i []) (nth right i)
theorem allR_succ (W : Nat) (f : List (List Int)) (right : List Int) (k : Nat) : allR W f right (k + 1) = allR W f right k ++ [withR W (f.getD k []) (nth right k)] := by simp [allR, List.range_succ]
theorem allR_len (W : Nat) (f : List (List Int)) (right : List Int) (k : Nat) : (allR W f right k).length = k := by simp [allR]
theorem withR_len (W : Nat) (row : List Int) (x : Int) : (withR W row x).length = W + 1 := tabL_len ..
/-- what stands in the last place of the row that begins at j. -/
def valAt (S : List En) (W j : Nat) : Int := ((S.find? fun p => decide (p.at_ = j)).map fun p => nth p.row W).getD 0
theorem valAt_of {S : List En} {W : Nat} (h : S.Pairwise fun p p' => p.at_ ≠ p'.at_) {p : En} (hp : p ∈ S) : valAt S W p.at_ = nth p.row W := by
  unfold valAt
  cases hf : S.find? fun p' => decide (p'.at_ = p.at_) with
  | none =>
    rw [List.find?_eq_none] at hf
    exact absurd (hf p hp) (by simp)
  | some p' =>
    have h1 := List.mem_of_find?_eq_some hf
    have h2 := List.find?_some hf
    have : p' = p := key_one h h1 hp (by simpa using h2)
    rw [this]; rfl
theorem valAt_no {S : List En} {W j : Nat} (h : ∀ p ∈ S, p.at_ ≠ j) : valAt S W j = 0 := by
  unfold valAt
  rw [List.find?_eq_none.2 fun p hp => by simpa using h p hp]; rfl
theorem valAt_perm {S S' : List En} {W : Nat} (h : S.Pairwise fun p p' => p.at_ ≠ p'.at_) (hp : S.Perm S') (j : Nat) : valAt S W j = valAt S' W j := by
  have h' := (hp.pairwise_iff fun {_ _} hne => Ne.symm hne).1 h
  by_cases he : ∃ p ∈ S, p.at_ = j
  · obtain ⟨p, hp1, rfl⟩ := he
    rw [valAt_of h hp1, valAt_of h' (hp.mem_iff.1 hp1)]
  · have h1 : ∀ p ∈ S, p.at_ ≠ j := fun p hp1 e => he ⟨p, hp1, e⟩
    rw [valAt_no h1, valAt_no fun p hp1 => h1 p (hp.mem_iff.2 hp1)]
theorem valAt_snoc {S : List En} {W : Nat} {x : En} (h : ∀ p ∈ S, p.at_ ≠ x.at_) (j : Nat) : valAt (S ++ [x]) W j = if j = x.at_ then nth x.row W else valAt S W j := by
  unfold valAt
  rw [List.find?_append]
  by_cases hj : j = x.at_
  · subst hj
    rw [if_pos rfl, List.find?_eq_none.2 fun p hp => by simpa using h p hp]
    simp
  · rw [if_neg hj]
    cases S.find? fun p => decide (p.at_ = j) with
    | some p => rfl
    | none =>
      have : decide (x.at_ = j) = false := by simpa using Ne.symm hj
      simp [this]
/-- what is told of equations. -/
noncomputable def solveS (f : List (List Int)) (right : List Int) (q : Int) : List En := spaceL q (iv q) (wideL (allR (wideL f) f right f.length)) (allR (wideL f) f right f.length)
open Classical in
noncomputable def solveV (f : List (List Int)) (right : List Int) (q : Int) : List Int × Int :=
  if primeV q = true ∧ right.length ≤ f.length then (if ∃ p ∈ solveS f right q, p.at_ = wideL f then ([], 5) else (tabL (wideL f) (valAt (solveS f right q) (wideL f)), 0)) else ([], 1)
/-- numbers of this call's own are told. -/
def NumsE (xs : List Int) (en : Int) (w : World) (e : Ending) (w' : World) : Prop := ∃ v, e = .returned (.tuple #[v, .int .i64 en]) ∧ Own w' w.heap.size 24 v (u64v xs) ∧ Below w.heap.size w w'
theorem withR_set {W : Nat} {l : List Int} {x : Int} : (u64v (tabL (W + 1) (nth l))).set W (.int .u64 x) = u64v (withR W l x) := by
  unfold withR
  have := tabL_set (n := W + 1) (f := nth l) (g := fun j => if j = W then x else nth l j) (k := W) fun j hj => by simp only [if_neg hj]
  simpa using this
theorem withR_none {W : Nat} {l : List Int} {x : Int} (h : l.length ≤ W) (hx : x = 0) : tabL (W + 1) (nth l) = withR W l x := by
  unfold withR
  refine tabL_congr fun j _ => ?_
  by_cases hj : j = W
  · rw [if_pos hj, hx, hj, nth_ge h]
  · rw [if_neg hj]
theorem wideL_same {m : Nat} : ∀ {f : List (List Int)}, (∀ l ∈ f, l.length = m) → f ≠ [] → wideL f = m
  | [], _, h => absurd rfl h
  | l :: f, hf, _ => by
    have h1 : wideL (l :: f) ≤ m := wideL_max fun x hx => Nat.le_of_eq (hf x hx)
    have h2 := wideL_le (l :: f) l (List.mem_cons_self ..)
    have h3 := hf l (List.mem_cons_self ..)
    omega
theorem allR_mem {W : Nat} {f : List (List Int)} {right : List Int} {n : Nat} {l : List Int} (h : l ∈ allR W f right n) : ∃ i, i < n ∧ l = withR W (f.getD i []) (nth right i) := by
  unfold allR at h
  obtain ⟨i, hi, rfl⟩ := List.mem_map.1 h
  exact ⟨i, List.mem_range.1 hi, rfl⟩
theorem allR_ok {W : Nat} {f : List (List Int)} {right : List Int} (hW : W ≤ 100000) (hn : f.length ≤ 1000000) (hf : ∀ l ∈ f, U64s l) (hr : U64s right) : RowsOk (allR W f right f.length) where
  few := by rw [allR_len]; exact hn
  len l hl := by
    obtain ⟨i, _, rfl⟩ := allR_mem hl
    rw [withR_len]; omega
  u l hl := by
    obtain ⟨i, hi, rfl⟩ := allR_mem hl
    intro z hz
    unfold withR tabL at hz
    obtain ⟨j, _, rfl⟩ := List.mem_map.1 hz
    have hm : f.getD i [] ∈ f := by rw [List.getD_eq_getElem?_getD, List.getElem?_eq_getElem hi]; exact List.getElem_mem ..
    have h1 := (hf _ hm).nth j
    have h2 := hr.nth i
    show U64 (if j = W then nth right i else nth (f.getD i []) j)
    by_cases e : j = W
    · rw [if_pos e]; exact h2
    · rw [if_neg e]; exact h1
theorem wpList_look_rk (w : World) {ops : Array Oper} {rest : List Oper} {o : Oper} {a : Act} {Q : Exit → Act → World → Prop} {b : Nat} {L : List Ent} (hg : o.guard = none) (m x : Operand) (hop : o.op = Op.lookup 94 m x true) (hm : a.eval m = .map (some b)) (h : MapAt rM w b L)
    {j : Nat} (hx : a.eval x = .int .i64 (j : Int)) (hj : j ≤ 1000000)
    (hNo : Hid (∀ u ∈ L, u.en.at_ ≠ j) → wpList Tryd.prog ops Q rest (a.put o.dst (.tuple #[.slice none 0 0, .bool false])) w)
    (hYes : ∀ u ∈ L, Hid (u.en.at_ = j) → wpList Tryd.prog ops Q rest (a.put o.dst (.tuple #[entS u, .bool true])) w) :
    wpList Tryd.prog ops Q (o :: rest) a w := by
  refine wpList_look_tab w hg m x 94 true hop 23 Tryd.underlying94 (Tryd.zeroValue23 _) hm h hx (keyOf_int_mk Tryd.underlying3 (wf_i64 (show I64 (j : Int) from ⟨by omega, by omega⟩))) (fun hno => ?_) (fun u hu he => ?_)
  · exact hNo (hid fun u hu e => hno u hu (by show Lit.int .i64 (u.en.at_ : Int) = Lit.int .i64 (j : Int); rw [e]))
  · have he : Lit.int .i64 (u.en.at_ : Int) = Lit.int .i64 (j : Int) := he
    injection he with _ he
    exact hYes u hu (hid (by omega))
theorem zeros_val (W W' : Nat) : List.replicate W (Value.int .u64 0) = u64v (tabL W (valAt [] W')) := by
  apply List.ext_getElem
  · simp [tabL]
  · intro i h1 h2
    simp [tabL, valAt]
set_option maxRecDepth 100000 in
set_option maxHeartbeats 4000000 in
theorem solve_c (A : Option Addr) (f : List (List Int)) (c : Nat) (A2 : Option Addr) (right : List Int) (c2 : Nat) (q : Int) (w : World) (hA : Grid w A f) (hf : RowsOk f) (hA2 : Cells w A2 (u64v right)) (_hrl : right.length ≤ 1000000) (hru : U64s right) (hq : U64 q) (hT : Tabs w) (hfew : f.length ≤ 100000) (hwid : wideL f ≤ 100000) [DecidableEq Lit] :
    Calls Tryd.prog 25 #[.slice A f.length c, .slice A2 right.length c2, .int .u64 q] w (NumsE (solveV f right q).1 (solveV f right q).2 w) := by
  have HP := hid (rmay_c q hq w hT)
  cases hp : primeV q with
  | false =>
    rw [hp] at HP
    have HV := hid (show solveV f right q = ([], 1) by unfold solveV; rw [if_neg (by rw [hp]; simp)])
    generalize solveV f right q = V at *
    clear hp hA hA2
    go_enter Tryd.func25, Tryd.ntmps25
    go_wp2_with (fail)
    refine HP.out.mono ?_
    rintro e w2 ⟨rfl, hd⟩
    go_wp2
    go_ret2
    refine ⟨.slice none 0 0, by rw [HV.out]; rfl, by rw [HV.out]; exact Own.nil _ _ _, below_of_dr hd⟩
  | true =>
    rw [hp] at HP
    by_cases hlen : right.length ≤ f.length
    · obtain ⟨h1, h2⟩ := okm_prime hp
      have HA := hid hA
      have HA2 := hid hA2
      have HF := hid hf
      have HU := hid hru
      have HQ := hid h1
      have HWL := hid (wideL_le f)
      have HS := hid (show solveS f right q = spaceL q (iv q) (wideL (allR (wideL f) f right f.length)) (allR (wideL f) f right f.length) from rfl)
      have HV := hid (show solveV f right q = if ∃ p ∈ solveS f right q, p.at_ = wideL f then ([], 5) else (tabL (wideL f) (valAt (solveS f right q) (wideL f)), 0) by unfold solveV; rw [if_pos ⟨hp, hlen⟩])
      have HWT := hid (fun k l (h : f[k]? = some l) => wideL_take h)
      obtain ⟨W, hW⟩ : ∃ W, wideL f = W := ⟨_, rfl⟩
      rw [hW] at HWL HS HV hwid
      have HWF := hid hW
      have HALL := hid (allR_ok (f := f) (right := right) hwid (by omega) hf.u hru)
      have HNIL := hid (show f ≠ [] → wideL (allR W f right f.length) = W + 1 from fun hne => wideL_same (fun l hl => by obtain ⟨i, _, rfl⟩ := allR_mem hl; exact withR_len ..) (by intro e; have := allR_len W f right f.length; rw [e] at this; exact hne (List.length_eq_zero_iff.1 this.symm)))
      have HNIL0 := hid (show f = [] → wideL (allR W f right f.length) = 0 from fun e => by subst e; rfl)
      generalize solveV f right q = V at *
      clear hA hA2 hf hru h1 hp hW
      go_enter Tryd.func25, Tryd.ntmps25
      go_wp2_with (fail)
      refine HP.out.mono ?_
      rintro e w2 ⟨rfl, hd⟩
      have HB2 := hid (below_of_dr hd (B := w.heap.size))
      clear hd HP
      go_wp2
      rw [show decide (f.length < right.length) = false by simpa using hlen]
      go_loopw [8, 33] (fun v i wr => ∃ k : Nat, i = .int .i64 (k : Int) ∧ k ≤ f.length ∧ v = .int .i64 (wideL (f.take k) : Int) ∧ Hid (Below w.heap.size w wr)) (fun _ i _ => f.length - (intOf i).toNat)
      case atStart => exact ⟨0, rfl, by omega, rfl, HB2⟩
      case round =>
        obtain ⟨k, rfl, hk, rfl, HI⟩ := hrel
        by_cases hlt : k < f.length
        · obtain ⟨l, hl⟩ := get_of_lt hlt
          obtain ⟨bb, off, A', cc, rfl, c0, _, _⟩ := (HA.out.below HI.out).at_ hl
          have HWN := hid (HWT.out k l hl)
          obtain ⟨wk, hwk⟩ : ∃ n, wideL (f.take k) = n := ⟨_, rfl⟩
          obtain ⟨wn, hwn⟩ : ∃ n, max wk l.length = n := ⟨_, rfl⟩
          have hmax : max (wk : Int) (l.length : Int) = (wn : Int) := by omega
          rw [hwk]
          rw [hwk, hwn] at HWN
          clear hl hwk hwn
          go_wp2
          go_roundw
          case rel => exact ⟨k + 1, by go_num, by omega, by rw [HWN.out], HI⟩
          case measure => simp [intOf]; omega
        · obtain rfl : k = f.length := by omega
          rw [List.take_length, HWF.out]
          clear HWT HB2
          go_wp2
          have HI0 := hid HI.out
          clear HI
          generalize wr = wo at *
          go_loopw [11, 44] (fun va i wr => ∃ (k : Nat) (bs : List Nat), i = .int .i64 (k : Int) ∧ k ≤ f.length ∧ Hid (RowsAt wr w.heap.size va (W + 1) (allR W f right k) bs ∧ Below w.heap.size w wr)) (fun _ i _ => f.length - (intOf i).toNat)
          case atStart => exact ⟨0, [], rfl, by omega, hid ⟨⟨Own.nil _ _ _, rfl, (fun i b l h => by simp at h), (fun b h => by cases h)⟩, HI0.out⟩⟩
          case round =>
            obtain ⟨k, bs, rfl, hk, HI⟩ := hrel
            rename_i va wr
            by_cases hlt : k < f.length
            · obtain ⟨l, hl⟩ := get_of_lt hlt
              obtain ⟨bb, off, A', cc, rfl, c0, hcl, _⟩ := (HA.out.below HI.out.2).at_ hl
              have hlW := HWL.out l (List.mem_of_getElem? hl)
              have HCL := hid hcl
              have HSC := hid (show allR W f right (k + 1) = allR W f right k ++ [withR W l (nth right k)] by rw [allR_succ, List.getD_eq_getElem?_getD, hl]; rfl)
              have HBR := hid HI.out.2
              have HRA := hid HI.out.1
              have hbsl : bs.length = k := by rw [HI.out.1.len, allR_len]
              clear hl hcl HI
              by_cases hkr : k < right.length
              · have hc2 := HA2.out.below HBR.out
                obtain ⟨b2, off2, e2, cr⟩ := hc2.at_map (show right[k]? = some (nth right k) by rw [List.getElem?_eq_getElem hkr, nth_lt hkr])
                cases e2
                generalize nth right k = x at *
                go_wp2_with (first
                  | (at_make; refine wpList_make_row elt_u64 _ rfl _ _ rfl .i64 .i64 ((W : Int) + 1) ((W : Int) + 1) (W + 1) rfl rfl (by omega) (by omega) (by omega) (by omega) ?_; intro w3 hr3 hs3 hb3)
                  | (refine wpList_copy_splice (by rfl) (.tmp 52) (.tmp 53) 23 23 (by rfl) 24 Tryd.underlying23 (by kernel_rfl) _ _ (W + 1) (W + 1) l.length cc rfl rfl wr.heap.size 0 (List.replicate (W + 1) (Value.int .u64 0)) 24 hr3 (u64v l) (by show (u64v l).length = min l.length (W + 1); rw [List.length_map]; omega) (copy_pos HCL.out hb3) (by rw [List.length_map, List.length_replicate]; omega) (u64_one l) wr.heap.size wr hb3 (Nat.le_refl _) ?_; intro w4 hr4 hb4
                     have hrow4 : Row1 w4 wr.heap.size 24 (u64v (tabL (W + 1) (nth l))) := by rw [← splice_row (W + 1) l (by omega)]; exact hr4.out
                     have hfz4 := hrow4.frozen W
                     have hcx4 := hrow4.cell (u64v_at (l := tabL (W + 1) (nth l)) (j := W) (by rw [tabL_len]; omega))
                     have hcr4 := (hb4.cell (lt_of_cell cr)).trans cr
                     have hset := hrow4.set W (.int .u64 x)
                     have HR5 := hid (show Row1 (w4.setCell ⟨wr.heap.size, W, none⟩ (.int .u64 x)) wr.heap.size 24 (u64v (withR W l x)) by rw [← withR_set]; exact hset)
                     have HB5 := hid (show Below wr.heap.size wr (w4.setCell ⟨wr.heap.size, W, none⟩ (.int .u64 x)) from below_set hb4 (Nat.le_refl _))
                     have hown5 := (HRA.out.below HB5.out).own
                     have HSZ := hid (show (w4.setCell ⟨wr.heap.size, W, none⟩ (.int .u64 x)).heap.size = w4.heap.size by simp [World.setCell])
                     clear hrow4 hset)
                  | (at_builtin; refine wpList_push elt_rows _ rfl _ _ rfl w.heap.size hown5 rfl (.slice (some ⟨wr.heap.size, 0, none⟩) (W + 1) (W + 1)) (by rw [HSZ.out]; rfl) rfl (by rw [List.length_map]; omega) (by rw [List.length_map]; omega) (Nat.le_trans HBR.out.size HB5.out.size) ?_; intro v6 w6 hown6 hk6 hb6))
                have HN := hid (show RowsAt w6 w.heap.size v6 (W + 1) (allR W f right (k + 1)) (bs ++ [wr.heap.size]) ∧ Below w.heap.size w w6 from by
                  rw [HSC.out]
                  exact ⟨(HRA.out.below HB5.out).push hk6 hown6 (withR_len ..) HR5.out HBR.out.size, (below_next HBR.out HBR.out.size HB5.out).trans hb6⟩)
                clear hown6 hk6 hb6 hown5
                go_wp2
                go_roundw
                case rel => exact ⟨k + 1, _, by go_num, by omega, HN⟩
                case measure => simp [intOf]; omega
              · have hx0 : nth right k = 0 := nth_ge (by omega)
                have HW0 := hid (withR_none (x := nth right k) hlW hx0)
                generalize nth right k = x at *
                go_wp2_with (first
                  | (at_make; refine wpList_make_row elt_u64 _ rfl _ _ rfl .i64 .i64 ((W : Int) + 1) ((W : Int) + 1) (W + 1) rfl rfl (by omega) (by omega) (by omega) (by omega) ?_; intro w3 hr3 hs3 hb3)
                  | (refine wpList_copy_splice (by rfl) (.tmp 52) (.tmp 53) 23 23 (by rfl) 24 Tryd.underlying23 (by kernel_rfl) _ _ (W + 1) (W + 1) l.length cc rfl rfl wr.heap.size 0 (List.replicate (W + 1) (Value.int .u64 0)) 24 hr3 (u64v l) (by show (u64v l).length = min l.length (W + 1); rw [List.length_map]; omega) (copy_pos HCL.out hb3) (by rw [List.length_map, List.length_replicate]; omega) (u64_one l) wr.heap.size wr hb3 (Nat.le_refl _) ?_; intro w4 hr4 hb4
                     have HR5 := hid (show Row1 w4 wr.heap.size 24 (u64v (withR W l x)) by rw [← HW0.out, ← splice_row (W + 1) l (by omega)]; exact hr4.out)
                     have HB5 := hid hb4
                     have hown5 := (HRA.out.below HB5.out).own)
                  | (at_builtin; refine wpList_push elt_rows _ rfl _ _ rfl w.heap.size hown5 rfl (.slice (some ⟨wr.heap.size, 0, none⟩) (W + 1) (W + 1)) rfl rfl (by rw [List.length_map]; omega) (by rw [List.length_map]; omega) (Nat.le_trans HBR.out.size HB5.out.size) ?_; intro v6 w6 hown6 hk6 hb6))
                have HN := hid (show RowsAt w6 w.heap.size v6 (W + 1) (allR W f right (k + 1)) (bs ++ [wr.heap.size]) ∧ Below w.heap.size w w6 from by
                  rw [HSC.out]
                  exact ⟨(HRA.out.below HB5.out).push hk6 hown6 (withR_len ..) HR5.out HBR.out.size, (below_next HBR.out HBR.out.size HB5.out).trans hb6⟩)
                clear hown6 hk6 hb6 hown5
                go_wp2
                go_roundw
                case rel => exact ⟨k + 1, _, by go_num, by omega, HN⟩
                case measure => simp [intOf]; omega
            · obtain rfl : k = f.length := by omega
              have HBR := hid HI.out.2
              obtain ⟨AA, ca, rfl, hgrid⟩ := HI.out.1.grid (by omega)
              have HC := hid (of_c AA (allR W f right f.length) ca q wr hgrid HALL.out HQ.out h2)
              rw [allR_len] at HC ⊢
              clear hgrid HI HALL HA HA2 HF HU HI0
              obtain ⟨WA, hWA⟩ : ∃ WA, wideL (allR W f right f.length) = WA := ⟨_, rfl⟩
              rw [hWA] at HC HS HNIL HNIL0
              generalize spaceL q (iv q) WA (allR W f right f.length) = SP at *
              clear hWA
              go_wp2_with (fail)
              refine HC.out.mono ?_
              rintro e w3 ⟨gs, gm, L, rfl, he, hsp, hgd, hb3⟩
              have HSV := hid (HS.out.trans he.symm)
              have HGD := hid hgd
              have HB3 := hid (below_next HBR.out HBR.out.size hb3)
              have HEN := hid (show ∀ u ∈ L, u.en.at_ ≤ W ∧ u.en.row.length = W + 1 from fun u hu => by
                have hm : u.en ∈ ens L := List.mem_map.2 ⟨u, hu, rfl⟩
                have e1 := hgd.lt _ hm
                have e2 := hgd.len _ hm
                by_cases hfe : f = []
                · rw [HNIL0.out hfe] at e1; omega
                · rw [HNIL.out hfe] at e1 e2; exact ⟨by omega, e2⟩)
              have HSP := hid hsp
              have c2 := hsp.row.cell (k := 2) rfl
              have hmap := hsp.map
              clear hgd hb3 hsp HC he HNIL HNIL0 HS HBR
              go_wp2_with (at_lookup; refine wpList_look_rk _ rfl _ _ rfl rfl hmap rfl (by omega) ?_ ?_)
              · intro HNO
                have HV2 := hid (show V = (tabL W (valAt (ens L) W), 0) by
                  rw [HV.out, HSV.out, if_neg]
                  rintro ⟨p, hp1, hp2⟩
                  obtain ⟨u, hu, rfl⟩ := List.mem_map.1 hp1
                  exact HNO.out u hu hp2)
                have HAT := hid (show ∀ u ∈ L, u.en.at_ < W from fun u hu => by have h1 := (HEN.out u hu).1; have h2 := HNO.out u hu; omega)
                have hs3 := HB3.out.size
                clear HV HSV HNO
                go_wp2_with (first
                  | (at_make; refine wpList_make_row elt_u64 _ rfl _ _ rfl .i64 .i64 (W : Int) (W : Int) W rfl rfl rfl rfl (by omega) (by omega) ?_; intro w5 hr5 hs5 hb5
                     rw [zeros_val W W] at hr5
                     have hM5 := hmap.below hb5
                     have hc5 := (HSP.out.below hb5).row.cell (k := 2) rfl
                     have HB5 := hid hb5
                     have HR5 := hid hr5
                     have hbl5 := hr5.lt
                     clear hr5 hb5 c2 hmap)
                  | (at_range; refine wpList_range_rk _ rfl _ rfl rfl hM5 ?_; intro w6 cnt hrg6 hg6 hs6))
                go_frame
                have HB6 := hid (HB5.out.grown hg6 HB5.out.size fun j e => by cases e)
                have HR6 := hid (HR5.out.keep (hg6.block w3.heap.size hbl5 fun e => by cases e))
                clear hg6 hM5 hc5 HR5 HB5
                obtain ⟨r, hr⟩ : ∃ r, w5.heap.size = r := ⟨_, rfl⟩
                have hgm : gm < w3.heap.size := HSP.out.map.lt
                have hbr : w3.heap.size < r := by omega
                rw [hr] at hrg6 ⊢
                clear hr hs5 hs6 hbl5
                go_loopw [19, 20] (fun _ _ wr => ∃ (rest : List Ent) (cnt : Nat) (pre : List Ent), RangeAt rM wr gm r L rest cnt ∧ Hid (L.Perm (pre ++ rest) ∧ Row1 wr w3.heap.size 24 (u64v (tabL W (valAt (ens pre) W))) ∧ Below w3.heap.size w3 wr)) (fun _ _ wr => wr.rangeLeft gm r)
                case atStart => exact ⟨L, cnt, [], hrg6, hid ⟨.refl _, HR6.out, HB6.out⟩⟩
                case round =>
                  obtain ⟨rest, cnt2, pre, hrg, HI⟩ := hrel
                  rename_i wz
                  have HL := hid hrg.left
                  clear hrg6 HR6 HB6
                  go_wp2_with (at_next; refine wpList_next_rk _ rfl _ rfl rfl hrg ?_ ?_)
                  · intro hr0
                    have hp := HI.out.1
                    rw [hr0, List.append_nil] at hp
                    have hpe : (ens L).Perm (ens pre) := hp.map _
                    have HF := hid (show tabL W (valAt (ens L) W) = tabL W (valAt (ens pre) W) from tabL_congr fun j _ => valAt_perm HGD.out.nd hpe j)
                    have HR7 := hid HI.out.2.1
                    have HB7 := hid (below_next HB3.out HB3.out.size HI.out.2.2)
                    clear hp hpe hrg HI
                    go_wp2
                    go_ret2
                    refine ⟨_, by rw [HV2.out]; rfl, ?_, HB7.out⟩
                    rw [HV2.out, HF.out]
                    have := HR7.out.own (base := w.heap.size) (by omega) (by rw [List.length_map, tabL_len]; omega)
                    rw [List.length_map, tabL_len] at this
                    exact this
                  · intro x rest' w8 cnt3 hperm hx hrg8 hlt8 hg8 hs8 hen
                    have HPM := hid hperm
                    have hat := HAT.out x hx
                    have hxl := (HEN.out x hx).2
                    have HB8 := hid (grown_up HI.out.2.2 hg8 (by omega))
                    have hr8 := HI.out.2.1.keep (hg8.block w3.heap.size HI.out.2.1.lt fun e => by cases e; omega)
                    have hcx := ((HSP.out.below HB8.out).cells x hx).cell (u64v_at (l := x.en.row) (j := W) (by omega))
                    have hco := hr8.cell (u64v_at (l := tabL W (valAt (ens pre) W)) (j := x.en.at_) (by rw [tabL_len]; omega))
                    have hfo := hr8.frozen x.en.at_
                    obtain ⟨y, hy⟩ : ∃ y, nth x.en.row W = y := ⟨_, rfl⟩
                    have hPP : L.Perm ((pre ++ [x]) ++ rest') := by
                      rw [List.append_assoc]
                      exact HI.out.1.trans (hperm.append_left pre)
                    have HPP := hid hPP
                    have HVS := hid (show (u64v (tabL W (valAt (ens pre) W))).set x.en.at_ (.int .u64 y) = u64v (tabL W (valAt (ens (pre ++ [x])) W)) by
                      have hnd : (ens (pre ++ [x])).Pairwise fun p p' => p.at_ ≠ p'.at_ := by
                        have h1 := ((hPP.map Ent.en).pairwise_iff (R := fun p p' : En => p.at_ ≠ p'.at_) fun {_ _} hne => Ne.symm hne).1 HGD.out.nd
                        rw [List.map_append] at h1
                        exact (List.pairwise_append.1 h1).1
                      have e1 : ens (pre ++ [x]) = ens pre ++ [x.en] := by simp [ens]
                      rw [e1] at hnd
                      have hne : ∀ p ∈ ens pre, p.at_ ≠ x.en.at_ := fun p hp => (List.pairwise_append.1 hnd).2.2 p hp _ (List.mem_singleton.2 rfl)
                      have hsn := valAt_snoc (W := W) hne
                      have e2 := tabL_set (n := W) (f := valAt (ens pre) W) (g := valAt (ens (pre ++ [x])) W) (k := x.en.at_) (fun j hj => by rw [e1, hsn, if_neg hj])
                      rw [← e2, e1, hsn, if_pos rfl, hy])
                    have HR9 := hid (show Row1 (w8.setCell ⟨w3.heap.size, x.en.at_, none⟩ (.int .u64 y)) w3.heap.size 24 (u64v (tabL W (valAt (ens (pre ++ [x])) W))) by rw [← HVS.out]; exact hr8.set _ _)
                    have HB9 := hid (show Below w3.heap.size w3 (w8.setCell ⟨w3.heap.size, x.en.at_, none⟩ (.int .u64 y)) from below_set HB8.out (Nat.le_refl _))
                    have hg9 := grown_set w8 w3.heap.size x.en.at_ (.int .u64 y)
                    have hlt := hrg8.lt
                    have hrg9 := hrg8.keep (hg9.block gm hlt.1 fun e => by cases e; omega) (hg9.block r hlt.2.1 fun e => by cases e; omega)
                    rw [hy] at hcx
                    have hgt : (W : Int) < ((W + 1 : Nat) : Int) := by omega
                    obtain ⟨xa, hxa⟩ : ∃ n, x.en.at_ = n := ⟨_, rfl⟩
                    obtain ⟨xr, hxr⟩ : ∃ n, x.en.row.length = n := ⟨_, rfl⟩
                    rw [hxa] at *
                    have hxrW : W < xr := by omega
                    clear hperm hs8 hg8 hrg HI hPP hg9 hr8 HPM hy hxl HVS
                    go_wp2
                    go_roundw
                    case rel => exact ⟨rest', cnt3, pre ++ [x], hrg9, hid ⟨HPP.out, HR9.out, HB9.out⟩⟩
                    case measure => rw [HL.out, hrg9.left]; exact hlt8
              · intro u hu HE
                have HV2 := hid (show V = ([], 5) by
                  rw [HV.out, if_pos ⟨u.en, by rw [HSV.out]; exact List.mem_map.2 ⟨u, hu, rfl⟩, HE.out⟩])
                clear hmap
                go_wp2
                go_ret2
                exact ⟨.slice none 0 0, by rw [HV2.out]; rfl, by rw [HV2.out]; exact Own.nil _ _ _, HB3.out⟩
    · have HV := hid (show solveV f right q = ([], 1) by unfold solveV; rw [if_neg (fun h => hlen h.2)])
      have hgt : (f.length : Int) < (right.length : Int) := by omega
      generalize solveV f right q = V at *
      clear hp hA hA2
      go_enter Tryd.func25, Tryd.ntmps25
      go_wp2_with (fail)
      refine HP.out.mono ?_
      rintro e w2 ⟨rfl, hd⟩
      go_wp2
      go_ret2
      refine ⟨.slice none 0 0, by rw [HV.out]; rfl, by rw [HV.out]; exact Own.nil _ _ _, below_of_dr hd⟩
end Go.Proofs.YtcojnjhffmhbiaaDoor
end

section
namespace Go.Proofs.YtcojnjhffmhbiaaDoor
open Go Go.RowKit
theorem U64s.at_ {l : List Int} (h : U64s l) {k : Nat} {z : Int} (hk : l[k]? = some z) : U64 z := h z (List.mem_of_getElem? hk)
end Go.Proofs.YtcojnjhffmhbiaaDoor
end

section
namespace Go.Proofs.YtcojnjhffmhbiaaDoor
open Go.RowKit
open Go.RowKit
/-- the sum of the first k products, from a place on. -/
def dsum (l row : List Int) (q : Int) (at_ : Nat) : Nat → Int
  | 0 => 0
  | k + 1 => match l[at_ + k]?, row[k]? with
    | some a, some b => mAdd (dsum l row q at_ k) (mMul a b q) q
    | _, _ => dsum l row q at_ k
theorem dsum_u64 (l row : List Int) (q : Int) (at_ k : Nat) : U64 (dsum l row q at_ k) := by
  induction k with
  | zero => exact (⟨by decide, by decide⟩ : U64 0)
  | succ k ih => unfold dsum; split; exact mAdd_u64 _ _ _; exact ih
theorem dsum_in {l row : List Int} {q : Int} {at_ k : Nat} {a b : Int} (h1 : l[at_ + k]? = some a) (h2 : row[k]? = some b) : dsum l row q at_ (k + 1) = mAdd (dsum l row q at_ k) (mMul a b q) q := by
  conv => lhs; unfold dsum
  rw [h1, h2]
theorem dsum_out {l row : List Int} {q : Int} {at_ k : Nat} (h1 : l.length ≤ at_ + k) : dsum l row q at_ (k + 1) = dsum l row q at_ k := by
  conv => lhs; unfold dsum
  rw [List.getElem?_eq_none h1]
set_option maxHeartbeats 1000000 in
theorem dot1_c (at_ : Nat) (R L G : Nat) (A B : Option Addr) (row l : List Int) (c d : Nat) (q : Int) (w : World) (hat : at_ ≤ 1000) (hR : w.cell? ⟨R, 0, none⟩ = some (.slice A row.length c)) (hL : w.cell? ⟨L, 0, none⟩ = some (.slice B l.length d)) (hG : w.cell? ⟨G, 1, none⟩ = some (.int .u64 q))
    (hA : Cells w A (row.map (.int .u64))) (hB : Cells w B (l.map (.int .u64))) (hl : row.length ≤ 1000) (hl' : l.length ≤ 9223372036854775807) (hu : U64s row) (hu' : U64s l) (hq : U64 q) :
    Calls Tryd.prog 131 #[.int .i64 at_, .pointer (some ⟨R, 0, none⟩), .pointer (some ⟨L, 0, none⟩), .pointer (some ⟨G, 0, none⟩)] w fun e w' => e = .returned (.int .u64 (dsum l row q at_ row.length)) ∧ Dr w w' := by
  go_enter Tryd.func131, Tryd.ntmps131
  go_wp2
  go_loopw [5, 6, 7, 10] (fun s _ _ i wr => ∃ k : Nat, i = .int .i64 k ∧ k ≤ row.length ∧ s = .int .u64 (dsum l row q at_ k) ∧ Dr w wr) (fun _ _ _ i _ => row.length - (intOf i).toNat)
  case atStart => exact ⟨0, rfl, by omega, rfl, Dr.refl w⟩
  case round =>
    obtain ⟨k, rfl, hk, rfl, hw⟩ := hrel
    rename_i wr
    have hR' := (hw.cell _).trans hR
    have hL' := (hw.cell _).trans hL
    have hG' := (hw.cell _).trans hG
    have hSu : U64 (dsum l row q at_ k) := dsum_u64 _ _ _ _ _
    by_cases hlt : k < row.length
    · obtain ⟨b, hxb⟩ := get_of_lt hlt
      obtain ⟨o1, off1, rfl, hc1⟩ := (hA.dr hw).at_map hxb
      have hub := hu.at_ hxb
      by_cases hin : at_ + k < l.length
      · obtain ⟨a, hxa⟩ := get_of_lt hin
        obtain ⟨o2, off2, rfl, hc2⟩ := (hB.dr hw).at_map hxa
        have hua := hu'.at_ hxa
        have hstep := dsum_in (q := q) hxa hxb
        obtain ⟨S, hS⟩ : ∃ S, dsum l row q at_ k = S := ⟨_, rfl⟩
        rw [hS] at hstep hSu ⊢
        have HS := hid hstep
        clear hstep hS
        go_wp2
        go_quiet (first | (go_at_call 29; exact quiet_dr (mul_c _ _ _ hua hub hq _)) | (go_at_call 30; exact quiet_dr (add_c _ _ _ hSu (mMul_u64 _ _ _) hq _)))
        go_wp2
        go_roundw
        case rel => exact ⟨k + 1, by go_num, by omega, by rw [HS.out], hw.more _⟩
        case measure => simp [intOf]; omega
      · have HS := hid (dsum_out (row := row) (q := q) (at_ := at_) (k := k) (l := l) (by omega))
        go_wp2
        go_roundw
        case rel => exact ⟨k + 1, by go_num, by omega, by rw [HS.out], hw⟩
        case measure => simp [intOf]; omega
    · obtain rfl : k = row.length := by omega
      go_wp2
      go_ret
      exact ⟨rfl, hw⟩
open Go.RowKit
/-- the products. -/
def dotS (p : Par) (l x : List Int) : List Int := if fits p = true then (List.range p.K.toNat).map fun k => dsum l (rowS p x) p.Q (k * (p.D.toNat + 1)) (p.D.toNat + 1) else []
theorem pars_at {p : Par} {w : World} {g : Nat} {e : TypeId} (h : Row1 w g e (pcells p)) :
    w.cell? ⟨g, 0, none⟩ = some (.int .u64 p.P) ∧ w.cell? ⟨g, 1, none⟩ = some (.int .u64 p.Q) ∧ w.cell? ⟨g, 2, none⟩ = some (.int .u64 p.G) ∧ w.cell? ⟨g, 3, none⟩ = some (.int .u64 p.H) ∧
    w.cell? ⟨g, 4, none⟩ = some (.int .i64 p.Nodes) ∧ w.cell? ⟨g, 5, none⟩ = some (.int .i64 p.N) ∧ w.cell? ⟨g, 6, none⟩ = some (.int .i64 p.T) ∧ w.cell? ⟨g, 7, none⟩ = some (.int .i64 p.K) ∧
    w.cell? ⟨g, 8, none⟩ = some (.int .i64 p.D) ∧ w.cell? ⟨g, 9, none⟩ = some (.int .i64 p.R) ∧ w.cell? ⟨g, 10, none⟩ = some (.int .i64 p.M) ∧ w.cell? ⟨g, 11, none⟩ = some (.int .i64 p.X) :=
  ⟨h.cell (k := 0) rfl, h.cell (k := 1) rfl, h.cell (k := 2) rfl, h.cell (k := 3) rfl, h.cell (k := 4) rfl, h.cell (k := 5) rfl, h.cell (k := 6) rfl, h.cell (k := 7) rfl, h.cell (k := 8) rfl, h.cell (k := 9) rfl, h.cell (k := 10) rfl, h.cell (k := 11) rfl⟩
set_option maxRecDepth 100000 in
set_option maxHeartbeats 1000000 in
theorem fdot_c (p : Par) (hp : p.ok) (A B : Option Addr) (l x : List Int) (c d : Nat) (w : World) (hA : Cells w A (l.map (.int .u64))) (hB : Cells w B (x.map (.int .i64))) (hl : l.length ≤ 9223372036854775807) (hl' : x.length ≤ 17592186044415) (hu : U64s l) (hu' : I64s x) :
    Calls Tryd.prog 69 #[pval p, .slice A l.length c, .slice B x.length d] w (NewNums (dotS p l x) w) := by
  go_enter Tryd.func69, Tryd.ntmps69
  go_wp2_with (fail)
  have hb2 := ((below_alloc w (.cells (pcells p).toArray 43)).alloc (by simp) (.cells #[.slice A l.length c] 23))
  have hP : Row1 ((w.alloc (.cells (pcells p).toArray 43)).alloc (.cells #[.slice A l.length c] 23)) w.heap.size 43 (pcells p) := (row1_new w (pcells p) 43).alloc _
  have hL : Row1 ((w.alloc (.cells (pcells p).toArray 43)).alloc (.cells #[.slice A l.length c] 23)) (w.heap.size + 1) 23 [.slice A l.length c] := by
    have := row1_new (w.alloc (.cells (pcells p).toArray 43)) [.slice A l.length c] 23
    simpa using this
  have hA1 := hA.below hb2
  have hB1 := hB.below hb2
  have hsz : ((w.alloc (.cells (pcells p).toArray 43)).alloc (.cells #[.slice A l.length c] 23)).heap.size = w.heap.size + 2 := by simp
  refine (frow_c p hp _ _ _ _ hB1 hl' hu').mono ?_
  rintro e w1 ⟨v, rfl, hown, hb3⟩
  have hb4 := below_next hb2 hb2.size hb3
  have hP1 := hP.below hb3
  have hL1 := hL.below hb3
  have hA2 := hA1.below hb3
  rw [hsz] at hown
  obtain ⟨R, c', rfl, hR⟩ := hown.form
  rw [List.length_map]
  clear hP hL hA1 hB1 hb3 hb2 hsz hown
  have hRr := row1_new w1 [.slice R (rowS p x).length c'] 23
  have hbW := below_alloc w1 (.cells #[.slice R (rowS p x).length c'] 23)
  have hb5 := below_next hb4 hb4.size hbW
  have hP2 := hP1.below hbW
  have hL2 := hL1.below hbW
  have hA3 := hA2.below hbW
  have hR2 := hR.below hbW
  go_wp2
  generalize w1.alloc (.cells #[.slice R (rowS p x).length c'] 23) = W at *
  clear hP1 hL1 hA2 hR hbW hb4 hA hB
  have hKb : fits p = true → p.K.toNat ≤ 2 ∧ (p.K.toNat : Int) = p.K ∧ p.D.toNat ≤ 4 := fun h => by
    have hF := (fits_iff p).1 h
    have h1 := hF.K
    have h2 := hF.K0
    have h3 := hF.D
    have h4 := hF.D0
    omega
  have hrl : fits p = true → (rowS p x).length = p.D.toNat + 1 := fun h => by simp [rowS, h, padded_len]
  have hrl5 : (rowS p x).length ≤ 5 := by
    cases hf : fits p with
    | true => rw [hrl hf]; have := hKb hf; omega
    | false => simp [rowS, hf]
  have HKB := hid hKb
  have HRL := hid hrl
  clear hKb hrl
  go_loopw [9, 10] (fun o i wr => ∃ k : Nat, i = .int .i64 k ∧ k ≤ (dotS p l x).length ∧ Own wr W.heap.size 24 o (((dotS p l x).take k).map (.int .u64)) ∧ Below W.heap.size W wr) (fun _ i _ => (dotS p l x).length - (intOf i).toNat)
  case atStart => exact ⟨0, rfl, by omega, by simpa using Own.nil W W.heap.size 24, Below.refl _ _⟩
  case round =>
    obtain ⟨k, rfl, hk, hown, hb⟩ := hrel
    rename_i wr
    have hP3 := hP2.below hb
    obtain ⟨q0, q1, q2, q3, q4, q5, q6, q7, q8, q9, q10, q11⟩ := pars_at hP3
    cases hf : fits p with
    | false =>
      have hd0 : dotS p l x = [] := by simp [dotS, hf]
      have HD := hid hd0
      rw [hd0] at hk hown
      obtain rfl : k = 0 := by simpa using hk
      clear hd0
      go_wp2_with (go_at_call 128; refine (fit_c p _).mono ?_; rintro e w3 ⟨rfl, hb6⟩; rw [hf])
      go_ret
      have hb7 := below_next hb hb.size hb6
      refine ⟨_, rfl, ?_, hb5.trans (hb7.mono hb5.size)⟩
      rw [HD.out]
      exact (hown.below hb6).from_ hb5.size
    | true =>
      have hlen : (dotS p l x).length = p.K.toNat := by simp [dotS, hf]
      obtain ⟨K2, KK, D4⟩ := HKB.out hf
      have hrl' := HRL.out hf
      have hb1 : Below wr.heap.size wr wr := Below.refl _ _
      by_cases hlt : k < (dotS p l x).length
      · have hz : (dotS p l x)[k]? = some (dsum l (rowS p x) p.Q (k * (rowS p x).length) (rowS p x).length) := by
          rw [hlen] at hlt
          rw [hrl']
          simp [dotS, hf, hlt]
        have hs : ((dotS p l x).take k).map (Value.int .u64) ++ [Value.int .u64 (dsum l (rowS p x) p.Q (k * (rowS p x).length) (rowS p x).length)] = ((dotS p l x).take (k + 1)).map (.int .u64) := by
          rw [take_snoc' hz]; simp
        have hlen3 : (((dotS p l x).take k).map (Value.int .u64)).length = k := by simp; omega
        have hmul : ((k : Int) * ((rowS p x).length : Int)) = ((k * (rowS p x).length : Nat) : Int) := by simp
        have hat : k * (rowS p x).length ≤ 10 := by
          have : k ≤ 2 := by omega
          exact Nat.le_trans (Nat.mul_le_mul this hrl5) (by omega)
        have HS := hid hs
        have hrow := rowS_u64 p x
        have hrl3 : (rowS p x).length ≤ 1000 := by omega
        clear hs hz
        generalize k * (rowS p x).length = at_ at *
        go_wp2_with (fail)
        refine (fit_c p _).mono ?_
        rintro e w3 ⟨rfl, hb6⟩
        rw [hf]
        have hb7 := below_next hb hb.size hb6
        have hP4 := hP3.below hb6
        have q7' : w3.cell? ⟨w.heap.size, 7, none⟩ = some (.int .i64 (p.K.toNat : Int)) := by rw [KK]; exact hP4.cell (k := 7) rfl
        have hlt' : k < p.K.toNat := by omega
        have hRc := (hRr.below hb7).cell (k := 0) rfl
        have hLc := (hL2.below hb7).cell (k := 0) rfl
        have hGc := hP4.cell (k := 1) rfl
        have hown6 := hown.below hb6
        have hat2 : at_ ≤ 1000 := by omega
        have HK := hid (⟨hlt, hlen, hlen3⟩ : _ ∧ _ ∧ _)
        clear q0 q1 q2 q3 q4 q5 q6 q7 q8 q9 q10 q11 hP3 hown hrl' hlen hlen3 KK hlt
        go_wp2_with (first | (go_at_call 131; refine (dot1_c at_ _ _ _ _ _ _ _ _ _ _ _ hat2 hRc hLc hGc (hR2.below hb7) (hA3.below hb7) hrl3 hl hrow hu hp.Q).mono ?_; rintro e w4 ⟨rfl, hw4⟩) | (at_builtin; refine wpList_push elt_u64 w4 rfl _ _ rfl W.heap.size (hown6.dr hw4) rfl (.int .u64 (dsum l (rowS p x) p.Q at_ (rowS p x).length)) rfl rfl (by rw [HK.out.2.2]; have := HK.out.1; have := HK.out.2.1; omega) (by rw [HK.out.2.2]; have := HK.out.1; have := HK.out.2.1; omega) (by have := (below_dr hb7 hw4).size; omega) ?_; intro v' w5 hown5 _ hb8))
        go_roundw
        case rel =>
          rw [HS.out] at hown5
          exact ⟨k + 1, by go_num, HK.out.1, hown5, (below_dr hb7 hw4).trans hb8⟩
        case measure => have := HK.out.1; simp [intOf]; omega
      · obtain rfl : k = (dotS p l x).length := by omega
        have q7' : wr.cell? ⟨w.heap.size, 7, none⟩ = some (.int .i64 (p.K.toNat : Int)) := by rw [KK]; exact q7
        have HL := hid hlen
        have hlt' : ((dotS p l x).length : Int) = (p.K.toNat : Int) := by omega
        go_wp2_with (fail)
        refine (fit_c p _).mono ?_
        rintro e w3 ⟨rfl, hb6⟩
        rw [hf]
        have q7'' := (hb6.cell (lt_of_cell q7')).trans q7'
        rw [← hlt'] at q7''
        clear q0 q1 q2 q3 q4 q5 q6 q7 q8 q9 q10 q11 q7' hlt'
        go_wp2
        go_ret
        have hb7 := below_next hb hb.size hb6
        rw [List.take_length] at hown
        exact ⟨_, rfl, (hown.below hb6).from_ hb5.size, hb5.trans (hb7.mono hb5.size)⟩
end Go.Proofs.YtcojnjhffmhbiaaDoor
end
