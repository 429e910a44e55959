/-
  Parts of these texts that the statement needs: RaE, LitB, RaF, RaG, More, RaT, Lin, RaQ.
-/
import Derived.Test.YtlbhmoiicbhgkaaDoorRnkQ4
import Derived.Test.YtlbhmoiicbhgkaaDoorRnkQ1
import Derived.ArgAppend
import Derived.Test.YtlbhmoiicbhgkaaDoorRnkQ2
import Derived.Test.YtlbhmoiicbhgkaaDoorPsA

section
namespace Go.Proofs.YtlbhmoiicbhgkaaDoor
open Go Go.RowKit Go.Maps Go.Shelf Go.Proofs
/-- a row with its right behind. -/
def withR (W : Nat) (row : List Int) (x : Int) : List Int := tabL (W + 1) fun j => if j = W then x else nth row j
def allR (W : Nat) (f : List (List Int)) (right : List Int) (k : Nat) : List (List Int) := (List.range k).map fun i => withR W (f.getD i []) (nth right i)
theorem allR_succ (W : Nat) (f : List (List Int)) (right : List Int) (k : Nat) : allR W f right (k + 1) = allR W f right k ++ [withR W (f.getD k []) (nth right k)] := by simp [allR, List.range_succ]
theorem allR_len (W : Nat) (f : List (List Int)) (right : List Int) (k : Nat) : (allR W f right k).length = k := by simp [allR]
theorem withR_len (W : Nat) (row : List Int) (x : Int) : (withR W row x).length = W + 1 := tabL_len ..
/-- what stands in the last place of the row that begins at j. -/
def valAt (S : List En) (W j : Nat) : Int := ((S.find? fun p => decide (p.at_ = j)).map fun p => nth p.row W).getD 0
theorem valAt_of {S : List En} {W : Nat} (h : S.Pairwise fun p p' => p.at_ ≠ p'.at_) {p : En} (hp : p ∈ S) : valAt S W p.at_ = nth p.row W := by
  unfold valAt
  cases hf : S.find? fun p' => decide (p'.at_ = p.at_) with
  | none =>
    rw [List.find?_eq_none] at hf
    exact absurd (hf p hp) (by simp)
  | some p' =>
    have h1 := List.mem_of_find?_eq_some hf
    have h2 := List.find?_some hf
    have : p' = p := key_one h h1 hp (by simpa using h2)
    rw [this]; rfl
theorem valAt_no {S : List En} {W j : Nat} (h : ∀ p ∈ S, p.at_ ≠ j) : valAt S W j = 0 := by
  unfold valAt
  rw [List.find?_eq_none.2 fun p hp => by simpa using h p hp]; rfl
theorem valAt_perm {S S' : List En} {W : Nat} (h : S.Pairwise fun p p' => p.at_ ≠ p'.at_) (hp : S.Perm S') (j : Nat) : valAt S W j = valAt S' W j := by
  have h' := (hp.pairwise_iff fun {_ _} hne => Ne.symm hne).1 h
  by_cases he : ∃ p ∈ S, p.at_ = j
  · obtain ⟨p, hp1, rfl⟩ := he
    rw [valAt_of h hp1, valAt_of h' (hp.mem_iff.1 hp1)]
  · have h1 : ∀ p ∈ S, p.at_ ≠ j := fun p hp1 e => he ⟨p, hp1, e⟩
    rw [valAt_no h1, valAt_no fun p hp1 => h1 p (hp.mem_iff.2 hp1)]
theorem valAt_snoc {S : List En} {W : Nat} {x : En} (h : ∀ p ∈ S, p.at_ ≠ x.at_) (j : Nat) : valAt (S ++ [x]) W j = if j = x.at_ then nth x.row W else valAt S W j := by
  unfold valAt
  rw [List.find?_append]
  by_cases hj : j = x.at_
  · subst hj
    rw [if_pos rfl, List.find?_eq_none.2 fun p hp => by simpa using h p hp]
    simp
  · rw [if_neg hj]
    cases S.find? fun p => decide (p.at_ = j) with
    | some p => rfl
    | none =>
      have : decide (x.at_ = j) = false := by simpa using Ne.symm hj
      simp [this]
/-- what is told of equations. -/
noncomputable def solveS (f : List (List Int)) (right : List Int) (q : Int) : List En := spaceL q (iv q) (wideL (allR (wideL f) f right f.length)) (allR (wideL f) f right f.length)
open Classical in
noncomputable def solveV (f : List (List Int)) (right : List Int) (q : Int) : List Int × Int :=
  if primeV q = true ∧ right.length ≤ f.length then (if ∃ p ∈ solveS f right q, p.at_ = wideL f then ([], 5) else (tabL (wideL f) (valAt (solveS f right q) (wideL f)), 0)) else ([], 1)
/-- numbers of this call's own are told. -/
def NumsE (xs : List Int) (en : Int) (w : World) (e : Ending) (w' : World) : Prop := ∃ v, e = .returned (.tuple #[v, .int .i64 en]) ∧ Own w' w.heap.size 24 v (u64v xs) ∧ Below w.heap.size w w'
theorem elt_rows : Elt Tryd.prog 22 23 (.slice none 0 0) 24 := Elt.of Tryd.underlying22 (by kernel_rfl) rfl
/-- rows of the call's own, each in a block of its own. -/
structure RowsAt (w : World) (base : Nat) (v : Value) (n : Nat) (L : List (List Int)) (bs : List Nat) : Prop where
  own : Own w base 23 v (bs.map fun b => Value.slice (some ⟨b, 0, none⟩) n n)
  len : bs.length = L.length
  row : ∀ (i : Nat) (b : Nat) (l : List Int), bs[i]? = some b → L[i]? = some l → l.length = n ∧ Row1 w b 24 (u64v l)
  lo : ∀ b ∈ bs, base ≤ b
theorem own_ne_row {w : World} {base b : Nat} {e e' : TypeId} {v : Value} {xs ys : List Value} (h : Own w base e v xs) (k : Row1 w b e' ys) (hne : e ≠ e') : some b ≠ v.ownBlock := by
  rcases h.2 with ⟨rfl, _⟩ | ⟨g, cap, cur, rfl, _, hg, _⟩
  · intro e1; cases e1
  · intro e1
    simp only [Value.ownBlock, Option.some.injEq] at e1
    subst e1
    unfold Row1 at k
    rw [hg] at k
    simp only [Option.some.injEq, Obj.cells.injEq] at k
    exact hne k.2.1
theorem RowsAt.below {w w' : World} {base n : Nat} {v : Value} {L : List (List Int)} {bs : List Nat} (h : RowsAt w base v n L bs) (hb : Below w.heap.size w w') : RowsAt w' base v n L bs :=
  ⟨h.own.below hb, h.len, fun i b l h1 h2 => ⟨(h.row i b l h1 h2).1, (h.row i b l h1 h2).2.below hb⟩, h.lo⟩
theorem RowsAt.grid {w : World} {base n : Nat} {v : Value} {L : List (List Int)} {bs : List Nat} (h : RowsAt w base v n L bs) (hn : n ≤ 9223372036854775807) : ∃ A c, v = .slice A L.length c ∧ Grid w A L := by
  obtain ⟨A, cap, rfl, hc⟩ := h.own.form
  refine ⟨A, cap, by rw [List.length_map, h.len], _, hc, by rw [List.length_map, h.len], fun i l hl => ?_⟩
  have hi : i < bs.length := by rw [h.len]; exact (List.getElem?_eq_some_iff.1 hl).1
  obtain ⟨h1, h2⟩ := h.row i _ l (List.getElem?_eq_getElem hi) hl
  refine ⟨.slice (some ⟨bs[i], 0, none⟩) n n, by rw [List.getElem?_map, List.getElem?_eq_getElem hi]; rfl, some ⟨bs[i], 0, none⟩, n, by rw [h1], h2.cells, by omega⟩
theorem RowsAt.push {w w' : World} {base n b : Nat} {v v' : Value} {L : List (List Int)} {bs : List Nat} {l : List Int} (h : RowsAt w base v n L bs) (hk : ∀ k, k < w.heap.size → some k ≠ v.ownBlock → w'.heap[k]? = w.heap[k]?) (ho : Own w' base 23 v' ((bs.map fun b => Value.slice (some ⟨b, 0, none⟩) n n) ++ [.slice (some ⟨b, 0, none⟩) n n])) (hl : l.length = n) (hr : Row1 w b 24 (u64v l)) (hb : base ≤ b) : RowsAt w' base v' n (L ++ [l]) (bs ++ [b]) := by
  have keep : ∀ (b : Nat) (ys : List Value), Row1 w b 24 ys → Row1 w' b 24 ys := fun b ys k => k.keep (hk b k.lt (own_ne_row h.own k (by decide)))
  refine ⟨by rw [List.map_append]; exact ho, by rw [List.length_append, List.length_append, h.len]; rfl, fun i b' l' h1 h2 => ?_, fun b' hb' => ?_⟩
  · by_cases hi : i < bs.length
    · rw [List.getElem?_append_left hi] at h1
      rw [List.getElem?_append_left (by rw [← h.len]; exact hi)] at h2
      obtain ⟨a1, a2⟩ := h.row i b' l' h1 h2
      exact ⟨a1, keep _ _ a2⟩
    · rw [List.getElem?_append_right (by omega)] at h1
      rw [List.getElem?_append_right (by rw [← h.len]; omega), ← h.len] at h2
      have hi2 : i - bs.length = 0 := by
        have := (List.getElem?_eq_some_iff.1 h1).1
        simp at this
        omega
      rw [hi2] at h1 h2
      obtain rfl := Option.some.inj h1
      obtain rfl := Option.some.inj h2
      exact ⟨hl, keep _ _ hr⟩
  · rcases List.mem_append.1 hb' with h1 | h1
    · exact h.lo b' h1
    · obtain rfl := List.mem_singleton.1 h1
      exact hb
theorem withR_set {W : Nat} {l : List Int} {x : Int} : (u64v (tabL (W + 1) (nth l))).set W (.int .u64 x) = u64v (withR W l x) := by
  unfold withR
  have := tabL_set (n := W + 1) (f := nth l) (g := fun j => if j = W then x else nth l j) (k := W) fun j hj => by simp only [if_neg hj]
  simpa using this
theorem withR_none {W : Nat} {l : List Int} {x : Int} (h : l.length ≤ W) (hx : x = 0) : tabL (W + 1) (nth l) = withR W l x := by
  unfold withR
  refine tabL_congr fun j _ => ?_
  by_cases hj : j = W
  · rw [if_pos hj, hx, hj, nth_ge h]
  · rw [if_neg hj]
theorem wideL_same {m : Nat} : ∀ {f : List (List Int)}, (∀ l ∈ f, l.length = m) → f ≠ [] → wideL f = m
  | [], _, h => absurd rfl h
  | l :: f, hf, _ => by
    have h1 : wideL (l :: f) ≤ m := wideL_max fun x hx => Nat.le_of_eq (hf x hx)
    have h2 := wideL_le (l :: f) l (List.mem_cons_self ..)
    have h3 := hf l (List.mem_cons_self ..)
    omega
theorem allR_mem {W : Nat} {f : List (List Int)} {right : List Int} {n : Nat} {l : List Int} (h : l ∈ allR W f right n) : ∃ i, i < n ∧ l = withR W (f.getD i []) (nth right i) := by
  unfold allR at h
  obtain ⟨i, hi, rfl⟩ := List.mem_map.1 h
  exact ⟨i, List.mem_range.1 hi, rfl⟩
theorem allR_ok {W : Nat} {f : List (List Int)} {right : List Int} (hW : W ≤ 100000) (hn : f.length ≤ 1000000) (hf : ∀ l ∈ f, U64s l) (hr : U64s right) : RowsOk (allR W f right f.length) where
  few := by rw [allR_len]; exact hn
  len l hl := by
    obtain ⟨i, _, rfl⟩ := allR_mem hl
    rw [withR_len]; omega
  u l hl := by
    obtain ⟨i, hi, rfl⟩ := allR_mem hl
    intro z hz
    unfold withR tabL at hz
    obtain ⟨j, _, rfl⟩ := List.mem_map.1 hz
    have hm : f.getD i [] ∈ f := by rw [List.getD_eq_getElem?_getD, List.getElem?_eq_getElem hi]; exact List.getElem_mem ..
    have h1 := (hf _ hm).nth j
    have h2 := hr.nth i
    show U64 (if j = W then nth right i else nth (f.getD i []) j)
    by_cases e : j = W
    · rw [if_pos e]; exact h2
    · rw [if_neg e]; exact h1
theorem wpList_look_rk (w : World) {ops : Array Oper} {rest : List Oper} {o : Oper} {a : Act} {Q : Exit → Act → World → Prop} {b : Nat} {L : List Ent} (hg : o.guard = none) (m x : Operand) (hop : o.op = Op.lookup 62 m x true) (hm : a.eval m = .map (some b)) (h : MapAt rM w b L)
    {j : Nat} (hx : a.eval x = .int .i64 (j : Int)) (hj : j ≤ 1000000)
    (hNo : Hid (∀ u ∈ L, u.en.at_ ≠ j) → wpList Tryd.prog ops Q rest (a.put o.dst (.tuple #[.slice none 0 0, .bool false])) w)
    (hYes : ∀ u ∈ L, Hid (u.en.at_ = j) → wpList Tryd.prog ops Q rest (a.put o.dst (.tuple #[entS u, .bool true])) w) :
    wpList Tryd.prog ops Q (o :: rest) a w := by
  refine wpList_look_tab w hg m x 62 true hop 23 Tryd.underlying62 (Tryd.zeroValue23 _) hm h hx (keyOf_int_mk Tryd.underlying3 (wf_i64 (show I64 (j : Int) from ⟨by omega, by omega⟩))) (fun hno => ?_) (fun u hu he => ?_)
  · exact hNo (hid fun u hu e => hno u hu (by show Lit.int .i64 (u.en.at_ : Int) = Lit.int .i64 (j : Int); rw [e]))
  · have he : Lit.int .i64 (u.en.at_ : Int) = Lit.int .i64 (j : Int) := he
    injection he with _ he
    exact hYes u hu (hid (by omega))
theorem zeros_val (W W' : Nat) : List.replicate W (Value.int .u64 0) = u64v (tabL W (valAt [] W')) := by
  apply List.ext_getElem
  · simp [tabL]
  · intro i h1 h2
    simp [tabL, valAt]
set_option maxRecDepth 100000 in
set_option maxHeartbeats 4000000 in
theorem solve_c (A : Option Addr) (f : List (List Int)) (c : Nat) (A2 : Option Addr) (right : List Int) (c2 : Nat) (q : Int) (w : World) (hA : Grid w A f) (hf : RowsOk f) (hA2 : Cells w A2 (u64v right)) (_hrl : right.length ≤ 1000000) (hru : U64s right) (hq : U64 q) (hT : Tabs w) (hfew : f.length ≤ 100000) (hwid : wideL f ≤ 100000) [DecidableEq Lit] :
    Calls Tryd.prog 15 #[.slice A f.length c, .slice A2 right.length c2, .int .u64 q] w (NumsE (solveV f right q).1 (solveV f right q).2 w) := by
  have HP := hid (rmay_c q hq w hT)
  cases hp : primeV q with
  | false =>
    rw [hp] at HP
    have HV := hid (show solveV f right q = ([], 1) by unfold solveV; rw [if_neg (by rw [hp]; simp)])
    generalize solveV f right q = V at *
    clear hp hA hA2
    go_enter Tryd.func15, Tryd.ntmps15
    go_wp2_with (fail)
    refine HP.out.mono ?_
    rintro e w2 ⟨rfl, hd⟩
    go_wp2
    go_ret2
    refine ⟨.slice none 0 0, by rw [HV.out]; rfl, by rw [HV.out]; exact Own.nil _ _ _, below_of_dr hd⟩
  | true =>
    rw [hp] at HP
    by_cases hlen : right.length ≤ f.length
    · obtain ⟨h1, h2⟩ := okm_prime hp
      have HA := hid hA
      have HA2 := hid hA2
      have HF := hid hf
      have HU := hid hru
      have HQ := hid h1
      have HWL := hid (wideL_le f)
      have HS := hid (show solveS f right q = spaceL q (iv q) (wideL (allR (wideL f) f right f.length)) (allR (wideL f) f right f.length) from rfl)
      have HV := hid (show solveV f right q = if ∃ p ∈ solveS f right q, p.at_ = wideL f then ([], 5) else (tabL (wideL f) (valAt (solveS f right q) (wideL f)), 0) by unfold solveV; rw [if_pos ⟨hp, hlen⟩])
      have HWT := hid (fun k l (h : f[k]? = some l) => wideL_take h)
      obtain ⟨W, hW⟩ : ∃ W, wideL f = W := ⟨_, rfl⟩
      rw [hW] at HWL HS HV hwid
      have HWF := hid hW
      have HALL := hid (allR_ok (f := f) (right := right) hwid (by omega) hf.u hru)
      have HNIL := hid (show f ≠ [] → wideL (allR W f right f.length) = W + 1 from fun hne => wideL_same (fun l hl => by obtain ⟨i, _, rfl⟩ := allR_mem hl; exact withR_len ..) (by intro e; have := allR_len W f right f.length; rw [e] at this; exact hne (List.length_eq_zero_iff.1 this.symm)))
      have HNIL0 := hid (show f = [] → wideL (allR W f right f.length) = 0 from fun e => by subst e; rfl)
      generalize solveV f right q = V at *
      clear hA hA2 hf hru h1 hp hW
      go_enter Tryd.func15, Tryd.ntmps15
      go_wp2_with (fail)
      refine HP.out.mono ?_
      rintro e w2 ⟨rfl, hd⟩
      have HB2 := hid (below_of_dr hd (B := w.heap.size))
      clear hd HP
      go_wp2
      rw [show decide (f.length < right.length) = false by simpa using hlen]
      go_loopw [8, 33] (fun v i wr => ∃ k : Nat, i = .int .i64 (k : Int) ∧ k ≤ f.length ∧ v = .int .i64 (wideL (f.take k) : Int) ∧ Hid (Below w.heap.size w wr)) (fun _ i _ => f.length - (intOf i).toNat)
      case atStart => exact ⟨0, rfl, by omega, rfl, HB2⟩
      case round =>
        obtain ⟨k, rfl, hk, rfl, HI⟩ := hrel
        by_cases hlt : k < f.length
        · obtain ⟨l, hl⟩ := get_of_lt hlt
          obtain ⟨bb, off, A', cc, rfl, c0, _, _⟩ := (HA.out.below HI.out).at_ hl
          have HWN := hid (HWT.out k l hl)
          obtain ⟨wk, hwk⟩ : ∃ n, wideL (f.take k) = n := ⟨_, rfl⟩
          obtain ⟨wn, hwn⟩ : ∃ n, max wk l.length = n := ⟨_, rfl⟩
          have hmax : max (wk : Int) (l.length : Int) = (wn : Int) := by omega
          rw [hwk]
          rw [hwk, hwn] at HWN
          clear hl hwk hwn
          go_wp2
          go_roundw
          case rel => exact ⟨k + 1, by go_num, by omega, by rw [HWN.out], HI⟩
          case measure => simp [intOf]; omega
        · obtain rfl : k = f.length := by omega
          rw [List.take_length, HWF.out]
          clear HWT HB2
          go_wp2
          have HI0 := hid HI.out
          clear HI
          generalize wr = wo at *
          go_loopw [11, 44] (fun va i wr => ∃ (k : Nat) (bs : List Nat), i = .int .i64 (k : Int) ∧ k ≤ f.length ∧ Hid (RowsAt wr w.heap.size va (W + 1) (allR W f right k) bs ∧ Below w.heap.size w wr)) (fun _ i _ => f.length - (intOf i).toNat)
          case atStart => exact ⟨0, [], rfl, by omega, hid ⟨⟨Own.nil _ _ _, rfl, (fun i b l h => by simp at h), (fun b h => by cases h)⟩, HI0.out⟩⟩
          case round =>
            obtain ⟨k, bs, rfl, hk, HI⟩ := hrel
            rename_i va wr
            by_cases hlt : k < f.length
            · obtain ⟨l, hl⟩ := get_of_lt hlt
              obtain ⟨bb, off, A', cc, rfl, c0, hcl, _⟩ := (HA.out.below HI.out.2).at_ hl
              have hlW := HWL.out l (List.mem_of_getElem? hl)
              have HCL := hid hcl
              have HSC := hid (show allR W f right (k + 1) = allR W f right k ++ [withR W l (nth right k)] by rw [allR_succ, List.getD_eq_getElem?_getD, hl]; rfl)
              have HBR := hid HI.out.2
              have HRA := hid HI.out.1
              have hbsl : bs.length = k := by rw [HI.out.1.len, allR_len]
              clear hl hcl HI
              by_cases hkr : k < right.length
              · have hc2 := HA2.out.below HBR.out
                obtain ⟨b2, off2, e2, cr⟩ := hc2.at_map (show right[k]? = some (nth right k) by rw [List.getElem?_eq_getElem hkr, nth_lt hkr])
                cases e2
                generalize nth right k = x at *
                go_wp2_with (first
                  | (at_make; refine wpList_make_row elt_u64 _ rfl _ _ rfl .i64 .i64 ((W : Int) + 1) ((W : Int) + 1) (W + 1) rfl rfl (by omega) (by omega) (by omega) (by omega) ?_; intro w3 hr3 hs3 hb3)
                  | (refine wpList_copy_splice (by rfl) (.tmp 52) (.tmp 53) 23 23 (by rfl) 24 Tryd.underlying23 (by kernel_rfl) _ _ (W + 1) (W + 1) l.length cc rfl rfl wr.heap.size 0 (List.replicate (W + 1) (Value.int .u64 0)) 24 hr3 (u64v l) (by show (u64v l).length = min l.length (W + 1); rw [List.length_map]; omega) (copy_pos HCL.out hb3) (by rw [List.length_map, List.length_replicate]; omega) (u64_one l) wr.heap.size wr hb3 (Nat.le_refl _) ?_; intro w4 hr4 hb4
                     have hrow4 : Row1 w4 wr.heap.size 24 (u64v (tabL (W + 1) (nth l))) := by rw [← splice_row (W + 1) l (by omega)]; exact hr4.out
                     have hfz4 := hrow4.frozen W
                     have hcx4 := hrow4.cell (u64v_at (l := tabL (W + 1) (nth l)) (j := W) (by rw [tabL_len]; omega))
                     have hcr4 := (hb4.cell (lt_of_cell cr)).trans cr
                     have hset := hrow4.set W (.int .u64 x)
                     have HR5 := hid (show Row1 (w4.setCell ⟨wr.heap.size, W, none⟩ (.int .u64 x)) wr.heap.size 24 (u64v (withR W l x)) by rw [← withR_set]; exact hset)
                     have HB5 := hid (show Below wr.heap.size wr (w4.setCell ⟨wr.heap.size, W, none⟩ (.int .u64 x)) from below_set hb4 (Nat.le_refl _))
                     have hown5 := (HRA.out.below HB5.out).own
                     have HSZ := hid (show (w4.setCell ⟨wr.heap.size, W, none⟩ (.int .u64 x)).heap.size = w4.heap.size by simp [World.setCell])
                     clear hrow4 hset)
                  | (at_builtin; refine wpList_push elt_rows _ rfl _ _ rfl w.heap.size hown5 rfl (.slice (some ⟨wr.heap.size, 0, none⟩) (W + 1) (W + 1)) (by rw [HSZ.out]; rfl) rfl (by rw [List.length_map]; omega) (by rw [List.length_map]; omega) (Nat.le_trans HBR.out.size HB5.out.size) ?_; intro v6 w6 hown6 hk6 hb6))
                have HN := hid (show RowsAt w6 w.heap.size v6 (W + 1) (allR W f right (k + 1)) (bs ++ [wr.heap.size]) ∧ Below w.heap.size w w6 from by
                  rw [HSC.out]
                  exact ⟨(HRA.out.below HB5.out).push hk6 hown6 (withR_len ..) HR5.out HBR.out.size, (below_next HBR.out HBR.out.size HB5.out).trans hb6⟩)
                clear hown6 hk6 hb6 hown5
                go_wp2
                go_roundw
                case rel => exact ⟨k + 1, _, by go_num, by omega, HN⟩
                case measure => simp [intOf]; omega
              · have hx0 : nth right k = 0 := nth_ge (by omega)
                have HW0 := hid (withR_none (x := nth right k) hlW hx0)
                generalize nth right k = x at *
                go_wp2_with (first
                  | (at_make; refine wpList_make_row elt_u64 _ rfl _ _ rfl .i64 .i64 ((W : Int) + 1) ((W : Int) + 1) (W + 1) rfl rfl (by omega) (by omega) (by omega) (by omega) ?_; intro w3 hr3 hs3 hb3)
                  | (refine wpList_copy_splice (by rfl) (.tmp 52) (.tmp 53) 23 23 (by rfl) 24 Tryd.underlying23 (by kernel_rfl) _ _ (W + 1) (W + 1) l.length cc rfl rfl wr.heap.size 0 (List.replicate (W + 1) (Value.int .u64 0)) 24 hr3 (u64v l) (by show (u64v l).length = min l.length (W + 1); rw [List.length_map]; omega) (copy_pos HCL.out hb3) (by rw [List.length_map, List.length_replicate]; omega) (u64_one l) wr.heap.size wr hb3 (Nat.le_refl _) ?_; intro w4 hr4 hb4
                     have HR5 := hid (show Row1 w4 wr.heap.size 24 (u64v (withR W l x)) by rw [← HW0.out, ← splice_row (W + 1) l (by omega)]; exact hr4.out)
                     have HB5 := hid hb4
                     have hown5 := (HRA.out.below HB5.out).own)
                  | (at_builtin; refine wpList_push elt_rows _ rfl _ _ rfl w.heap.size hown5 rfl (.slice (some ⟨wr.heap.size, 0, none⟩) (W + 1) (W + 1)) rfl rfl (by rw [List.length_map]; omega) (by rw [List.length_map]; omega) (Nat.le_trans HBR.out.size HB5.out.size) ?_; intro v6 w6 hown6 hk6 hb6))
                have HN := hid (show RowsAt w6 w.heap.size v6 (W + 1) (allR W f right (k + 1)) (bs ++ [wr.heap.size]) ∧ Below w.heap.size w w6 from by
                  rw [HSC.out]
                  exact ⟨(HRA.out.below HB5.out).push hk6 hown6 (withR_len ..) HR5.out HBR.out.size, (below_next HBR.out HBR.out.size HB5.out).trans hb6⟩)
                clear hown6 hk6 hb6 hown5
                go_wp2
                go_roundw
                case rel => exact ⟨k + 1, _, by go_num, by omega, HN⟩
                case measure => simp [intOf]; omega
            · obtain rfl : k = f.length := by omega
              have HBR := hid HI.out.2
              obtain ⟨AA, ca, rfl, hgrid⟩ := HI.out.1.grid (by omega)
              have HC := hid (of_c AA (allR W f right f.length) ca q wr hgrid HALL.out HQ.out h2)
              rw [allR_len] at HC ⊢
              clear hgrid HI HALL HA HA2 HF HU HI0
              obtain ⟨WA, hWA⟩ : ∃ WA, wideL (allR W f right f.length) = WA := ⟨_, rfl⟩
              rw [hWA] at HC HS HNIL HNIL0
              generalize spaceL q (iv q) WA (allR W f right f.length) = SP at *
              clear hWA
              go_wp2_with (fail)
              refine HC.out.mono ?_
              rintro e w3 ⟨gs, gm, L, rfl, he, hsp, hgd, hb3⟩
              have HSV := hid (HS.out.trans he.symm)
              have HGD := hid hgd
              have HB3 := hid (below_next HBR.out HBR.out.size hb3)
              have HEN := hid (show ∀ u ∈ L, u.en.at_ ≤ W ∧ u.en.row.length = W + 1 from fun u hu => by
                have hm : u.en ∈ ens L := List.mem_map.2 ⟨u, hu, rfl⟩
                have e1 := hgd.lt _ hm
                have e2 := hgd.len _ hm
                by_cases hfe : f = []
                · rw [HNIL0.out hfe] at e1; omega
                · rw [HNIL.out hfe] at e1 e2; exact ⟨by omega, e2⟩)
              have HSP := hid hsp
              have c2 := hsp.row.cell (k := 2) rfl
              have hmap := hsp.map
              clear hgd hb3 hsp HC he HNIL HNIL0 HS HBR
              go_wp2_with (at_lookup; refine wpList_look_rk _ rfl _ _ rfl rfl hmap rfl (by omega) ?_ ?_)
              · intro HNO
                have HV2 := hid (show V = (tabL W (valAt (ens L) W), 0) by
                  rw [HV.out, HSV.out, if_neg]
                  rintro ⟨p, hp1, hp2⟩
                  obtain ⟨u, hu, rfl⟩ := List.mem_map.1 hp1
                  exact HNO.out u hu hp2)
                have HAT := hid (show ∀ u ∈ L, u.en.at_ < W from fun u hu => by have h1 := (HEN.out u hu).1; have h2 := HNO.out u hu; omega)
                have hs3 := HB3.out.size
                clear HV HSV HNO
                go_wp2_with (first
                  | (at_make; refine wpList_make_row elt_u64 _ rfl _ _ rfl .i64 .i64 (W : Int) (W : Int) W rfl rfl rfl rfl (by omega) (by omega) ?_; intro w5 hr5 hs5 hb5
                     rw [zeros_val W W] at hr5
                     have hM5 := hmap.below hb5
                     have hc5 := (HSP.out.below hb5).row.cell (k := 2) rfl
                     have HB5 := hid hb5
                     have HR5 := hid hr5
                     have hbl5 := hr5.lt
                     clear hr5 hb5 c2 hmap)
                  | (at_range; refine wpList_range_rk _ rfl _ rfl rfl hM5 ?_; intro w6 cnt hrg6 hg6 hs6))
                go_frame
                have HB6 := hid (HB5.out.grown hg6 HB5.out.size fun j e => by cases e)
                have HR6 := hid (HR5.out.keep (hg6.block w3.heap.size hbl5 fun e => by cases e))
                clear hg6 hM5 hc5 HR5 HB5
                obtain ⟨r, hr⟩ : ∃ r, w5.heap.size = r := ⟨_, rfl⟩
                have hgm : gm < w3.heap.size := HSP.out.map.lt
                have hbr : w3.heap.size < r := by omega
                rw [hr] at hrg6 ⊢
                clear hr hs5 hs6 hbl5
                go_loopw [19, 20] (fun _ _ wr => ∃ (rest : List Ent) (cnt : Nat) (pre : List Ent), RangeAt rM wr gm r L rest cnt ∧ Hid (L.Perm (pre ++ rest) ∧ Row1 wr w3.heap.size 24 (u64v (tabL W (valAt (ens pre) W))) ∧ Below w3.heap.size w3 wr)) (fun _ _ wr => wr.rangeLeft gm r)
                case atStart => exact ⟨L, cnt, [], hrg6, hid ⟨.refl _, HR6.out, HB6.out⟩⟩
                case round =>
                  obtain ⟨rest, cnt2, pre, hrg, HI⟩ := hrel
                  rename_i wz
                  have HL := hid hrg.left
                  clear hrg6 HR6 HB6
                  go_wp2_with (at_next; refine wpList_next_rk _ rfl _ rfl rfl hrg ?_ ?_)
                  · intro hr0
                    have hp := HI.out.1
                    rw [hr0, List.append_nil] at hp
                    have hpe : (ens L).Perm (ens pre) := hp.map _
                    have HF := hid (show tabL W (valAt (ens L) W) = tabL W (valAt (ens pre) W) from tabL_congr fun j _ => valAt_perm HGD.out.nd hpe j)
                    have HR7 := hid HI.out.2.1
                    have HB7 := hid (below_next HB3.out HB3.out.size HI.out.2.2)
                    clear hp hpe hrg HI
                    go_wp2
                    go_ret2
                    refine ⟨_, by rw [HV2.out]; rfl, ?_, HB7.out⟩
                    rw [HV2.out, HF.out]
                    have := HR7.out.own (base := w.heap.size) (by omega) (by rw [List.length_map, tabL_len]; omega)
                    rw [List.length_map, tabL_len] at this
                    exact this
                  · intro x rest' w8 cnt3 hperm hx hrg8 hlt8 hg8 hs8 hen
                    have HPM := hid hperm
                    have hat := HAT.out x hx
                    have hxl := (HEN.out x hx).2
                    have HB8 := hid (grown_up HI.out.2.2 hg8 (by omega))
                    have hr8 := HI.out.2.1.keep (hg8.block w3.heap.size HI.out.2.1.lt fun e => by cases e; omega)
                    have hcx := ((HSP.out.below HB8.out).cells x hx).cell (u64v_at (l := x.en.row) (j := W) (by omega))
                    have hco := hr8.cell (u64v_at (l := tabL W (valAt (ens pre) W)) (j := x.en.at_) (by rw [tabL_len]; omega))
                    have hfo := hr8.frozen x.en.at_
                    obtain ⟨y, hy⟩ : ∃ y, nth x.en.row W = y := ⟨_, rfl⟩
                    have hPP : L.Perm ((pre ++ [x]) ++ rest') := by
                      rw [List.append_assoc]
                      exact HI.out.1.trans (hperm.append_left pre)
                    have HPP := hid hPP
                    have HVS := hid (show (u64v (tabL W (valAt (ens pre) W))).set x.en.at_ (.int .u64 y) = u64v (tabL W (valAt (ens (pre ++ [x])) W)) by
                      have hnd : (ens (pre ++ [x])).Pairwise fun p p' => p.at_ ≠ p'.at_ := by
                        have h1 := ((hPP.map Ent.en).pairwise_iff (R := fun p p' : En => p.at_ ≠ p'.at_) fun {_ _} hne => Ne.symm hne).1 HGD.out.nd
                        rw [List.map_append] at h1
                        exact (List.pairwise_append.1 h1).1
                      have e1 : ens (pre ++ [x]) = ens pre ++ [x.en] := by simp [ens]
                      rw [e1] at hnd
                      have hne : ∀ p ∈ ens pre, p.at_ ≠ x.en.at_ := fun p hp => (List.pairwise_append.1 hnd).2.2 p hp _ (List.mem_singleton.2 rfl)
                      have hsn := valAt_snoc (W := W) hne
                      have e2 := tabL_set (n := W) (f := valAt (ens pre) W) (g := valAt (ens (pre ++ [x])) W) (k := x.en.at_) (fun j hj => by rw [e1, hsn, if_neg hj])
                      rw [← e2, e1, hsn, if_pos rfl, hy])
                    have HR9 := hid (show Row1 (w8.setCell ⟨w3.heap.size, x.en.at_, none⟩ (.int .u64 y)) w3.heap.size 24 (u64v (tabL W (valAt (ens (pre ++ [x])) W))) by rw [← HVS.out]; exact hr8.set _ _)
                    have HB9 := hid (show Below w3.heap.size w3 (w8.setCell ⟨w3.heap.size, x.en.at_, none⟩ (.int .u64 y)) from below_set HB8.out (Nat.le_refl _))
                    have hg9 := grown_set w8 w3.heap.size x.en.at_ (.int .u64 y)
                    have hlt := hrg8.lt
                    have hrg9 := hrg8.keep (hg9.block gm hlt.1 fun e => by cases e; omega) (hg9.block r hlt.2.1 fun e => by cases e; omega)
                    rw [hy] at hcx
                    have hgt : (W : Int) < ((W + 1 : Nat) : Int) := by omega
                    obtain ⟨xa, hxa⟩ : ∃ n, x.en.at_ = n := ⟨_, rfl⟩
                    obtain ⟨xr, hxr⟩ : ∃ n, x.en.row.length = n := ⟨_, rfl⟩
                    rw [hxa] at *
                    have hxrW : W < xr := by omega
                    clear hperm hs8 hg8 hrg HI hPP hg9 hr8 HPM hy hxl HVS
                    go_wp2
                    go_roundw
                    case rel => exact ⟨rest', cnt3, pre ++ [x], hrg9, hid ⟨HPP.out, HR9.out, HB9.out⟩⟩
                    case measure => rw [HL.out, hrg9.left]; exact hlt8
              · intro u hu HE
                have HV2 := hid (show V = ([], 5) by
                  rw [HV.out, if_pos ⟨u.en, by rw [HSV.out]; exact List.mem_map.2 ⟨u, hu, rfl⟩, HE.out⟩])
                clear hmap
                go_wp2
                go_ret2
                exact ⟨.slice none 0 0, by rw [HV2.out]; rfl, by rw [HV2.out]; exact Own.nil _ _ _, HB3.out⟩
    · have HV := hid (show solveV f right q = ([], 1) by unfold solveV; rw [if_neg (fun h => hlen h.2)])
      have hgt : (f.length : Int) < (right.length : Int) := by omega
      generalize solveV f right q = V at *
      clear hp hA hA2
      go_enter Tryd.func15, Tryd.ntmps15
      go_wp2_with (fail)
      refine HP.out.mono ?_
      rintro e w2 ⟨rfl, hd⟩
      go_wp2
      go_ret2
      refine ⟨.slice none 0 0, by rw [HV.out]; rfl, by rw [HV.out]; exact Own.nil _ _ _, below_of_dr hd⟩
end Go.Proofs.YtlbhmoiicbhgkaaDoor
end

section
namespace Go.Proofs.YtlbhmoiicbhgkaaDoor
open Go.RowKit
/-- blocks that are known whole (F: for long; L: the newest ahead), and that nothing but new blocks has come since w0. -/
structure Bun (w0 w : World) (F L : List (Nat × TypeId × List Value)) : Prop where
  b : Below w0.heap.size w0 w
  old : ∀ x ∈ F, Row1 w x.1 x.2.1 x.2.2
  rows : ∀ x ∈ L, Row1 w x.1 x.2.1 x.2.2
section
variable {w0 w w' : World} {F L L' : List (Nat × TypeId × List Value)}
theorem Bun.nil (w : World) : Bun w w [] [] := ⟨Below.refl _ _, (fun x h => by cases h), (fun x h => by cases h)⟩
theorem Bun.of (h : Below w0.heap.size w0 w) : Bun w0 w [] [] := ⟨h, (fun x h => by cases h), (fun x h => by cases h)⟩
theorem Bun.more (h : Bun w0 w F L) (hb : Below w.heap.size w w') : Bun w0 w' F L := ⟨below_next h.b h.b.size hb, fun x hx => (h.old x hx).below hb, fun x hx => (h.rows x hx).below hb⟩
theorem Bun.row (h : Bun w0 w F L) {i g : Nat} {e : TypeId} {xs : List Value} (hi : L[i]? = some (g, e, xs)) : Row1 w g e xs := h.rows _ (List.mem_of_getElem? hi)
theorem Bun.drop (h : Bun w0 w F L) : Bun w0 w F [] := ⟨h.b, h.old, fun x hx => by cases hx⟩
theorem Bun.keep (h : Bun w0 w F L) : Bun w0 w (L ++ F) [] := ⟨h.b, fun x hx => (List.mem_append.1 hx).elim (h.rows x) (h.old x), fun x hx => by cases hx⟩
theorem Bun.alloc (h : Bun w0 w F L) (xs : List Value) (e : TypeId) : Bun w0 (w.alloc (.cells xs.toArray e)) F ((w.heap.size, e, xs) :: L) :=
  ⟨below_next h.b h.b.size (below_alloc w _), fun x hx => (h.old x hx).alloc _, fun x hx => by
    rcases List.mem_cons.1 hx with rfl | hx
    · exact row1_new w xs e
    · exact (h.rows x hx).alloc _⟩
end
def isStore : Op → Bool
  | .store .. => true
  | _ => false
/-- the block that was laid last gets a name (behind its store). -/
theorem wpList_named {P : Program} {w0 w : World} {F L : List (Nat × TypeId × List Value)} (hB : Bun w0 w F L) {ops : Array Oper} {o : Oper} {rest : List Oper} {a : Act} {Q : Exit → Act → World → Prop} {xs : List Value} {e : TypeId} (_ : isStore o.op = false)
    (h : ∀ w' g, Bun w0 w' F ((g, e, xs) :: L) → Below w.heap.size w w' → w.heap.size = g → wpList P ops Q (o :: rest) a w') : wpList P ops Q (o :: rest) a (w.alloc (.cells xs.toArray e)) :=
  h _ _ (hB.alloc xs e) (below_alloc w _) rfl
/-- rows of equal length, one behind the other. -/
theorem flat_at {α : Type} (h : α → List Value) (n : Nat) (hn : ∀ t, (h t).length = n) : ∀ (l : List α) (k i : Nat), i < n → (l.flatMap h)[k * n + i]? = (l[k]?).bind fun t => (h t)[i]?
  | [], k, i, _ => by simp
  | t :: l, 0, i, hi => by
    rw [List.flatMap_cons, Nat.zero_mul, Nat.zero_add, List.getElem?_append_left (by rw [hn]; exact hi)]
    rfl
  | t :: l, k + 1, i, hi => by
    rw [List.flatMap_cons, List.getElem?_append_right (by rw [hn, Nat.succ_mul]; omega), hn, show (k + 1) * n + i - n = k * n + i by rw [Nat.succ_mul]; omega, flat_at h n hn l k i hi]
    rfl
end Go.Proofs.YtlbhmoiicbhgkaaDoor
end

section
namespace Go.Proofs.YtlbhmoiicbhgkaaDoor
open Go Go.RowKit Go.Maps Go.Shelf Go.Proofs
def SameUpto {α : Type} (la lb : List α) (k : Nat) : Prop := ∀ i, i < k → la[i]? = lb[i]?
theorem SameUpto.step {α : Type} {la lb : List α} {k : Nat} {x : α} (h : SameUpto la lb k) (h1 : la[k]? = some x) (h2 : lb[k]? = some x) : SameUpto la lb (k + 1) := by
  intro i hi
  rcases Nat.lt_or_ge i k with h3 | h3
  · exact h i h3
  · obtain rfl : i = k := by omega
    rw [h1, h2]
theorem SameUpto.all {α : Type} {la lb : List α} (h : SameUpto la lb la.length) (hl : la.length = lb.length) : la = lb := by
  apply List.ext_getElem?
  intro i
  rcases Nat.lt_or_ge i la.length with h1 | h1
  · exact h i h1
  · rw [List.getElem?_eq_none h1, List.getElem?_eq_none (by omega)]
theorem nums_c (A B : Option Addr) (la lb : List Int) (ca cb : Nat) (w : World) (hA : Cells w A (la.map (.int .u64))) (hB : Cells w B (lb.map (.int .u64))) (hl : la.length ≤ 9223372036854775807) (hl' : lb.length ≤ 9223372036854775807) :
    Calls Tryd.prog 13 #[.slice A la.length ca, .slice B lb.length cb] w fun e w' => e = .returned (.bool (decide (la = lb))) ∧ Dr w w' := by
  by_cases hlen : la.length = lb.length
  · have hb : (((la.length : Nat) : Int) != ((lb.length : Nat) : Int)) = false := by simp [hlen]
    have HL := hid hlen
    clear hlen
    go_enter Tryd.func13, Tryd.ntmps13
    go_wp2
    go_loopw [5] (fun i wr => ∃ k : Nat, i = .int .i64 k ∧ k ≤ la.length ∧ SameUpto la lb k ∧ Dr w wr) (fun i _ => la.length - (intOf i).toNat)
    case atStart => exact ⟨0, rfl, by omega, fun i hi => absurd hi (by omega), Dr.refl w⟩
    case round =>
      obtain ⟨k, rfl, hk, hsame, hw⟩ := hrel
      by_cases hlt : k < la.length
      · obtain ⟨x, hx⟩ := get_of_lt hlt
        obtain ⟨y, hy⟩ := get_of_lt (l := lb) (show k < lb.length by have := HL.out; omega)
        obtain ⟨b, off, rfl, hc⟩ := (hA.dr hw).at_map hx
        obtain ⟨b', off', rfl, hc'⟩ := (hB.dr hw).at_map hy
        have hlt' : k < lb.length := by have := HL.out; omega
        by_cases hxy : x = y
        · subst hxy
          have hn : (x != x) = false := by simp
          have hs := hsame.step hx hy
          go_wp2
          go_quiet (fail)
          go_wp2
          go_roundw
          case rel => exact ⟨k + 1, by go_num, by omega, hs, hw.more _⟩
          case measure => simp [intOf]; omega
        · have hn : (x != y) = true := by simpa using hxy
          have hfin : decide (la = lb) = false := by
            simp only [decide_eq_false_iff_not]
            rintro rfl
            rw [hx] at hy
            exact hxy (Option.some.inj hy)
          have HF := hid hfin
          clear hfin hxy
          go_wp2
          go_quiet (fail)
          go_wp2
          go_ret
          exact ⟨ret_bool HF.out.symm, hw.more _⟩
      · have hfin : decide (la = lb) = true := by
          obtain rfl : k = la.length := by omega
          simp only [decide_eq_true_eq]
          exact hsame.all HL.out
        have HF := hid hfin
        clear hfin
        go_wp2
        go_ret
        exact ⟨ret_bool HF.out.symm, hw⟩
  · have hb : (((la.length : Nat) : Int) != ((lb.length : Nat) : Int)) = true := by simp; omega
    have hfin : decide (la = lb) = false := by
      simp only [decide_eq_false_iff_not]
      rintro rfl
      exact hlen rfl
    have HF := hid hfin
    clear hfin hlen
    go_enter Tryd.func13, Tryd.ntmps13
    go_wp2
    go_ret
    exact ⟨ret_bool HF.out.symm, Dr.refl w⟩
/-- the inverse, by trying all. -/
def invS (q x : Int) : Int := match (List.range q.toNat).find? (fun (y : Nat) => decide ((y : Int) * x % q = 1)) with
  | some y => (y : Int)
  | none => 0
theorem iVal_invS {q : Int} (h : okm q = true) (h2 : 2 ≤ q) (x : Int) : iVal x q = invS q x := by
  unfold invS
  cases hf : (List.range q.toNat).find? (fun (y : Nat) => decide ((y : Int) * x % q = 1)) with
  | some y =>
    have h1 := List.find?_some hf
    have h3 := List.mem_range.1 (List.mem_of_find?_eq_some hf)
    have h1 : (y : Int) * x % q = 1 := by simpa using h1
    show iVal x q = (y : Int)
    refine iVal_is h ⟨by omega, by omega, (y : Int) * x / q, ?_⟩
    have := Int.mul_ediv_add_emod ((y : Int) * x) q
    omega
  | none =>
    refine iVal_none ?_
    rintro ⟨z, z0, z1, k, hk⟩
    rw [List.find?_eq_none] at hf
    refine hf z.toNat (List.mem_range.2 (by omega)) ?_
    have e : ((z.toNat : Nat) : Int) = z := by omega
    simp only [decide_eq_true_eq]
    rw [e, hk, Int.add_mul_emod_self_left]
    exact Int.emod_eq_of_lt (by omega) (by omega)
theorem iv_invS {q : Int} (h : primeV q = true) : iv q = invS q := funext fun x => iVal_invS (okm_prime h).1 (okm_prime h).2 x
theorem rankV_at {f : List (List Int)} {q : Int} (h : primeV q = true) : rankV f q = rankL q (invS q) f := by
  unfold rankV
  rw [if_pos h, iv_invS h]
theorem rankV_no {f : List (List Int)} {q : Int} (h : primeV q = false) : rankV f q = 0 := by
  unfold rankV
  rw [if_neg (by rw [h]; decide)]
theorem hangsV_at {f : List (List Int)} {row : List Int} {q : Int} (h : primeV q = true) : hangsV f row q = hangsL q (invS q) f row := by
  unfold hangsV
  rw [h, iv_invS h]; rfl
def solveC (inv : Int → Int) (f : List (List Int)) (right : List Int) (q : Int) : List Int × Int :=
  if right.length ≤ f.length then
    let S := spaceL q inv (wideL (allR (wideL f) f right f.length)) (allR (wideL f) f right f.length)
    if (S.any fun p => decide (p.at_ = wideL f)) = true then ([], 5) else (tabL (wideL f) (valAt S (wideL f)), 0)
  else ([], 1)
theorem solveV_iv {f : List (List Int)} {right : List Int} {q : Int} (h : primeV q = true) : solveV f right q = solveC (iv q) f right q := by
  unfold solveV solveC
  by_cases hl : right.length ≤ f.length
  · rw [if_pos ⟨h, hl⟩, if_pos hl]
    have e : ((solveS f right q).any fun p => decide (p.at_ = wideL f)) = true ↔ ∃ p ∈ solveS f right q, p.at_ = wideL f := by
      rw [List.any_eq_true]
      constructor
      · rintro ⟨p, h1, h2⟩; exact ⟨p, h1, by simpa using h2⟩
      · rintro ⟨p, h1, h2⟩; exact ⟨p, h1, by simpa using h2⟩
    by_cases hb : ∃ p ∈ solveS f right q, p.at_ = wideL f
    · rw [if_pos hb]
      exact (if_pos (e.2 hb)).symm
    · rw [if_neg hb]
      exact (if_neg (fun h' => hb (e.1 h'))).symm
  · rw [if_neg (fun h' => hl h'.2), if_neg hl]
theorem solveV_at {f : List (List Int)} {right : List Int} {q : Int} (h : primeV q = true) : solveV f right q = solveC (invS q) f right q := by rw [solveV_iv h, iv_invS h]
theorem solveV_no {f : List (List Int)} {right : List Int} {q : Int} (h : primeV q = false) : solveV f right q = ([], 1) := by
  unfold solveV
  rw [if_neg (fun h' => by rw [h] at h'; exact absurd h'.1 (by decide))]
/-- rows, one by one. -/
def RowsV (w : World) : List Value → List (List Int) → Prop
  | [], [] => True
  | v :: vs, l :: f => RowV w v l ∧ RowsV w vs f
  | _, _ => False
theorem RowsV.len {w : World} : ∀ {vs : List Value} {f : List (List Int)}, RowsV w vs f → vs.length = f.length
  | [], [], _ => rfl
  | _ :: _, _ :: _, h => by rw [List.length_cons, List.length_cons, RowsV.len h.2]
theorem RowsV.at_ {w : World} : ∀ {vs : List Value} {f : List (List Int)} (_ : RowsV w vs f) (i : Nat) (l : List Int), f[i]? = some l → ∃ v, vs[i]? = some v ∧ RowV w v l
  | v :: _, l' :: _, h, 0, l, hl => ⟨v, rfl, by obtain rfl : l' = l := by simpa using hl
                                                exact h.1⟩
  | _ :: _, _ :: _, h, i + 1, l, hl => by
    obtain ⟨v, h1, h2⟩ := RowsV.at_ h.2 i l (by simpa using hl)
    exact ⟨v, by simpa using h1, h2⟩
  | [], [], _, i, l, hl => by simp at hl
theorem grid_of {w : World} {g : Nat} {e : TypeId} {vs : List Value} {f : List (List Int)} (hO : Row1 w g e vs) (h : RowsV w vs f) : Grid w (some ⟨g, 0, none⟩) f := ⟨vs, hO.cells, h.len, h.at_⟩
theorem grid_none (w : World) : Grid w none [] := ⟨[], .inl rfl, rfl, fun i l h => by simp at h⟩
theorem rowV_at {w : World} {g : Nat} {e : TypeId} (l : List Int) (h : Row1 w g e (l.map (.int .u64))) (hl : l.length ≤ 1000) : RowV w (.slice (some ⟨g, 0, none⟩) l.length l.length) l := ⟨_, _, rfl, h.cells, by omega⟩
def okF (f : List (List Int)) : Bool := decide (f.length ≤ 100000) && f.all fun l => decide (l.length ≤ 100000) && l.all fun z => decide (0 ≤ z) && decide (z < 18446744073709551616)
theorem u64s_of {l : List Int} (h : (l.all fun z => decide (0 ≤ z) && decide (z < 18446744073709551616)) = true) : U64s l := by
  intro z hz
  have := List.all_eq_true.1 h z hz
  simp only [Bool.and_eq_true, decide_eq_true_eq] at this
  exact this
theorem rowsOk_of {f : List (List Int)} (h : okF f = true) : RowsOk f := by
  unfold okF at h
  simp only [Bool.and_eq_true, decide_eq_true_eq] at h
  refine ⟨by omega, fun l hl => ?_, fun l hl => ?_⟩
  · have := List.all_eq_true.1 h.2 l hl
    simp only [Bool.and_eq_true, decide_eq_true_eq] at this
    omega
  · have := List.all_eq_true.1 h.2 l hl
    simp only [Bool.and_eq_true, decide_eq_true_eq] at this
    exact u64s_of this.2
theorem p2 : primeV 2 = true := by decide +kernel
theorem p3 : primeV 3 = true := by decide +kernel
theorem p5 : primeV 5 = true := by decide +kernel
theorem rk1 : rankV [[1, 2], [2, 4]] 7 = 1 := by rw [rankV_at prime_7]; decide +kernel
theorem rk2 : rankV [[1, 2], [2, 4], [0, 1]] 7 = 2 := by rw [rankV_at prime_7]; decide +kernel
theorem hg1 : hangsV [[1, 2]] [3, 6] 7 = true := by rw [hangsV_at prime_7]; decide +kernel
theorem hg2 : hangsV [] [0, 0] 7 = true := by rw [hangsV_at prime_7]; decide +kernel
theorem hg3 : hangsV [[1, 2]] [1] 7 = false := by rw [hangsV_at prime_7]; decide +kernel
theorem sv1 : solveV [[1, 2], [2, 4]] [3, 6] 7 = ([3, 0], 0) := by rw [solveV_at prime_7]; decide +kernel
theorem sv2 : solveV [[1, 2], [2, 4]] [3, 5] 7 = ([], 5) := by rw [solveV_at prime_7]; decide +kernel
theorem sv3 : solveV [[0, 2]] [3] 7 = ([0, 5], 0) := by rw [solveV_at prime_7]; decide +kernel
theorem sv4 : solveV [[1, 2], [2, 4]] [] 6 = ([], 1) := solveV_no (by decide +kernel)
end Go.Proofs.YtlbhmoiicbhgkaaDoor
end

section
namespace Go.Proofs.YtlbhmoiicbhgkaaDoor
open Go Go.RowKit Go.Maps Go.Shelf Go.Proofs
attribute [local go_sem] Oper.semAt_some
theorem grid_head {w : World} {g : Nat} {e : TypeId} {v : Value} {vs : List Value} {l : List Int} (hO : Row1 w g e (v :: vs)) (h : RowV w v l) : Grid w (some ⟨g, 0, none⟩) [l] :=
  ⟨[v], .inr ⟨g, 0, rfl, fun i u hu => by
    match i, hu with
    | 0, hu =>
      obtain rfl : v = u := by simpa using hu
      exact hO.cell (k := 0) rfl
    | i + 1, hu => simp at hu⟩, rfl, RowsV.at_ (vs := [v]) (f := [l]) ⟨h, trivial⟩⟩
theorem grid_own {w : World} {base : Nat} {e : TypeId} {v : Value} {vs : List Value} {f : List (List Int)} (hO : Own w base e v vs) (h : RowsV w vs f) : ∃ A c, v = .slice A f.length c ∧ Grid w A f := by
  obtain ⟨A, c, rfl, hc⟩ := hO.form
  exact ⟨A, c, by rw [h.len], vs, hc, h.len, h.at_⟩
theorem RowV.below {w w' : World} {v : Value} {l : List Int} (h : RowV w v l) (hb : Below w.heap.size w w') : RowV w' v l := h.keep fun _ hp => hb.cell hp
theorem NumsE.own {xs : List Int} {en : Int} {w w' : World} {e : Ending} (h : NumsE xs en w e w') : ∃ A c, e = .returned (.tuple #[.slice A xs.length c, .int .i64 en]) ∧ Cells w' A (u64v xs) ∧ Below w.heap.size w w' := by
  obtain ⟨v, rfl, ho, hb⟩ := h
  obtain ⟨A, c, rfl, hc⟩ := ho.form
  exact ⟨A, c, by rw [List.length_map], hc, hb⟩
/-- 'append(s, u)' behind a row that is full: a new block. (For an operation that is guarded, too.) -/
theorem wpList_push_full {P : Program} {t e : TypeId} {z : Value} {bytes : Nat} (E : Elt P t e z bytes) (w : World) {ops : Array Oper} {rest : List Oper} {o : Oper} {a : Act} {Q : Exit → Act → World → Prop}
    (hg : Region.wanted o (yielded ops a.tmps) = true) (s x : Operand) (hop : o.op = .call { callee := .builtin .append, args := #[s, x], argTypes := #[t, t] })
    {b c : Nat} {xs : List Value} {u : Value} (hR : Row1 w b e xs) (hs : a.eval s = .slice (some ⟨b, 0, none⟩) xs.length xs.length) (hU : Row1 w c e [u]) (hx : a.eval x = .slice (some ⟨c, 0, none⟩) 1 1) (_h1 : u.oneCell' = true)
    (hb : (xs.length + 1) * bytes ≤ 140737488355328) (hm : xs.length + 1 ≤ maxLen)
    (hK : ∀ v' w', Own w' w.heap.size e v' (xs ++ [u]) → Below w.heap.size w w' → wpList P ops Q rest (a.put o.dst v') w') :
    wpList P ops Q (o :: rest) a w := by
  obtain ⟨i, hi, hz, hsz, hby⟩ := E.info
  obtain ⟨v', w', hrun, r1, r2⟩ := run_append_arg_grows (P := P) w t o.type e i z 1 bytes E.under hi hz hsz hby E.one (by decide) ⟨b, 0, none⟩ xs.length xs.length xs (by omega) (fun j u' hj => by rw [Addr.add_lit, Nat.zero_add]; exact hR.cell hj) ⟨c, 0, none⟩ 1 1 [u] rfl (fun j u' hj => by rw [Addr.add_lit, Nat.zero_add]; exact hU.cell hj) (by omega) hm hb
  refine wpList_step fun K hK' => ?_
  rw [if_pos hg]
  unfold Oper.wp
  simp [execOp, hop, resolve, invoke, builtin, hs, hx, hrun, Result.andThen]
  refine hK' _ _ (hK v' w' ?_ ((Below.refl _ _).grown r2 (Nat.le_refl _) fun j e => by cases e))
  unfold Own; rw [List.length_append]; exact r1
theorem nums_b (A B : Option Addr) (la lb : List Int) (ca cb : Nat) (w : World) (hA : Cells w A (u64v la)) (hB : Cells w B (u64v lb)) (hl : la.length ≤ 9223372036854775807) (hl' : lb.length ≤ 9223372036854775807) :
    Calls Tryd.prog 13 #[.slice A la.length ca, .slice B lb.length cb] w fun e w' => e = .returned (.bool (decide (la = lb))) ∧ Below w.heap.size w w' :=
  (nums_c A B la lb ca cb w hA hB hl hl').mono fun _ _ h => ⟨h.1, below_of_dr h.2⟩
end Go.Proofs.YtlbhmoiicbhgkaaDoor
end

section
namespace Go.Proofs.YtlbhmoiicbhgkaaDoor
open Go Go.RowKit
/-- 'append(s, l...)': l may be nothing. -/
theorem wp_more {P : Program} {t e : TypeId} {z : Value} {bytes : Nat} (E : Elt P t e z bytes) (wr : World) {o : Oper} {a : Act} {K : Act → World → Prop} {Q : Exit → Act → World → Prop}
    (s x : Operand) (hop : o.op = .call { callee := .builtin .append, args := #[s, x], argTypes := #[t, t] })
    (base : Nat) {v : Value} {xs : List Value} (hown : Own wr base e v xs) (hs : a.eval s = v) {A : Option Addr} {c : Nat} {news : List Value} (hnew : Cells wr A news) (hx : a.eval x = .slice A news.length c) (h1 : ∀ u ∈ news, u.oneCell' = true)
    (hb : (xs.length + news.length) * bytes ≤ 140737488355328) (hm : xs.length + news.length ≤ 9223372036854775807) (hbase : base ≤ wr.heap.size)
    (hK : ∀ v' w', Own w' base e v' (xs ++ news) → Below base wr w' → K (a.put o.dst v') w') :
    o.wp P a wr K Q := by
  obtain ⟨i, hi, hz, hsz, hby⟩ := E.info
  by_cases h0 : news = []
  · subst h0
    have hsrc : Src P i.size t (.slice A ([] : List Value).length c) 0 [] wr := by
      cases A with
      | none => exact Src.ofNil wr E.under c
      | some A => exact Src.ofSlice wr E.under A 0 c [] (by simp) (fun j u hu => by simp at hu) (fun u hu => by cases hu)
    have key : ∀ (A0 : Option Addr) (n cap : Nat), v = .slice A0 n cap → n ≤ cap → o.wp P a wr K Q := fun A0 n cap e1 hle => by
      have hrun := run_append_nothing (P := P) wr t t o.type e i E.under hi A0 n cap hle _ hsrc
      unfold Oper.wp
      rw [e1] at hs
      simp only [List.length_nil] at hx hrun
      simp [execOp, hop, resolve, invoke, builtin, hs, hx, hrun, Result.andThen]
      have := hK v wr (by rw [List.append_nil]; exact hown) (Below.refl _ _)
      rwa [e1] at this
    rcases hown.2 with ⟨h2, h3⟩ | ⟨g, cap, cur, h2, hb2, hg2, hn, hm2, hs2, ht⟩
    · exact key none 0 0 h2 (Nat.le_refl _)
    · refine key _ _ cap h2 ?_
      first | exact hn | exact hm2 | omega
  · rcases hnew with h | ⟨b, off, rfl, hc⟩
    · exact absurd h h0
    · refine wp_append_own (P := P) wr s x t hop base e i z 1 bytes E.under hi hz hsz hby E.one (by decide) v xs.length xs hs hown ⟨b, off, none⟩ news.length c news hx (by omega) (fun j u hu => ?_) h1 (by unfold maxLen; omega) hb hbase ?_
      · have hadd : (⟨b, off, none⟩ : Addr).add j = ⟨b, off + j, none⟩ := by unfold Addr.add; split <;> simp_all
        rw [hadd]
        exact hc j u hu
      · intro v' w' h2 h3 _
        refine hK v' w' ?_ ((Below.refl _ _).grown h3 hbase fun k hk => (hown.block k hk).1)
        unfold Own; rw [List.length_append]; exact h2
theorem wpList_more {P : Program} {t e : TypeId} {z : Value} {bytes : Nat} (E : Elt P t e z bytes) (wr : World) {ops : Array Oper} {rest : List Oper} {o : Oper} {a : Act} {Q : Exit → Act → World → Prop}
    (hg : Region.wanted o (yielded ops a.tmps) = true) (s x : Operand) (hop : o.op = .call { callee := .builtin .append, args := #[s, x], argTypes := #[t, t] })
    (base : Nat) {v : Value} {xs : List Value} (hown : Own wr base e v xs) (hs : a.eval s = v) {A : Option Addr} {c : Nat} {news : List Value} (hnew : Cells wr A news) (hx : a.eval x = .slice A news.length c) (h1 : ∀ u ∈ news, u.oneCell' = true)
    (hb : (xs.length + news.length) * bytes ≤ 140737488355328) (hm : xs.length + news.length ≤ 9223372036854775807) (hbase : base ≤ wr.heap.size)
    (hK : ∀ v' w', Own w' base e v' (xs ++ news) → Below base wr w' → wpList P ops Q rest (a.put o.dst v') w') :
    wpList P ops Q (o :: rest) a wr := by
  refine wpList_step fun K hK' => ?_
  rw [if_pos hg]
  exact wp_more E wr s x hop base hown hs hnew hx h1 hb hm hbase fun v' w' h2 h3 => hK' _ _ (hK v' w' h2 h3)
end Go.Proofs.YtlbhmoiicbhgkaaDoor
end

section
namespace Go.Proofs.YtlbhmoiicbhgkaaDoor
open Go Go.RowKit Go.Maps Go.Shelf Go.Proofs
/-- rows that this call owns read as lists. -/
theorem ownRows_grid {w : World} {base : Nat} {v : Value} {F : List (List Int)} (h : OwnRows w base 23 24 v (F.map (·.map (.int .u64)))) : ∃ A c, v = .slice A F.length c ∧ Grid w A F := by
  obtain ⟨vs, h1, h2, h3⟩ := h
  obtain ⟨A, c, rfl, hc⟩ := h1.form
  rw [List.length_map] at h2
  refine ⟨A, c, by rw [h2], vs, hc, h2, fun i l hl => ?_⟩
  have hi : i < vs.length := by rw [h2]; exact (List.getElem?_eq_some_iff.1 hl).1
  have hv : vs[i]? = some vs[i] := List.getElem?_eq_getElem hi
  obtain ⟨A', c', e1, e2, e3⟩ := (h3 i _ _ hv (by rw [List.getElem?_map, hl]; rfl)).form
  rw [List.length_map] at e1 e3
  exact ⟨_, hv, A', c', e1, e2, e3⟩
set_option maxRecDepth 100000 in
theorem wide04_c (A : Option Addr) (f : List (List Int)) (c : Nat) (w : World) (hA : Grid w A f) (hl : f.length ≤ 9223372036854775807) :
    Calls Tryd.prog 40 #[.slice A f.length c] w fun e w' => e = .returned (.int .i64 (wideL f : Int)) ∧ w = w' := by
  go_enter Tryd.func40, Tryd.ntmps40
  go_wp2
  go_loop [3, 4] (fun n i => ∃ k : Nat, i = .int .i64 k ∧ k ≤ f.length ∧ n = .int .i64 (wideL (f.take k) : Int)) (fun _ i => f.length - (intOf i).toNat)
  case atStart => exact ⟨0, rfl, by omega, rfl⟩
  case round =>
    obtain ⟨k, rfl, hk, rfl⟩ := hrel
    by_cases hlt : k < f.length
    · obtain ⟨l, hx⟩ := get_of_lt hlt
      obtain ⟨b, off, A', c', rfl, hc, hcs, hln⟩ := hA.at_ hx
      have hs := wideL_take hx
      obtain ⟨n, hn⟩ : ∃ n, wideL (f.take k) = n := ⟨_, rfl⟩
      rw [hn] at hs ⊢
      have HS := hid hs
      clear hs hn
      go_wp2
      go_round
      case rel => exact ⟨k + 1, by go_num, by omega, by rw [HS.out]; exact congrArg _ (by omega)⟩
      case measure => simp [intOf]; omega
    · obtain rfl : k = f.length := by omega
      go_wp2
      go_ret
      exact ⟨ret_int (by first | rfl | rw [List.take_length]), rfl⟩
/-- the slice at A reads as these lists of rows. -/
def Grids (w : World) (A : Option Addr) (fs : List (List (List Int))) : Prop :=
  ∃ vs : List Value, Cells w A vs ∧ vs.length = fs.length ∧ ∀ (i : Nat) (f : List (List Int)), fs[i]? = some f → ∃ A' c', vs[i]? = some (.slice A' f.length c') ∧ Grid w A' f ∧ f.length ≤ 9223372036854775807
theorem Grids.at_ {w : World} {A : Option Addr} {fs : List (List (List Int))} (h : Grids w A fs) {k : Nat} {f : List (List Int)} (hk : fs[k]? = some f) :
    ∃ b off A' c, A = some ⟨b, off, none⟩ ∧ w.cell? ⟨b, off + k, none⟩ = some (.slice A' f.length c) ∧ Grid w A' f ∧ f.length ≤ 9223372036854775807 := by
  obtain ⟨vs, h1, h2, h3⟩ := h
  obtain ⟨A', c, hv, hg, hl⟩ := h3 k f hk
  obtain ⟨b, off, rfl, hcell⟩ := h1.at_ hv
  exact ⟨b, off, A', c, rfl, hcell, hg, hl⟩
theorem Grids.dr {w w' : World} {A : Option Addr} {fs : List (List (List Int))} (h : Grids w A fs) (hd : Dr w w') : Grids w' A fs := by
  obtain ⟨n, rfl⟩ := hd; exact h
/-- few rows, and short ones. -/
def Few (f : List (List Int)) : Prop := f.length ≤ 20 ∧ ∀ l ∈ f, l.length ≤ 20
theorem mem_take {α : Type} {l : List α} {k : Nat} {x : α} {P : α → Prop} (hx : l[k]? = some x) (h : ∀ u ∈ l.take k, P u) (h2 : P x) : ∀ u ∈ l.take (k + 1), P u := by
  rw [take_snocR hx]
  intro u hu
  rcases List.mem_append.1 hu with hu | hu
  · exact h u hu
  · rw [List.mem_singleton.1 hu]; exact h2
end Go.Proofs.YtlbhmoiicbhgkaaDoor
end

section
namespace Go.Lin
/-- numbers modulo N of which each but 0 has an inverse. -/
structure Fld (N : Nat) [NeZero N] : Prop where
  one : (1 : Fin N) ≠ 0
  inv : ∀ x : Fin N, x ≠ 0 → ∃ y, x * y = 1
variable {N : Nat} [NeZero N]
abbrev V (N : Nat) := Nat → Fin N
/-- what hangs on rows. -/
inductive Sp (R : List (V N)) : V N → Prop
  | zero : Sp R (fun _ => 0)
  | add {r u v : V N} (c : Fin N) : r ∈ R → Sp R u → (∀ j, v j = c * r j + u j) → Sp R v
theorem Sp.of_eq {R : List (V N)} {u v : V N} (h : Sp R u) (e : ∀ j, v j = u j) : Sp R v := by
  have : v = u := funext e
  rw [this]; exact h
theorem Sp.mem {R : List (V N)} {r : V N} (h : r ∈ R) : Sp R r := .add 1 h .zero fun j => by grind
theorem Sp.comb {R : List (V N)} {u v w : V N} (c : Fin N) (hu : Sp R u) (hv : Sp R v) (e : ∀ j, w j = c * u j + v j) : Sp R w := by
  induction hu generalizing w with
  | zero => exact hv.of_eq fun j => by have := e j; grind
  | add d hr _ hd ih =>
    rename_i r u' u _
    exact Sp.add (u := fun j => c * u' j + v j) (c * d) hr (ih fun j => rfl) fun j => by
      have h1 := e j
      have h2 := hd j
      grind
theorem Sp.trans {R R' : List (V N)} (h : ∀ r ∈ R, Sp R' r) {v : V N} (hv : Sp R v) : Sp R' v := by
  induction hv with
  | zero => exact .zero
  | add c hr _ e ih => exact (h _ hr).comb c ih e
theorem Sp.mono {R R' : List (V N)} (h : ∀ r ∈ R, r ∈ R') {v : V N} (hv : Sp R v) : Sp R' v := Sp.trans (fun r hr => Sp.mem (h r hr)) hv
theorem Sp.nil {v : V N} (h : Sp [] v) (j : Nat) : v j = 0 := by
  cases h with
  | zero => rfl
  | add c hr _ _ => cases hr
theorem Sp.split {r : V N} {R : List (V N)} {v : V N} (h : Sp (r :: R) v) : ∃ c u, Sp R u ∧ ∀ j, v j = c * r j + u j := by
  induction h with
  | zero => exact ⟨0, fun _ => 0, .zero, fun j => by grind⟩
  | add c hr _ e ih =>
    obtain ⟨d, u, hu, h2⟩ := ih
    rename_i r' u' v' _
    rcases List.mem_cons.1 hr with rfl | hr
    · exact ⟨c + d, u, hu, fun j => by have := e j; have := h2 j; grind⟩
    · exact ⟨d, fun j => c * r' j + u j, .add c hr hu fun j => rfl, fun j => by have := e j; have := h2 j; grind⟩
/-- what all rows have 0 at, all that hangs on them has. -/
theorem Sp.at_zero {R : List (V N)} {v : V N} {k : Nat} (h : Sp R v) (hz : ∀ r ∈ R, r k = 0) : v k = 0 := by
  induction h with
  | zero => rfl
  | add c hr _ e ih => have := e k; have := hz _ hr; grind
/-- rows with a place each: 1 there, 0 where the others have theirs. -/
structure Ech (L : List (Nat × V N)) : Prop where
  one : ∀ e ∈ L, e.2 e.1 = 1
  off : L.Pairwise fun e e' => e.2 e'.1 = 0 ∧ e'.2 e.1 = 0
theorem Ech.nil : Ech ([] : List (Nat × V N)) := ⟨fun e h => (by cases h), .nil⟩
theorem Ech.tail {e : Nat × V N} {L : List (Nat × V N)} (h : Ech (e :: L)) : Ech L := ⟨fun x hx => h.one x (List.mem_cons_of_mem _ hx), (List.pairwise_cons.1 h.off).2⟩
theorem Ech.rep {L : List (Nat × V N)} (h : Ech L) {v : V N} (hv : Sp (L.map (·.2)) v) (j : Nat) : v j = (L.map fun e => v e.1 * e.2 j).sum := by
  induction L generalizing v with
  | nil => exact hv.nil j
  | cons e L ih =>
    obtain ⟨c, u, hu, h2⟩ := Sp.split hv
    have h3 := ih h.tail hu
    have ho := (List.pairwise_cons.1 h.off).1
    have h4 : u e.1 = 0 := hu.at_zero fun r hr => by
      obtain ⟨x, hx, rfl⟩ := List.mem_map.1 hr
      exact (ho x hx).2
    have h5 : v e.1 = c := by
      have h6 := h2 e.1
      have h7 := h.one e List.mem_cons_self
      grind
    rw [List.map_cons, List.sum_cons, h5, h2 j, h3]
    congr 1
    congr 1
    refine List.map_congr_left fun x hx => ?_
    have h6 := h2 x.1
    have h7 := (ho x hx).1
    grind
theorem Ech.zero {L : List (Nat × V N)} (h : Ech L) {v : V N} (hv : Sp (L.map (·.2)) v) (hz : ∀ e ∈ L, v e.1 = 0) (j : Nat) : v j = 0 := by
  rw [h.rep hv j]
  have : ∀ l : List (Nat × V N), (∀ e ∈ l, v e.1 = 0) → (l.map fun e => v e.1 * e.2 j).sum = 0 := by
    intro l
    induction l with
    | nil => intro _; rfl
    | cons e l ih =>
      intro h
      rw [List.map_cons, List.sum_cons, ih fun x hx => h x (List.mem_cons_of_mem _ hx), h e List.mem_cons_self]
      grind
  exact this L hz
/-- no more rows with places than the rows they hang on. -/
theorem Ech.le (F : Fld N) : ∀ (R : List (V N)) (L : List (Nat × V N)), Ech L → (∀ e ∈ L, Sp R e.2) → L.length ≤ R.length
  | [], L, h, hs => by
    cases L with
    | nil => simp
    | cons e L =>
      exfalso
      have h1 := h.one e List.mem_cons_self
      rw [(hs e List.mem_cons_self).nil] at h1
      exact F.one h1.symm
  | r :: R, L, h, hs => by
    by_cases hall : ∀ e ∈ L, Sp R e.2
    · have := Ech.le F R L h hall
      rw [List.length_cons]; omega
    · obtain ⟨e0, hn⟩ := Classical.not_forall.1 hall
      obtain ⟨he0, hne⟩ := Classical.not_imp.1 hn
      obtain ⟨A, B, rfl⟩ := List.append_of_mem he0
      obtain ⟨c0, u0, hu0, h0⟩ := (hs e0 he0).split
      have hc0 : c0 ≠ 0 := fun hc => hne (hu0.of_eq fun j => by have := h0 j; rw [hc] at this; grind)
      obtain ⟨y0, hy⟩ := F.inv c0 hc0
      have hk : ∀ e : Nat × V N, ∃ k, e ∈ A ++ e0 :: B → Sp R fun j => e.2 j - k * e0.2 j := by
        intro e
        by_cases he : e ∈ A ++ e0 :: B
        · obtain ⟨c, u, hu, h1⟩ := (hs e he).split
          refine ⟨c * y0, fun _ => Sp.comb (-(c * y0)) hu0 hu fun j => ?_⟩
          have h2 := h0 j
          have h3 := h1 j
          grind
        · exact ⟨0, fun h => absurd h he⟩
      have hp := List.pairwise_append.1 h.off
      have hp2 := List.pairwise_cons.1 hp.2.1
      have hoff : ∀ e ∈ A ++ B, e.2 e0.1 = 0 ∧ e0.2 e.1 = 0 := by
        intro e he
        rcases List.mem_append.1 he with h1 | h1
        · exact hp.2.2 e h1 e0 List.mem_cons_self
        · exact (hp2.1 e h1).symm
      have hsub : ∀ e ∈ A ++ B, e ∈ A ++ e0 :: B := by
        intro e he
        rcases List.mem_append.1 he with h1 | h1
        · exact List.mem_append_left _ h1
        · exact List.mem_append_right _ (List.mem_cons_of_mem _ h1)
      have hpw : (A ++ B).Pairwise fun e e' => e.2 e'.1 = 0 ∧ e'.2 e.1 = 0 :=
        List.pairwise_append.2 ⟨hp.1, hp2.2, fun a ha b hb => hp.2.2 a ha b (List.mem_cons_of_mem _ hb)⟩
      have hE : Ech ((A ++ B).map fun e => (e.1, fun j => e.2 j - Classical.choose (hk e) * e0.2 j)) := by
        refine ⟨fun x hx => ?_, ?_⟩
        · obtain ⟨e, he, rfl⟩ := List.mem_map.1 hx
          show e.2 e.1 - _ * e0.2 e.1 = 1
          have h1 := h.one e (hsub e he)
          have h2 := (hoff e he).2
          grind
        · rw [List.pairwise_map]
          refine hpw.imp_of_mem fun {a b} ha hb hab => ?_
          have h1 := (hoff a ha).2
          have h2 := (hoff b hb).2
          constructor
          · show a.2 b.1 - _ * e0.2 b.1 = 0
            have := hab.1
            grind
          · show b.2 a.1 - _ * e0.2 a.1 = 0
            have := hab.2
            grind
      have := Ech.le F R _ hE fun x hx => by
        obtain ⟨e, he, rfl⟩ := List.mem_map.1 hx
        exact Classical.choose_spec (hk e) (hsub e he)
      rw [List.length_map, List.length_append] at this
      rw [List.length_append, List.length_cons, List.length_cons]
      omega
/-- rows R have the rank n. -/
structure Bas (R : List (V N)) (L : List (Nat × V N)) : Prop where
  ech : Ech L
  sub : ∀ e ∈ L, Sp R e.2
  all : ∀ r ∈ R, Sp (L.map (·.2)) r
def Rk (R : List (V N)) (n : Nat) : Prop := ∃ L, Bas R L ∧ L.length = n
theorem Bas.sp {R : List (V N)} {L : List (Nat × V N)} (h : Bas R L) {v : V N} : Sp (L.map (·.2)) v ↔ Sp R v :=
  ⟨fun k => k.trans fun r hr => by obtain ⟨e, he, rfl⟩ := List.mem_map.1 hr; exact h.sub e he, fun k => k.trans h.all⟩
theorem Rk.le (F : Fld N) {R R' : List (V N)} {n m : Nat} (h : Rk R n) (h' : Rk R' m) (hs : ∀ r ∈ R, Sp R' r) : n ≤ m := by
  obtain ⟨L, hL, rfl⟩ := h
  obtain ⟨L', hL', rfl⟩ := h'
  have := Ech.le F (L'.map (·.2)) L hL.ech fun e he => hL'.sp.2 ((hL.sub e he).trans hs)
  rwa [List.length_map] at this
theorem Rk.eq (F : Fld N) {R R' : List (V N)} {n m : Nat} (h : Rk R n) (h' : Rk R' m) (hs : ∀ r ∈ R, Sp R' r) (hs' : ∀ r ∈ R', Sp R r) : n = m :=
  Nat.le_antisymm (h.le F h' hs) (h'.le F h hs')
theorem Rk.unique (F : Fld N) {R : List (V N)} {n m : Nat} (h : Rk R n) (h' : Rk R m) : n = m := h.eq F h' (fun _ hr => Sp.mem hr) fun _ hr => Sp.mem hr
theorem Rk.le_of (F : Fld N) {R R' : List (V N)} {n : Nat} (h : Rk R n) (hs : ∀ r ∈ R, Sp R' r) : n ≤ R'.length := by
  obtain ⟨L, hL, rfl⟩ := h
  exact Ech.le F R' L hL.ech fun e he => (hL.sub e he).trans hs
theorem Rk.le_len (F : Fld N) {R : List (V N)} {n : Nat} (h : Rk R n) : n ≤ R.length := h.le_of F fun _ hr => Sp.mem hr
theorem Rk.congr {R R' : List (V N)} {n : Nat} (h : Rk R n) (hs : ∀ r ∈ R, Sp R' r) (hs' : ∀ r ∈ R', Sp R r) : Rk R' n := by
  obtain ⟨L, hL, rfl⟩ := h
  exact ⟨L, ⟨hL.ech, fun e he => (hL.sub e he).trans hs, fun r hr => hL.sp.2 (hs' r hr)⟩, rfl⟩
theorem Rk.nil : Rk ([] : List (V N)) 0 := ⟨[], ⟨.nil, fun e h => (by cases h), fun r h => (by cases h)⟩, rfl⟩
/-- what is left of a row. -/
def red (L : List (Nat × V N)) (v : V N) : V N := fun j => v j - (L.map fun e => v e.1 * e.2 j).sum
theorem sum_sp (v : V N) : ∀ L : List (Nat × V N), Sp (L.map (·.2)) fun j => (L.map fun e => v e.1 * e.2 j).sum
  | [] => .zero
  | e :: L => Sp.add (v e.1) (List.mem_cons_self (l := L.map (·.2))) ((sum_sp v L).mono fun _r hr => List.mem_cons_of_mem _ hr) fun _j => rfl
theorem sum_at {L : List (Nat × V N)} (h : Ech L) (v : V N) {e : Nat × V N} (he : e ∈ L) : (L.map fun x => v x.1 * x.2 e.1).sum = v e.1 := by
  induction L with
  | nil => cases he
  | cons x L ih =>
    have ho := (List.pairwise_cons.1 h.off).1
    rw [List.map_cons, List.sum_cons]
    rcases List.mem_cons.1 he with rfl | he
    · have h1 : ∀ l : List (Nat × V N), (∀ x ∈ l, x.2 e.1 = 0) → (l.map fun x => v x.1 * x.2 e.1).sum = 0 := by
        intro l
        induction l with
        | nil => intro _; rfl
        | cons x l ih =>
          intro h
          rw [List.map_cons, List.sum_cons, ih fun y hy => h y (List.mem_cons_of_mem _ hy), h x List.mem_cons_self]
          grind
      rw [h1 L fun x hx => (ho x hx).2, h.one e List.mem_cons_self]
      grind
    · rw [ih h.tail he, (ho e he).1]
      grind
theorem red_at {L : List (Nat × V N)} (h : Ech L) (v : V N) {e : Nat × V N} (he : e ∈ L) : red L v e.1 = 0 := by
  unfold red
  rw [sum_at h v he]
  grind
theorem red_sp (L : List (Nat × V N)) (v : V N) (h : ∀ j, red L v j = 0) : Sp (L.map (·.2)) v := (sum_sp v L).of_eq fun j => by
  have := h j
  unfold red at this
  grind
theorem red_back {R : List (V N)} {L : List (Nat × V N)} (hL : Bas R L) (v : V N) : Sp (v :: R) (red L v) := by
  refine Sp.comb (-1) (hL.sp.1 (sum_sp v L) |>.mono fun r hr => List.mem_cons_of_mem _ hr) (Sp.mem (r := v) List.mem_cons_self) fun j => ?_
  unfold red
  grind
theorem Bas.snoc {R : List (V N)} {L : List (Nat × V N)} (hL : Bas R L) {v : V N} {k : Nat} {y : Fin N} (hy : red L v k * y = 1) :
    Bas (v :: R) ((k, fun j => y * red L v j) :: L.map fun e => (e.1, fun j => e.2 j - e.2 k * (y * red L v j))) := by
  have hv1 : Sp (v :: R) fun j => y * red L v j := Sp.comb y (red_back hL v) .zero fun j => by grind
  have h0 : ∀ e ∈ L, red L v e.1 = 0 := fun e he => red_at hL.ech v he
  refine ⟨⟨?_, ?_⟩, ?_, ?_⟩
  · intro x hx
    rcases List.mem_cons.1 hx with rfl | hx
    · show y * red L v k = 1
      grind
    · obtain ⟨e, he, rfl⟩ := List.mem_map.1 hx
      show e.2 e.1 - e.2 k * (y * red L v e.1) = 1
      have h1 := hL.ech.one e he
      have h2 := h0 e he
      grind
  · refine List.pairwise_cons.2 ⟨fun x hx => ?_, ?_⟩
    · obtain ⟨e, he, rfl⟩ := List.mem_map.1 hx
      constructor
      · show y * red L v e.1 = 0
        have := h0 e he
        grind
      · show e.2 k - e.2 k * (y * red L v k) = 0
        grind
    · rw [List.pairwise_map]
      refine hL.ech.off.imp_of_mem fun {a b} ha hb hab => ?_
      have h1 := h0 a ha
      have h2 := h0 b hb
      constructor
      · show a.2 b.1 - a.2 k * (y * red L v b.1) = 0
        have := hab.1
        grind
      · show b.2 a.1 - b.2 k * (y * red L v a.1) = 0
        have := hab.2
        grind
  · intro x hx
    rcases List.mem_cons.1 hx with rfl | hx
    · exact hv1
    · obtain ⟨e, he, rfl⟩ := List.mem_map.1 hx
      exact Sp.comb (-(e.2 k)) hv1 ((hL.sub e he).mono fun r hr => List.mem_cons_of_mem _ hr) fun j => by grind
  · have hback : ∀ u, Sp (L.map (·.2)) u → Sp (List.map (·.2) ((k, fun j => y * red L v j) :: L.map fun e => (e.1, fun j => e.2 j - e.2 k * (y * red L v j)))) u := by
      intro u hu
      refine hu.trans fun r hr => ?_
      obtain ⟨e, he, rfl⟩ := List.mem_map.1 hr
      refine Sp.comb (e.2 k) (u := fun j => y * red L v j) (Sp.mem ?_) (v := fun j => e.2 j - e.2 k * (y * red L v j)) (Sp.mem ?_) fun j => by grind
      · exact List.mem_cons_self
      · rw [List.map_cons, List.map_map]
        exact List.mem_cons_of_mem _ (List.mem_map.2 ⟨e, he, rfl⟩)
    intro r hr
    rcases List.mem_cons.1 hr with rfl | hr
    · refine Sp.comb (red L r k) (u := fun j => y * red L r j) (Sp.mem ?_) (hback _ (sum_sp r L)) fun j => ?_
      · exact List.mem_cons_self
      · unfold red at hy ⊢
        grind
    · exact hback _ (hL.all r hr)
theorem Rk.more (F : Fld N) {R : List (V N)} {n : Nat} (h : Rk R n) {v : V N} (hv : ¬ Sp R v) : Rk (v :: R) (n + 1) := by
  obtain ⟨L, hL, rfl⟩ := h
  have : ¬ ∀ j, red L v j = 0 := fun h => hv (hL.sp.1 (red_sp L v h))
  obtain ⟨k, hk⟩ := Classical.not_forall.1 this
  obtain ⟨y, hy⟩ := F.inv _ hk
  exact ⟨_, hL.snoc hy, by simp⟩
theorem Rk.same {R : List (V N)} {n : Nat} (h : Rk R n) {v : V N} (hv : Sp R v) : Rk (v :: R) n := h.congr (fun r hr => Sp.mem (List.mem_cons_of_mem _ hr)) fun r hr => by
  rcases List.mem_cons.1 hr with rfl | hr
  · exact hv
  · exact Sp.mem hr
theorem Rk.exists (F : Fld N) : ∀ R : List (V N), ∃ n, Rk R n
  | [] => ⟨0, .nil⟩
  | v :: R => by
    obtain ⟨n, hn⟩ := Rk.exists F R
    by_cases h : Sp R v
    · exact ⟨n, hn.same h⟩
    · exact ⟨n + 1, hn.more F h⟩
/-- THE LAW OF SHARES: a and b and c, and c, are no more than a and c, and b and c. -/
theorem Rk.shared (F : Fld N) (B C : List (V N)) : ∀ (A : List (V N)) {x y z c : Nat}, Rk (A ++ C) x → Rk (B ++ C) y → Rk (A ++ (B ++ C)) z → Rk C c → z + c ≤ x + y
  | [], x, y, z, c, hx, hy, hz, hc => by
    have h1 := hx.unique F hc
    have h2 := hy.unique F hz
    omega
  | a :: A, x, y, z, c, hx, hy, hz, hc => by
    obtain ⟨x', hx'⟩ := Rk.exists F (A ++ C)
    obtain ⟨z', hz'⟩ := Rk.exists F (A ++ (B ++ C))
    have ih := Rk.shared F B C A hx' hy hz' hc
    by_cases h : Sp (A ++ C) a
    · have h1 := hx.unique F (hx'.same h)
      have h2 : Sp (A ++ (B ++ C)) a := h.mono fun r hr => by
        rcases List.mem_append.1 hr with k | k
        · exact List.mem_append_left _ k
        · exact List.mem_append_right _ (List.mem_append_right _ k)
      have h3 := hz.unique F (hz'.same h2)
      omega
    · have h1 := hx.unique F (hx'.more F h)
      by_cases h2 : Sp (A ++ (B ++ C)) a
      · have h3 := hz.unique F (hz'.same h2)
        omega
      · have h3 := hz.unique F (hz'.more F h2)
        omega
/-- COLUMNS have no more rank than rows. -/
theorem Rk.turned (F : Fld N) {M : Nat → Nat → Fin N} {a b n m : Nat} (hb : ∀ i j, a ≤ i → M i j = 0) (hr : Rk ((List.range a).map M) n) (hc : Rk ((List.range b).map fun j i => M i j) m) : m ≤ n := by
  obtain ⟨L, hL, rfl⟩ := hr
  have := hc.le_of F (R' := L.map fun e i => M i e.1) fun r hr => by
    obtain ⟨j, _, rfl⟩ := List.mem_map.1 hr
    have key : ∀ l : List (Nat × V N), Sp (l.map fun e i => M i e.1) fun i => (l.map fun e => M i e.1 * e.2 j).sum := by
      intro l
      induction l with
      | nil => exact .zero
      | cons e l ih =>
        refine Sp.comb (e.2 j) (u := fun i => M i e.1) (Sp.mem List.mem_cons_self) (ih.mono fun r hr => List.mem_cons_of_mem _ hr) fun i => ?_
        rw [List.map_cons, List.sum_cons]
        grind
    refine (key L).of_eq fun i => ?_
    rcases Nat.lt_or_ge i a with h | h
    · exact hL.ech.rep (hL.all (M i) (List.mem_map.2 ⟨i, List.mem_range.2 h, rfl⟩)) j
    · rw [hb i j h]
      have : ∀ l : List (Nat × V N), (l.map fun e => M i e.1 * e.2 j).sum = 0 := by
        intro l
        induction l with
        | nil => rfl
        | cons e l ih => rw [List.map_cons, List.sum_cons, ih, hb i e.1 h]; grind
      rw [this]
  rwa [List.length_map] at this
end Go.Lin
end

section
namespace Go.Proofs.YtlbhmoiicbhgkaaDoor
open Go.Lin Go.Psi
/-- a whole number modulo N. -/
def tf (N : Nat) [h : NeZero N] (x : Int) : Fin N := ⟨(x % N).toNat, by
  have h0 : N ≠ 0 := h.out
  have h1 := Int.emod_nonneg x (b := (N : Int)) (by omega)
  have h2 := Int.emod_lt_of_pos x (b := (N : Int)) (by omega)
  omega⟩
section
variable {N : Nat} [h0 : NeZero N]
theorem tf_val (x : Int) : ((tf N x).val : Int) = x % N := by
  have h : N ≠ 0 := h0.out
  have h1 := Int.emod_nonneg x (b := (N : Int)) (by omega)
  show ((x % N).toNat : Int) = x % N
  omega
theorem tf_eq {x y : Int} : tf N x = tf N y ↔ x % N = y % N := by
  constructor
  · intro h
    rw [← tf_val, ← tf_val, h]
  · intro h
    apply Fin.ext
    have h1 := tf_val (N := N) x
    have h2 := tf_val (N := N) y
    omega
theorem tf_mod (x : Int) : tf N (x % N) = tf N x := tf_eq.2 (Int.emod_emod _ _)
theorem tf_add (x y : Int) : tf N (x + y) = tf N x + tf N y := by
  apply Fin.ext
  have h1 : (((tf N x + tf N y : Fin N)).val : Int) = (x + y) % N := by
    rw [Fin.val_add, Int.natCast_emod, Int.natCast_add, tf_val, tf_val, ← Int.add_emod]
  have h2 := tf_val (N := N) (x + y)
  omega
theorem tf_mul (x y : Int) : tf N (x * y) = tf N x * tf N y := by
  apply Fin.ext
  have h1 : (((tf N x * tf N y : Fin N)).val : Int) = (x * y) % N := by
    rw [Fin.val_mul, Int.natCast_emod, Int.natCast_mul, tf_val, tf_val, ← Int.mul_emod]
  have h2 := tf_val (N := N) (x * y)
  omega
theorem tf_zero : tf N 0 = 0 := by
  apply Fin.ext
  have := tf_val (N := N) 0
  rw [Int.zero_emod] at this
  have h : ((0 : Fin N)).val = 0 := rfl
  omega
theorem tf_sub (x y : Int) : tf N (x - y) = tf N x - tf N y := by
  have h := tf_add (N := N) (x - y) y
  rw [Int.sub_add_cancel] at h
  grind
theorem tf_one : tf N 1 = 1 := by
  apply Fin.ext
  have h1 := tf_val (N := N) 1
  have h2 : ((1 : Fin N)).val = 1 % N := rfl
  have h3 : ((1 % N : Nat) : Int) = 1 % (N : Int) := by rw [Int.natCast_emod]; rfl
  omega
theorem tf_iff_zero {x : Int} : tf N x = 0 ↔ x % N = 0 := by
  rw [← tf_zero, tf_eq, Int.zero_emod]
theorem tf_self (a : Fin N) : tf N (a.val : Int) = a := by
  apply Fin.ext
  have h1 := tf_val (N := N) (a.val : Int)
  rw [Int.emod_eq_of_lt (by omega) (by have := a.isLt; omega)] at h1
  omega
theorem cg_tf {x y : Int} (h : Cg N x y) : tf N x = tf N y := by
  obtain ⟨k, hk⟩ := h
  rw [tf_eq, show x = y + N * k by omega, Int.add_mul_emod_self_left]
/-- a prime has inverses. -/
theorem fld_of {p : Nat} [NeZero p] (hp : Pr p) : Fld p := ⟨fun h => by
    have h1 := congrArg Fin.val h
    have h2 : ((1 : Fin p)).val = 1 % p := rfl
    have h3 : ((0 : Fin p)).val = 0 := rfl
    have := hp.1
    rw [h2, h3, Nat.mod_eq_of_lt (by omega)] at h1
    omega, fun x hx => by
    have hv : x.val ≠ 0 := fun h => hx (Fin.ext h)
    by_cases h2 : p = 2
    · subst h2
      refine ⟨1, Fin.ext ?_⟩
      have h1 : x.val = 1 := by have := x.isLt; omega
      have h3 : ((x * 1 : Fin 2)).val = x.val * 1 % 2 := rfl
      rw [h3, h1]; rfl
    · have hf := fermat hp (hp.odd h2) (a := x.val) (Pr.not_dvd_lt (by omega) x.isLt)
      have hp2 := hp.1
      refine ⟨tf p ((x.val : Int) ^ (p - 2)), ?_⟩
      have h4 := cg_tf hf
      rw [show p - 1 = (p - 2) + 1 by omega, Int.pow_succ, tf_mul, tf_self, tf_one] at h4
      grind⟩
/-- a row as a vector. -/
def vec (N : Nat) [NeZero N] (l : List Int) : V N := fun j => tf N (nth l j)
theorem vec_ge {l : List Int} {j : Nat} (h : l.length ≤ j) : vec N l j = 0 := by unfold vec; rw [nth_ge h, tf_zero]
theorem vec_red (W : Nat) (row : List Int) (j : Nat) : vec N (redL W N row) j = vec N row j := by
  unfold vec redL
  by_cases h : j < max W row.length
  · rw [tabL_at h, tf_mod]
  · rw [nth_ge (by rw [tabL_len]; omega), nth_ge (l := row) (by omega)]
theorem vec_less (row other : List Int) (t : Int) (h : other.length ≤ row.length) (j : Nat) : vec N (lessL N row other t) j = vec N row j - vec N other j * tf N t := by
  unfold vec
  rw [lessL_at]
  by_cases h1 : j < row.length ∧ j < other.length
  · rw [if_pos h1, tf_mod, tf_sub, tf_mul]
  · rw [if_neg h1, nth_ge (l := other) (by omega), tf_zero]
    grind
theorem vec_times (o : List Int) (b : Int) (j : Nat) : vec N (timesL N o b) j = tf N b * vec N o j := by
  unfold vec timesL
  by_cases h : j < o.length
  · rw [tabL_at h, tf_mod, tf_mul]; grind
  · rw [nth_ge (by rw [tabL_len]; omega), nth_ge (l := o) (by omega), tf_zero]
    grind
/-- rows with their places. -/
def sb (N : Nat) [NeZero N] (S : List En) : List (Nat × V N) := S.map fun p => (p.at_, vec N p.row)
theorem sb_mem {S : List En} {p : En} (h : p ∈ S) : (p.at_, vec N p.row) ∈ sb N S := List.mem_map.2 ⟨p, h, rfl⟩
theorem fold_vec {W : Nat} (j : Nat) : ∀ (l : List En) (o : List Int), Ech (sb N l) → (∀ p ∈ l, p.row.length = W) → W ≤ o.length →
    vec N (l.foldl (stepL N) o) j = vec N o j - ((sb N l).map fun e => vec N o e.1 * e.2 j).sum
  | [], o, _, _, _ => by
    show vec N o j = vec N o j - 0
    grind
  | p :: l, o, hE, hl, hW => by
    have hs : ∀ i, vec N (stepL N o p) i = vec N o i - vec N p.row i * vec N o p.at_ := fun i =>
      vec_less o p.row _ (by rw [hl p List.mem_cons_self]; exact hW) i
    have ih := fold_vec j l (stepL N o p) hE.tail (fun x hx => hl x (List.mem_cons_of_mem _ hx)) (by rw [stepL_len]; exact hW)
    rw [List.foldl_cons, ih, hs j]
    show _ = vec N o j - ((p.at_, vec N p.row) :: sb N l |>.map fun e => vec N o e.1 * e.2 j).sum
    rw [List.map_cons, List.sum_cons]
    have ho := (List.pairwise_cons.1 hE.off).1
    have : (sb N l).map (fun e => vec N (stepL N o p) e.1 * e.2 j) = (sb N l).map fun e => vec N o e.1 * e.2 j := by
      refine List.map_congr_left fun e he => ?_
      have h1 : vec N p.row e.1 = 0 := (ho e he).1
      rw [hs e.1, h1]
      grind
    rw [this]
    grind
theorem left_red {W : Nat} {S : List En} (hE : Ech (sb N S)) (hl : ∀ p ∈ S, p.row.length = W) (row : List Int) (j : Nat) : vec N (leftL N W S row) j = red (sb N S) (vec N row) j := by
  unfold leftL
  rw [fold_vec j S (redL W N row) hE hl (by unfold redL; rw [tabL_len]; omega), vec_red]
  unfold red
  congr 1
  congr 1
  exact List.map_congr_left fun e _ => by rw [vec_red]
theorem first_none {o : List Int} (h : firstL o = none) (j : Nat) : nth o j = 0 := by
  by_cases hj : j < o.length
  · unfold firstL at h
    rw [List.findIdx?_eq_none_iff] at h
    have := h (o[j]) (List.getElem_mem hj)
    rw [nth_lt hj]
    simpa using this
  · exact nth_ge (by omega)
theorem first_least {o : List Int} {k : Nat} (h : firstL o = some k) {j : Nat} (hj : j < k) : nth o j = 0 := by
  unfold firstL at h
  rw [List.findIdx?_eq_some_iff_getElem] at h
  obtain ⟨h1, _, h3⟩ := h
  have := h3 j hj
  rw [nth_lt (by omega)]
  simpa using this
theorem red_tf {o : List Int} (h : RedL N o) {j : Nat} : vec N o j = 0 ↔ nth o j = 0 := by
  unfold vec
  rw [tf_iff_zero, Int.emod_eq_of_lt (h j).1 (h j).2]
/-- an inverse of what is not 0. -/
def InvT (N : Nat) [NeZero N] (inv : Int → Int) : Prop := ∀ x, tf N x ≠ 0 → tf N x * tf N (inv x) = 1
/-- rows R come to S. -/
structure Come (N : Nat) [NeZero N] (W : Nat) (R : List (V N)) (S : List En) : Prop where
  good : GoodS N W S
  bas : Bas R (sb N S)
  low : ∀ p ∈ S, ∀ j, j < p.at_ → vec N p.row j = 0
theorem Come.nil (W : Nat) : Come N W [] [] := ⟨.nil _ _, ⟨.nil, fun e h => (by cases h), fun r h => (by cases h)⟩, fun p h => (by cases h)⟩
theorem Come.put {inv : Int → Int} (hI : InvOf N inv) (hT : InvT N inv) {W : Nat} {R : List (V N)} {S : List En} (h : Come N W R S) {row : List Int} (hr : row.length ≤ W) : Come N W (vec N row :: R) (putL N inv W S row) := by
  have h00 : N ≠ 0 := h0.out
  have hg := put_good (q := (N : Int)) (by omega) hI h.good hr
  have hleft := left_red h.bas.ech (fun p hp => h.good.len p hp) row
  have hred := leftL_red (q := (N : Int)) (by omega) W S row
  have hat := fun e (he : e ∈ sb N S) => red_at h.bas.ech (vec N row) he
  have hlen : (leftL N W S row).length = W := by rw [leftL_len]; omega
  refine ⟨hg, ?_, ?_⟩
  · unfold putL
    generalize leftL N W S row = o at *
    cases hf : firstL o with
    | none =>
      have hsp : Sp ((sb N S).map (·.2)) (vec N row) := red_sp _ _ fun j => by
        rw [← hleft]
        exact (red_tf hred).2 (first_none hf j)
      exact ⟨h.bas.ech, fun e he => (h.bas.sub e he).mono fun r hr => List.mem_cons_of_mem _ hr, fun r hr => by
        rcases List.mem_cons.1 hr with rfl | hr
        · exact hsp
        · exact h.bas.all r hr⟩
    | some k =>
      simp only
      obtain ⟨hk1, hk2⟩ := firstL_some hf
      have hk3 : vec N o k ≠ 0 := fun e => hk2 ((red_tf hred).1 e)
      have hy : red (sb N S) (vec N row) k * tf N (inv (nth o k)) = 1 := by rw [← hleft]; exact hT _ hk3
      have hne : ∀ p ∈ S, p.at_ ≠ k := fun p hp e => by
        have h1 := hat _ (sb_mem hp)
        simp only [e] at h1
        rw [← hleft] at h1
        exact hk3 h1
      have hfil : (S.map fun p => (⟨p.at_, lessL N p.row (timesL N o (inv (nth o k))) (nth p.row k)⟩ : En)).filter (fun p => decide (p.at_ ≠ k)) = S.map fun p => (⟨p.at_, lessL N p.row (timesL N o (inv (nth o k))) (nth p.row k)⟩ : En) := by
        refine List.filter_eq_self.2 fun x hx => ?_
        obtain ⟨p, hp, rfl⟩ := List.mem_map.1 hx
        exact decide_eq_true (hne p hp)
      rw [hfil]
      have hb := h.bas.snoc hy
      have e : sb N (⟨k, timesL N o (inv (nth o k))⟩ :: S.map fun p => (⟨p.at_, lessL N p.row (timesL N o (inv (nth o k))) (nth p.row k)⟩ : En))
          = (k, fun j => tf N (inv (nth o k)) * red (sb N S) (vec N row) j) :: (sb N S).map fun e => (e.1, fun j => e.2 j - e.2 k * (tf N (inv (nth o k)) * red (sb N S) (vec N row) j)) := by
        unfold sb
        rw [List.map_cons, List.map_map, List.map_map]
        refine List.cons_eq_cons.2 ⟨?_, List.map_congr_left fun p hp => ?_⟩
        · refine Prod.ext rfl (funext fun j => ?_)
          show vec N (timesL N o _) j = _
          rw [vec_times, hleft]
          rfl
        · refine Prod.ext rfl (funext fun j => ?_)
          show vec N (lessL N p.row (timesL N o _) _) j = vec N p.row j - vec N p.row k * _
          rw [vec_less _ _ _ (by unfold timesL; rw [tabL_len, hlen, h.good.len p hp]; exact Nat.le_refl _), vec_times, hleft]
          show _ - _ * vec N p.row k = _
          unfold sb
          grind
      rw [e]
      exact hb
  · unfold putL
    generalize leftL N W S row = o at *
    cases hf : firstL o with
    | none => exact h.low
    | some k =>
      simp only
      obtain ⟨hk1, hk2⟩ := firstL_some hf
      have hz : ∀ j, j < k → vec N (timesL N o (inv (nth o k))) j = 0 := fun j hj => by
        rw [vec_times]
        have : vec N o j = 0 := (red_tf hred).2 (first_least hf hj)
        rw [this]; grind
      intro x hx j hj
      rcases List.mem_cons.1 hx with rfl | hx
      · exact hz j hj
      · obtain ⟨p, hp, rfl⟩ := List.mem_map.1 (List.mem_filter.1 hx).1
        show vec N (lessL N p.row (timesL N o _) _) j = 0
        rw [vec_less _ _ _ (by unfold timesL; rw [tabL_len, hlen, h.good.len p hp]; exact Nat.le_refl _)]
        have h1 := h.low p hp j hj
        rw [h1]
        rcases Nat.lt_or_ge j k with h2 | h2
        · rw [hz j h2]; grind
        · have h3 : tf N (nth p.row k) = 0 := h.low p hp k (by have : j < p.at_ := hj; omega)
          rw [h3]; grind
theorem Come.all {inv : Int → Int} (hI : InvOf N inv) (hT : InvT N inv) {W : Nat} : ∀ (rows : List (List Int)) {R : List (V N)} {S : List En}, Come N W R S → (∀ r ∈ rows, r.length ≤ W) →
    Come N W ((rows.map (vec N)).reverse ++ R) (rows.foldl (putL N inv W) S)
  | [], _, _, h, _ => h
  | r :: rows, R, S, h, hl => by
    rw [List.foldl_cons, List.map_cons, List.reverse_cons, List.append_assoc]
    exact Come.all hI hT rows (h.put hI hT (hl r List.mem_cons_self)) fun x hx => hl x (List.mem_cons_of_mem _ hx)
theorem Bas.congr {R R' : List (V N)} {L : List (Nat × V N)} (h : Bas R L) (hs : ∀ r ∈ R, r ∈ R') (hs' : ∀ r ∈ R', r ∈ R) : Bas R' L :=
  ⟨h.ech, fun e he => (h.sub e he).mono hs, fun r hr => h.all r (hs' r hr)⟩
/-- the rows of a space are a basis. -/
theorem space_come {inv : Int → Int} (hI : InvOf N inv) (hT : InvT N inv) {W : Nat} {rows : List (List Int)} (hl : ∀ r ∈ rows, r.length ≤ W) : Come N W (rows.map (vec N)) (spaceL N inv W rows) := by
  obtain ⟨h1, h2, h3⟩ := Come.all hI hT rows (Come.nil W) hl
  refine ⟨h1, Bas.congr h2 (fun r hr => ?_) (fun r hr => ?_), h3⟩
  · rw [List.append_nil] at hr
    exact List.mem_reverse.1 hr
  · rw [List.append_nil]
    exact List.mem_reverse.2 hr
theorem rank_rk {inv : Int → Int} (hI : InvOf N inv) (hT : InvT N inv) (rows : List (List Int)) : Rk (rows.map (vec N)) (rankL N inv rows) :=
  ⟨_, (space_come hI hT (wideL_le rows)).bas, by unfold sb rankL; rw [List.length_map]⟩
theorem hangs_iff {inv : Int → Int} (hI : InvOf N inv) (hT : InvT N inv) (rows : List (List Int)) (row : List Int) : hangsL N inv rows row = true ↔ Sp (rows.map (vec N)) (vec N row) := by
  have h00 : N ≠ 0 := h0.out
  have hc := space_come hI hT (wideL_le rows)
  unfold hangsL
  generalize spaceL N inv (wideL rows) rows = S at *
  have hleft := left_red hc.bas.ech (fun p hp => hc.good.len p hp) row
  have hred := leftL_red (q := (N : Int)) (by omega) (wideL rows) S row
  have hat := fun e (he : e ∈ sb N S) => red_at hc.bas.ech (vec N row) he
  generalize leftL N (wideL rows) S row = o at *
  rw [← hc.bas.sp]
  cases hf : firstL o with
  | none => exact ⟨fun _ => red_sp _ _ fun j => by rw [← hleft]; exact (red_tf hred).2 (first_none hf j), fun _ => rfl⟩
  | some k =>
    refine ⟨fun h => (by cases h), fun h => ?_⟩
    exfalso
    obtain ⟨_, hk2⟩ := firstL_some hf
    apply hk2
    rw [← red_tf hred, hleft]
    refine hc.bas.ech.zero (v := red (sb N S) (vec N row)) ?_ hat k
    refine Sp.comb (-1) (sum_sp (vec N row) (sb N S)) h fun j => ?_
    unfold red
    grind
end
end Go.Proofs.YtlbhmoiicbhgkaaDoor
end
