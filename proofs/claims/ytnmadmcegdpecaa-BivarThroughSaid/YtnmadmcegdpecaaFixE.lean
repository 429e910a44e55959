/-
  The numbers of a query.
-/
import Derived.Test.YtnmadmcegdpecaaFixD
import Derived.Laws.CopyOwn
import Derived.Laws.AppendOwnNone
namespace Go.Proofs.Ytnmadmcegdpecaa
open Go.RowKit

/-- 'out = append(out, l...)': l is a row of this call's own. -/
theorem wpList_pushes {P : Program} {t e : TypeId} {z : Value} {bytes : Nat} (E : Elt P t e z bytes) (wr : World) {ops : Array Oper} {rest : List Oper} {o : Oper} {a : Act} {Q : Exit → Act → World → Prop}
    (hg : o.guard = none) (s x : Operand) (hop : o.op = .call { callee := .builtin .append, args := #[s, x], argTypes := #[t, t] })
    (base : Nat) {v : Value} {xs : List Value} (hown : Own wr base e v xs) (hs : a.eval s = v) {b2 : Nat} {u : Value} {news : List Value} (hnew : Own wr b2 e u news) (hx : a.eval x = u) (h1 : ∀ u ∈ news, u.oneCell' = true)
    (hb : (xs.length + news.length) * bytes ≤ 140737488355328) (hm : xs.length + news.length ≤ 9223372036854775807) (hbase : base ≤ wr.heap.size)
    (hK : ∀ v' w', Own w' base e v' (xs ++ news) → (∀ k, k < wr.heap.size → some k ≠ v.ownBlock → w'.heap[k]? = wr.heap[k]?) → Below base wr w' → wpList P ops Q rest (a.put o.dst v') w') :
    wpList P ops Q (o :: rest) a wr := by
  obtain ⟨i, hi, hz, hsz, hby⟩ := E.info
  rcases hnew.2 with ⟨rfl, h0⟩ | ⟨g, cap, cur, rfl, _, _, hn2, _⟩
  · obtain rfl := List.eq_nil_of_length_eq_zero h0
    refine wpList_append_own_none hg s x t hop base e i 1 E.under hi v xs.length xs hs hown hx (hK v wr ?_ (fun _ _ _ => rfl) (Below.refl _ _))
    rw [List.append_nil]; exact hown
  · refine wpList_append_own wr hg s x t hop base e i z 1 bytes E.under hi hz hsz hby E.one (by decide) v xs.length xs hs hown ⟨g, 0, none⟩ news.length cap news hx (by omega) (fun j u hu => World.ownsRow.cells (w := wr) hnew (g := g) rfl j u hu) h1 (by unfold maxLen; omega) hb hbase ?_
    intro v' w' h2 h3 _
    refine hK v' w' ?_ (fun k hk hne => h3.block k hk hne) ((Below.refl _ _).grown h3 hbase fun k hk => (hown.block k hk).1)
    unfold Own; rw [List.length_append]; exact h2

/-- a query's numbers: D of them, and a 1 behind. -/
def padded (l : List Int) (d : Nat) : List Int := l.take d ++ List.replicate (d - l.length) 0
theorem padded_len (l : List Int) (d : Nat) : (padded l d).length = d := by simp [padded]; omega
def rowS (p : Par) (x : List Int) : List Int := if fits p = true then padded (mNums p.Q x) p.D.toNat ++ [mNum 1 p.Q] else []
theorem mNums_u64 (q : Int) (l : List Int) : U64s (mNums q l) := by
  intro z hz
  obtain ⟨n, _, rfl⟩ := List.mem_map.1 hz
  exact mNum_u64 _ _
theorem rowS_u64 (p : Par) (x : List Int) : U64s (rowS p x) := by
  unfold rowS
  split
  · intro z hz
    rcases List.mem_append.1 hz with h | h
    · rcases List.mem_append.1 h with h | h
      · exact mNums_u64 _ _ z (List.mem_of_mem_take h)
      · rw [(List.mem_replicate.1 h).2]; exact ⟨by decide, by decide⟩
    · simp only [List.mem_singleton] at h
      rw [h]; exact mNum_u64 _ _
  · intro z hz; cases hz

theorem splice_row (l : List Int) (d : Nat) : splice (List.replicate (d + 1) (Value.int .u64 0)) 0 ((l.take d).map (Value.int .u64)) = (padded l d).map (Value.int .u64) ++ [Value.int .u64 0] := by
  unfold splice padded
  simp only [List.take_zero, List.nil_append, List.length_map, List.length_take, List.map_append, List.map_replicate, Nat.zero_add, List.drop_replicate, List.append_assoc]
  congr 1
  rw [← List.replicate_succ']
  congr 1
  omega

set_option maxHeartbeats 2000000 in
theorem frow_c (p : Par) (hp : p.ok) (A : Option Addr) (x : List Int) (c : Nat) (w : World) (hA : Cells w A (x.map (.int .i64))) (hl : x.length ≤ 17592186044415) (hu : I64s x) :
    Calls Try.prog 43 #[pval p, .slice A x.length c] w (NewNums (rowS p x) w) := by
  go_enter Try.func43, Try.ntmps43
  go_wp2_with (fail)
  refine (fit_c p _).mono ?_
  rintro e w1 ⟨rfl, hb1⟩
  have hb2 := below_next (below_alloc w (.cells (pcells p).toArray 40)) (by simp) hb1
  have hP : Row1 w1 w.heap.size 40 (pcells p) := (row1_new w (pcells p) 40).below hb1
  have hA1 := hA.below hb2
  have hq := hp.Q
  clear hb1 hA
  cases hf : fits p with
  | false =>
    have HF := hid (show rowS p x = [] by simp [rowS, hf])
    clear hf
    go_wp2
    go_ret
    refine ⟨_, rfl, ?_, hb2⟩
    rw [HF.out]
    exact Own.nil _ _ _
  | true =>
  have hF := (fits_iff p).1 hf
  obtain ⟨d, hd⟩ : ∃ d : Nat, p.D = d := ⟨p.D.toNat, by have := hF.D0; omega⟩
  have hd4 : d ≤ 4 := by have := hF.D; omega
  have HR := hid (show rowS p x = padded (mNums p.Q x) d ++ [mNum 1 p.Q] by simp [rowS, hf, hd])
  clear hf hF
  have cD := hP.cell (k := 8) (u := .int .i64 (d : Int)) (by simp [pcells, hd])
  go_wp2_with (at_make; refine wpList_make_row elt_u64 _ rfl _ _ rfl .i64 .i64 _ _ (d + 1) rfl rfl (by simp) (by simp) (by omega) (by omega) ?_; intro w2 hr2 hs2 hb3)
  have hb4 := below_next hb2 hb2.size hb3
  have hP2 := hP.below hb3
  have hA2 := hA1.below hb3
  have hP0 := hP.lt
  clear cD hP hA1
  refine Rg.wp_region (l := [_, _, _, _, _, _, _, _]) (tail := [_]) (Rg.grows _ 9) [some 13, some 14, some 15, some 16, some 17, some 18, some 19, some 20, some 21] 30 (by kernel_rfl) (by kernel_rfl) (by kernel_rfl) rfl (Rg.grows_fair _ _) (Rg.keep_drew _) (trivial) ?_
  refine' Rg.op_is _ [] rfl rfl (by kernel_rfl) ?_ ?_
  rotate_left
  · intro wx hb
    refine Rg.from_nil fun T hT => ?_
    go_wp2
    refine hT _ _ rfl (by first | exact Rg.Keep.refl _ | exact below_of_dr hw2 | exact hw2 | exact (Below.refl _ _).alloc (Nat.le_refl _) _) ?_
    simp only [Rg.last, List.getElem?_toArray, List.getElem?_cons_succ, List.getElem?_cons_zero, Option.getD_some]
    rfl
  refine' Rg.op_is _ [] rfl rfl (by kernel_rfl) ?_ ?_
  rotate_left
  · intro wx hb
    refine Rg.from_nil fun T hT => ?_
    go_wp2
    refine hT _ _ rfl (by first | exact Rg.Keep.refl _ | exact below_of_dr hw2 | exact hw2 | exact (Below.refl _ _).alloc (Nat.le_refl _) _) ?_
    simp only [Rg.last, List.getElem?_toArray, List.getElem?_cons_succ, List.getElem?_cons_zero, Option.getD_some]
    rfl
  refine Rg.op_is (.int .i64 (d : Int)) [1] rfl rfl (by kernel_rfl) ?_ ?_
  · intro wx hb
    refine Rg.from_is (some 14) rfl rfl ?_
    refine Rg.from_nil fun T hT => ?_
    have cD := (hP2.below hb).cell (k := 8) (u := .int .i64 (d : Int)) (by simp [pcells, hd])
    go_wp2
    exact hT _ _ rfl (by first | exact Rg.Keep.refl _ | exact below_of_dr hw2 | exact hw2 | exact (Below.refl _ _).alloc (Nat.le_refl _) _) (by first | rfl | exact congrArg _ (by decide))
  refine' Rg.op_is _ [0, 2] rfl rfl (by kernel_rfl) ?_ ?_
  rotate_left
  · intro wx hb
    refine Rg.from_is (some 13) rfl rfl ?_
    refine Rg.from_is (some 15) rfl rfl ?_
    refine Rg.from_nil fun T hT => ?_
    go_wp2
    refine hT _ _ rfl (by first | exact Rg.Keep.refl _ | exact below_of_dr hw2 | exact hw2 | exact (Below.refl _ _).alloc (Nat.le_refl _) _) ?_
    simp only [Rg.last, List.getElem?_toArray, List.getElem?_cons_succ, List.getElem?_cons_zero, Option.getD_some]
    rfl
  refine' Rg.op_is _ [] rfl rfl (by kernel_rfl) ?_ ?_
  rotate_left
  · intro wx hb
    refine Rg.from_nil fun T hT => ?_
    go_wp2
    refine hT _ _ rfl (by first | exact Rg.Keep.refl _ | exact below_of_dr hw2 | exact hw2 | exact (Below.refl _ _).alloc (Nat.le_refl _) _) ?_
    simp only [Rg.last, List.getElem?_toArray, List.getElem?_cons_succ, List.getElem?_cons_zero, Option.getD_some]
    rfl
  refine Rg.op_is (.int .u64 p.Q) [4] rfl rfl (by kernel_rfl) ?_ ?_
  · intro wx hb
    refine Rg.from_is (some 17) rfl rfl ?_
    refine Rg.from_nil fun T hT => ?_
    have cQ := (hP2.below hb).cell (k := 1) (u := .int .u64 p.Q) rfl
    go_wp2
    exact hT _ _ rfl (by first | exact Rg.Keep.refl _ | exact below_of_dr hw2 | exact hw2 | exact (Below.refl _ _).alloc (Nat.le_refl _) _) (by first | rfl | exact congrArg _ (by decide))
  refine' Rg.op_is _ [] rfl rfl (by kernel_rfl) ?_ ?_
  rotate_left
  · intro wx hb
    refine Rg.from_nil fun T hT => ?_
    go_wp2
    refine hT _ _ rfl (by first | exact Rg.Keep.refl _ | exact below_of_dr hw2 | exact hw2 | exact (Below.refl _ _).alloc (Nat.le_refl _) _) ?_
    simp only [Rg.last, List.getElem?_toArray, List.getElem?_cons_succ, List.getElem?_cons_zero, Option.getD_some]
    rfl
  refine Rg.op_of (fun w' v => Own w' w1.heap.size 23 v ((mNums p.Q x).map (.int .u64))) [5, 6] rfl ?_ ?_ rfl (by kernel_rfl) ?_ ?_
  · exact fun w1 w2 v hk h => h.below hk
  · exact fun w1 w2 v hk h => h.below hk
  · intro wx hb
    refine Rg.from_is (some 18) rfl rfl ?_
    refine Rg.from_is (some 19) rfl rfl ?_
    refine Rg.from_nil fun T hT => ?_
    go_wp2_with (fail)
    refine (fnumbers_c _ _ _ _ _ (hA2.below hb) hl hu hq).mono ?_
    rintro e w4 ⟨v, rfl, hown, hb5⟩
    go_wp2
    exact hT _ _ rfl hb5 (hown.from_ (by have := hb.size; have := hs2; simp at *; omega))
  refine Rg.walk_nil [0, 1, 2, 3, 4, 5, 6, 7] (by kernel_rfl) ?_
  intro wx hb
  refine Rg.from_is (some 13) rfl rfl ?_
  refine Rg.from_is (some 14) rfl rfl ?_
  refine Rg.from_is (some 15) rfl rfl ?_
  refine Rg.from_is (some 16) rfl rfl ?_
  refine Rg.from_is (some 17) rfl rfl ?_
  refine Rg.from_is (some 18) rfl rfl ?_
  refine Rg.from_is (some 19) rfl rfl ?_
  refine Rg.from_of (some 20) rfl rfl fun v20 h20 => ?_
  refine Rg.from_nil ?_
  simp only [List.map, Act.put, List.setIfInBounds_toArray, List.set_cons_zero, List.set_cons_succ]
  have hP3 := hP2.below hb
  have hr3 := hr2.below hb
  have hb5 := below_next hb4 hb4.size hb
  obtain ⟨A', c', rfl, hcs⟩ := h20.form
  refine wpList_copy_splice rfl _ _ _ _ rfl _ Try.underlying26 (by kernel_rfl) _ _ _ _ _ _ rfl rfl w1.heap.size 0 (List.replicate (d + 1) (.int .u64 0)) 23 hr3 (((mNums p.Q x).take d).map (.int .u64)) ?c1 ?c2 ?c3 ?c4 w1.heap.size wx (Below.refl _ _) (Nat.le_refl _) ?c5
  case c1 => simp [Nat.min_comm]
  case c2 =>
    intro h0
    refine ⟨rfl, ?_⟩
    rcases hcs with h | ⟨b, off, rfl, h⟩
    · simp only [List.map_eq_nil_iff] at h; rw [h] at h0; simp at h0
    · refine ⟨_, rfl, fun j v hv => ?_⟩
      have hadd : (⟨b, off, none⟩ : Addr).add j = ⟨b, off + j, none⟩ := by unfold Addr.add; split <;> simp_all
      rw [hadd]
      refine h j v ?_
      rw [List.getElem?_map] at hv ⊢
      obtain ⟨y, hy, rfl⟩ := Option.map_eq_some_iff.1 hv
      rw [List.getElem?_take] at hy
      split at hy
      · rw [hy]; rfl
      · cases hy
  case c3 => simp; omega
  case c4 => intro v hv; simp only [List.mem_map] at hv; obtain ⟨z, _, rfl⟩ := hv; rfl
  case c5 =>
    intro w4 h4 hb6
    have hlt : w.heap.size < w1.heap.size := hP0
    have hP4 := hP3.keep (hb6.block _ hlt)
    have hb7 : Below w.heap.size w w4 := hb5.trans (hb6.mono (by omega))
    have hr4 : Row1 w4 w1.heap.size 23 ((padded (mNums p.Q x) d).map (.int .u64) ++ [.int .u64 0]) := by
      rw [← splice_row]; exact h4.out
    clear hb6 hb5 hb4 hcs h20 hr3 hr2 hb h4 hP2 hP3 hA2 hb3
    go_wp2
    refine Rg.wp_region (l := [_, _, _, _, _, _, _]) (tail := [_]) (Rg.grows _ 8) [some 22, some 23, some 24, some 25, some 26, some 27, some 28, none] 30 (by kernel_rfl) (by kernel_rfl) (by kernel_rfl) rfl (Rg.grows_fair _ _) (Rg.keep_drew _) (trivial) ?_
    refine' Rg.op_is _ [] rfl rfl (by kernel_rfl) ?_ ?_
    rotate_left
    · intro wx hb
      refine Rg.from_nil fun T hT => ?_
      go_wp2
      refine hT _ _ rfl (by first | exact Rg.Keep.refl _ | exact below_of_dr hw2 | exact hw2 | exact (Below.refl _ _).alloc (Nat.le_refl _) _) ?_
      simp only [Rg.last, List.getElem?_toArray, List.getElem?_cons_succ, List.getElem?_cons_zero, Option.getD_some]
      rfl
    refine' Rg.op_is _ [] rfl rfl (by kernel_rfl) ?_ ?_
    rotate_left
    · intro wx hb
      refine Rg.from_nil fun T hT => ?_
      go_wp2
      refine hT _ _ rfl (by first | exact Rg.Keep.refl _ | exact below_of_dr hw2 | exact hw2 | exact (Below.refl _ _).alloc (Nat.le_refl _) _) ?_
      simp only [Rg.last, List.getElem?_toArray, List.getElem?_cons_succ, List.getElem?_cons_zero, Option.getD_some]
      rfl
    refine Rg.op_is (.int .i64 (d : Int)) [1] rfl rfl (by kernel_rfl) ?_ ?_
    · intro wx hb
      refine Rg.from_is (some 23) rfl rfl ?_
      refine Rg.from_nil fun T hT => ?_
      have cD := (hP4.below hb).cell (k := 8) (u := .int .i64 (d : Int)) (by simp [pcells, hd])
      go_wp2
      exact hT _ _ rfl (by first | exact Rg.Keep.refl _ | exact below_of_dr hw2 | exact hw2 | exact (Below.refl _ _).alloc (Nat.le_refl _) _) (by first | rfl | exact congrArg _ (by decide))
    refine' Rg.op_is _ [] rfl rfl (by kernel_rfl) ?_ ?_
    rotate_left
    · intro wx hb
      refine Rg.from_nil fun T hT => ?_
      go_wp2
      refine hT _ _ rfl (by first | exact Rg.Keep.refl _ | exact below_of_dr hw2 | exact hw2 | exact (Below.refl _ _).alloc (Nat.le_refl _) _) ?_
      simp only [Rg.last, List.getElem?_toArray, List.getElem?_cons_succ, List.getElem?_cons_zero, Option.getD_some]
      rfl
    refine Rg.op_is (.int .u64 p.Q) [3] rfl rfl (by kernel_rfl) ?_ ?_
    · intro wx hb
      refine Rg.from_is (some 25) rfl rfl ?_
      refine Rg.from_nil fun T hT => ?_
      have cQ := (hP4.below hb).cell (k := 1) (u := .int .u64 p.Q) rfl
      go_wp2
      exact hT _ _ rfl (by first | exact Rg.Keep.refl _ | exact below_of_dr hw2 | exact hw2 | exact (Below.refl _ _).alloc (Nat.le_refl _) _) (by first | rfl | exact congrArg _ (by decide))
    refine Rg.op_is (.int .u64 (mNum 1 p.Q)) [4] rfl rfl (by kernel_rfl) ?_ ?_
    · intro wx hb
      refine Rg.from_is (some 26) rfl rfl ?_
      refine Rg.from_nil fun T hT => ?_
      go_wp2_with (go_at_call 27; refine (num_c 1 p.Q ⟨by decide, by decide⟩ hq _).mono ?_; rintro e w5 ⟨rfl, hw5⟩)
      exact hT _ _ rfl (below_of_dr hw5) rfl
    refine' Rg.op_is _ [0, 2] rfl rfl (by kernel_rfl) ?_ ?_
    rotate_left
    · intro wx hb
      refine Rg.from_is (some 22) rfl rfl ?_
      refine Rg.from_is (some 24) rfl rfl ?_
      refine Rg.from_nil fun T hT => ?_
      go_wp2
      refine hT _ _ rfl (by first | exact Rg.Keep.refl _ | exact below_of_dr hw2 | exact hw2 | exact (Below.refl _ _).alloc (Nat.le_refl _) _) ?_
      simp only [Rg.last, List.getElem?_toArray, List.getElem?_cons_succ, List.getElem?_cons_zero, Option.getD_some]
      rfl
    refine Rg.walk_nil [0, 1, 2, 3, 4, 5, 6] (by kernel_rfl) ?_
    intro wx hb
    refine Rg.from_is (some 22) rfl rfl ?_
    refine Rg.from_is (some 23) rfl rfl ?_
    refine Rg.from_is (some 24) rfl rfl ?_
    refine Rg.from_is (some 25) rfl rfl ?_
    refine Rg.from_is (some 26) rfl rfl ?_
    refine Rg.from_is (some 27) rfl rfl ?_
    refine Rg.from_is (some 28) rfl rfl ?_
    refine Rg.from_nil ?_
    simp only [List.map, Act.put, List.setIfInBounds_toArray, List.set_cons_zero, List.set_cons_succ]
    have hr5 := hr4.below hb
    have hlen : ((padded (mNums p.Q x) d).map (Value.int .u64) ++ [Value.int .u64 0]).length = d + 1 := by simp [padded_len]
    have hget : ((padded (mNums p.Q x) d).map (Value.int .u64) ++ [Value.int .u64 0])[d]? = some (.int .u64 0) := by
      rw [List.getElem?_append_right (by simp [padded_len])]; simp [padded_len]
    have hc5 := hr5.cell hget
    have hf5 := hr5.frozen d
    have hset : ((padded (mNums p.Q x) d).map (Value.int .u64) ++ [Value.int .u64 0]).set d (.int .u64 (mNum 1 p.Q)) = (rowS p x).map (.int .u64) := by
      rw [HR.out, List.set_append_right _ _ (by simp [padded_len])]
      simp [padded_len]
    have hr6 := hr5.set d (.int .u64 (mNum 1 p.Q))
    rw [hset] at hr6
    have hb8 := (below_next hb7 hb7.size hb).setCell (p := ⟨w1.heap.size, d, none⟩) (by simp; omega) (.int .u64 (mNum 1 p.Q))
    have hlen2 : ((rowS p x).map (Value.int .u64)).length = d + 1 := by rw [← hset, List.length_set, hlen]
    clear hr5 hset hlen hget hP4 hr4 hb7
    go_wp2
    go_ret
    refine ⟨_, rfl, ?_, hb8⟩
    have := hr6.own (base := w.heap.size) (by omega) (by rw [hlen2]; omega)
    rw [hlen2] at this
    exact this

end Go.Proofs.Ytnmadmcegdpecaa
