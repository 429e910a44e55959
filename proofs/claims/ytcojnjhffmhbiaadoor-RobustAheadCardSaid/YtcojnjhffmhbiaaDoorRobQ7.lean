/-
  Parts of these texts that the statement needs: PlyC, Ways, RoundY, RobA.
-/
import Derived.Test.YtcojnjhffmhbiaaDoorRobQ6
import Derived.Test.YtcojnjhffmhbiaaDoorRobQ1
import Derived.Maps.OwnSet
import Derived.Laws.EntriesVeiled
import Derived.RegionTactic
import Derived.ChangeAlike
import Derived.Test.YtcojnjhffmhbiaaDoorRobQ5
import Derived.Test.YtcojnjhffmhbiaaDoorRobQ4

section
namespace Go.Proofs.YtcojnjhffmhbiaaDoor
open Go.RowKit Go.Maps
attribute [local go_sem] Oper.semAt_some
theorem key_u64 : Keyed Tryd.prog 24 := int_keyed Tryd.underlying24
theorem zero_i64 (w : World) : (zeroValue 3).run Tryd.prog w = .ok (.int .i64 0) w := by kernel_rfl
theorem wf_u64 {x : Int} (h : U64 x) : (Lit.int .u64 x).wf = true := by
  obtain ⟨h0, h1⟩ := h
  simp [Lit.wf, IntKind.min, IntKind.max, IntKind.signed, IntKind.bits]
  omega
theorem run_makeMap_hint {P : Program} (t k e : TypeId) (ht : P.underlying t = some (.map k e)) (q : IntKind) (n : Int) (w : World) : (Instr.makeMap t (some (.int q n))).run P w = .ok (.map (some w.heap.size)) (w.alloc (.map #[] 0)) := by
  simp [Instr.makeMap, run_underlying ht, asInt, asIntOf]
/-- the places modulo q. -/
def mods (xs : List Int) (q : Int) : List Int := xs.map (· % q)
def eUnlike (xs : List Int) (q : Int) : Int := if okm q then (if xs.length ≤ 1024 then (if (mods xs q).Nodup then 0 else 6) else 40) else 1
/-- what the map of k places holds. -/
structure Had (ys : List Int) (k : Nat) (D : DataW Unit) : Prop where
  tidy : Tidy D
  keys : ∀ z, has D (.int .u64 z) = true ↔ z ∈ ys.take k
  le : size D ≤ k
  eq : size D = k ↔ (ys.take k).Nodup
theorem Had.start (ys : List Int) : Had ys 0 (.map []) := ⟨tidy_empty, fun z => by simp [has], Nat.le_refl _, by simp [size]⟩
theorem Had.step {ys : List Int} {k : Nat} {D : DataW Unit} {y : Int} (h : Had ys k D) (hy : ys[k]? = some y) (d : DataW Unit) : Had ys (k + 1) (D.put (.int .u64 y) d) := by
  have hs := size_put (k := .int .u64 y) h.tidy d
  have ht := take_snocP hy
  refine ⟨h.tidy.put (k := .int .u64 y) trivial d, fun z => ?_, ?_, ?_⟩
  · rw [ht, List.mem_append, List.mem_singleton]
    by_cases hz : z = y
    · subst hz
      rw [has_put_same (k := .int .u64 z) h.tidy.isMap trivial]
      simp
    · rw [has_put_other (fun e => hz (by simpa using e)), h.keys]
      simp [hz]
  · have := h.le
    rw [hs]; split <;> omega
  · rw [ht, hs]
    have h1 := h.le
    have h2 := h.eq
    have h3 := h.keys y
    by_cases hh : has D (.int .u64 y) = true
    · rw [if_pos hh]
      have := h3.1 hh
      constructor
      · intro; omega
      · intro hn
        exact absurd rfl ((List.nodup_append.1 hn).2.2 y this y (List.mem_singleton.2 rfl))
    · rw [if_neg hh]
      have hn : y ∉ ys.take k := fun hm => hh (h3.2 hm)
      constructor
      · intro he
        have := h2.1 (by omega)
        exact List.nodup_append.2 ⟨this, by simp, fun a ha b hb => by
          rw [List.mem_singleton] at hb
          subst hb
          exact fun e => hn (e ▸ ha)⟩
      · intro he
        have := h2.2 (List.nodup_append.1 he).1
        omega
set_option maxRecDepth 100000 in
set_option maxHeartbeats 2000000 in
theorem unlike_c (A : Option Addr) (l : List Int) (c : Nat) (q : Int) (w : World) (hA : Cells w A (l.map (.int .u64))) (hl : l.length ≤ 9223372036854775807) (hu : U64s l) (hq : U64 q) :
    Calls Tryd.prog 113 #[.slice A l.length c, .int .u64 q] w fun e w' => e = .returned (.int .i64 (eUnlike l q)) ∧ Below w.heap.size w w' := by
  have hmm := fun n w => run_makeMap_hint 163 24 3 Tryd.underlying163 .i64 n w
  cases h : okm q with
  | false =>
    have he := hid (show eUnlike l q = 1 by unfold eUnlike; rw [if_neg (by rw [h]; decide)])
    go_enter Tryd.func113, Tryd.ntmps113
    go_wp2_with (go_at_call 112; refine (pmay_c _ hq _).mono ?_; rintro e w' ⟨rfl, rfl⟩; rw [h])
    go_ret
    exact ⟨ret_int he.out.symm, Below.refl _ _⟩
  | true =>
    have h0 := okm_pos h
    have h1 := okm_le h
    by_cases hbig : l.length ≤ 1024
    · have he := hid (show eUnlike l q = if (mods l q).Nodup then 0 else 6 by unfold eUnlike; rw [if_pos h, if_pos hbig])
      go_enter Tryd.func113, Tryd.ntmps113
      go_wp2_with (go_at_call 112; refine (pmay_c _ hq _).mono ?_; rintro e w' ⟨rfl, rfl⟩; rw [h])
      go_loopw [7, 21] (fun _ i wr => ∃ (k : Nat) (D : DataW Unit), i = .int .i64 k ∧ k ≤ l.length ∧ Hid (Had (mods l q) k D) ∧ wr.ownsMap Tryd.prog 24 (plainElem Tryd.prog 3) w.heap.size k D ∧ Below w.heap.size w wr) (fun _ i _ => l.length - (intOf i).toNat)
      case atStart => exact ⟨0, _, rfl, Nat.zero_le _, Had.start _, World.ownsMap_made _ _ _ _, (Below.refl _ _).alloc (Nat.le_refl _) _⟩
      case round =>
        obtain ⟨k, D, rfl, hk, hD, hown, hb⟩ := hrel
        by_cases hlt : k < l.length
        · obtain ⟨z, hz⟩ := get_of_lt hlt
          obtain ⟨o2, off2, rfl, hcz⟩ := (hA.keep fun p hp => hb.cell hp).at_map hz
          obtain ⟨z0, z1⟩ := hu.at_ hz
          have hm0 := Int.emod_nonneg z (b := q) (by omega)
          have hm1 := Int.emod_lt_of_pos z h0
          have hkey : keyOf Tryd.prog 24 (.int .u64 (z % q)) = some (.int .u64 (z % q)) := keyOf_int_mk Tryd.underlying24 (wf_u64 (mod_u64 h))
          have hstep : ∀ d, Had (mods l q) (k + 1) (D.put (.int .u64 (z % q)) d) := fun d => hD.out.step (by unfold mods; rw [List.getElem?_map, hz]; rfl) d
          have HST := hid hstep
          clear hz hstep
          go_wp2_with (first
            | (at_lookup; refine wpList_lookup_own_int _ rfl _ _ 163 rfl 24 3 .i64 key_u64 Tryd.underlying163 Tryd.underlying3 (zero_i64 _) w.heap.size k _ rfl hown _ _ rfl hkey ?_; intro c hat hwc)
            | (at_mapUpdate; refine wpList_mapUpdate_own _ rfl _ _ _ 163 rfl 24 3 key_u64 Tryd.underlying163 _ w.heap.size k _ rfl hown (by unfold maxLen; omega) _ _ _ rfl rfl hkey _ [] (plainElem_int Tryd.underlying3 (wrap64_wf _)) ?_; intro w1 hown1 hgrow1))
          go_roundw
          case rel => exact ⟨k + 1, _, by go_num, by omega, HST.out _, hown1, hb.grown hgrow1 hb.size (fun j hj => by cases hj; exact Nat.le_refl _)⟩
          case measure => simp [intOf]; omega
        · obtain rfl : k = l.length := by omega
          have hle := hD.out.le
          have heq := hD.out.eq
          rw [List.take_of_length_le (by simp [mods])] at heq
          by_cases hn : (mods l q).Nodup
          · have hs := heq.2 hn
            rw [if_pos hn] at he
            clear heq hle hn
            go_wp2_with (at_len; refine wpList_len_own _ rfl _ 163 rfl 24 3 Tryd.underlying163 _ w.heap.size l.length D rfl hown ?_; rw [hs])
            go_ret
            exact ⟨ret_int he.out.symm, hb⟩
          · have hs : size D < l.length := by
              rcases Nat.lt_or_ge (size D) l.length with h9 | h9
              · exact h9
              · exact absurd (heq.1 (by omega)) hn
            rw [if_neg hn] at he
            clear heq hle hn
            go_wp2_with (at_len; refine wpList_len_own _ rfl _ 163 rfl 24 3 Tryd.underlying163 _ w.heap.size l.length D rfl hown ?_)
            go_ret
            exact ⟨ret_int he.out.symm, hb⟩
    · have he := hid (show eUnlike l q = 40 by unfold eUnlike; rw [if_pos h, if_neg hbig])
      go_enter Tryd.func113, Tryd.ntmps113
      go_wp2_with (go_at_call 112; refine (pmay_c _ hq _).mono ?_; rintro e w' ⟨rfl, rfl⟩; rw [h])
      go_ret
      exact ⟨ret_int he.out.symm, Below.refl _ _⟩
open Go.RowKit Go.Shelf
attribute [local go_sem] Oper.semAt_some
section
variable {A : World} {l : Nat} {o : Obj} (o' : Obj)
theorem not_at {g : Nat} {arr : Array Value} {e : TypeId} {fz : Nat × Nat} (hl : A.heap[l]? = some o) (hc : o.isCells = false) (h : A.heap[g]? = some (Obj.cells arr e fz)) : g ≠ l := by
  rintro rfl
  rw [h] at hl
  obtain rfl := Option.some.inj hl
  cases hc
theorem Row1.put {g : Nat} {e : TypeId} {xs : List Value} (h : Row1 A g e xs) (hl : A.heap[l]? = some o) (hc : o.isCells = false) : Row1 (A.putObj l o') g e xs := h.keep (World.putObj_heap_other (not_at hl hc h))
theorem Cells.put {B : Option Addr} {xs : List Value} (h : Cells A B xs) (hl : A.heap[l]? = some o) (hc : o.isCells = false) : Cells (A.putObj l o') B xs := by
  rcases h with h | ⟨b, off, rfl, h⟩
  · exact .inl h
  · exact .inr ⟨b, off, rfl, fun i u hu => cell_kept (h i u hu) (grownBy_putObj' A l o') (fun r e => by cases e; exact ⟨o, hl, hc⟩)⟩
theorem Grid.put {B : Option Addr} {f : List (List Int)} (h : Grid A B f) (hl : A.heap[l]? = some o) (hc : o.isCells = false) : Grid (A.putObj l o') B f := by
  obtain ⟨vs, h1, h2, h3⟩ := h
  refine ⟨vs, h1.put o' hl hc, h2, fun i m hm => ?_⟩
  obtain ⟨v, hv, B2, c, rfl, h4, h5⟩ := h3 i m hm
  exact ⟨_, hv, B2, c, rfl, h4.put o' hl hc, h5⟩
theorem RowT.put {e : TypeId} {v : Value} {xs : List Value} (h : RowT A e v xs) (hl : A.heap[l]? = some o) (hc : o.isCells = false) : RowT (A.putObj l o') e v xs := h.block fun _ _ _ hb => World.putObj_heap_other (not_at hl hc hb)
theorem below_put {n0 : Nat} {w : World} (h : Below n0 w A) (hn : n0 ≤ l) : Below n0 w (A.putObj l o') :=
  h.trans ⟨rfl, rfl, rfl, by simp, fun k hk => World.putObj_heap_other (by omega)⟩
end
theorem row1_in (w : World) (xs : List Value) (e : TypeId) (g : Nat) (h : w.heap.size = g) : Row1 (w.alloc (.cells xs.toArray e)) g e xs := by
  subst h; exact heap_alloc_new w _
open Go.RowKit
attribute [local go_sem] Oper.semAt_some
/-- what the iterator has captured. -/
structure Oth (A : Option Addr) (l : List Int) (c : Nat) (i at_ q : Int) (g1 g2 g3 g4 : Nat) (w : World) : Prop where
  r1 : Row1 w g1 23 [.slice A l.length c]
  r2 : Row1 w g2 3 [.int .i64 i]
  r3 : Row1 w g3 24 [.int .u64 q]
  r4 : Row1 w g4 24 [.int .u64 at_]
  A : Cells w A (l.map (.int .u64))
theorem Oth.below {A : Option Addr} {l : List Int} {c : Nat} {i at_ q : Int} {g1 g2 g3 g4 : Nat} {w w' : World} (h : Oth A l c i at_ q g1 g2 g3 g4 w) (hb : Below w.heap.size w w') : Oth A l c i at_ q g1 g2 g3 g4 w' := ⟨h.r1.below hb, h.r2.below hb, h.r3.below hb, h.r4.below hb, h.A.keep fun _p hp => hb.cell hp⟩
set_option maxRecDepth 100000 in
theorem others_c (A : Option Addr) (l : List Int) (c : Nat) (i at_ q : Int) (w : World) (hA : Cells w A (l.map (.int .u64))) :
    Calls Tryd.prog 148 #[.slice A l.length c, .int .i64 i, .int .u64 at_, .int .u64 q] w fun e w' => ∃ g1 g2 g3 g4, e = .returned (.func (.func 159) #[] #[.pointer (some ⟨g1, 0, none⟩), .pointer (some ⟨g2, 0, none⟩), .pointer (some ⟨g3, 0, none⟩), .pointer (some ⟨g4, 0, none⟩)]) ∧ Oth A l c i at_ q g1 g2 g3 g4 w' ∧ Below w.heap.size w w' ∧ w.heap.size ≤ g1 ∧ w.heap.size ≤ g2 ∧ w.heap.size ≤ g3 ∧ w.heap.size ≤ g4 := by
  go_enter Tryd.func148, Tryd.ntmps148
  go_wp2
  go_ret
  have hb := (((below_alloc w (.cells #[.slice A l.length c] 23)).alloc (by simp) (.cells #[.int .i64 i] 3)).alloc (by simp; omega) (.cells #[.int .u64 at_] 24)).alloc (by simp; omega) (.cells #[.int .u64 q] 24)
  have h1 := (((row1_new w [.slice A l.length c] 23).alloc (.cells #[.int .i64 i] 3)).alloc (.cells #[.int .u64 at_] 24)).alloc (.cells #[.int .u64 q] 24)
  have h2 := ((row1_in (w.alloc (.cells #[.slice A l.length c] 23)) [.int .i64 i] 3 (w.heap.size + 1) (by simp)).alloc (.cells #[.int .u64 at_] 24)).alloc (.cells #[.int .u64 q] 24)
  have h4 := (row1_in ((w.alloc (.cells #[.slice A l.length c] 23)).alloc (.cells #[.int .i64 i] 3)) [.int .u64 at_] 24 (w.heap.size + 1 + 1) (by simp)).alloc (.cells #[.int .u64 q] 24)
  have h3 := row1_in (((w.alloc (.cells #[.slice A l.length c] 23)).alloc (.cells #[.int .i64 i] 3)).alloc (.cells #[.int .u64 at_] 24)) [.int .u64 q] 24 (w.heap.size + 1 + 1 + 1) (by simp)
  exact ⟨_, _, _, _, rfl, ⟨h1, h2, h3, h4, hA.keep fun p hp => hb.cell hp⟩, hb, by omega, by omega, by omega, by omega⟩
open Go.RowKit Go.Shelf
attribute [local go_sem] Oper.semAt_some
/-- what comes for the others: how far number i is, how far the other place is. -/
def oths (l : List Int) (i : Nat) (z at_ q : Int) : List (Int × Int) := (but l i).map fun x => (mSub z x q, mSub at_ x q)
theorem oths_nil (i : Nat) (z at_ q : Int) : oths [] i z at_ q = [] := by simp [oths, but]
theorem oths_ne {l : List Int} {x : Int} {k i : Nat} (hx : l[k]? = some x) (h : k ≠ i) (z at_ q : Int) : oths (l.take (k + 1)) i z at_ q = oths (l.take k) i z at_ q ++ [(mSub z x q, mSub at_ x q)] := by
  have hk := (List.getElem?_eq_some_iff.1 hx).1
  unfold oths
  rw [take_snocP hx, but_ne (by rw [List.length_take]; omega), List.map_append]; rfl
theorem oths_eq {l : List Int} {x : Int} {k i : Nat} (hx : l[k]? = some x) (h : k = i) (z at_ q : Int) : oths (l.take (k + 1)) i z at_ q = oths (l.take k) i z at_ q := by
  have hk := (List.getElem?_eq_some_iff.1 hx).1
  unfold oths
  rw [take_snocP hx, but_eq (by rw [List.length_take]; omega)]
set_option maxRecDepth 100000 in
set_option maxHeartbeats 4000000 in
theorem others1_c (A : Option Addr) (l : List Int) (c i : Nat) (z at_ q : Int) (g1 g2 g3 g4 lp n : Nat) (w : World) (J : List (Int × Int) → World → Prop) (hJ : ∀ xs A B, w.heap.size ≤ A.heap.size → J xs A → Below A.heap.size A B → J xs B)
    (hY : ∀ pre x W, w.heap.size ≤ W.heap.size → J pre W → U64 (Prod.fst x) → U64 (Prod.snd x) → YieldAt Fence.wide n Tryd.prog lp #[.int .u64 (Prod.fst x), .int .u64 (Prod.snd x)] W fun e B => e = .returned (.bool true) ∧ J (pre ++ [x]) B ∧ (Oth A l c i at_ q g1 g2 g3 g4 W → Oth A l c i at_ q g1 g2 g3 g4 B) ∧ W.heap.size ≤ B.heap.size)
    (hO : Oth A l c i at_ q g1 g2 g3 g4 w) (hi : l[i]? = some z) (hl : l.length ≤ 1000000) (hu : U64s l) (hat : U64 at_) (hq : U64 q) (h0 : J [] w) :
    Calls Tryd.prog 159 #[.func (.yield lp) #[] #[], .pointer (some ⟨g1, 0, none⟩), .pointer (some ⟨g2, 0, none⟩), .pointer (some ⟨g3, 0, none⟩), .pointer (some ⟨g4, 0, none⟩)] w fun e w' => (∃ v, e = .returned v) ∧ J (oths l i z at_ q) w' := by
  have hc1 := hO.r1.cell (k := 0) rfl
  have huz := hu.at_ hi
  have hil := (List.getElem?_eq_some_iff.1 hi).1
  go_enter Tryd.func159, Tryd.ntmps159
  go_wp2
  clear hc1
  go_loopw [6, 7, 10] (fun _ _ j wr => ∃ k : Nat, j = .int .i64 k ∧ k ≤ l.length ∧ w.heap.size ≤ wr.heap.size ∧ Oth A l c i at_ q g1 g2 g3 g4 wr ∧ J (oths (l.take k) i z at_ q) wr) (fun _ _ j _ => l.length - (intOf j).toNat)
  case atStart => exact ⟨0, rfl, by omega, Nat.le_refl _, hO, by rw [List.take_zero, oths_nil]; exact h0⟩
  case round =>
    obtain ⟨k, rfl, hk, hsz, hO2, hJx⟩ := hrel
    by_cases hlt : k < l.length
    · obtain ⟨x, hx⟩ := get_of_lt hlt
      obtain ⟨o2, off2, rfl, hcx⟩ := hO2.A.at_map hx
      have hux := hu.at_ hx
      obtain ⟨o3, off3, he3, hcz⟩ := hO2.A.at_map hi
      simp only [Option.some.injEq, Addr.mk.injEq, and_true] at he3
      obtain ⟨rfl, rfl⟩ := he3
      have c1 := hO2.r1.cell (k := 0) rfl
      have c2 := hO2.r2.cell (k := 0) rfl
      have c3 := hO2.r3.cell (k := 0) rfl
      have c4 := hO2.r4.cell (k := 0) rfl
      by_cases hki : k = i
      · have hst := hid (oths_eq hx hki z at_ q)
        subst hki
        have hd : ((k : Int) != (k : Int)) = false := by simp
        clear hx hi
        go_wp2
        go_quiet (fail)
        go_wp2
        go_roundw
        case rel => exact ⟨k + 1, by go_num, by omega, by simpa using hsz, hO2.below (below_of_dr ⟨_, rfl⟩), by rw [hst.out]; exact hJ _ _ _ hsz hJx (below_of_dr ⟨_, rfl⟩)⟩
        case measure => simp [intOf]; omega
      · have hst := hid (oths_ne hx hki z at_ q)
        have hd : ((k : Int) != (i : Int)) = true := by simp; omega
        have hd2 : (k != i) = true := by simp; omega
        clear hx hi
        go_upto_region 3 with (fail)
        refine (wpIn_wide (n := n + 1)).1 ?_
        refine Rgb.wp_regionY (lv := n + 1) (l := [_, _, _, _, _, _, _, _, _, _, _, _, _, _, _, _]) (tail := [_, _, _]) (Rgb.grows _ 19) [some 15, some 16, some 17, some 18, some 19, some 20, some 21, some 22, some 23, some 24, some 25, some 26, some 27, some 28, some 29, some 30, some 31, some 32, some 33] 35 rfl (by kernel_rfl) (by kernel_rfl) (by kernel_rfl) rfl (Rgb.grows_fair _ _) (Rgb.keep_drew _) (trivial) ?_
        intro QQ hQQ
        have HQQ := hid hQQ
        clear hQQ
        refine' Rgb.op_is _ [] rfl rfl (by kernel_rfl) ?_ ?_
        rotate_left
        · intro wx hb
          refine Rgb.from_nil fun T hT => ?_
          go_wp2
          refine hT _ _ rfl (by first | exact Rgb.Keep.refl _ | exact below_of_dr hw2 | exact hw2 | exact (Below.refl _ _).alloc (Nat.le_refl _) _) ?_
          simp only [Rgb.last, List.getElem?_toArray, List.getElem?_cons_succ, List.getElem?_cons_zero, Option.getD_some]
          rfl
        refine Rgb.op_is (.int .i64 i) [] rfl rfl (by kernel_rfl) ?_ ?_
        · intro wx hb
          refine Rgb.from_nil fun T hT => ?_
          have g1 := (hb.cell (lt_of_cell c2)).trans c2
          go_wp2
          exact hT _ _ rfl (by first | exact Rgb.Keep.refl _ | exact below_of_dr hw2 | exact hw2 | exact (Below.refl _ _).alloc (Nat.le_refl _) _) (by first | rfl | exact congrArg _ (by decide))
        refine Rgb.op_is (.bool true) [0, 1] rfl rfl (by kernel_rfl) ?_ ?_
        · intro wx hb
          refine Rgb.from_is (some 15) rfl rfl ?_
          refine Rgb.from_is (some 16) rfl rfl ?_
          refine Rgb.from_nil fun T hT => ?_
          go_wp2
          exact hT _ _ rfl (by first | exact Rgb.Keep.refl _ | exact below_of_dr hw2 | exact hw2 | exact (Below.refl _ _).alloc (Nat.le_refl _) _) (by first | rfl | exact congrArg _ (by decide))
        refine Rgb.op_is (.bool true) [2] rfl rfl (by kernel_rfl) ?_ ?_
        · intro wx hb
          refine Rgb.from_is (some 17) rfl rfl ?_
          refine Rgb.from_nil fun T hT => ?_
          go_wp2
          exact hT _ _ rfl (by first | exact Rgb.Keep.refl _ | exact below_of_dr hw2 | exact hw2 | exact (Below.refl _ _).alloc (Nat.le_refl _) _) (by first | rfl | exact congrArg _ (by decide))
        refine' Rgb.op_is _ [] rfl rfl (by kernel_rfl) ?_ ?_
        rotate_left
        · intro wx hb
          refine Rgb.from_nil fun T hT => ?_
          go_wp2
          refine hT _ _ rfl (by first | exact Rgb.Keep.refl _ | exact below_of_dr hw2 | exact hw2 | exact (Below.refl _ _).alloc (Nat.le_refl _) _) ?_
          simp only [Rgb.last, List.getElem?_toArray, List.getElem?_cons_succ, List.getElem?_cons_zero, Option.getD_some]
          rfl
        refine Rgb.op_is (.slice (some ⟨o2, off2, none⟩) l.length c) [] rfl rfl (by kernel_rfl) ?_ ?_
        · intro wx hb
          refine Rgb.from_nil fun T hT => ?_
          have g1 := (hb.cell (lt_of_cell c1)).trans c1
          go_wp2
          exact hT _ _ rfl (by first | exact Rgb.Keep.refl _ | exact below_of_dr hw2 | exact hw2 | exact (Below.refl _ _).alloc (Nat.le_refl _) _) (by first | rfl | exact congrArg _ (by decide))
        refine Rgb.op_is (.int .i64 i) [] rfl rfl (by kernel_rfl) ?_ ?_
        · intro wx hb
          refine Rgb.from_nil fun T hT => ?_
          have g1 := (hb.cell (lt_of_cell c2)).trans c2
          go_wp2
          exact hT _ _ rfl (by first | exact Rgb.Keep.refl _ | exact below_of_dr hw2 | exact hw2 | exact (Below.refl _ _).alloc (Nat.le_refl _) _) (by first | rfl | exact congrArg _ (by decide))
        refine Rgb.op_is (.pointer (some ⟨o2, off2 + i, none⟩)) [5, 6] rfl rfl (by kernel_rfl) ?_ ?_
        · intro wx hb
          refine Rgb.from_is (some 20) rfl rfl ?_
          refine Rgb.from_is (some 21) rfl rfl ?_
          refine Rgb.from_nil fun T hT => ?_
          go_wp2
          exact hT _ _ rfl (by first | exact Rgb.Keep.refl _ | exact below_of_dr hw2 | exact hw2 | exact (Below.refl _ _).alloc (Nat.le_refl _) _) (by first | rfl | exact congrArg _ (by decide))
        refine Rgb.op_is (.int .u64 z) [7] rfl rfl (by kernel_rfl) ?_ ?_
        · intro wx hb
          refine Rgb.from_is (some 22) rfl rfl ?_
          refine Rgb.from_nil fun T hT => ?_
          have g1 := (hb.cell (lt_of_cell hcz)).trans hcz
          go_wp2
          exact hT _ _ rfl (by first | exact Rgb.Keep.refl _ | exact below_of_dr hw2 | exact hw2 | exact (Below.refl _ _).alloc (Nat.le_refl _) _) (by first | rfl | exact congrArg _ (by decide))
        refine' Rgb.op_is _ [] rfl rfl (by kernel_rfl) ?_ ?_
        rotate_left
        · intro wx hb
          refine Rgb.from_nil fun T hT => ?_
          go_wp2
          refine hT _ _ rfl (by first | exact Rgb.Keep.refl _ | exact below_of_dr hw2 | exact hw2 | exact (Below.refl _ _).alloc (Nat.le_refl _) _) ?_
          simp only [Rgb.last, List.getElem?_toArray, List.getElem?_cons_succ, List.getElem?_cons_zero, Option.getD_some]
          rfl
        refine Rgb.op_is (.int .u64 q) [] rfl rfl (by kernel_rfl) ?_ ?_
        · intro wx hb
          refine Rgb.from_nil fun T hT => ?_
          have g1 := (hb.cell (lt_of_cell c3)).trans c3
          go_wp2
          exact hT _ _ rfl (by first | exact Rgb.Keep.refl _ | exact below_of_dr hw2 | exact hw2 | exact (Below.refl _ _).alloc (Nat.le_refl _) _) (by first | rfl | exact congrArg _ (by decide))
        refine Rgb.op_is (.int .u64 (mSub z x q)) [8, 9, 10] rfl rfl (by kernel_rfl) ?_ ?_
        · intro wx hb
          refine Rgb.from_is (some 23) rfl rfl ?_
          refine Rgb.from_is (some 24) rfl rfl ?_
          refine Rgb.from_is (some 25) rfl rfl ?_
          refine Rgb.from_nil fun T hT => ?_
          go_wp2_with (go_at_call 115; refine (sub_c _ _ _ huz hux hq _).mono ?_; rintro e w5 ⟨rfl, hw5⟩)
          exact hT _ _ rfl (below_of_dr hw5) rfl
        refine Rgb.op_is (.int .u64 at_) [] rfl rfl (by kernel_rfl) ?_ ?_
        · intro wx hb
          refine Rgb.from_nil fun T hT => ?_
          have g1 := (hb.cell (lt_of_cell c4)).trans c4
          go_wp2
          exact hT _ _ rfl (by first | exact Rgb.Keep.refl _ | exact below_of_dr hw2 | exact hw2 | exact (Below.refl _ _).alloc (Nat.le_refl _) _) (by first | rfl | exact congrArg _ (by decide))
        refine' Rgb.op_is _ [] rfl rfl (by kernel_rfl) ?_ ?_
        rotate_left
        · intro wx hb
          refine Rgb.from_nil fun T hT => ?_
          go_wp2
          refine hT _ _ rfl (by first | exact Rgb.Keep.refl _ | exact below_of_dr hw2 | exact hw2 | exact (Below.refl _ _).alloc (Nat.le_refl _) _) ?_
          simp only [Rgb.last, List.getElem?_toArray, List.getElem?_cons_succ, List.getElem?_cons_zero, Option.getD_some]
          rfl
        refine Rgb.op_is (.int .u64 q) [] rfl rfl (by kernel_rfl) ?_ ?_
        · intro wx hb
          refine Rgb.from_nil fun T hT => ?_
          have g1 := (hb.cell (lt_of_cell c3)).trans c3
          go_wp2
          exact hT _ _ rfl (by first | exact Rgb.Keep.refl _ | exact below_of_dr hw2 | exact hw2 | exact (Below.refl _ _).alloc (Nat.le_refl _) _) (by first | rfl | exact congrArg _ (by decide))
        refine Rgb.op_is (.int .u64 (mSub at_ x q)) [12, 13, 14] rfl rfl (by kernel_rfl) ?_ ?_
        · intro wx hb
          refine Rgb.from_is (some 27) rfl rfl ?_
          refine Rgb.from_is (some 28) rfl rfl ?_
          refine Rgb.from_is (some 29) rfl rfl ?_
          refine Rgb.from_nil fun T hT => ?_
          go_wp2_with (go_at_call 115; refine (sub_c _ _ _ hat hux hq _).mono ?_; rintro e w5 ⟨rfl, hw5⟩)
          exact hT _ _ rfl (below_of_dr hw5) rfl
        refine Rgb.walk_nil [0, 1, 2, 3, 4, 5, 6, 7, 8, 9, 10, 11, 12, 13, 14, 15] (by kernel_rfl) ?_
        intro wx hb
        refine Rgb.from_is (some 15) rfl rfl ?_
        refine Rgb.from_is (some 16) rfl rfl ?_
        refine Rgb.from_is (some 17) rfl rfl ?_
        refine Rgb.from_is (some 18) rfl rfl ?_
        refine Rgb.from_is (some 19) rfl rfl ?_
        refine Rgb.from_is (some 20) rfl rfl ?_
        refine Rgb.from_is (some 21) rfl rfl ?_
        refine Rgb.from_is (some 22) rfl rfl ?_
        refine Rgb.from_is (some 23) rfl rfl ?_
        refine Rgb.from_is (some 24) rfl rfl ?_
        refine Rgb.from_is (some 25) rfl rfl ?_
        refine Rgb.from_is (some 26) rfl rfl ?_
        refine Rgb.from_is (some 27) rfl rfl ?_
        refine Rgb.from_is (some 28) rfl rfl ?_
        refine Rgb.from_is (some 29) rfl rfl ?_
        refine Rgb.from_is (some 30) rfl rfl ?_
        refine Rgb.from_nil ?_
        refine HQQ.out _ _ ?_
        simp only [Act.put, List.setIfInBounds_toArray, List.set_cons_zero, List.set_cons_succ]
        clear HQQ
        have hO3 := hO2.below hb
        have hs3 := hb.size
        have hJ3 := hJ _ _ _ hsz hJx hb
        obtain ⟨fn, tmps, assign, body, hy, hR⟩ := hY _ (mSub z x q, mSub at_ x q) wx (by omega) hJ3 (mSub_u64 _ _ _) (mSub_u64 _ _ _)
        dsimp only at hy
        clear hJx c1 c2 c3 c4 hcx hcz
        gi_wp2
        refine hR.mono ?_
        rintro e B ⟨rfl, hJB, hKB, hszB⟩
        gi_wp2
        go_wp2
        go_roundw
        case rel => exact ⟨k + 1, by go_num, by omega, by omega, hKB hO3, by rw [hst.out]; exact hJB⟩
        case measure => simp [intOf]; omega
    · obtain rfl : k = l.length := by omega
      rw [List.take_length] at hJx
      go_wp2
      go_end0
      exact ⟨⟨_, rfl⟩, hJx⟩
open Go.RowKit Go.Shelf
attribute [local go_sem] Oper.semAt_some
theorem Oth.put {A : Option Addr} {l : List Int} {c : Nat} {i at_ q : Int} {g1 g2 g3 g4 m : Nat} {o : Obj} {w : World} (o' : Obj) (h : Oth A l c i at_ q g1 g2 g3 g4 w) (hl : w.heap[m]? = some o) (hc : o.isCells = false) : Oth A l c i at_ q g1 g2 g3 g4 (w.putObj m o') :=
  ⟨h.r1.put o' hl hc, h.r2.put o' hl hc, h.r3.put o' hl hc, h.r4.put o' hl hc, h.A.put o' hl hc⟩
/-- the products of those that have come. -/
def prU (q : Int) (pre : List (Int × Int)) : Int := pre.foldl (fun s p => mMul s p.1 q) (1 % q)
def prV (q : Int) (pre : List (Int × Int)) : Int := pre.foldl (fun s p => mMul s p.2 q) (1 % q)
theorem prU_snoc (q : Int) (pre : List (Int × Int)) (y : Int × Int) : prU q (pre ++ [y]) = mMul (prU q pre) y.1 q := by simp [prU]
theorem prV_snoc (q : Int) (pre : List (Int × Int)) (y : Int × Int) : prV q (pre ++ [y]) = mMul (prV q pre) y.2 q := by simp [prV]
theorem prU_u64 {q : Int} (h : okm q = true) (pre : List (Int × Int)) : U64 (prU q pre) := by
  unfold prU
  have key : ∀ (l : List (Int × Int)) (s : Int), U64 s → U64 (l.foldl (fun s p => mMul s p.1 q) s) := by
    intro l
    induction l with
    | nil => exact fun s h => h
    | cons z l ih => exact fun s _ => ih _ (mMul_u64 _ _ _)
  exact key _ _ (mod_u64 h)
theorem prV_u64 {q : Int} (h : okm q = true) (pre : List (Int × Int)) : U64 (prV q pre) := by
  unfold prV
  have key : ∀ (l : List (Int × Int)) (s : Int), U64 s → U64 (l.foldl (fun s p => mMul s p.2 q) s) := by
    intro l
    induction l with
    | nil => exact fun s h => h
    | cons z l ih => exact fun s _ => ih _ (mMul_u64 _ _ _)
  exact key _ _ (mod_u64 h)
theorem prU_oths (l : List Int) (i : Nat) (z at_ q : Int) : prU q (oths l i z at_ q) = mProd (but l i) z q := by
  unfold prU oths mProd
  rw [List.foldl_map]
theorem prV_oths (l : List Int) (i : Nat) (z at_ q : Int) : prV q (oths l i z at_ q) = mProd (but l i) at_ q := by
  unfold prV oths mProd
  rw [List.foldl_map]
/-- what lies in memory while the products are made. -/
structure Sw (A : Option Addr) (l : List Int) (c : Nat) (i at_ q : Int) (g1 g2 g3 g4 gq gu gv : Nat) (w0 : World) (pre : List (Int × Int)) (w : World) : Prop where
  F : Oth A l c i at_ q g1 g2 g3 g4 w
  Q : Row1 w gq 24 [.int .u64 q]
  U : Row1 w gu 24 [.int .u64 (prU q pre)]
  V : Row1 w gv 24 [.int .u64 (prV q pre)]
  b : Below w0.heap.size w0 w
set_option maxRecDepth 100000 in
set_option maxHeartbeats 4000000 in
theorem share_c (A : Option Addr) (l : List Int) (c i : Nat) (z at_ q : Int) (w : World) (hA : Cells w A (l.map (.int .u64))) (hl : l.length ≤ 1000000) (hi : l[i]? = some z) (hu : U64s l) (hat : U64 at_) (hq : U64 q) (hk : okm q = true) :
    Calls Tryd.prog 116 #[.slice A l.length c, .int .i64 i, .int .u64 at_, .int .u64 q] w fun e w' => e = .returned (.tuple #[.int .u64 (iVal (mProd (but l i) z q) q), .int .u64 (mProd (but l i) at_ q), .int .i64 (iErr (mProd (but l i) z q) q)]) ∧ Below w.heap.size w w' := by
  have h0 := okm_pos hk
  have h1 := okm_le hk
  refine (callsIn_wide (n := 10)).1 ?_
  refine callsIn_of_wp_marks Tryd.func116 rfl trivial ?_ rfl
  refine (wpIn_wide (n := 10)).2 ?_
  simp only [Tryd.ntmps116, List.size_toArray, List.length_cons, List.length_nil, Nat.reduceAdd, Nat.reduceSub, Array.replicate_succ, Array.replicate_zero, List.push_toArray, List.append_toArray, List.nil_append, List.cons_append]
  go_wp2
  go_region
  rotate_left
  all_goals
    have hQ : Row1 ((((w.alloc (.cells #[.int .u64 q] 24)).alloc (.cells #[.int .u64 (1 % q)] 24)).alloc (.cells #[.int .u64 (1 % q)] 24)).drew) w.heap.size 24 [.int .u64 q] := ((row1_new w [.int .u64 q] 24).alloc _).alloc _
    have h1r : Row1 ((((w.alloc (.cells #[.int .u64 q] 24)).alloc (.cells #[.int .u64 (1 % q)] 24)).alloc (.cells #[.int .u64 (1 % q)] 24)).drew) (w.heap.size + 1) 24 [.int .u64 (1 % q)] := (row1_in (w.alloc (.cells #[.int .u64 q] 24)) [.int .u64 (1 % q)] 24 (w.heap.size + 1) (by simp)).alloc _
    have h2r : Row1 ((((w.alloc (.cells #[.int .u64 q] 24)).alloc (.cells #[.int .u64 (1 % q)] 24)).alloc (.cells #[.int .u64 (1 % q)] 24)).drew) (w.heap.size + 1 + 1) 24 [.int .u64 (1 % q)] := row1_in ((w.alloc (.cells #[.int .u64 q] 24)).alloc (.cells #[.int .u64 (1 % q)] 24)) [.int .u64 (1 % q)] 24 (w.heap.size + 1 + 1) (by simp)
    have hb : Below w.heap.size w ((((w.alloc (.cells #[.int .u64 q] 24)).alloc (.cells #[.int .u64 (1 % q)] 24)).alloc (.cells #[.int .u64 (1 % q)] 24)).drew) := below_dr (((below_alloc w _).alloc (by simp) _).alloc (by simp; omega) _) ⟨1, rfl⟩
    have hlt2 := h2r.lt
    have hlt1 := h1r.lt
    have hgs : w.heap.size + 1 ≠ w.heap.size + 1 + 1 := by omega
    have hgs' : w.heap.size + 1 + 1 ≠ w.heap.size + 1 := by omega
    have hge1 : w.heap.size < w.heap.size + 1 := by omega
    have hge2 : w.heap.size < w.heap.size + 1 + 1 := by omega
    generalize (((w.alloc (.cells #[.int .u64 q] 24)).alloc (.cells #[.int .u64 (1 % q)] 24)).alloc (.cells #[.int .u64 (1 % q)] 24)).drew = w2 at *
  generalize w.heap.size + 1 + 1 = gu at *
  generalize w.heap.size + 1 = gv at *
  rotate_left
  generalize w.heap.size + 1 + 1 = gv at *
  generalize w.heap.size + 1 = gu at *
  rotate_left
  · have hU : Row1 w2 gu 24 [.int .u64 (1 % q)] := by assumption
    have hV : Row1 w2 gv 24 [.int .u64 (1 % q)] := by assumption
    have hne : gu ≠ gv := by assumption
    have hne' : gv ≠ gu := by assumption
    have hgu : w.heap.size < gu := by assumption
    have hgv : w.heap.size < gv := by assumption
    clear h1r h2r hlt1 hlt2 hgs hgs' hge1 hge2
    have HI := hid hi
    clear hi
    have hcQ0 := hQ.cell (k := 0) rfl
    go_wp2_with (fail)
    refine (others_c A l c i at_ q w2 (hA.keep fun p hp => hb.cell hp)).mono ?_
    rintro e w3 ⟨g1, g2, g3, g4, rfl, hF, hb3, hl1, hl2, hl3, hl4⟩
    have hlU := hU.lt
    have hlV := hV.lt
    have hlQ := hQ.lt
    have S : Sw A l c i at_ q g1 g2 g3 g4 w.heap.size gu gv w [] w3 := ⟨hF, hQ.below hb3, hU.below hb3, hV.below hb3, below_next hb hb.size hb3⟩
    clear hQ hU hV hF hb hb3 hcQ0
    go_wp2
    refine (wpIn_wide (n := 10)).1 ?_
    refine wpIn_rangeAll (n := 10) rfl (by decide) (gf := 159) (lb := #[.pointer (some ⟨g1, 0, none⟩), .pointer (some ⟨g2, 0, none⟩), .pointer (some ⟨g3, 0, none⟩), .pointer (some ⟨g4, 0, none⟩)]) rfl trivial (enters_of Tryd.func159 (by kernel_rfl) rfl) (encs := fun y : Int × Int => #[.int .u64 y.1, .int .u64 y.2]) (fun _ => rfl)
      (Sw A l c i at_ q g1 g2 g3 g4 w.heap.size gu gv w) (fun y _ => U64 y.1 ∧ U64 y.2) (fun xs => xs = oths l i z at_ q) (fun B1 B2 => Oth A l c i at_ q g1 g2 g3 g4 B1 → Oth A l c i at_ q g1 g2 g3 g4 B2)
      ?ib1 ?ip1 ?op1 (fun _ _ _ h1 h2 h3 => h2 (h1 h3)) (fun B1 l o o' _ h1 h2 h3 => h3.put o' h1 h2) S ?it1 ?a₁1 ?assign1 ?body1 ?done1
    case assign1 =>
      intro l y W K hK
      gi_wp2
      exact hK
    case ib1 => exact fun xs B1 B2 hs h hb => ⟨h.F.below hb, h.Q.below hb, h.U.below hb, h.V.below hb, below_next h.b h.b.size hb⟩
    case ip1 => exact fun xs B1 l o o' h hs h1 h2 => ⟨h.F.put o' h1 h2, h.Q.put o' h1 h2, h.U.put o' h1 h2, h.V.put o' h1 h2, below_put o' h.b (by have := S.b.size; omega)⟩
    case op1 => exact fun y B1 l o o' h hs h1 h2 => h
    case it1 =>
      intro l' J W hbW hJ hY h0
      exact callsIn_wide.2 ((others1_c A l c i z at_ q g1 g2 g3 g4 l' 8 W J hJ (fun pre y W' hs hj hy1 hy2 => hY pre y W' hs hj ⟨hy1, hy2⟩) (S.F.below hbW) HI.out hl hu hat hq h0).mono fun e w' h => ⟨h.1, _, rfl, h.2⟩)
    case body1 =>
      intro l' pre y W hsW hI hOk
      obtain ⟨y1, y2⟩ := y
      obtain ⟨hy1, hy2⟩ := hOk
      dsimp only at hy1 hy2
      have hcU := hI.U.cell (k := 0) rfl
      have hcV := hI.V.cell (k := 0) rfl
      have hcQ := hI.Q.cell (k := 0) rfl
      have huU := prU_u64 hk pre
      have huV := prV_u64 hk pre
      gi_wp2
      refine Rgb.round_region (by rintro ⟨a, w, h⟩; cases h.1) (L := [_, _, _, _, _, _, _, _]) (tail := [_, _]) (Rgb.grows _ 10) [some 28, some 29, some 30, some 31, some 32, some 33, some 34, some 35, none, none] 45 (by kernel_rfl) (by kernel_rfl) (by kernel_rfl) (by kernel_rfl) rfl (Rgb.grows_fair _ _) (Rgb.keep_drew _) (trivial) ?_
      refine Rgb.op_is (.int .u64 (prU q pre)) [] rfl rfl (by kernel_rfl) ?_ ?_
      · intro wx hb
        refine Rgb.from_nil fun T hT => ?_
        have g1 := (hb.cell (lt_of_cell hcU)).trans hcU
        go_wp2
        exact hT _ _ rfl (by first | exact Rgb.Keep.refl _ | exact below_of_dr hw2 | exact hw2 | exact (Below.refl _ _).alloc (Nat.le_refl _) _) (by first | rfl | exact congrArg _ (by decide))
      refine' Rgb.op_is _ [] rfl rfl (by kernel_rfl) ?_ ?_
      rotate_left
      · intro wx hb
        refine Rgb.from_nil fun T hT => ?_
        go_wp2
        refine hT _ _ rfl (by first | exact Rgb.Keep.refl _ | exact below_of_dr hw2 | exact hw2 | exact (Below.refl _ _).alloc (Nat.le_refl _) _) ?_
        simp only [Rgb.last, List.getElem?_toArray, List.getElem?_cons_succ, List.getElem?_cons_zero, Option.getD_some]
        rfl
      refine Rgb.op_is (.int .u64 q) [] rfl rfl (by kernel_rfl) ?_ ?_
      · intro wx hb
        refine Rgb.from_nil fun T hT => ?_
        have g1 := (hb.cell (lt_of_cell hcQ)).trans hcQ
        go_wp2
        exact hT _ _ rfl (by first | exact Rgb.Keep.refl _ | exact below_of_dr hw2 | exact hw2 | exact (Below.refl _ _).alloc (Nat.le_refl _) _) (by first | rfl | exact congrArg _ (by decide))
      refine Rgb.op_is (.int .u64 (mMul (prU q pre) y1 q)) [0, 1, 2] rfl rfl (by kernel_rfl) ?_ ?_
      · intro wx hb
        refine Rgb.from_is (some 28) rfl rfl ?_
        refine Rgb.from_is (some 29) rfl rfl ?_
        refine Rgb.from_is (some 30) rfl rfl ?_
        refine Rgb.from_nil fun T hT => ?_
        go_wp2_with (go_at_call 29; refine (mul_c _ _ _ huU hy1 hq _).mono ?_; rintro e w5 ⟨rfl, hw5⟩)
        exact hT _ _ rfl (below_of_dr hw5) rfl
      refine Rgb.op_is (.int .u64 (prV q pre)) [] rfl rfl (by kernel_rfl) ?_ ?_
      · intro wx hb
        refine Rgb.from_nil fun T hT => ?_
        have g1 := (hb.cell (lt_of_cell hcV)).trans hcV
        go_wp2
        exact hT _ _ rfl (by first | exact Rgb.Keep.refl _ | exact below_of_dr hw2 | exact hw2 | exact (Below.refl _ _).alloc (Nat.le_refl _) _) (by first | rfl | exact congrArg _ (by decide))
      refine' Rgb.op_is _ [] rfl rfl (by kernel_rfl) ?_ ?_
      rotate_left
      · intro wx hb
        refine Rgb.from_nil fun T hT => ?_
        go_wp2
        refine hT _ _ rfl (by first | exact Rgb.Keep.refl _ | exact below_of_dr hw2 | exact hw2 | exact (Below.refl _ _).alloc (Nat.le_refl _) _) ?_
        simp only [Rgb.last, List.getElem?_toArray, List.getElem?_cons_succ, List.getElem?_cons_zero, Option.getD_some]
        rfl
      refine Rgb.op_is (.int .u64 q) [] rfl rfl (by kernel_rfl) ?_ ?_
      · intro wx hb
        refine Rgb.from_nil fun T hT => ?_
        have g1 := (hb.cell (lt_of_cell hcQ)).trans hcQ
        go_wp2
        exact hT _ _ rfl (by first | exact Rgb.Keep.refl _ | exact below_of_dr hw2 | exact hw2 | exact (Below.refl _ _).alloc (Nat.le_refl _) _) (by first | rfl | exact congrArg _ (by decide))
      refine Rgb.op_is (.int .u64 (mMul (prV q pre) y2 q)) [4, 5, 6] rfl rfl (by kernel_rfl) ?_ ?_
      · intro wx hb
        refine Rgb.from_is (some 32) rfl rfl ?_
        refine Rgb.from_is (some 33) rfl rfl ?_
        refine Rgb.from_is (some 34) rfl rfl ?_
        refine Rgb.from_nil fun T hT => ?_
        go_wp2_with (go_at_call 29; refine (mul_c _ _ _ huV hy2 hq _).mono ?_; rintro e w5 ⟨rfl, hw5⟩)
        exact hT _ _ rfl (below_of_dr hw5) rfl
      refine Rgb.walk_nil [0, 1, 2, 3, 4, 5, 6, 7] (by kernel_rfl) ?_
      intro wx hb
      refine Rgb.from_is (some 28) rfl rfl ?_
      refine Rgb.from_is (some 29) rfl rfl ?_
      refine Rgb.from_is (some 30) rfl rfl ?_
      refine Rgb.from_is (some 31) rfl rfl ?_
      refine Rgb.from_is (some 32) rfl rfl ?_
      refine Rgb.from_is (some 33) rfl rfl ?_
      refine Rgb.from_is (some 34) rfl rfl ?_
      refine Rgb.from_is (some 35) rfl rfl ?_
      refine Rgb.from_nil ?_
      simp only [List.map, Act.put, List.setIfInBounds_toArray, List.set_cons_zero, List.set_cons_succ]
      have hU2 := hI.U.below hb
      have hV2 := hI.V.below hb
      have hcU2 := hU2.cell (k := 0) rfl
      have hfU2 := hU2.frozen 0
      have hV3 := hV2.far (p := ⟨gu, 0, none⟩) hne (.int .u64 (mMul (prU q pre) y1 q))
      have hcV3 := hV3.cell (k := 0) rfl
      have hfV3 := hV3.frozen 0
      have hb2 := below_next hI.b hI.b.size hb
      have hF2 := hI.F.below hb
      have hQ2 := hI.Q.below hb
      have hU3 := (hU2.set 0 (.int .u64 (mMul (prU q pre) y1 q))).far (p := ⟨gv, 0, none⟩) hne' (.int .u64 (mMul (prV q pre) y2 q))
      have hV4 := hV3.set 0 (.int .u64 (mMul (prV q pre) y2 q))
      clear hcU hcV hcQ huU huV hU2 hV2
      go_wp2
      have hb4 : Below w.heap.size w ((wx.setCell ⟨gu, 0, none⟩ (.int .u64 (mMul (prU q pre) y1 q))).setCell ⟨gv, 0, none⟩ (.int .u64 (mMul (prV q pre) y2 q))) := (hb2.setCell (p := ⟨gu, 0, none⟩) (Nat.le_of_lt hgu) _).setCell (p := ⟨gv, 0, none⟩) (Nat.le_of_lt hgv) _
      have hFk : ∀ B1, Oth A l c i at_ q g1 g2 g3 g4 B1 → Oth A l c i at_ q g1 g2 g3 g4 wx → Oth A l c i at_ q g1 g2 g3 g4 ((wx.setCell ⟨gu, 0, none⟩ (.int .u64 (mMul (prU q pre) y1 q))).setCell ⟨gv, 0, none⟩ (.int .u64 (mMul (prV q pre) y2 q))) := fun B1 _ h2 =>
        ⟨(h2.r1.far (by simp; omega) _).far (by simp; omega) _, (h2.r2.far (by simp; omega) _).far (by simp; omega) _, (h2.r3.far (by simp; omega) _).far (by simp; omega) _, (h2.r4.far (by simp; omega) _).far (by simp; omega) _, hA.keep fun p hp => hb4.cell hp⟩
      refine (show GoesOn _ _ _ _ _ _ _ from ⟨rfl, ?_, fun h => hFk _ h (h.below hb), ?_, ?_⟩)
      · exact ((KeepsOthers.mk hb.size fun k o hk _ => (hb.block k (Array.getElem?_eq_some_iff.1 hk).1).trans hk).trans (KeepsOthers.setCell _ _ _)).trans (KeepsOthers.setCell _ _ _)
      · exact Nat.le_trans hb.size (Nat.le_trans (KeepsOthers.setCell wx ⟨gu, 0, none⟩ (.int .u64 (mMul (prU q pre) y1 q))).size (KeepsOthers.setCell _ ⟨gv, 0, none⟩ (.int .u64 (mMul (prV q pre) y2 q))).size)
      · refine ⟨hFk _ hF2 hF2, (hQ2.far (by simp; omega) _).far (by simp; omega) _, ?_, ?_, hb4⟩
        · rw [prU_snoc]; exact hU3
        · rw [prV_snoc]; exact hV4
    case done1 =>
      intro D xs W hD hS hI hK
      subst hS
      have hcU := hI.U.cell (k := 0) rfl
      have hcV := hI.V.cell (k := 0) rfl
      have hcQ := hI.Q.cell (k := 0) rfl
      rw [prU_oths] at hcU
      rw [prV_oths] at hcV
      have hmU := mProd_u64 hk (but l i) z
      have hBW := hI.b
      clear hI
      obtain ⟨pu, hpu⟩ : ∃ p, mProd (but l i) z q = p := ⟨_, rfl⟩
      obtain ⟨pv, hpv⟩ : ∃ p, mProd (but l i) at_ q = p := ⟨_, rfl⟩
      have HP := hid (⟨hpu, hpv⟩ : _ ∧ _)
      rw [hpu] at hcU hmU
      rw [hpv] at hcV
      clear hpu hpv
      go_wp2_with (go_at_call 118; refine (inv_c _ _ hmU hq _).mono ?_; rintro e w5 ⟨rfl, hw5⟩; have hcV5 := (hw5.cell _).trans hcV)
      go_quiet (fail)
      go_wp2
      refine ⟨by simp, .inl ⟨_, _, rfl, run_takeDeferred ?_, ?_⟩⟩
      · obtain ⟨n5, rfl⟩ := hw5; exact hK
      · refine ⟨_, results_tmp3 (t := 8) (u := 9) (v := 10) rfl _ _ _, by rw [HP.out.1, HP.out.2]; rfl, ?_⟩
        refine below_put _ (below_dr (below_dr hBW hw5) ⟨_, rfl⟩) (Nat.le_trans S.b.size hD)
  · have hU : Row1 w2 gu 24 [.int .u64 (1 % q)] := by assumption
    have hV : Row1 w2 gv 24 [.int .u64 (1 % q)] := by assumption
    have hne : gu ≠ gv := by assumption
    have hne' : gv ≠ gu := by assumption
    have hgu : w.heap.size < gu := by assumption
    have hgv : w.heap.size < gv := by assumption
    clear h1r h2r hlt1 hlt2 hgs hgs' hge1 hge2
    have HI := hid hi
    clear hi
    have hcQ0 := hQ.cell (k := 0) rfl
    go_wp2_with (fail)
    refine (others_c A l c i at_ q w2 (hA.keep fun p hp => hb.cell hp)).mono ?_
    rintro e w3 ⟨g1, g2, g3, g4, rfl, hF, hb3, hl1, hl2, hl3, hl4⟩
    have hlU := hU.lt
    have hlV := hV.lt
    have hlQ := hQ.lt
    have S : Sw A l c i at_ q g1 g2 g3 g4 w.heap.size gu gv w [] w3 := ⟨hF, hQ.below hb3, hU.below hb3, hV.below hb3, below_next hb hb.size hb3⟩
    clear hQ hU hV hF hb hb3 hcQ0
    go_wp2
    refine (wpIn_wide (n := 10)).1 ?_
    refine wpIn_rangeAll (n := 10) rfl (by decide) (gf := 159) (lb := #[.pointer (some ⟨g1, 0, none⟩), .pointer (some ⟨g2, 0, none⟩), .pointer (some ⟨g3, 0, none⟩), .pointer (some ⟨g4, 0, none⟩)]) rfl trivial (enters_of Tryd.func159 (by kernel_rfl) rfl) (encs := fun y : Int × Int => #[.int .u64 y.1, .int .u64 y.2]) (fun _ => rfl)
      (Sw A l c i at_ q g1 g2 g3 g4 w.heap.size gu gv w) (fun y _ => U64 y.1 ∧ U64 y.2) (fun xs => xs = oths l i z at_ q) (fun B1 B2 => Oth A l c i at_ q g1 g2 g3 g4 B1 → Oth A l c i at_ q g1 g2 g3 g4 B2)
      ?ib2 ?ip2 ?op2 (fun _ _ _ h1 h2 h3 => h2 (h1 h3)) (fun B1 l o o' _ h1 h2 h3 => h3.put o' h1 h2) S ?it2 ?a₁2 ?assign2 ?body2 ?done2
    case assign2 =>
      intro l y W K hK
      gi_wp2
      exact hK
    case ib2 => exact fun xs B1 B2 hs h hb => ⟨h.F.below hb, h.Q.below hb, h.U.below hb, h.V.below hb, below_next h.b h.b.size hb⟩
    case ip2 => exact fun xs B1 l o o' h hs h1 h2 => ⟨h.F.put o' h1 h2, h.Q.put o' h1 h2, h.U.put o' h1 h2, h.V.put o' h1 h2, below_put o' h.b (by have := S.b.size; omega)⟩
    case op2 => exact fun y B1 l o o' h hs h1 h2 => h
    case it2 =>
      intro l' J W hbW hJ hY h0
      exact callsIn_wide.2 ((others1_c A l c i z at_ q g1 g2 g3 g4 l' 8 W J hJ (fun pre y W' hs hj hy1 hy2 => hY pre y W' hs hj ⟨hy1, hy2⟩) (S.F.below hbW) HI.out hl hu hat hq h0).mono fun e w' h => ⟨h.1, _, rfl, h.2⟩)
    case body2 =>
      intro l' pre y W hsW hI hOk
      obtain ⟨y1, y2⟩ := y
      obtain ⟨hy1, hy2⟩ := hOk
      dsimp only at hy1 hy2
      have hcU := hI.U.cell (k := 0) rfl
      have hcV := hI.V.cell (k := 0) rfl
      have hcQ := hI.Q.cell (k := 0) rfl
      have huU := prU_u64 hk pre
      have huV := prV_u64 hk pre
      gi_wp2
      refine Rgb.round_region (by rintro ⟨a, w, h⟩; cases h.1) (L := [_, _, _, _, _, _, _, _]) (tail := [_, _]) (Rgb.grows _ 10) [some 28, some 29, some 30, some 31, some 32, some 33, some 34, some 35, none, none] 45 (by kernel_rfl) (by kernel_rfl) (by kernel_rfl) (by kernel_rfl) rfl (Rgb.grows_fair _ _) (Rgb.keep_drew _) (trivial) ?_
      refine Rgb.op_is (.int .u64 (prU q pre)) [] rfl rfl (by kernel_rfl) ?_ ?_
      · intro wx hb
        refine Rgb.from_nil fun T hT => ?_
        have g1 := (hb.cell (lt_of_cell hcU)).trans hcU
        go_wp2
        exact hT _ _ rfl (by first | exact Rgb.Keep.refl _ | exact below_of_dr hw2 | exact hw2 | exact (Below.refl _ _).alloc (Nat.le_refl _) _) (by first | rfl | exact congrArg _ (by decide))
      refine' Rgb.op_is _ [] rfl rfl (by kernel_rfl) ?_ ?_
      rotate_left
      · intro wx hb
        refine Rgb.from_nil fun T hT => ?_
        go_wp2
        refine hT _ _ rfl (by first | exact Rgb.Keep.refl _ | exact below_of_dr hw2 | exact hw2 | exact (Below.refl _ _).alloc (Nat.le_refl _) _) ?_
        simp only [Rgb.last, List.getElem?_toArray, List.getElem?_cons_succ, List.getElem?_cons_zero, Option.getD_some]
        rfl
      refine Rgb.op_is (.int .u64 q) [] rfl rfl (by kernel_rfl) ?_ ?_
      · intro wx hb
        refine Rgb.from_nil fun T hT => ?_
        have g1 := (hb.cell (lt_of_cell hcQ)).trans hcQ
        go_wp2
        exact hT _ _ rfl (by first | exact Rgb.Keep.refl _ | exact below_of_dr hw2 | exact hw2 | exact (Below.refl _ _).alloc (Nat.le_refl _) _) (by first | rfl | exact congrArg _ (by decide))
      refine Rgb.op_is (.int .u64 (mMul (prU q pre) y1 q)) [0, 1, 2] rfl rfl (by kernel_rfl) ?_ ?_
      · intro wx hb
        refine Rgb.from_is (some 28) rfl rfl ?_
        refine Rgb.from_is (some 29) rfl rfl ?_
        refine Rgb.from_is (some 30) rfl rfl ?_
        refine Rgb.from_nil fun T hT => ?_
        go_wp2_with (go_at_call 29; refine (mul_c _ _ _ huU hy1 hq _).mono ?_; rintro e w5 ⟨rfl, hw5⟩)
        exact hT _ _ rfl (below_of_dr hw5) rfl
      refine Rgb.op_is (.int .u64 (prV q pre)) [] rfl rfl (by kernel_rfl) ?_ ?_
      · intro wx hb
        refine Rgb.from_nil fun T hT => ?_
        have g1 := (hb.cell (lt_of_cell hcV)).trans hcV
        go_wp2
        exact hT _ _ rfl (by first | exact Rgb.Keep.refl _ | exact below_of_dr hw2 | exact hw2 | exact (Below.refl _ _).alloc (Nat.le_refl _) _) (by first | rfl | exact congrArg _ (by decide))
      refine' Rgb.op_is _ [] rfl rfl (by kernel_rfl) ?_ ?_
      rotate_left
      · intro wx hb
        refine Rgb.from_nil fun T hT => ?_
        go_wp2
        refine hT _ _ rfl (by first | exact Rgb.Keep.refl _ | exact below_of_dr hw2 | exact hw2 | exact (Below.refl _ _).alloc (Nat.le_refl _) _) ?_
        simp only [Rgb.last, List.getElem?_toArray, List.getElem?_cons_succ, List.getElem?_cons_zero, Option.getD_some]
        rfl
      refine Rgb.op_is (.int .u64 q) [] rfl rfl (by kernel_rfl) ?_ ?_
      · intro wx hb
        refine Rgb.from_nil fun T hT => ?_
        have g1 := (hb.cell (lt_of_cell hcQ)).trans hcQ
        go_wp2
        exact hT _ _ rfl (by first | exact Rgb.Keep.refl _ | exact below_of_dr hw2 | exact hw2 | exact (Below.refl _ _).alloc (Nat.le_refl _) _) (by first | rfl | exact congrArg _ (by decide))
      refine Rgb.op_is (.int .u64 (mMul (prV q pre) y2 q)) [4, 5, 6] rfl rfl (by kernel_rfl) ?_ ?_
      · intro wx hb
        refine Rgb.from_is (some 32) rfl rfl ?_
        refine Rgb.from_is (some 33) rfl rfl ?_
        refine Rgb.from_is (some 34) rfl rfl ?_
        refine Rgb.from_nil fun T hT => ?_
        go_wp2_with (go_at_call 29; refine (mul_c _ _ _ huV hy2 hq _).mono ?_; rintro e w5 ⟨rfl, hw5⟩)
        exact hT _ _ rfl (below_of_dr hw5) rfl
      refine Rgb.walk_nil [0, 1, 2, 3, 4, 5, 6, 7] (by kernel_rfl) ?_
      intro wx hb
      refine Rgb.from_is (some 28) rfl rfl ?_
      refine Rgb.from_is (some 29) rfl rfl ?_
      refine Rgb.from_is (some 30) rfl rfl ?_
      refine Rgb.from_is (some 31) rfl rfl ?_
      refine Rgb.from_is (some 32) rfl rfl ?_
      refine Rgb.from_is (some 33) rfl rfl ?_
      refine Rgb.from_is (some 34) rfl rfl ?_
      refine Rgb.from_is (some 35) rfl rfl ?_
      refine Rgb.from_nil ?_
      simp only [List.map, Act.put, List.setIfInBounds_toArray, List.set_cons_zero, List.set_cons_succ]
      have hU2 := hI.U.below hb
      have hV2 := hI.V.below hb
      have hcU2 := hU2.cell (k := 0) rfl
      have hfU2 := hU2.frozen 0
      have hV3 := hV2.far (p := ⟨gu, 0, none⟩) hne (.int .u64 (mMul (prU q pre) y1 q))
      have hcV3 := hV3.cell (k := 0) rfl
      have hfV3 := hV3.frozen 0
      have hb2 := below_next hI.b hI.b.size hb
      have hF2 := hI.F.below hb
      have hQ2 := hI.Q.below hb
      have hU3 := (hU2.set 0 (.int .u64 (mMul (prU q pre) y1 q))).far (p := ⟨gv, 0, none⟩) hne' (.int .u64 (mMul (prV q pre) y2 q))
      have hV4 := hV3.set 0 (.int .u64 (mMul (prV q pre) y2 q))
      clear hcU hcV hcQ huU huV hU2 hV2
      go_wp2
      have hb4 : Below w.heap.size w ((wx.setCell ⟨gu, 0, none⟩ (.int .u64 (mMul (prU q pre) y1 q))).setCell ⟨gv, 0, none⟩ (.int .u64 (mMul (prV q pre) y2 q))) := (hb2.setCell (p := ⟨gu, 0, none⟩) (Nat.le_of_lt hgu) _).setCell (p := ⟨gv, 0, none⟩) (Nat.le_of_lt hgv) _
      have hFk : ∀ B1, Oth A l c i at_ q g1 g2 g3 g4 B1 → Oth A l c i at_ q g1 g2 g3 g4 wx → Oth A l c i at_ q g1 g2 g3 g4 ((wx.setCell ⟨gu, 0, none⟩ (.int .u64 (mMul (prU q pre) y1 q))).setCell ⟨gv, 0, none⟩ (.int .u64 (mMul (prV q pre) y2 q))) := fun B1 _ h2 =>
        ⟨(h2.r1.far (by simp; omega) _).far (by simp; omega) _, (h2.r2.far (by simp; omega) _).far (by simp; omega) _, (h2.r3.far (by simp; omega) _).far (by simp; omega) _, (h2.r4.far (by simp; omega) _).far (by simp; omega) _, hA.keep fun p hp => hb4.cell hp⟩
      refine (show GoesOn _ _ _ _ _ _ _ from ⟨rfl, ?_, fun h => hFk _ h (h.below hb), ?_, ?_⟩)
      · exact ((KeepsOthers.mk hb.size fun k o hk _ => (hb.block k (Array.getElem?_eq_some_iff.1 hk).1).trans hk).trans (KeepsOthers.setCell _ _ _)).trans (KeepsOthers.setCell _ _ _)
      · exact Nat.le_trans hb.size (Nat.le_trans (KeepsOthers.setCell wx ⟨gu, 0, none⟩ (.int .u64 (mMul (prU q pre) y1 q))).size (KeepsOthers.setCell _ ⟨gv, 0, none⟩ (.int .u64 (mMul (prV q pre) y2 q))).size)
      · refine ⟨hFk _ hF2 hF2, (hQ2.far (by simp; omega) _).far (by simp; omega) _, ?_, ?_, hb4⟩
        · rw [prU_snoc]; exact hU3
        · rw [prV_snoc]; exact hV4
    case done2 =>
      intro D xs W hD hS hI hK
      subst hS
      have hcU := hI.U.cell (k := 0) rfl
      have hcV := hI.V.cell (k := 0) rfl
      have hcQ := hI.Q.cell (k := 0) rfl
      rw [prU_oths] at hcU
      rw [prV_oths] at hcV
      have hmU := mProd_u64 hk (but l i) z
      have hBW := hI.b
      clear hI
      obtain ⟨pu, hpu⟩ : ∃ p, mProd (but l i) z q = p := ⟨_, rfl⟩
      obtain ⟨pv, hpv⟩ : ∃ p, mProd (but l i) at_ q = p := ⟨_, rfl⟩
      have HP := hid (⟨hpu, hpv⟩ : _ ∧ _)
      rw [hpu] at hcU hmU
      rw [hpv] at hcV
      clear hpu hpv
      go_wp2_with (go_at_call 118; refine (inv_c _ _ hmU hq _).mono ?_; rintro e w5 ⟨rfl, hw5⟩; have hcV5 := (hw5.cell _).trans hcV)
      go_quiet (fail)
      go_wp2
      refine ⟨by simp, .inl ⟨_, _, rfl, run_takeDeferred ?_, ?_⟩⟩
      · obtain ⟨n5, rfl⟩ := hw5; exact hK
      · refine ⟨_, results_tmp3 (t := 8) (u := 9) (v := 10) rfl _ _ _, by rw [HP.out.1, HP.out.2]; rfl, ?_⟩
        refine below_put _ (below_dr (below_dr hBW hw5) ⟨_, rfl⟩) (Nat.le_trans S.b.size hD)
end Go.Proofs.YtcojnjhffmhbiaaDoor
end

section
namespace Go.Rgb
open Go.RowKit
/-- operation s writes beyond what lay in w0; the others make memory. -/
def freshWay (w0 : World) (s : Nat) : Way := ⟨Keep, fun w w' => Below w0.heap.size w w', fun w => Below w0.heap.size w0 w, fun _ => True, s⟩
theorem freshWay_fair (w0 : World) (s : Nat) : (freshWay w0 s).Fair := ⟨fun _ _ h k => h.trans (k.mono h.size), fun _ _ h k => h.trans k, fun _ _ _ _ => trivial⟩
end Go.Rgb
end

section
namespace Go.Rgb
section
variable {P : Program} {l m : Nat} {ops : Array Oper} {Q : Exit → Act → World → Prop}
theorem operIn_in_round {o : Oper} {a : Act} {w : World} {K K' : Act → World → Prop} (hK : ∀ a w, K a w → K' a w) (hd : ∀ c, o.op ≠ .defer c) (h : o.wpIn Fence.wide m P a w K Q) : o.wpIn (Fence.wide.inRound l) m P a w K' Q := by
  refine Oper.wpIn_mono hK ⟨fun _ _ => trivial, ?_⟩
  have h2 := h.2
  rw [show Fence.wide.round = none from rfl, Oper.semAt_none] at h2
  rw [show (Fence.wide.inRound l).round = some l from rfl, Oper.semAt_some l a.eval o hd]
  generalize (execOp a.eval o).run P w = r at h2 ⊢
  cases r with
  | halt x w' => cases x <;> exact h2
  | ok n w' => cases n <;> exact h2
theorem anyIn_in_round {md : Region.Mode} (hc : calm ops.toList = true) : ∀ (fuel : Nat) (listed : Array Bool) (a : Act) (w : World), wpAnyIn Fence.wide m P md ops Q fuel listed a w → wpAnyIn (Fence.wide.inRound l) m P md ops Q fuel listed a w
  | 0, _, _, _, h => h
  | fuel + 1, listed, a, w, h => by
    refine ⟨h.1, fun i hi => ?_⟩
    have h1 := h.2 i hi
    unfold wpOpIn at h1 ⊢
    cases ho : ops[i]? with
    | none =>
      rw [ho] at h1
      exact anyIn_in_round hc fuel _ a w h1
    | some o =>
      rw [ho] at h1
      simp only at h1 ⊢
      have hd := calm_spec hc (Array.mem_toList_iff.2 (Array.mem_of_getElem? ho))
      by_cases hw : Region.wanted o (yielded ops a.tmps) = true
      · rw [if_pos hw] at h1 ⊢
        exact operIn_in_round (fun a w h => anyIn_in_round hc fuel _ a w h) hd h1
      · rw [if_neg hw] at h1 ⊢
        exact ⟨h1.1, anyIn_in_round hc fuel _ _ w h1.2⟩
/-- the law of drawn regions that hold a yield, in a round: the tail is walked as outside of it. -/
theorem round_regionY {id : Nat} {Q' : Exit → Act → World → Prop} {L tail : List Oper} {ops : Array Oper} {a : Act} {w : World} (Y : Way) (ds : List (Option Tmp)) (size : Nat) (ho : ops = (L ++ tail).toArray) (hm : P.follows .mixedOrders = true) (hcalm : calm (L ++ tail) = true) (hs : sane ops ds size L.length = true) (hc : closesY ops L.length = true) (hz : a.tmps.size = size)
    (HY : Y.Fair) (hB : Y.B w.drew) (hB1 : Y.B1 w.drew) (h : ∀ Q : Act → World → Prop, (∀ a w, wpListIn Fence.wide m P ops Q' tail a w → Q a w) → walk P Y ds a Q L []) : (Code.region id ops true).wpIn (Fence.wide.inRound l) m P Q' a w := by
  subst ho
  exact wpIn_region_any hm (anyIn_in_round (by simpa using hcalm) _ _ _ _ (any_regionY Y ds size hs hc hz HY hB hB1 (h _ fun _ _ h => h)))
end
end Go.Rgb
end

section
namespace Go.Proofs.YtcojnjhffmhbiaaDoor
open Go.RowKit Go.Shelf
attribute [local go_sem] Oper.semAt_some
/-- all sets of m of the numbers from fr on, below n, each rising, in order. -/
def setsL : Nat → Nat → Nat → List (List Nat)
  | 0, _, _ => [[]]
  | m + 1, fr, n => (List.range' fr (n - m - fr)).flatMap fun i => (setsL m (i + 1) n).map (i :: ·)
/-- a set in new memory, or none. -/
def RowN (m n : Nat) (x : Value × List Nat) (w : World) : Prop := RowT w 3 x.1 (x.2.map fun (i : Nat) => Value.int .i64 (i : Int)) ∧ x.2.length = m ∧ ∀ i ∈ x.2, i < n
abbrev encN (x : Value × List Nat) : Array Value := #[x.1]
def SetsOk (m : Nat) : Prop := ∀ (k fr n gm gf gn N0 : Nat) (w : World), n ≤ 7 → fr ≤ 8 → N0 ≤ gm → N0 ≤ gf → N0 ≤ gn → Row1 w gm 3 [.int .i64 (m : Int)] → Row1 w gf 3 [.int .i64 (fr : Int)] → Row1 w gn 3 [.int .i64 (n : Int)] →
  SeqO Fence.wide k Tryd.prog 149 #[.pointer (some ⟨gm, 0, none⟩), .pointer (some ⟨gf, 0, none⟩), .pointer (some ⟨gn, 0, none⟩)] encN (RowN m n) (fun xs => xs.map (·.2) = setsL m fr n) (fun pre => pre ≠ [] ∧ ∃ rest, pre.map (·.2) ++ rest = setsL m fr n) N0 w
theorem sets_c (fr n m : Int) (w : World) :
    Calls Tryd.prog 121 #[.int .i64 fr, .int .i64 n, .int .i64 m] w fun e w' => ∃ gf gn gm : Nat, e = .returned (.func (.func 149) #[] #[.pointer (some ⟨gm, 0, none⟩), .pointer (some ⟨gf, 0, none⟩), .pointer (some ⟨gn, 0, none⟩)]) ∧ Row1 w' gm 3 [.int .i64 m] ∧ Row1 w' gf 3 [.int .i64 fr] ∧ Row1 w' gn 3 [.int .i64 n] ∧ w.heap.size ≤ gm ∧ w.heap.size ≤ gf ∧ w.heap.size ≤ gn ∧ Below w.heap.size w w' := by
  have h1 := row1_new w [.int .i64 fr] 3
  have h2 := row1_in (w.alloc (.cells #[.int .i64 fr] 3)) [.int .i64 n] 3 (w.heap.size + 1) (by simp)
  have h3 := row1_in ((w.alloc (.cells #[.int .i64 fr] 3)).alloc (.cells #[.int .i64 n] 3)) [.int .i64 m] 3 (w.heap.size + 1 + 1) (by simp)
  have hb := ((below_alloc w (.cells #[.int .i64 fr] 3)).alloc (by simp) (.cells #[.int .i64 n] 3)).alloc (by simp; omega) (.cells #[.int .i64 m] 3)
  go_enter Tryd.func121, Tryd.ntmps121
  go_wp2
  go_ret
  exact ⟨_, _, _, rfl, h3, (h1.alloc _).alloc _, h2.alloc _, by omega, by omega, by omega, hb⟩
abbrev markD (D : Nat) : Deferred := { target := .collected D, args := #[] }
def Marks (N : Nat) (Ds : List Nat) (w : World) : Prop := Ds.Nodup ∧ ∀ D ∈ Ds, N ≤ D ∧ w.heap[D]? = some (.deferred (some []))
theorem Marks.nil (N : Nat) (w : World) : Marks N [] w := ⟨List.nodup_nil, fun _ h => by cases h⟩
theorem Marks.lt {N : Nat} {Ds : List Nat} {w : World} (h : Marks N Ds w) {D : Nat} (hD : D ∈ Ds) : D < w.heap.size := (Array.getElem?_eq_some_iff.1 (h.2 D hD).2).1
theorem Marks.below {N K : Nat} {Ds : List Nat} {w w' : World} (h : Marks N Ds w) (hb : Below K w w') (hK : ∀ D ∈ Ds, D < K) : Marks N Ds w' := ⟨h.1, fun D hD => ⟨(h.2 D hD).1, (hb.block D (hK D hD)).trans (h.2 D hD).2⟩⟩
theorem Marks.up {N : Nat} {Ds : List Nat} {w w' : World} (h : Marks N Ds w) (hu : Up N w w') : Marks N Ds w' := ⟨h.1, fun D hD => ⟨(h.2 D hD).1, (hu.2 D (h.2 D hD).1 (h.lt hD)).trans (h.2 D hD).2⟩⟩
theorem Marks.cons {N D : Nat} {Ds : List Nat} {w : World} (h : Marks N Ds w) (hD : w.heap[D]? = some (.deferred (some []))) (hN : N ≤ D) (hK : ∀ E ∈ Ds, E < D) : Marks N (D :: Ds) w :=
  ⟨List.nodup_cons.2 ⟨fun hm => Nat.lt_irrefl _ (hK D hm), h.1⟩, fun E hE => by
    rcases List.mem_cons.1 hE with rfl | hE
    · exact ⟨hN, hD⟩
    · exact h.2 E hE⟩
theorem leaves_marks {F : Fence} {n : Nat} {P : Program} {fn : Func} {tmps : Array Value} {R : Ending → World → Prop} {N : Nat} : ∀ (Ds : List Nat) (w : World), Marks N Ds w → (∀ w', Below N w w' → CellsUp 0 w w' → LeavesIn F n P fn tmps R [] .returning w') → LeavesInM F n P fn tmps R (Ds.map markD) .returning w
  | [], w, _, h => h w (Below.refl _ _) (CellsUp.refl _ _)
  | D :: Ds, w, hm, h => by
    obtain ⟨hN, hD⟩ := hm.2 D (List.mem_cons_self ..)
    have hlt := hm.lt (List.mem_cons_self ..)
    have hb : Below N w (w.putObj D (.deferred none)) := below_putR _ (by omega) hN
    refine ⟨by simp, .inl ⟨_, _, rfl, run_takeDeferred hD, leaves_marks Ds _ ⟨(List.nodup_cons.1 hm.1).2, fun E hE => ?_⟩ fun w' hb' hc' => h w' (hb.trans hb') ((CellsUp.put hD rfl).trans hc')⟩⟩
    obtain ⟨h1, h2⟩ := hm.2 E (List.mem_cons_of_mem _ hE)
    exact ⟨h1, (World.putObj_heap_other (fun e => (List.nodup_cons.1 hm.1).1 (by subst e; exact hE))).trans h2⟩
theorem yieldAt_any {n m l : Nat} {P : Program} {args : Array Value} {W : World} {R : Ending → World → Prop} (h : YieldAt Fence.wide n P l args W R) : YieldAt Fence.wide m P l args W R := by
  obtain ⟨fn, tmps, assign, body, hy, h1, h2⟩ := h
  exact ⟨fn, tmps, assign, body, hy, h1, fun c cs _ => h2 c cs (room_wide _)⟩
/-- the sets that begin by less than i. -/
def upto (m fr n i : Nat) : List (List Nat) := (List.range' fr (i - fr)).flatMap fun i => (setsL m (i + 1) n).map (i :: ·)
theorem upto_start (m fr n : Nat) : upto m fr n fr = [] := by simp [upto]
theorem upto_next {m fr n i : Nat} (h : fr ≤ i) : upto m fr n (i + 1) = upto m fr n i ++ (setsL m (i + 1) n).map (i :: ·) := by
  unfold upto
  rw [show i + 1 - fr = (i - fr) + 1 by omega, List.range'_concat, List.flatMap_append]
  simp only [List.flatMap_cons, List.flatMap_nil, List.append_nil, Nat.one_mul]
  rw [show fr + (i - fr) = i by omega]
theorem upto_end (m fr n : Nat) : upto m fr n (fr + (n - m - fr)) = setsL (m + 1) fr n := by
  unfold upto
  rw [setsL, show fr + (n - m - fr) - fr = n - m - fr by omega]
theorem upto_more {m fr n i : Nat} (h : fr ≤ i) (h2 : i ≤ fr + (n - m - fr)) : ∃ rest, upto m fr n i ++ rest = setsL (m + 1) fr n := by
  refine ⟨(List.range' i (fr + (n - m - fr) - i)).flatMap fun i => (setsL m (i + 1) n).map (i :: ·), ?_⟩
  rw [← upto_end]
  unfold upto
  rw [← List.flatMap_append]
  have e : List.range' fr (i - fr) ++ List.range' i (fr + (n - m - fr) - i) = List.range' fr (fr + (n - m - fr) - fr) := by
    have := @List.range'_append_1 fr (i - fr) (fr + (n - m - fr) - i)
    rw [show fr + (i - fr) = i by omega, show i - fr + (fr + (n - m - fr) - i) = fr + (n - m - fr) - fr by omega] at this
    exact this
  rw [e]
/-- the state of the walk through the sets. -/
structure St1 (m fr n gm gf gn gy g5 i l N0 : Nat) (Wz K : Nat) (Ds : List Nat) (A : World) : Prop where
  M : Row1 A gm 3 [.int .i64 ((m : Int) + 1)]
  F : Row1 A gf 3 [.int .i64 (fr : Int)]
  N : Row1 A gn 3 [.int .i64 (n : Int)]
  Y : Row1 A gy 167 [.func (.yield l) #[] #[]]
  I : Row1 A g5 3 [.int .i64 (i : Int)]
  m0 : N0 ≤ gm ∧ N0 ≤ gf ∧ N0 ≤ gn
  y0 : Wz ≤ gy ∧ Wz ≤ g5
  k0 : gm < K ∧ gf < K ∧ gn < K ∧ gy < K ∧ g5 < K ∧ ∀ D ∈ Ds, D < K
  kz : K ≤ A.heap.size
  wz : Wz ≤ A.heap.size
  D : Marks Wz Ds A
section
variable {m fr n gm gf gn gy g5 i l N0 : Nat} {Wz K : Nat} {Ds : List Nat} {A B : World}
theorem St1.below (h : St1 m fr n gm gf gn gy g5 i l N0 Wz K Ds A) (hb : Below K A B) : St1 m fr n gm gf gn gy g5 i l N0 Wz K Ds B :=
  ⟨h.M.keep (hb.block _ h.k0.1), h.F.keep (hb.block _ h.k0.2.1), h.N.keep (hb.block _ h.k0.2.2.1), h.Y.keep (hb.block _ h.k0.2.2.2.1), h.I.keep (hb.block _ h.k0.2.2.2.2.1), h.m0, h.y0, h.k0, Nat.le_trans h.kz hb.size, Nat.le_trans h.wz hb.size, h.D.below hb h.k0.2.2.2.2.2⟩
theorem St1.up (h : St1 m fr n gm gf gn gy g5 i l N0 Wz K Ds A) (hu : Up Wz A B) (hc : CellsUp N0 A B) : St1 m fr n gm gf gn gy g5 i l N0 Wz K Ds B :=
  ⟨h.M.up hc h.m0.1, h.F.up hc h.m0.2.1, h.N.up hc h.m0.2.2, h.Y.up (.of_up hu) h.y0.1, h.I.up (.of_up hu) h.y0.2, h.m0, h.y0, h.k0, Nat.le_trans h.kz hu.1, Nat.le_trans h.wz hu.1, h.D.up hu⟩
theorem St1.raise (h : St1 m fr n gm gf gn gy g5 i l N0 Wz K Ds A) : St1 m fr n gm gf gn gy g5 i l N0 Wz A.heap.size Ds A :=
  ⟨h.M, h.F, h.N, h.Y, h.I, h.m0, h.y0, ⟨h.M.lt, h.F.lt, h.N.lt, h.Y.lt, h.I.lt, fun _D hD => h.D.lt hD⟩, Nat.le_refl _, h.wz, h.D⟩
end
def cellM (n : Nat) (v : Value) (w : World) : Nat := match v with
  | .pointer (some p) => n + 20 - (intOf ((w.cell? p).getD (.int .i64 0))).toNat
  | _ => 0
theorem cellM_at {n g i : Nat} {w : World} (h : Row1 w g 3 [.int .i64 (i : Int)]) : cellM n (.pointer (some ⟨g, 0, none⟩)) w = n + 20 - i := by
  have c := h.cell (k := 0) rfl
  simp [cellM, c, intOf]
theorem elt_int : Elt Tryd.prog 69 3 (.int .i64 0) 8 := .of Tryd.underlying69 (by kernel_rfl) rfl
abbrev frm1 (l gm gf gn gy g5 : Nat) (m fr : Nat) (u : Nat → Value) (Ds : List Nat) : Act :=
  { tmps := #[.func (.yield l) #[] #[], .pointer (some ⟨gm, 0, none⟩), .pointer (some ⟨gf, 0, none⟩), .pointer (some ⟨gn, 0, none⟩), .pointer (some ⟨gy, 0, none⟩), .pointer (some ⟨g5, 0, none⟩), u 6, .int .i64 ((m : Int) + 1), u 8, undef, undef, .int .i64 (fr : Int), u 12, u 13, u 14, u 15, u 16, u 17, u 18, u 19, u 20, u 21, u 22, u 23, u 24, u 25, u 26, u 27, u 28, u 29, u 30, u 31, u 32, u 33], defers := Ds.map markD }
theorem frm_of {l gm gf gn gy g5 m fr : Nat} {Ds : List Nat} (x6 x8 x12 x13 x14 x15 x16 x17 x18 x19 x20 x21 x22 x23 x24 x25 x26 x27 x28 x29 x30 x31 x32 x33 : Value) : ∃ u, ({ tmps := #[.func (.yield l) #[] #[], .pointer (some ⟨gm, 0, none⟩), .pointer (some ⟨gf, 0, none⟩), .pointer (some ⟨gn, 0, none⟩), .pointer (some ⟨gy, 0, none⟩), .pointer (some ⟨g5, 0, none⟩), x6, .int .i64 ((m : Int) + 1), x8, undef, undef, .int .i64 (fr : Int), x12, x13, x14, x15, x16, x17, x18, x19, x20, x21, x22, x23, x24, x25, x26, x27, x28, x29, x30, x31, x32, x33], defers := Ds.map markD } : Act) = frm1 l gm gf gn gy g5 m fr u Ds :=
  ⟨fun j => match j with | 6 => x6 | 8 => x8 | 12 => x12 | 13 => x13 | 14 => x14 | 15 => x15 | 16 => x16 | 17 => x17 | 18 => x18 | 19 => x19 | 20 => x20 | 21 => x21 | 22 => x22 | 23 => x23 | 24 => x24 | 25 => x25 | 26 => x26 | 27 => x27 | 28 => x28 | 29 => x29 | 30 => x30 | 31 => x31 | 32 => x32 | 33 => x33 | _ => undef, rfl⟩
theorem wpList_appends_nil {P : Program} {t e : TypeId} {z : Value} {bytes : Nat} (E : Elt P t e z bytes) (wr : World) {ops : Array Oper} {rest : List Oper} {o : Oper} {a : Act} {Q : Exit → Act → World → Prop}
    (hg : o.guard = none) (s x : Operand) (hop : o.op = .call { callee := .builtin .append, args := #[s, x], argTypes := #[t, t] })
    (base : Nat) {v : Value} {xs : List Value} (hown : Own wr base e v xs) (hs : a.eval s = v) {c : Nat} (hx : a.eval x = .slice none 0 c) (h : wpList P ops Q rest (a.put o.dst v) wr) : wpList P ops Q (o :: rest) a wr := by
  obtain ⟨i, hi, _, _, _⟩ := E.info
  have hr : (Builtin.append_ #[t, t] o.type #[v, .slice none 0 c]).run P wr = .ok v wr := by
    rcases hown.2 with ⟨rfl, h0⟩ | ⟨g, cap, cur, rfl, hb, hg, hn, hm, hs, ht⟩
    · simp [Builtin.append_, run_underlying E.under, sizeOf, typeInfo, hi, Builtin.lenOf, Builtin.firstCells]
    · simp [Builtin.append_, run_underlying E.under, sizeOf, typeInfo, hi, Builtin.lenOf, Builtin.firstCells, loadCells, hn, storeCells]
  refine wpList_plain hg fun K hK => ?_
  unfold Oper.wp execOp
  simp only [hop, resolve, invoke, builtin, Sem.run_bind, Sem.run_pure, Result.andThen_ok, List.map_toArray, List.map_cons, List.map_nil, hs, hx, hr]
  exact hK _ _ h
set_option maxRecDepth 100000 in
set_option maxHeartbeats 2000000 in
theorem sets1_zero : SetsOk 0 := by
  intro k fr n gm gf gn N0 w hn hf ng1 ng2 ng3 hm hff hnn l J Jx W hb hJ hJx hY h0
  refine callsIn_wide.2 ?_
  have hm1 := hm.below hb
  have hbw := below_alloc W (.cells #[.func (.yield l) #[] #[]] 167)
  have hy1 := row1_new W [.func (.yield l) #[] #[]] 167
  have c0 := (hm1.below hbw).cell (k := 0) rfl
  have cy := hy1.cell (k := 0) rfl
  have h1 := hJ _ _ _ h0 hbw
  have hsz := hbw.size
  have HY := hid hY
  clear hY hm1 hm hff hnn hJ hJx h0 hbw hy1
  go_enter Tryd.func149, Tryd.ntmps149
  go_upto_region 2 with (fail)
  simp only [List.toArray] at c0 cy h1 hsz
  generalize W.alloc (.cells #[.func (.yield l) #[] #[]] 167) = W1 at *
  obtain ⟨gy, hgy⟩ : ∃ g, W.heap.size = g := ⟨_, rfl⟩
  obtain ⟨fn, tmps, assign, body, hy, hR⟩ := HY.out [] (.slice none 0 0, []) W1 hsz h1 ⟨RowT.nil _ _ _ _, rfl, fun _ h => by cases h⟩
  rw [hgy] at cy ⊢
  refine (wpIn_wide (n := k)).1 ?_
  simp only [encN] at hy
  gi_wp2
  refine ⟨fun h => absurd h (by decide), ?_⟩
  refine hR.mono ?_
  rintro e W3 ⟨h3 | h3, _⟩
  · obtain ⟨rfl, hJ3⟩ := h3
    gi_wp2
    go_wp2
    refine bodyPost_ret (results_none rfl _ _ _) rfl ?_
    exact ⟨⟨_, rfl⟩, .inl ⟨[(.slice none 0 0, [])], rfl, hJ3⟩⟩
  · obtain ⟨rfl, hJ3⟩ := h3
    gi_wp2
    go_wp2
    refine bodyPost_ret (results_none rfl _ _ _) rfl ?_
    exact ⟨⟨_, rfl⟩, .inr ⟨[(.slice none 0 0, [])], ⟨by simp, [], rfl⟩, hJ3⟩⟩
set_option maxRecDepth 100000 in
set_option maxHeartbeats 4000000 in
theorem sets1_succ (m : Nat) (hm3 : m ≤ 10) (ih : SetsOk m) : SetsOk (m + 1) := by
  intro k fr n gm gf gn N0 w hn hf ng1 ng2 ng3 hm hff hnn l J Jx W hb hJ hJx hY h0
  have hbw := below_alloc W (.cells #[.func (.yield l) #[] #[]] 167)
  have hy1 := row1_new W [.func (.yield l) #[] #[]] 167
  have hM := (hm.below hb).below hbw
  have hF := (hff.below hb).below hbw
  have hN := (hnn.below hb).below hbw
  have c0 := hM.cell (k := 0) rfl
  have c1 := hF.cell (k := 0) rfl
  have h1 := hJ _ _ _ h0 hbw
  have hsz := hbw.size
  have HY := hid hY
  have hz : (((m + 1 : Nat) : Int) == 0) = false := by simp; omega
  clear hY h0 hm hff hnn
  refine callsIn_of_wp_marks Tryd.func149 rfl trivial ?_ rfl
  refine (wpIn_wide (n := k)).2 ?_
  simp only [Tryd.ntmps149, List.size_toArray, List.length_cons, List.length_nil, Nat.reduceAdd, Nat.reduceSub, Array.replicate_succ, Array.replicate_zero, List.push_toArray, List.append_toArray, List.nil_append, List.cons_append]
  go_upto_region 3 with (fail)
  simp only [List.toArray] at hy1 hM hF hN c0 c1 h1 hsz hbw
  generalize W.alloc (.cells #[.func (.yield l) #[] #[]] 167) = W1 at *
  obtain ⟨gy, hgy⟩ : ∃ g, W.heap.size = g := ⟨_, rfl⟩
  rw [hgy] at hy1 ⊢
  have hs1 := hsz
  rw [hgy] at hs1
  have S0 : St1 m fr n gm gf gn gy W1.heap.size fr l N0 W.heap.size (W1.heap.size + 1) [] (W1.alloc (.cells #[.int .i64 (fr : Int)] 3)) :=
    ⟨hM.alloc _, hF.alloc _, hN.alloc _, hy1.alloc _, row1_new W1 [.int .i64 (fr : Int)] _, ⟨ng1, ng2, ng3⟩, ⟨by omega, hsz⟩, ⟨by have := hM.lt; omega, by have := hF.lt; omega, by have := hN.lt; omega, by have := hy1.lt; omega, by omega, fun D hD => by cases hD⟩, by simp, by simp; omega, .nil _ _⟩
  have hJ0 := hJ _ _ _ h1 ((below_alloc W1 (.cells #[.int .i64 (fr : Int)] 3)).mono hsz)
  go_wp2
  clear hM hF hN hy1 h1 c0 c1 hbw
  refine wp_loop (fun a' w' => ∃ (i g5 K : Nat) (Ds : List Nat) (pre : List (Value × List Nat)), (∃ u, a' = frm1 l gm gf gn gy g5 m fr u Ds) ∧ fr ≤ i ∧ i ≤ fr + (n - m - fr) ∧ pre.map (·.2) = upto m fr n i ∧ J pre w' ∧ St1 m fr n gm gf gn gy g5 i l N0 W.heap.size K Ds w') (fun a' w' => cellM n (a'.tmps.getD 5 undef) w') ?_ ?_
  · exact ⟨fr, W1.heap.size, W1.heap.size + 1, [], [], ⟨fun j => if j = 8 then .bool ((m : Int) + 1 == 0) else undef, rfl⟩, Nat.le_refl _, by omega, by rw [upto_start]; rfl, hJ0, S0⟩
  · rintro a' wr ⟨i, g5, K, Ds, pre, ⟨u, rfl⟩, hi1, hi2, hpre, hj, S⟩
    have hmeas := hid (cellM_at (n := n) S.I)
    have c5 := S.I.cell (k := 0) rfl
    have cN := S.N.cell (k := 0) rfl
    have cM := S.M.cell (k := 0) rfl
    have HS := hid S
    have HJ := hid hj
    have HPRE := hid hpre
    clear S0 hJ0 S hj hpre
    by_cases hlt : i < fr + (n - m - fr)
    · have hle : (i : Int) ≤ (n : Int) - ((m : Int) + 1) := by omega
      go_wp2_with (fail)
      refine (sets_c ((i : Int) + 1) n m wr).mono ?_
      rintro e w3 ⟨gf2, gn2, gm2, rfl, rm, rf, rn, l1, l2, l3, hb3⟩
      have S3 := ((HS.out.raise).below hb3).raise
      have J3 := hJ _ _ _ HJ.out (hb3.mono HS.out.wz)
      have hi7 : i < n := by omega
      have hwz : W.heap.size ≤ w3.heap.size := S3.wz
      clear c5 cN cM
      go_wp2
      refine (wpIn_wide (n := 10)).1 ?_
      refine wpIn_rangeStop (n := 10) rfl (by decide) (gf := 149) (lb := #[.pointer (some ⟨gm2, 0, none⟩), .pointer (some ⟨gf2, 0, none⟩), .pointer (some ⟨gn2, 0, none⟩)]) rfl trivial (enters_of Tryd.func149 (by kernel_rfl) rfl) (encs := encN) (fun _ => rfl)
        (fun xs A => (∃ pre', pre'.map (·.2) = upto m fr n i ++ xs.map (fun x => i :: x.2) ∧ J pre' A) ∧ St1 m fr n gm gf gn gy g5 i l N0 W.heap.size w3.heap.size Ds A)
        (fun c xs A => c = .ret ∧ (∃ pre', pre' ≠ [] ∧ pre'.map (·.2) = upto m fr n i ++ xs.map (fun x => i :: x.2) ∧ Jx pre' A) ∧ Marks W.heap.size Ds A)
        (RowN m n) _ _ ?ib ?ixb ?op ⟨⟨pre, by rw [HPRE.out]; simp, J3⟩, S3⟩ (ih 9 (i + 1) n gm2 gf2 gn2 wr.heap.size w3 hn (by omega) l1 l2 l3 rm rf rn) ?a₁ ?assign ?body ?done ?stop
      case assign =>
        intro l y W K hK
        gi_wp2
        exact hK
      case ib => exact fun xs A B h hb => ⟨by obtain ⟨pre', h1, h2⟩ := h.1; exact ⟨pre', h1, hJ _ _ _ h2 (hb.mono hwz)⟩, h.2.below hb⟩
      case ixb => exact fun c xs A B h hb hcu => ⟨h.1, by obtain ⟨pre', h0, h1, h2⟩ := h.2.1; exact ⟨pre', h0, h1, hJx _ _ _ h2 (hb.mono hwz) hcu⟩, h.2.2.below hb S3.k0.2.2.2.2.2⟩
      case op => exact fun x A l o o' h _ h1 h2 => ⟨h.1.put o' h1 h2, h.2⟩
      case body =>
        intro l2 pre2 x A hszA hI hOk
        obtain ⟨v, sx⟩ := x
        obtain ⟨⟨pre', hp', hj'⟩, SA⟩ := hI
        obtain ⟨hrt, hlen, hlts⟩ := hOk
        dsimp only at hrt hlen hlts
        obtain ⟨A5, c5, rfl, hcs, hln⟩ := hrt.form
        rw [List.length_map] at hln ⊢
        have cY := SA.Y.cell (k := 0) rfl
        have cI := SA.I.cell (k := 0) rfl
        have HSA := hid SA
        have HJ2 := hid hj'
        have HP2 := hid hp'
        have hAw : W.heap.size ≤ A.heap.size := SA.wz
        have hA3 : w3.heap.size ≤ A.heap.size := SA.kz
        have hlm : sx.length ≤ 1000 := by omega
        have HLEN := hid hlen
        have hwr := HS.out.wz
        have hone : ∀ u ∈ sx.map (fun (j : Nat) => Value.int .i64 (j : Int)), u.oneCell' = true := fun u hu => by obtain ⟨j, _, rfl⟩ := List.mem_map.1 hu; rfl
        have HONE := hid hone
        have HNC := hid hcs
        clear SA hj' hp' S3 J3 HS HJ HPRE hrt hlen hone hcs
        generalize hln2 : sx.length = ln at *
        have HLN := hid hln2
        clear hln2
        gi_wp2
        refine Rgb.round_regionY (m := _) (L := [_, _, _, _, _]) (tail := [_, _]) (Rgb.freshWay A 4) [some 26, some 27, some 28, some 29, some 30, some 31, some 32] 34 rfl (by kernel_rfl) (by kernel_rfl) (by kernel_rfl) (by kernel_rfl) rfl (Rgb.freshWay_fair _ _) (Rgb.keep_drew _) (trivial) ?_
        intro QQ hQQ
        have HQQ := hid hQQ
        clear hQQ
        refine Rgb.op_is (.func (.yield l) #[] #[]) [] rfl rfl (by kernel_rfl) ?_ ?_
        · intro wx hb
          refine Rgb.from_nil fun T hT => ?_
          have g1 := (hb.cell (lt_of_cell cY)).trans cY
          go_wp2
          exact hT _ _ rfl (by first | exact Rgb.Keep.refl _ | exact below_of_dr hw2 | exact hw2 | exact (Below.refl _ _).alloc (Nat.le_refl _) _) (by first | rfl | exact congrArg _ (by decide))
        refine Rgb.op_is (.int .i64 (i : Int)) [] rfl rfl (by kernel_rfl) ?_ ?_
        · intro wx hb
          refine Rgb.from_nil fun T hT => ?_
          have g1 := (hb.cell (lt_of_cell cI)).trans cI
          go_wp2
          exact hT _ _ rfl (by first | exact Rgb.Keep.refl _ | exact below_of_dr hw2 | exact hw2 | exact (Below.refl _ _).alloc (Nat.le_refl _) _) (by first | rfl | exact congrArg _ (by decide))
        refine Rgb.op_till (fun w v => Own w A.heap.size 3 v [.int .i64 (i : Int)]) [1] rfl ?_ rfl (by kernel_rfl) ?_ ?_
        · exact fun w1 w2 v hk h => h.below hk
        · intro wx hb
          refine Rgb.from_is (some 27) rfl rfl ?_
          refine Rgb.from_nil fun T hT => ?_
          go_wp2
          exact hT _ _ rfl (below_alloc _ _) ((row1_new _ [.int .i64 (i : Int)] 3).own hb.size (by simp))
        refine Rgb.op_is (.slice A5 ln c5) [] rfl rfl (by kernel_rfl) ?_ ?_
        · intro wx hb
          refine Rgb.from_nil fun T hT => ?_
          go_wp2
          exact hT _ _ rfl (by first | exact Rgb.Keep.refl _ | exact below_of_dr hw2 | exact hw2 | exact (Below.refl _ _).alloc (Nat.le_refl _) _) (by first | rfl | exact congrArg _ (by decide))
        refine Rgb.op_turn (fun w v => Own w A.heap.size 3 v (.int .i64 (i : Int) :: sx.map fun (j : Nat) => Value.int .i64 (j : Int))) [2, 3] rfl ?_ rfl (by kernel_rfl) ?_ ?_
        · exact fun w1 w2 v hk h => h.below hk
        · intro wx hb hb1
          refine Rgb.from_till (some 28) rfl rfl fun v28 h28 => ?_
          refine Rgb.from_is (some 29) rfl rfl ?_
          refine Rgb.from_nil fun T hT => ?_
          have hbA := hb.size
          have hcA := HNC.out.keep fun p hp => hb.cell hp
          cases A5 with
          | none =>
            have hsx : sx = [] := by
              rcases hcA with h | ⟨b, off, h, _⟩
              · simpa using h
              · cases h
            subst hsx
            obtain rfl : ln = 0 := by rw [← HLN.out]; rfl
            refine wpList_appends_nil elt_int _ rfl _ _ rfl A.heap.size h28 rfl rfl ?_
            exact hT _ _ rfl (Below.refl _ _) h28
          | some a5 =>
            refine wpList_appends elt_int _ rfl _ _ rfl A.heap.size h28 rfl hcA (by rw [List.length_map, HLN.out]; rfl) HONE.out (by rw [List.length_map, HLN.out]; simp; omega) (by rw [List.length_map, HLN.out]; simp; omega) hbA ?_
            intro v' w' ho' _ hb'
            exact hT _ _ rfl hb' ho'
        refine Rgb.walk_nil [0, 1, 2, 3, 4] (by kernel_rfl) ?_
        intro wx hb
        refine Rgb.from_is (some 26) rfl rfl ?_
        refine Rgb.from_is (some 27) rfl rfl ?_
        refine Rgb.from_gone (some 28) rfl rfl fun v28 => ?_
        refine Rgb.from_is (some 29) rfl rfl ?_
        refine Rgb.from_of (some 30) rfl rfl fun v30 h30 => ?_
        refine Rgb.from_nil ?_
        refine HQQ.out _ _ ?_
        simp only [Act.put, List.setIfInBounds_toArray, List.set_cons_zero, List.set_cons_succ]
        clear HQQ
        have hJx' := hJ _ _ _ HJ2.out (hb.mono hAw)
        obtain ⟨fn, tmps, assign, body, hy, hR⟩ := yieldAt_any (m := 7) (HY.out pre' (v30, i :: sx) wx (Nat.le_trans hAw hb.size) hJx' ⟨h30.rowT, by simp only [List.length_cons]; rw [HLN.out, HLEN.out], fun j hj => by rcases List.mem_cons.1 hj with rfl | hj; exact hi7; exact hlts j hj⟩)
        simp only [encN] at hy
        have SX := HSA.out.below (hb.mono hA3)
        have HSX := hid SX
        have HUA := hid (Up.below (N := w3.heap.size) hb)
        have HCA := hid (CellsUp.below (N := wr.heap.size) hb)
        clear SX cY cI
        gi_wp2
        refine hR.mono ?_
        rintro e B ⟨h3, hu, hcu⟩
        have SB := HSX.out.up hu hcu
        have hUB := HUA.out.trans (hu.from_ hwz)
        have hCB := HCA.out.trans ((CellsUp.of_up hu).from_ hwr)
        rcases h3 with h3 | h3
        · obtain ⟨rfl, hJ3⟩ := h3
          gi_wp2
          exact ⟨⟨hUB, hCB⟩, ⟨pre' ++ [(v30, i :: sx)], by simp [HP2.out], hJ3⟩, SB⟩
        · obtain ⟨rfl, hJ3⟩ := h3
          gi_wp2
          exact ⟨⟨hUB, hCB⟩, rfl, ⟨pre' ++ [(v30, i :: sx)], by simp, by simp [HP2.out], hJ3⟩, SB.D⟩
      case done =>
        intro D xs A hD hAz hS hI hK
        obtain ⟨⟨pre', hp', hj'⟩, SA⟩ := hI
        have cI := SA.I.cell (k := 0) rfl
        have HSA := hid SA
        have HJ2 := hid hj'
        have HP2 := hid hp'
        clear SA hj' hp'
        go_wp2
        have hlt := (Array.getElem?_eq_some_iff.1 hK).1
        have SA := HSA.out.raise
        have hMk : Marks W.heap.size (D :: Ds) A := SA.D.cons hK (by omega) fun E hE => Nat.lt_of_lt_of_le (S3.k0.2.2.2.2.2 E hE) hD
        have SN : St1 m fr n gm gf gn gy A.heap.size (i + 1) l N0 W.heap.size (A.heap.size + 1) (D :: Ds) (A.alloc (.cells #[.int .i64 ((i : Int) + 1)] 3)) :=
          ⟨SA.M.alloc _, SA.F.alloc _, SA.N.alloc _, SA.Y.alloc _, row1_new A [.int .i64 ((i : Int) + 1)] _, SA.m0, ⟨SA.y0.1, SA.wz⟩, ⟨by have := SA.k0.1; omega, by have := SA.k0.2.1; omega, by have := SA.k0.2.2.1; omega, by have := SA.k0.2.2.2.1; omega, by omega, fun E hE => Nat.lt_succ_of_lt (hMk.lt hE)⟩, by simp, by have := SA.wz; simp; omega, hMk.below (below_alloc A _) fun E hE => hMk.lt hE⟩
        refine ⟨⟨i + 1, A.heap.size, A.heap.size + 1, D :: Ds, pre', frm_of (Ds := D :: Ds) _ _ _ _ _ _ _ _ _ _ _ _ _ _ _ _ _ _ _ _ _ _ _ _, by omega, by omega, ?_, hJ _ _ _ HJ2.out ((below_alloc A _).mono SA.wz), SN⟩, ?_⟩
        · rw [HP2.out, upto_next hi1, ← hS]
          simp
        · show cellM n (.pointer (some ⟨A.heap.size, 0, none⟩)) _ < cellM n (.pointer (some ⟨g5, 0, none⟩)) wr
          rw [cellM_at SN.I, hmeas.out]
          omega
      case stop =>
        intro D c pre2 A hD hAz hSp hI hK
        obtain ⟨rfl, ⟨pre', hne, hp', hj'⟩, hM⟩ := hI
        obtain ⟨_, rest2, hrest2⟩ := hSp
        obtain ⟨rest3, hrest3⟩ := upto_more (m := m) (fr := fr) (n := n) (i := i + 1) (by omega) (by omega)
        gi_wp2
        refine leaves_marks (D :: Ds) A (hM.cons hK (by omega) fun E hE => Nat.lt_of_lt_of_le (S3.k0.2.2.2.2.2 E hE) hD) fun w' hb' hcu' => ⟨.tuple #[], results_none rfl _ _ _, ⟨_, rfl⟩, .inr ⟨pre', ⟨hne, rest2.map (i :: ·) ++ rest3, ?_⟩, hJx _ _ _ hj' hb' hcu'⟩⟩
        rw [hp', ← hrest3, upto_next hi1, ← hrest2]
        simp
    · obtain rfl : i = fr + (n - m - fr) := by omega
      have hle : ¬ ((fr + (n - m - fr) : Nat) : Int) ≤ (n : Int) - ((m : Int) + 1) := by omega
      go_wp2
      refine leaves_marks Ds _ HS.out.D fun w' hb' _ => ⟨.tuple #[], results_none rfl _ _ _, ⟨_, rfl⟩, .inl ⟨pre, by rw [HPRE.out, upto_end], hJ _ _ _ HJ.out hb'⟩⟩
end Go.Proofs.YtcojnjhffmhbiaaDoor
end
