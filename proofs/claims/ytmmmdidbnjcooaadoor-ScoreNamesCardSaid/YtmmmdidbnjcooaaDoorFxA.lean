/-
  Params; whether they fit; a query; its numbers: the program's.
-/
import Derived.Test.YtmmmdidbnjcooaaDoorRaD
import Derived.Test.YtmmmdidbnjcooaaDoorRegion
import Derived.StillTailTactics
import Derived.Laws.CopyOwn
import Derived.Laws.AppendOwnNone
namespace Go.Proofs.YtmmmdidbnjcooaaDoor
open Go Go.RowKit Go.Shelf Go.Proofs

theorem elt_i64 : Elt Tryd.prog 36 2 (.int .i64 0) 8 := .of Tryd.underlying36 (by kernel_rfl) rfl
def NewNums (xs : List Int) (w : World) (e : Ending) (w' : World) : Prop := ∃ v, e = .returned v ∧ Own w' w.heap.size 24 v (xs.map (.int .u64)) ∧ Below w.heap.size w w'
theorem take_snoc' {α : Type} {l : List α} {k : Nat} {x : α} (h : l[k]? = some x) : l.take (k + 1) = l.take k ++ [x] := take_snocR h
def near (n most : Int) : Bool := decide (-most ≤ n) && decide (n ≤ most)
theorem mSub_neg (n q : Int) : mSub 0 (-n) q = mNum n q := by
  unfold mSub mNum; split
  · rw [show (0:Int) - -n = n by omega]
  · rfl
theorem mAdd_zero (n q : Int) : mAdd n 0 q = mNum n q := by
  unfold mAdd mNum; split
  · rw [Int.add_zero]
  · rfl

set_option maxHeartbeats 400000 in
theorem num_c (n q : Int) (hn : I64 n) (hq : U64 q) (w : World) :
    Calls Tryd.prog 93 #[.int .i64 n, .int .u64 q] w fun e w' => e = .returned (.int .u64 (mNum n q)) ∧ Dr w w' := by
  obtain ⟨n1, n2⟩ := hn
  by_cases h : n < 0
  · have e1 : IntKind.u64.wrap (-(IntKind.u64.wrap n)) = -n := by simp only [IntKind.wrap_u64]; omega
    go_enter Tryd.func93, Tryd.ntmps93
    go_wp2_with (fail)
    refine (sub_c _ _ _ ⟨by omega, by omega⟩ ⟨by omega, by omega⟩ hq _).mono ?_; rintro e1 w1 ⟨rfl, hw⟩
    go_wp2
    go_ret
    exact ⟨ret_int (mSub_neg n q), hw⟩
  · go_enter Tryd.func93, Tryd.ntmps93
    go_wp2_with (fail)
    refine (add_c _ _ _ ⟨by omega, by omega⟩ ⟨by omega, by omega⟩ hq _).mono ?_; rintro e1 w1 ⟨rfl, hw⟩
    go_wp2
    go_ret
    exact ⟨ret_int (mAdd_zero n q), hw⟩

/-- the params, as numbers. -/
structure Par where
  (P Q G H Nodes N T K D R M X : Int)
structure Par.ok (p : Par) : Prop where
  P : U64 p.P
  Q : U64 p.Q
  G : U64 p.G
  H : U64 p.H
  Nodes : I64 p.Nodes
  N : I64 p.N
  T : I64 p.T
  K : I64 p.K
  D : I64 p.D
  R : I64 p.R
  M : I64 p.M
  X : I64 p.X
abbrev pval (p : Par) : Value := .agg #[.int .u64 p.P, .int .u64 p.Q, .int .u64 p.G, .int .u64 p.H, .int .i64 p.Nodes, .int .i64 p.N, .int .i64 p.T, .int .i64 p.K, .int .i64 p.D, .int .i64 p.R, .int .i64 p.M, .int .i64 p.X]

/-- do they fit? -/
def fits (p : Par) : Bool := decide (p.K ≥ 0) && (decide (p.K ≤ 2) && (decide (p.D ≥ 0) && (decide (p.D ≤ 4) && (decide (p.M ≥ 0) && (decide (p.M ≤ 1048576) && (decide (p.X ≥ 0) && decide (p.X ≤ 1048576)))))))
structure Fits (p : Par) : Prop where
  K0 : 0 ≤ p.K
  K : p.K ≤ 2
  D0 : 0 ≤ p.D
  D : p.D ≤ 4
  M0 : 0 ≤ p.M
  M : p.M ≤ 1048576
  X0 : 0 ≤ p.X
  X : p.X ≤ 1048576
theorem fits_iff (p : Par) : fits p = true ↔ Fits p := by
  constructor
  · intro h
    simp only [fits, Bool.and_eq_true, decide_eq_true_eq] at h
    obtain ⟨a, b, c, d, e, f, g, i⟩ := h
    exact ⟨a, b, c, d, e, f, g, i⟩
  · intro h
    simp only [fits, Bool.and_eq_true, decide_eq_true_eq]
    exact ⟨h.K0, h.K, h.D0, h.D, h.M0, h.M, h.X0, h.X⟩

set_option maxHeartbeats 1000000 in
theorem fit_c (p : Par) (w : World) : Calls Tryd.prog 51 #[pval p] w fun e w' => e = .returned (.bool (fits p)) ∧ Below w.heap.size w w' := by
  go_enter Tryd.func51, Tryd.ntmps51
  go_wp2
  all_goals
    go_ret
    refine ⟨ret_bool ?_, (Below.refl _ _).alloc (Nat.le_refl _) _⟩
    simp [fits, *]
    try omega

set_option maxHeartbeats 400000 in
theorem near1_c (n : Int) (B : Nat) (most : Int) (w : World) (hn : I64 n) (hB : w.cell? ⟨B, 0, none⟩ = some (.int .i64 most)) (hm : 0 ≤ most) (hm' : most < 9223372036854775808) :
    Calls Tryd.prog 85 #[.int .i64 n, .pointer (some ⟨B, 0, none⟩)] w fun e w' => e = .returned (.bool (!near n most)) ∧ w = w' := by
  obtain ⟨n1, n2⟩ := hn
  by_cases h1 : n < -most
  · have hd : decide (n < -most) = true := by simpa using h1
    have hf : near n most = false := by simp [near]; omega
    have HF := hid hf
    clear hf h1
    go_enter Tryd.func85, Tryd.ntmps85
    go_wp2
    go_ret
    exact ⟨ret_bool (by rw [HF.out]; rfl), rfl⟩
  · have hd : decide (n < -most) = false := by simpa using h1
    have hf : near n most = decide (n ≤ most) := by
      unfold near
      rw [show decide (-most ≤ n) = true by simp; omega]; rfl
    have HF := hid hf
    clear hf h1
    go_enter Tryd.func85, Tryd.ntmps85
    go_wp2
    go_ret
    refine ⟨ret_bool ?_, rfl⟩
    rw [HF.out]
    by_cases h2 : n ≤ most <;> simp [h2] <;> omega

/-- all of a list are near. -/
def nears (l : List Int) (most : Int) : Bool := l.all fun n => near n most
theorem nears_take {l : List Int} {k : Nat} {x most : Int} (h : l[k]? = some x) (h1 : nears (l.take k) most = true) (h2 : near x most = true) : nears (l.take (k + 1)) most = true := by
  unfold nears at h1 ⊢
  rw [take_snoc' h, List.all_append, h1]; simp [h2]
theorem nears_false {l : List Int} {k : Nat} {x most : Int} (h : l[k]? = some x) (h2 : near x most = false) : nears l most = false := by
  unfold nears
  rw [List.all_eq_false]
  exact ⟨x, List.mem_of_getElem? h, by simp [h2]⟩

def I64s (l : List Int) : Prop := ∀ z ∈ l, I64 z
theorem I64s.at_ {l : List Int} (h : I64s l) {k : Nat} {z : Int} (hk : l[k]? = some z) : I64 z := h z (List.mem_of_getElem? hk)

set_option maxHeartbeats 1000000 in
theorem idxI_c (A : Option Addr) (l : List Int) (c : Nat) (B : Nat) (most : Int) (w : World) (hA : Cells w A (l.map (.int .i64))) (hl : l.length ≤ 9223372036854775807) (hu : I64s l) (hB : w.cell? ⟨B, 0, none⟩ = some (.int .i64 most)) (hm : 0 ≤ most) (hm' : most < 9223372036854775808) :
    Calls Tryd.prog 103 #[.slice A l.length c, .func (.func 85) #[] #[.pointer (some ⟨B, 0, none⟩)]] w fun e w' => (∃ k : Int, e = .returned (.int .i64 k) ∧ decide (k ≥ 0) = !nears l most) ∧ w = w' := by
  go_enter Tryd.func103, Tryd.ntmps103
  go_wp2
  go_loop [5, 8] (fun _ i => ∃ k : Nat, i = .int .i64 k ∧ k ≤ l.length ∧ nears (l.take k) most = true) (fun _ i => l.length - (intOf i).toNat)
  case atStart => exact ⟨0, rfl, by omega, by simp [nears]⟩
  case round =>
    obtain ⟨k, rfl, hk, hall⟩ := hrel
    have HA := hid hall
    clear hall
    by_cases hlt : k < l.length
    · obtain ⟨x, hx⟩ := get_of_lt hlt
      obtain ⟨b, off, rfl, hc⟩ := hA.at_map hx
      cases hn : near x most with
      | true =>
        have HT := hid (nears_take hx HA.out hn)
        go_wp2_with (go_at_call 85; refine (near1_c _ _ _ _ (hu.at_ hx) hB hm hm').mono ?_; rintro e w2 ⟨rfl, rfl⟩; rw [hn])
        go_round
        case rel => exact ⟨k + 1, by go_num, by omega, HT.out⟩
        case measure => simp [intOf]; omega
      | false =>
        have HF := hid (nears_false hx hn)
        go_wp2_with (go_at_call 85; refine (near1_c _ _ _ _ (hu.at_ hx) hB hm hm').mono ?_; rintro e w2 ⟨rfl, rfl⟩; rw [hn])
        go_ret
        exact ⟨⟨(k : Int), rfl, by rw [HF.out]; simp⟩, rfl⟩
    · obtain rfl : k = l.length := by omega
      go_wp2
      go_ret
      refine ⟨⟨-1, rfl, ?_⟩, rfl⟩
      have := HA.out
      rw [List.take_length] at this
      rw [this]; rfl

/-- lists of int64s, as rows. -/
def RowI (w : World) (v : Value) (l : List Int) : Prop := ∃ A c, v = .slice A l.length c ∧ Cells w A (l.map (.int .i64)) ∧ l.length ≤ 9223372036854775807
theorem RowI.keep {w w' : World} {v : Value} {l : List Int} (h : RowI w v l) (hk : ∀ p : Addr, p.block < w.heap.size → w'.cell? p = w.cell? p) : RowI w' v l := by
  obtain ⟨A, c, rfl, h1, h2⟩ := h
  exact ⟨A, c, rfl, h1.keep hk, h2⟩
def GridI (w : World) (A : Option Addr) (f : List (List Int)) : Prop :=
  ∃ vs : List Value, Cells w A vs ∧ vs.length = f.length ∧ ∀ (i : Nat) (l : List Int), f[i]? = some l → ∃ v, vs[i]? = some v ∧ RowI w v l
theorem GridI.keep {w w' : World} {A : Option Addr} {f : List (List Int)} (h : GridI w A f) (hk : ∀ p : Addr, p.block < w.heap.size → w'.cell? p = w.cell? p) : GridI w' A f := by
  obtain ⟨vs, h1, h2, h3⟩ := h
  exact ⟨vs, h1.keep hk, h2, fun i l hl => let ⟨v, a, b⟩ := h3 i l hl; ⟨v, a, b.keep hk⟩⟩
theorem GridI.below {w w' : World} {A : Option Addr} {f : List (List Int)} (h : GridI w A f) (hb : Below w.heap.size w w') : GridI w' A f := h.keep fun _ hp => hb.cell hp
theorem GridI.at_ {w : World} {A : Option Addr} {f : List (List Int)} (h : GridI w A f) {k : Nat} {l : List Int} (hk : f[k]? = some l) :
    ∃ b off A' c, A = some ⟨b, off, none⟩ ∧ w.cell? ⟨b, off + k, none⟩ = some (.slice A' l.length c) ∧ Cells w A' (l.map (.int .i64)) ∧ l.length ≤ 9223372036854775807 := by
  obtain ⟨vs, h1, h2, h3⟩ := h
  obtain ⟨v, hv, A', c, rfl, hc, hl⟩ := h3 k l hk
  obtain ⟨b, off, rfl, hcell⟩ := h1.at_ hv
  exact ⟨b, off, A', c, rfl, hcell, hc, hl⟩
/-- one list alone, in a block of its own. -/
theorem gridI_one {w : World} {g : Nat} {e : TypeId} {A : Option Addr} {l : List Int} {c : Nat} (h : Row1 w g e [.slice A l.length c]) (hc : Cells w A (l.map (.int .i64))) (hl : l.length ≤ 9223372036854775807) : GridI w (some ⟨g, 0, none⟩) [l] := by
  refine ⟨[.slice A l.length c], h.cells, rfl, fun i m hm => ?_⟩
  match i, hm with
  | 0, hm =>
    simp only [List.getElem?_cons_zero, Option.some.injEq] at hm
    subst hm
    exact ⟨_, rfl, A, c, rfl, hc, hl⟩
  | i + 1, hm => simp at hm
def Ints (f : List (List Int)) : Prop := ∀ l ∈ f, I64s l
theorem Ints.at_ {f : List (List Int)} (h : Ints f) {k : Nat} {l : List Int} (hk : f[k]? = some l) : I64s l := h l (List.mem_of_getElem? hk)

set_option maxHeartbeats 400000 in
theorem contI_c (A : Option Addr) (l : List Int) (c : Nat) (B : Nat) (most : Int) (w : World) (hA : Cells w A (l.map (.int .i64))) (hl : l.length ≤ 9223372036854775807) (hu : I64s l) (hB : w.cell? ⟨B, 0, none⟩ = some (.int .i64 most)) (hm : 0 ≤ most) (hm' : most < 9223372036854775808) :
    Calls Tryd.prog 84 #[.slice A l.length c, .func (.func 85) #[] #[.pointer (some ⟨B, 0, none⟩)]] w fun e w' => e = .returned (.bool (!nears l most)) ∧ w = w' := by
  go_enter Tryd.func84, Tryd.ntmps84
  go_wp2_with (fail)
  refine (idxI_c _ _ _ _ _ _ hA hl hu hB hm hm').mono ?_
  rintro e w1 ⟨⟨k, rfl, hk⟩, rfl⟩
  have HK := hid hk
  clear hk
  go_wp2
  go_ret
  exact ⟨ret_bool (by rw [← HK.out]), rfl⟩

/-- all lists of some are near. -/
def allNear (f : List (List Int)) (most : Int) : Bool := f.all fun l => nears l most
theorem allNear_take {f : List (List Int)} {k : Nat} {l : List Int} {most : Int} (h : f[k]? = some l) (h1 : allNear (f.take k) most = true) (h2 : nears l most = true) : allNear (f.take (k + 1)) most = true := by
  unfold allNear at h1 ⊢
  rw [take_snoc' h, List.all_append, h1]; simp [h2]
theorem allNear_false {f : List (List Int)} {k : Nat} {l : List Int} {most : Int} (h : f[k]? = some l) (h2 : nears l most = false) : allNear f most = false := by
  unfold allNear
  rw [List.all_eq_false]
  exact ⟨l, List.mem_of_getElem? h, by simp [h2]⟩

set_option maxHeartbeats 400000 in
theorem fwithin_c (most : Int) (A : Option Addr) (f : List (List Int)) (c : Nat) (w : World) (hA : GridI w A f) (hl : f.length ≤ 9223372036854775807) (hu : Ints f) (hm : 0 ≤ most) (hm' : most < 9223372036854775808) :
    Calls Tryd.prog 52 #[.int .i64 most, .slice A f.length c] w fun e w' => e = .returned (.bool (allNear f most)) ∧ Below w.heap.size w w' := by
  go_enter Tryd.func52, Tryd.ntmps52
  go_wp2
  have hB : (w.alloc (.cells #[.int .i64 most] 2)).cell? ⟨w.heap.size, 0, none⟩ = some (.int .i64 most) := (row1_new w [.int .i64 most] 2).cell (k := 0) rfl
  have hA' := hA.below (below_alloc w (.cells #[.int .i64 most] 2))
  have hbw := below_alloc w (.cells #[.int .i64 most] 2)
  generalize w.alloc (.cells #[.int .i64 most] 2) = W at *
  go_loop [6, 9] (fun _ i => ∃ k : Nat, i = .int .i64 k ∧ k ≤ f.length ∧ allNear (f.take k) most = true) (fun _ i => f.length - (intOf i).toNat)
  case atStart => exact ⟨0, rfl, by omega, by simp [allNear]⟩
  case round =>
    obtain ⟨k, rfl, hk, hall⟩ := hrel
    have HA := hid hall
    clear hall
    by_cases hlt : k < f.length
    · obtain ⟨l, hx⟩ := get_of_lt hlt
      obtain ⟨b, off, A', c', rfl, hc, hcs, hln⟩ := hA'.at_ hx
      cases hn : nears l most with
      | true =>
        have HT := hid (allNear_take hx HA.out hn)
        go_wp2_with (go_at_call 84; refine (contI_c _ _ _ _ _ _ hcs hln (hu.at_ hx) hB hm hm').mono ?_; rintro e w2 ⟨rfl, rfl⟩; rw [hn])
        go_round
        case rel => exact ⟨k + 1, by go_num, by omega, HT.out⟩
        case measure => simp [intOf]; omega
      | false =>
        have HF := hid (allNear_false hx hn)
        go_wp2_with (go_at_call 84; refine (contI_c _ _ _ _ _ _ hcs hln (hu.at_ hx) hB hm hm').mono ?_; rintro e w2 ⟨rfl, rfl⟩; rw [hn])
        go_ret
        exact ⟨ret_bool HF.out.symm, hbw⟩
    · obtain rfl : k = f.length := by omega
      go_wp2
      go_ret
      have := HA.out
      rw [List.take_length] at this
      exact ⟨ret_bool this.symm, hbw⟩

theorem allNear_one (l : List Int) (m : Int) : allNear [l] m = nears l m := by simp [allNear]

theorem ints_one {l : List Int} (h : I64s l) : Ints [l] := fun m hm => by
  simp only [List.mem_singleton] at hm; subst hm; exact h

abbrev pcells (p : Par) : List Value := [.int .u64 p.P, .int .u64 p.Q, .int .u64 p.G, .int .u64 p.H, .int .i64 p.Nodes, .int .i64 p.N, .int .i64 p.T, .int .i64 p.K, .int .i64 p.D, .int .i64 p.R, .int .i64 p.M, .int .i64 p.X]
/-- what is told of a query. -/
def queryE (p : Par) (x : List Int) : Int := if (!fits p || (x.length : Int) != p.D) = true then 4 else if nears x p.X = true then 0 else 20

set_option maxHeartbeats 1000000 in
theorem query_c (p : Par) (A : Option Addr) (x : List Int) (c : Nat) (w : World) (hA : Cells w A (x.map (.int .i64))) (hl : x.length ≤ 9223372036854775807) (hu : I64s x) :
    Calls Tryd.prog 19 #[pval p, .slice A x.length c] w fun e w' => e = .returned (.int .i64 (queryE p x)) ∧ Below w.heap.size w w' := by
  go_enter Tryd.func19, Tryd.ntmps19
  go_wp2_with (fail)
  refine (fit_c p _).mono ?_
  rintro e w1 ⟨rfl, hb1⟩
  have hb2 := below_next (below_alloc w (.cells (pcells p).toArray 34)) (by simp) hb1
  have hP : Row1 w1 w.heap.size 34 (pcells p) := (row1_new w (pcells p) 34).below hb1
  have hA1 := hA.below hb2
  clear hb1 hA
  have cD := hP.cell (k := 8) rfl
  have cX := hP.cell (k := 11) rfl
  cases hf : fits p with
  | false =>
    have HF := hid (show queryE p x = 4 by simp [queryE, hf])
    clear hf
    go_wp2
    go_ret
    exact ⟨ret_int HF.out.symm, hb2⟩
  | true =>
  have hF := hid ((fits_iff p).1 hf)
  cases hD : ((x.length : Int) != p.D) with
  | true =>
    have HF := hid (show queryE p x = 4 by simp [queryE, hf, hD])
    clear hf
    go_wp2
    go_ret
    exact ⟨ret_int HF.out.symm, hb2⟩
  | false =>
  have HQ := hid (show queryE p x = if nears x p.X = true then 0 else 20 by simp [queryE, hf, hD])
  have m0 : 0 ≤ p.X := hF.out.X0
  have m1 : p.X < 9223372036854775808 := by have := hF.out.X; omega
  clear hf
  go_wp2_with (fail)
  have hr := row1_new w1 [.slice A x.length c] 36
  have hb5 := below_next hb2 hb2.size (below_alloc w1 (.cells #[.slice A x.length c] 36))
  refine (fwithin_c _ _ [x] 1 _ (gridI_one hr (hA1.below (below_alloc _ _)) hl) (by simp) (ints_one hu) m0 m1).mono ?_
  rintro e w3 ⟨rfl, hb6⟩
  have hb7 := below_next hb5 hb5.size hb6
  clear hr hb5 hb6 hb2 hA1 hP
  rw [allNear_one]
  cases hn : nears x p.X with
  | true =>
    rw [hn] at HQ
    go_wp2
    go_ret
    exact ⟨ret_int (by rw [HQ.out]; rfl), hb7⟩
  | false =>
    rw [hn] at HQ
    go_wp2
    go_ret
    exact ⟨ret_int (by rw [HQ.out]; rfl), hb7⟩

/-- the numbers of whole numbers. -/
def mNums (q : Int) (l : List Int) : List Int := l.map fun n => mNum n q

set_option maxHeartbeats 1000000 in
theorem fnumbers_c (q : Int) (A : Option Addr) (l : List Int) (c : Nat) (w : World) (hA : Cells w A (l.map (.int .i64))) (hl : l.length ≤ 17592186044415) (hu : I64s l) (hq : U64 q) :
    Calls Tryd.prog 92 #[.int .u64 q, .slice A l.length c] w (NewNums (mNums q l) w) := by
  go_enter Tryd.func92, Tryd.ntmps92
  go_wp2
  go_loopw [5, 7, 10] (fun o _ i wr => ∃ k : Nat, i = .int .i64 k ∧ k ≤ l.length ∧ Own wr w.heap.size 24 o ((mNums q (l.take k)).map (.int .u64)) ∧ Below w.heap.size w wr) (fun _ _ i _ => l.length - (intOf i).toNat)
  case atStart => exact ⟨0, rfl, by omega, by simpa [mNums] using Own.nil w w.heap.size 24, Below.refl _ _⟩
  case round =>
    obtain ⟨k, rfl, hk, hown, hb⟩ := hrel
    by_cases hlt : k < l.length
    · obtain ⟨x, hx⟩ := get_of_lt hlt
      obtain ⟨b, off, rfl, hc⟩ := (hA.below hb).at_map hx
      have hlen : ((mNums q (l.take k)).map (Value.int .u64)).length = k := by simp [mNums]; omega
      have hs : (mNums q (l.take k)).map (Value.int .u64) ++ [Value.int .u64 (mNum x q)] = (mNums q (l.take (k + 1))).map (Value.int .u64) := by
        unfold mNums
        rw [take_snoc' hx]; simp
      have HS := hid hs
      clear hs
      go_wp2_with (first | (go_at_call 93; refine (num_c _ _ (hu.at_ hx) hq _).mono ?_; rintro e w2 ⟨rfl, hw2⟩) | (at_builtin; refine wpList_push elt_u64 w2 rfl _ _ rfl w.heap.size (hown.dr hw2) rfl (.int .u64 (mNum x q)) rfl rfl (by rw [hlen]; omega) (by rw [hlen]; omega) (by have := (below_dr hb hw2).size; omega) ?_; intro v' w3 hown3 _ hb3))
      go_roundw
      case rel =>
        rw [HS.out] at hown3
        exact ⟨k + 1, by go_num, by omega, hown3, (below_dr hb hw2).trans hb3⟩
      case measure => simp [intOf]; omega
    · obtain rfl : k = l.length := by omega
      go_wp2
      go_ret
      rw [List.take_length] at hown
      exact ⟨_, rfl, hown, hb⟩

/-- 'out = append(out, l...)': l is a row of this call's own. -/
theorem wpList_pushes {P : Program} {t e : TypeId} {z : Value} {bytes : Nat} (E : Elt P t e z bytes) (wr : World) {ops : Array Oper} {rest : List Oper} {o : Oper} {a : Act} {Q : Exit → Act → World → Prop}
    (hg : o.guard = none) (s x : Operand) (hop : o.op = .call { callee := .builtin .append, args := #[s, x], argTypes := #[t, t] })
    (base : Nat) {v : Value} {xs : List Value} (hown : Own wr base e v xs) (hs : a.eval s = v) {b2 : Nat} {u : Value} {news : List Value} (hnew : Own wr b2 e u news) (hx : a.eval x = u) (h1 : ∀ u ∈ news, u.oneCell' = true)
    (hb : (xs.length + news.length) * bytes ≤ 140737488355328) (hm : xs.length + news.length ≤ 9223372036854775807) (hbase : base ≤ wr.heap.size)
    (hK : ∀ v' w', Own w' base e v' (xs ++ news) → (∀ k, k < wr.heap.size → some k ≠ v.ownBlock → w'.heap[k]? = wr.heap[k]?) → Below base wr w' → wpList P ops Q rest (a.put o.dst v') w') :
    wpList P ops Q (o :: rest) a wr := by
  obtain ⟨i, hi, hz, hsz, hby⟩ := E.info
  rcases hnew.2 with ⟨rfl, h0⟩ | ⟨g, cap, cur, rfl, _, _, hn2, _⟩
  · obtain rfl := List.eq_nil_of_length_eq_zero h0
    refine wpList_append_own_none hg s x t hop base e i 1 E.under hi v xs.length xs hs hown hx (hK v wr ?_ (fun _ _ _ => rfl) (Below.refl _ _))
    rw [List.append_nil]; exact hown
  · refine wpList_append_own wr hg s x t hop base e i z 1 bytes E.under hi hz hsz hby E.one (by decide) v xs.length xs hs hown ⟨g, 0, none⟩ news.length cap news hx (by omega) (fun j u hu => World.ownsRow.cells (w := wr) hnew (g := g) rfl j u hu) h1 (by unfold maxLen; omega) hb hbase ?_
    intro v' w' h2 h3 _
    refine hK v' w' ?_ (fun k hk hne => h3.block k hk hne) ((Below.refl _ _).grown h3 hbase fun k hk => (hown.block k hk).1)
    unfold Own; rw [List.length_append]; exact h2

/-- a query's numbers: D of them, and a 1 behind. -/
def padded (l : List Int) (d : Nat) : List Int := l.take d ++ List.replicate (d - l.length) 0
theorem padded_len (l : List Int) (d : Nat) : (padded l d).length = d := by simp [padded]; omega
def rowS (p : Par) (x : List Int) : List Int := if fits p = true then padded (mNums p.Q x) p.D.toNat ++ [mNum 1 p.Q] else []
theorem mNums_u64 (q : Int) (l : List Int) : U64s (mNums q l) := by
  intro z hz
  obtain ⟨n, _, rfl⟩ := List.mem_map.1 hz
  exact mNum_u64 _ _
theorem rowS_u64 (p : Par) (x : List Int) : U64s (rowS p x) := by
  unfold rowS
  split
  · intro z hz
    rcases List.mem_append.1 hz with h | h
    · rcases List.mem_append.1 h with h | h
      · exact mNums_u64 _ _ z (List.mem_of_mem_take h)
      · rw [(List.mem_replicate.1 h).2]; exact ⟨by decide, by decide⟩
    · simp only [List.mem_singleton] at h
      rw [h]; exact mNum_u64 _ _
  · intro z hz; cases hz

theorem fsplice_row (l : List Int) (d : Nat) : splice (List.replicate (d + 1) (Value.int .u64 0)) 0 ((l.take d).map (Value.int .u64)) = (padded l d).map (Value.int .u64) ++ [Value.int .u64 0] := by
  unfold splice padded
  simp only [List.take_zero, List.nil_append, List.length_map, List.length_take, List.map_append, List.map_replicate, Nat.zero_add, List.drop_replicate, List.append_assoc]
  congr 1
  rw [← List.replicate_succ']
  congr 1
  omega

set_option maxHeartbeats 2000000 in
theorem frow_c (p : Par) (hp : p.ok) (A : Option Addr) (x : List Int) (c : Nat) (w : World) (hA : Cells w A (x.map (.int .i64))) (hl : x.length ≤ 17592186044415) (hu : I64s x) :
    Calls Tryd.prog 61 #[pval p, .slice A x.length c] w (NewNums (rowS p x) w) := by
  go_enter Tryd.func61, Tryd.ntmps61
  go_wp2_with (fail)
  refine (fit_c p _).mono ?_
  rintro e w1 ⟨rfl, hb1⟩
  have hb2 := below_next (below_alloc w (.cells (pcells p).toArray 34)) (by simp) hb1
  have hP : Row1 w1 w.heap.size 34 (pcells p) := (row1_new w (pcells p) 34).below hb1
  have hA1 := hA.below hb2
  have hq := hp.Q
  clear hb1 hA
  cases hf : fits p with
  | false =>
    have HF := hid (show rowS p x = [] by simp [rowS, hf])
    clear hf
    go_wp2
    go_ret
    refine ⟨_, rfl, ?_, hb2⟩
    rw [HF.out]
    exact Own.nil _ _ _
  | true =>
  have hF := (fits_iff p).1 hf
  obtain ⟨d, hd⟩ : ∃ d : Nat, p.D = d := ⟨p.D.toNat, by have := hF.D0; omega⟩
  have hd4 : d ≤ 4 := by have := hF.D; omega
  have HR := hid (show rowS p x = padded (mNums p.Q x) d ++ [mNum 1 p.Q] by simp [rowS, hf, hd])
  clear hf hF
  have cD := hP.cell (k := 8) (u := .int .i64 (d : Int)) (by simp [pcells, hd])
  go_wp2_with (at_make; refine wpList_make_row elt_u64 _ rfl _ _ rfl .i64 .i64 _ _ (d + 1) rfl rfl (by simp) (by simp) (by omega) (by omega) ?_; intro w2 hr2 hs2 hb3)
  have hb4 := below_next hb2 hb2.size hb3
  have hP2 := hP.below hb3
  have hA2 := hA1.below hb3
  have hP0 := hP.lt
  clear cD hP hA1
  refine Rg.wp_region (l := [_, _, _, _, _, _, _, _]) (tail := [_]) (Rg.grows _ 9) [some 13, some 14, some 15, some 16, some 17, some 18, some 19, some 20, some 21] 30 (by kernel_rfl) (by kernel_rfl) (by kernel_rfl) rfl (Rg.grows_fair _ _) (Rg.keep_drew _) (trivial) ?_
  refine' Rg.op_is _ [] rfl rfl (by kernel_rfl) ?_ ?_
  rotate_left
  · intro wx hb
    refine Rg.from_nil fun T hT => ?_
    go_wp2
    refine hT _ _ rfl (by first | exact Rg.Keep.refl _ | exact below_of_dr hw2 | exact hw2 | exact (Below.refl _ _).alloc (Nat.le_refl _) _) ?_
    simp only [Rg.last, List.getElem?_toArray, List.getElem?_cons_succ, List.getElem?_cons_zero, Option.getD_some]
    rfl
  refine' Rg.op_is _ [] rfl rfl (by kernel_rfl) ?_ ?_
  rotate_left
  · intro wx hb
    refine Rg.from_nil fun T hT => ?_
    go_wp2
    refine hT _ _ rfl (by first | exact Rg.Keep.refl _ | exact below_of_dr hw2 | exact hw2 | exact (Below.refl _ _).alloc (Nat.le_refl _) _) ?_
    simp only [Rg.last, List.getElem?_toArray, List.getElem?_cons_succ, List.getElem?_cons_zero, Option.getD_some]
    rfl
  refine Rg.op_is (.int .i64 (d : Int)) [1] rfl rfl (by kernel_rfl) ?_ ?_
  · intro wx hb
    refine Rg.from_is (some 14) rfl rfl ?_
    refine Rg.from_nil fun T hT => ?_
    have cD := (hP2.below hb).cell (k := 8) (u := .int .i64 (d : Int)) (by simp [pcells, hd])
    go_wp2
    exact hT _ _ rfl (by first | exact Rg.Keep.refl _ | exact below_of_dr hw2 | exact hw2 | exact (Below.refl _ _).alloc (Nat.le_refl _) _) (by first | rfl | exact congrArg _ (by decide))
  refine' Rg.op_is _ [0, 2] rfl rfl (by kernel_rfl) ?_ ?_
  rotate_left
  · intro wx hb
    refine Rg.from_is (some 13) rfl rfl ?_
    refine Rg.from_is (some 15) rfl rfl ?_
    refine Rg.from_nil fun T hT => ?_
    go_wp2
    refine hT _ _ rfl (by first | exact Rg.Keep.refl _ | exact below_of_dr hw2 | exact hw2 | exact (Below.refl _ _).alloc (Nat.le_refl _) _) ?_
    simp only [Rg.last, List.getElem?_toArray, List.getElem?_cons_succ, List.getElem?_cons_zero, Option.getD_some]
    rfl
  refine' Rg.op_is _ [] rfl rfl (by kernel_rfl) ?_ ?_
  rotate_left
  · intro wx hb
    refine Rg.from_nil fun T hT => ?_
    go_wp2
    refine hT _ _ rfl (by first | exact Rg.Keep.refl _ | exact below_of_dr hw2 | exact hw2 | exact (Below.refl _ _).alloc (Nat.le_refl _) _) ?_
    simp only [Rg.last, List.getElem?_toArray, List.getElem?_cons_succ, List.getElem?_cons_zero, Option.getD_some]
    rfl
  refine Rg.op_is (.int .u64 p.Q) [4] rfl rfl (by kernel_rfl) ?_ ?_
  · intro wx hb
    refine Rg.from_is (some 17) rfl rfl ?_
    refine Rg.from_nil fun T hT => ?_
    have cQ := (hP2.below hb).cell (k := 1) (u := .int .u64 p.Q) rfl
    go_wp2
    exact hT _ _ rfl (by first | exact Rg.Keep.refl _ | exact below_of_dr hw2 | exact hw2 | exact (Below.refl _ _).alloc (Nat.le_refl _) _) (by first | rfl | exact congrArg _ (by decide))
  refine' Rg.op_is _ [] rfl rfl (by kernel_rfl) ?_ ?_
  rotate_left
  · intro wx hb
    refine Rg.from_nil fun T hT => ?_
    go_wp2
    refine hT _ _ rfl (by first | exact Rg.Keep.refl _ | exact below_of_dr hw2 | exact hw2 | exact (Below.refl _ _).alloc (Nat.le_refl _) _) ?_
    simp only [Rg.last, List.getElem?_toArray, List.getElem?_cons_succ, List.getElem?_cons_zero, Option.getD_some]
    rfl
  refine Rg.op_of (fun w' v => Own w' w1.heap.size 24 v ((mNums p.Q x).map (.int .u64))) [5, 6] rfl ?_ ?_ rfl (by kernel_rfl) ?_ ?_
  · exact fun w1 w2 v hk h => h.below hk
  · exact fun w1 w2 v hk h => h.below hk
  · intro wx hb
    refine Rg.from_is (some 18) rfl rfl ?_
    refine Rg.from_is (some 19) rfl rfl ?_
    refine Rg.from_nil fun T hT => ?_
    go_wp2_with (fail)
    refine (fnumbers_c _ _ _ _ _ (hA2.below hb) hl hu hq).mono ?_
    rintro e w4 ⟨v, rfl, hown, hb5⟩
    go_wp2
    exact hT _ _ rfl hb5 (hown.from_ (by have := hb.size; have := hs2; simp at *; omega))
  refine Rg.walk_nil [0, 1, 2, 3, 4, 5, 6, 7] (by kernel_rfl) ?_
  intro wx hb
  refine Rg.from_is (some 13) rfl rfl ?_
  refine Rg.from_is (some 14) rfl rfl ?_
  refine Rg.from_is (some 15) rfl rfl ?_
  refine Rg.from_is (some 16) rfl rfl ?_
  refine Rg.from_is (some 17) rfl rfl ?_
  refine Rg.from_is (some 18) rfl rfl ?_
  refine Rg.from_is (some 19) rfl rfl ?_
  refine Rg.from_of (some 20) rfl rfl fun v20 h20 => ?_
  refine Rg.from_nil ?_
  simp only [List.map, Act.put, List.setIfInBounds_toArray, List.set_cons_zero, List.set_cons_succ]
  have hP3 := hP2.below hb
  have hr3 := hr2.below hb
  have hb5 := below_next hb4 hb4.size hb
  obtain ⟨A', c', rfl, hcs⟩ := h20.form
  refine wpList_copy_splice rfl _ _ _ _ rfl _ Tryd.underlying25 (by kernel_rfl) _ _ _ _ _ _ rfl rfl w1.heap.size 0 (List.replicate (d + 1) (.int .u64 0)) 24 hr3 (((mNums p.Q x).take d).map (.int .u64)) ?c1 ?c2 ?c3 ?c4 w1.heap.size wx (Below.refl _ _) (Nat.le_refl _) ?c5
  case c1 => simp [Nat.min_comm]
  case c2 =>
    intro h0
    refine ⟨rfl, ?_⟩
    rcases hcs with h | ⟨b, off, rfl, h⟩
    · simp only [List.map_eq_nil_iff] at h; rw [h] at h0; simp at h0
    · refine ⟨_, rfl, fun j v hv => ?_⟩
      have hadd : (⟨b, off, none⟩ : Addr).add j = ⟨b, off + j, none⟩ := by unfold Addr.add; split <;> simp_all
      rw [hadd]
      refine h j v ?_
      rw [List.getElem?_map] at hv ⊢
      obtain ⟨y, hy, rfl⟩ := Option.map_eq_some_iff.1 hv
      rw [List.getElem?_take] at hy
      split at hy
      · rw [hy]; rfl
      · cases hy
  case c3 => simp; omega
  case c4 => intro v hv; simp only [List.mem_map] at hv; obtain ⟨z, _, rfl⟩ := hv; rfl
  case c5 =>
    intro w4 h4 hb6
    have hlt : w.heap.size < w1.heap.size := hP0
    have hP4 := hP3.keep (hb6.block _ hlt)
    have hb7 : Below w.heap.size w w4 := hb5.trans (hb6.mono (by omega))
    have hr4 : Row1 w4 w1.heap.size 24 ((padded (mNums p.Q x) d).map (.int .u64) ++ [.int .u64 0]) := by
      rw [← fsplice_row]; exact h4.out
    clear hb6 hb5 hb4 hcs h20 hr3 hr2 hb h4 hP2 hP3 hA2 hb3
    go_wp2
    refine Rg.wp_region (l := [_, _, _, _, _, _, _]) (tail := [_]) (Rg.grows _ 8) [some 22, some 23, some 24, some 25, some 26, some 27, some 28, none] 30 (by kernel_rfl) (by kernel_rfl) (by kernel_rfl) rfl (Rg.grows_fair _ _) (Rg.keep_drew _) (trivial) ?_
    refine' Rg.op_is _ [] rfl rfl (by kernel_rfl) ?_ ?_
    rotate_left
    · intro wx hb
      refine Rg.from_nil fun T hT => ?_
      go_wp2
      refine hT _ _ rfl (by first | exact Rg.Keep.refl _ | exact below_of_dr hw2 | exact hw2 | exact (Below.refl _ _).alloc (Nat.le_refl _) _) ?_
      simp only [Rg.last, List.getElem?_toArray, List.getElem?_cons_succ, List.getElem?_cons_zero, Option.getD_some]
      rfl
    refine' Rg.op_is _ [] rfl rfl (by kernel_rfl) ?_ ?_
    rotate_left
    · intro wx hb
      refine Rg.from_nil fun T hT => ?_
      go_wp2
      refine hT _ _ rfl (by first | exact Rg.Keep.refl _ | exact below_of_dr hw2 | exact hw2 | exact (Below.refl _ _).alloc (Nat.le_refl _) _) ?_
      simp only [Rg.last, List.getElem?_toArray, List.getElem?_cons_succ, List.getElem?_cons_zero, Option.getD_some]
      rfl
    refine Rg.op_is (.int .i64 (d : Int)) [1] rfl rfl (by kernel_rfl) ?_ ?_
    · intro wx hb
      refine Rg.from_is (some 23) rfl rfl ?_
      refine Rg.from_nil fun T hT => ?_
      have cD := (hP4.below hb).cell (k := 8) (u := .int .i64 (d : Int)) (by simp [pcells, hd])
      go_wp2
      exact hT _ _ rfl (by first | exact Rg.Keep.refl _ | exact below_of_dr hw2 | exact hw2 | exact (Below.refl _ _).alloc (Nat.le_refl _) _) (by first | rfl | exact congrArg _ (by decide))
    refine' Rg.op_is _ [] rfl rfl (by kernel_rfl) ?_ ?_
    rotate_left
    · intro wx hb
      refine Rg.from_nil fun T hT => ?_
      go_wp2
      refine hT _ _ rfl (by first | exact Rg.Keep.refl _ | exact below_of_dr hw2 | exact hw2 | exact (Below.refl _ _).alloc (Nat.le_refl _) _) ?_
      simp only [Rg.last, List.getElem?_toArray, List.getElem?_cons_succ, List.getElem?_cons_zero, Option.getD_some]
      rfl
    refine Rg.op_is (.int .u64 p.Q) [3] rfl rfl (by kernel_rfl) ?_ ?_
    · intro wx hb
      refine Rg.from_is (some 25) rfl rfl ?_
      refine Rg.from_nil fun T hT => ?_
      have cQ := (hP4.below hb).cell (k := 1) (u := .int .u64 p.Q) rfl
      go_wp2
      exact hT _ _ rfl (by first | exact Rg.Keep.refl _ | exact below_of_dr hw2 | exact hw2 | exact (Below.refl _ _).alloc (Nat.le_refl _) _) (by first | rfl | exact congrArg _ (by decide))
    refine Rg.op_is (.int .u64 (mNum 1 p.Q)) [4] rfl rfl (by kernel_rfl) ?_ ?_
    · intro wx hb
      refine Rg.from_is (some 26) rfl rfl ?_
      refine Rg.from_nil fun T hT => ?_
      go_wp2_with (go_at_call 93; refine (num_c 1 p.Q ⟨by decide, by decide⟩ hq _).mono ?_; rintro e w5 ⟨rfl, hw5⟩)
      exact hT _ _ rfl (below_of_dr hw5) rfl
    refine' Rg.op_is _ [0, 2] rfl rfl (by kernel_rfl) ?_ ?_
    rotate_left
    · intro wx hb
      refine Rg.from_is (some 22) rfl rfl ?_
      refine Rg.from_is (some 24) rfl rfl ?_
      refine Rg.from_nil fun T hT => ?_
      go_wp2
      refine hT _ _ rfl (by first | exact Rg.Keep.refl _ | exact below_of_dr hw2 | exact hw2 | exact (Below.refl _ _).alloc (Nat.le_refl _) _) ?_
      simp only [Rg.last, List.getElem?_toArray, List.getElem?_cons_succ, List.getElem?_cons_zero, Option.getD_some]
      rfl
    refine Rg.walk_nil [0, 1, 2, 3, 4, 5, 6] (by kernel_rfl) ?_
    intro wx hb
    refine Rg.from_is (some 22) rfl rfl ?_
    refine Rg.from_is (some 23) rfl rfl ?_
    refine Rg.from_is (some 24) rfl rfl ?_
    refine Rg.from_is (some 25) rfl rfl ?_
    refine Rg.from_is (some 26) rfl rfl ?_
    refine Rg.from_is (some 27) rfl rfl ?_
    refine Rg.from_is (some 28) rfl rfl ?_
    refine Rg.from_nil ?_
    simp only [List.map, Act.put, List.setIfInBounds_toArray, List.set_cons_zero, List.set_cons_succ]
    have hr5 := hr4.below hb
    have hlen : ((padded (mNums p.Q x) d).map (Value.int .u64) ++ [Value.int .u64 0]).length = d + 1 := by simp [padded_len]
    have hget : ((padded (mNums p.Q x) d).map (Value.int .u64) ++ [Value.int .u64 0])[d]? = some (.int .u64 0) := by
      rw [List.getElem?_append_right (by simp [padded_len])]; simp [padded_len]
    have hc5 := hr5.cell hget
    have hf5 := hr5.frozen d
    have hset : ((padded (mNums p.Q x) d).map (Value.int .u64) ++ [Value.int .u64 0]).set d (.int .u64 (mNum 1 p.Q)) = (rowS p x).map (.int .u64) := by
      rw [HR.out, List.set_append_right _ _ (by simp [padded_len])]
      simp [padded_len]
    have hr6 := hr5.set d (.int .u64 (mNum 1 p.Q))
    rw [hset] at hr6
    have hb8 := (below_next hb7 hb7.size hb).setCell (p := ⟨w1.heap.size, d, none⟩) (by simp; omega) (.int .u64 (mNum 1 p.Q))
    have hlen2 : ((rowS p x).map (Value.int .u64)).length = d + 1 := by rw [← hset, List.length_set, hlen]
    clear hr5 hset hlen hget hP4 hr4 hb7
    go_wp2
    go_ret
    refine ⟨_, rfl, ?_, hb8⟩
    have := hr6.own (base := w.heap.size) (by omega) (by rw [hlen2]; omega)
    rw [hlen2] at this
    exact this

end Go.Proofs.YtmmmdidbnjcooaaDoor
