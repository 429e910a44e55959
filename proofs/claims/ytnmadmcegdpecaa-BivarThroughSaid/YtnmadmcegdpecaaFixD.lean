/-
  Whether a model, a query may be: the program's.
-/
import Derived.Test.YtnmadmcegdpecaaFixC
import Derived.Test.YtnmadmcegdpecaaBivB
namespace Go.Proofs.Ytnmadmcegdpecaa
open Go.RowKit

/-- a model, as a value: its rows, its shifts. -/
abbrev mval (A : Option Addr) (n c : Nat) (B : Option Addr) (m d : Nat) : Value := .agg #[.slice A n c, .slice B m d]
/-- may a model be? -/
def mayB (p : Par) (W : List (List Int)) (b : List Int) : Bool := fits p && (!((W.length : Int) != p.K) && (!((b.length : Int) != p.K) && (allLen W p.D && (allNear W p.M && nears b p.M))))

theorem allNear_one (l : List Int) (m : Int) : allNear [l] m = nears l m := by simp [allNear]
theorem ints_one {l : List Int} (h : I64s l) : Ints [l] := fun m hm => by
  simp only [List.mem_singleton] at hm; subst hm; exact h

abbrev pcells (p : Par) : List Value := [.int .u64 p.P, .int .u64 p.Q, .int .u64 p.G, .int .u64 p.H, .int .i64 p.Nodes, .int .i64 p.N, .int .i64 p.T, .int .i64 p.K, .int .i64 p.D, .int .i64 p.R, .int .i64 p.M, .int .i64 p.X]

set_option maxHeartbeats 2000000 in
theorem fmay_c (p : Par) (A B : Option Addr) (W : List (List Int)) (b : List Int) (c d : Nat) (w : World) (hA : GridI w A W) (hB : Cells w B (b.map (.int .i64))) (hl : W.length ≤ 9223372036854775807) (hl' : b.length ≤ 9223372036854775807) (hu : Ints W) (hu' : I64s b) :
    Calls Try.prog 36 #[pval p, mval A W.length c B b.length d] w fun e w' => e = .returned (.bool (mayB p W b)) ∧ Below w.heap.size w w' := by
  go_enter Try.func36, Try.ntmps36
  go_wp2_with (fail)
  refine (fit_c p _).mono ?_
  rintro e w1 ⟨rfl, hb1⟩
  have hb2 := below_next ((below_alloc w (.cells (pcells p).toArray 40)).alloc (by simp) (.cells #[.slice A W.length c, .slice B b.length d] 44)) (by simp; omega) hb1
  have hP : Row1 w1 w.heap.size 40 (pcells p) := ((row1_new w (pcells p) 40).alloc _).below hb1
  have hM : Row1 w1 (w.heap.size + 1) 44 [.slice A W.length c, .slice B b.length d] := by
    have := (row1_new (w.alloc (.cells (pcells p).toArray 40)) [.slice A W.length c, .slice B b.length d] 44).below hb1
    simpa using this
  have hA1 := hA.below hb2
  have hB1 := hB.below hb2
  clear hb1 hA hB
  have cK := hP.cell (k := 7) rfl
  have cD := hP.cell (k := 8) rfl
  have cM := hP.cell (k := 10) rfl
  have cW := hM.cell (k := 0) rfl
  have cB := hM.cell (k := 1) rfl
  cases hf : fits p with
  | false =>
    have HF := hid (show mayB p W b = false by simp [mayB, hf])
    go_wp2
    go_ret
    exact ⟨ret_bool HF.out.symm, hb2⟩
  | true =>
  have hF := hid ((fits_iff p).1 hf)
  cases hK : ((W.length : Int) != p.K) with
  | true =>
    have HF := hid (show mayB p W b = false by simp [mayB, hf, hK])
    clear hf
    go_wp2
    go_ret
    exact ⟨ret_bool HF.out.symm, hb2⟩
  | false =>
  cases hK' : ((b.length : Int) != p.K) with
  | true =>
    have HF := hid (show mayB p W b = false by simp [mayB, hf, hK, hK'])
    clear hf
    go_wp2
    go_ret
    exact ⟨ret_bool HF.out.symm, hb2⟩
  | false =>
  cases hL : allLen W p.D with
  | false =>
    have HF := hid (show mayB p W b = false by simp [mayB, hf, hK, hK', hL])
    clear hf
    go_wp2_with (go_at_call 87; refine (contL_c _ _ _ _ _ _ hA1 hl cD).mono ?_; rintro e w2 ⟨rfl, rfl⟩; rw [hL])
    go_ret
    exact ⟨ret_bool HF.out.symm, hb2⟩
  | true =>
  have hmay := hid (show mayB p W b = (allNear W p.M && nears b p.M) by simp [mayB, hf, hK, hK', hL])
  have m0 : 0 ≤ p.M := hF.out.M0
  have m1 : p.M < 9223372036854775808 := by have := hF.out.M; omega
  clear hf
  cases hN : allNear W p.M with
  | false =>
    rw [hN] at hmay
    go_wp2_with (first | (go_at_call 87; refine (contL_c _ _ _ _ _ _ hA1 hl cD).mono ?_; rintro e w2 ⟨rfl, rfl⟩; rw [hL]) | (go_at_call 89; refine (fwithin_c _ _ _ _ _ hA1 hl hu m0 m1).mono ?_; rintro e w2 ⟨rfl, hb3⟩; rw [hN]))
    go_ret
    exact ⟨ret_bool (by rw [hmay.out]; rfl), below_next hb2 (by have := hb2.size; omega) hb3⟩
  | true =>
    rw [hN] at hmay
    go_wp2_with (go_at_call 87; refine (contL_c _ _ _ _ _ _ hA1 hl cD).mono ?_; rintro e w2 ⟨rfl, rfl⟩; rw [hL])
    refine (fwithin_c _ _ _ _ _ hA1 hl hu m0 m1).mono ?_
    rintro e w2 ⟨rfl, hb3⟩
    rw [hN]
    have cM2 := (hP.below hb3).cell (k := 10) rfl
    have cB2 := (hM.below hb3).cell (k := 1) rfl
    have hB2 := hB1.below hb3
    have hb4 := below_next hb2 (by have := hb2.size; omega) hb3
    clear hA1 hB1 hP hM cK cD cM cW cB hb3 hb2
    go_wp2_with (fail)
    have hr := row1_new w2 [.slice B b.length d] 42
    have hb5 := below_next hb4 hb4.size (below_alloc w2 (.cells #[.slice B b.length d] 42))
    refine (fwithin_c _ _ [b] 1 _ (gridI_one hr (hB2.below (below_alloc _ _)) hl') (by simp) (ints_one hu') m0 m1).mono ?_
    rintro e w3 ⟨rfl, hb6⟩
    rw [allNear_one]
    go_wp2
    go_ret
    exact ⟨ret_bool (by rw [hmay.out]; rfl), below_next hb5 hb5.size hb6⟩

/-- what is told of a query. -/
def queryE (p : Par) (x : List Int) : Int := if (!fits p || (x.length : Int) != p.D) = true then 4 else if nears x p.X = true then 0 else 20

set_option maxHeartbeats 1000000 in
theorem query_c (p : Par) (A : Option Addr) (x : List Int) (c : Nat) (w : World) (hA : Cells w A (x.map (.int .i64))) (hl : x.length ≤ 9223372036854775807) (hu : I64s x) :
    Calls Try.prog 37 #[pval p, .slice A x.length c] w fun e w' => e = .returned (.int .i64 (queryE p x)) ∧ Below w.heap.size w w' := by
  go_enter Try.func37, Try.ntmps37
  go_wp2_with (fail)
  refine (fit_c p _).mono ?_
  rintro e w1 ⟨rfl, hb1⟩
  have hb2 := below_next (below_alloc w (.cells (pcells p).toArray 40)) (by simp) hb1
  have hP : Row1 w1 w.heap.size 40 (pcells p) := (row1_new w (pcells p) 40).below hb1
  have hA1 := hA.below hb2
  clear hb1 hA
  have cD := hP.cell (k := 8) rfl
  have cX := hP.cell (k := 11) rfl
  cases hf : fits p with
  | false =>
    have HF := hid (show queryE p x = 4 by simp [queryE, hf])
    clear hf
    go_wp2
    go_ret
    exact ⟨ret_int HF.out.symm, hb2⟩
  | true =>
  have hF := hid ((fits_iff p).1 hf)
  cases hD : ((x.length : Int) != p.D) with
  | true =>
    have HF := hid (show queryE p x = 4 by simp [queryE, hf, hD])
    clear hf
    go_wp2
    go_ret
    exact ⟨ret_int HF.out.symm, hb2⟩
  | false =>
  have HQ := hid (show queryE p x = if nears x p.X = true then 0 else 20 by simp [queryE, hf, hD])
  have m0 : 0 ≤ p.X := hF.out.X0
  have m1 : p.X < 9223372036854775808 := by have := hF.out.X; omega
  clear hf
  go_wp2_with (fail)
  have hr := row1_new w1 [.slice A x.length c] 42
  have hb5 := below_next hb2 hb2.size (below_alloc w1 (.cells #[.slice A x.length c] 42))
  refine (fwithin_c _ _ [x] 1 _ (gridI_one hr (hA1.below (below_alloc _ _)) hl) (by simp) (ints_one hu) m0 m1).mono ?_
  rintro e w3 ⟨rfl, hb6⟩
  have hb7 := below_next hb5 hb5.size hb6
  clear hr hb5 hb6 hb2 hA1 hP
  rw [allNear_one]
  cases hn : nears x p.X with
  | true =>
    rw [hn] at HQ
    go_wp2
    go_ret
    exact ⟨ret_int (by rw [HQ.out]; rfl), hb7⟩
  | false =>
    rw [hn] at HQ
    go_wp2
    go_ret
    exact ⟨ret_int (by rw [HQ.out]; rfl), hb7⟩

/-- the numbers of whole numbers. -/
def mNums (q : Int) (l : List Int) : List Int := l.map fun n => mNum n q

set_option maxHeartbeats 1000000 in
theorem fnumbers_c (q : Int) (A : Option Addr) (l : List Int) (c : Nat) (w : World) (hA : Cells w A (l.map (.int .i64))) (hl : l.length ≤ 17592186044415) (hu : I64s l) (hq : U64 q) :
    Calls Try.prog 91 #[.int .u64 q, .slice A l.length c] w (NewNums (mNums q l) w) := by
  go_enter Try.func91, Try.ntmps91
  go_wp2
  go_loopw [5, 7, 10] (fun o _ i wr => ∃ k : Nat, i = .int .i64 k ∧ k ≤ l.length ∧ Own wr w.heap.size 23 o ((mNums q (l.take k)).map (.int .u64)) ∧ Below w.heap.size w wr) (fun _ _ i _ => l.length - (intOf i).toNat)
  case atStart => exact ⟨0, rfl, by omega, by simpa [mNums] using Own.nil w w.heap.size 23, Below.refl _ _⟩
  case round =>
    obtain ⟨k, rfl, hk, hown, hb⟩ := hrel
    by_cases hlt : k < l.length
    · obtain ⟨x, hx⟩ := get_of_lt hlt
      obtain ⟨b, off, rfl, hc⟩ := (hA.below hb).at_map hx
      have hlen : ((mNums q (l.take k)).map (Value.int .u64)).length = k := by simp [mNums]; omega
      have hs : (mNums q (l.take k)).map (Value.int .u64) ++ [Value.int .u64 (mNum x q)] = (mNums q (l.take (k + 1))).map (Value.int .u64) := by
        unfold mNums
        rw [take_snoc' hx]; simp
      have HS := hid hs
      clear hs
      go_wp2_with (first | (go_at_call 27; refine (num_c _ _ (hu.at_ hx) hq _).mono ?_; rintro e w2 ⟨rfl, hw2⟩) | (at_builtin; refine wpList_push elt_u64 w2 rfl _ _ rfl w.heap.size (hown.dr hw2) rfl (.int .u64 (mNum x q)) rfl rfl (by rw [hlen]; omega) (by rw [hlen]; omega) (by have := (below_dr hb hw2).size; omega) ?_; intro v' w3 hown3 _ hb3))
      go_roundw
      case rel =>
        rw [HS.out] at hown3
        exact ⟨k + 1, by go_num, by omega, hown3, (below_dr hb hw2).trans hb3⟩
      case measure => simp [intOf]; omega
    · obtain rfl : k = l.length := by omega
      go_wp2
      go_ret
      rw [List.take_length] at hown
      exact ⟨_, rfl, hown, hb⟩

end Go.Proofs.Ytnmadmcegdpecaa
