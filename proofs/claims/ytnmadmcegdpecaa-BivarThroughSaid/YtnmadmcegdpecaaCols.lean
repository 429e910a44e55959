/-
  The program's columns of a list of lists, and rounds that know which have come.
-/
import Derived.Test.YtnmadmcegdpecaaBivF
import Derived.Shelf.Abstract
import Derived.Shelf.RegionOpen
import Derived.OwnWalkIn
import Derived.TacticsInMore
import Derived.LoopNIn
import Derived.LoopIn
import Derived.Deep.Cut
import Derived.Test.YtnmadmcegdpecaaRange
namespace Go.Proofs.Ytnmadmcegdpecaa
open Go.RowKit Go.Shelf

theorem wpIn_rangeRow {α : Type} {F : Fence} {n : Nat} {P : Program} {g : Operand} {ps : Array Tmp} {assign body : Code} {Q : Exit → Act → World → Prop} {a : Act} {w : World}
    (hro : F.round = none) (h1 : 1 ≤ n) {gf : Nat} {lb : Array Value} (hg : a.eval g = .func (.func gf) #[] lb) (hFg : F.fn gf) (eg : ∀ args w, (callFunc gf args).run P w = .ok (.enter gf args) w)
    {encs : α → Array Value} (hps : ∀ x, (encs x).size = ps.size) (I : List α → World → Prop) (Ok : List α → α → World → Prop) (S : List α → Prop) (Kp : World → World → Prop)
    (hIb : ∀ xs A B, w.heap.size ≤ A.heap.size → I xs A → Below A.heap.size A B → I xs B)
    (hIp : ∀ xs A l o o', I xs A → w.heap.size ≤ l → A.heap[l]? = some o → o.isCells = false → I xs (A.putObj l o'))
    (hOp : ∀ pre x A l o o', Ok pre x A → w.heap.size ≤ l → A.heap[l]? = some o → o.isCells = false → Ok pre x (A.putObj l o'))
    (hKt : ∀ A B C : World, Kp A B → Kp B C → Kp A C)
    (hKp : ∀ (A : World) l o o', w.heap.size ≤ l → A.heap[l]? = some o → o.isCells = false → Kp A (A.putObj l o'))
    (h0 : I [] w)
    (hit : ∀ (l : Nat) (J : List α → World → Prop) (W : World), Below w.heap.size w W → (∀ xs A B, W.heap.size ≤ A.heap.size → J xs A → Below A.heap.size A B → J xs B) →
      (∀ pre x A, W.heap.size ≤ A.heap.size → J pre A → Ok pre x A → YieldAt F (n - 1 - 1) P l (encs x) A fun e B => e = .returned (.bool true) ∧ J (pre ++ [x]) B ∧ Kp A B ∧ A.heap.size ≤ B.heap.size) → J [] W →
      CallsIn F (n - 1) P gf (#[.func (.yield l) #[] #[]] ++ lb) W fun e B => (∃ v, e = .returned v) ∧ ∃ xs, S xs ∧ J xs B)
    (a₁ : α → Act)
    (hassign : ∀ (l : Nat) (x : α) (W : World) (K : Act → World → Prop), K (a₁ x) W →
      assign.wpIn (F.inRound l) (n - 1 - 1) P (Exit.then K (fun _ _ _ => False)) { tmps := (ps.zip (encs x)).foldl (fun t (p, v) => t.setIfInBounds p v) a.tmps, defers := [] } W)
    (hbody : ∀ (l : Nat) (pre : List α) (x : α) (A : World), w.heap.size ≤ A.heap.size → I pre A → Ok pre x A → body.wpIn (F.inRound l) (n - 1 - 1) P (GoesOn Kp I (pre ++ [x]) A) (a₁ x) A)
    (hdone : ∀ (D : Nat) (xs : List α) (A : World), w.heap.size ≤ D → S xs → I xs A → A.heap[D]? = some (.deferred (some [])) → Q .normal { a with defers := { target := .collected D, args := #[] } :: a.defers } A) :
    (Code.rangeFunc g ps assign body).wpIn F n P Q a w := by
  refine wpIn_rangeFunc fun fn hfn => ?_
  rw [hro]
  -- the record, in each of its states
  let R : LoopState → Loop := fun st => { state := st, pending := none, fn, tmps := a.tmps, params := ps, assign, body, defers := w.heap.size }
  let d := w.heap.size
  let l := w.heap.size + 1
  let W0 := (w.alloc (.deferred (some []))).alloc (.loop (R .ready))
  have hL0 : W0.heap[l]? = some (.loop (R .ready)) := by
    have := World.alloc_heap_new (w.alloc (.deferred (some []))) (.loop (R .ready))
    rwa [World.size_alloc] at this
  have hD0 : W0.heap[d]? = some (.deferred (some [])) := (Below.heap_alloc _ _ _ (by simp [d])).trans (World.alloc_heap_new w _)
  have hb0 : Below w.heap.size w W0 := ((Below.refl _ w).alloc (Nat.le_refl _) _).alloc (by simp) _
  have hI0 : I [] W0 := hIb _ _ _ (by simp) (hIb _ _ _ (Nat.le_refl _) h0 ((Below.refl _ w).alloc (Nat.le_refl _) _)) ((Below.refl _ _).alloc (Nat.le_refl _) _)
  have hs0 : W0.heap.size = w.heap.size + 2 := by simp [W0]
  refine ⟨l, [{ target := .collected d, args := #[] }], W0, { target := .fn (.func gf) lb, args := #[.func (.yield l) #[] #[]] }, W0, gf, #[.func (.yield l) #[] #[]] ++ lb, W0, run_enterLoop_outer _ _ _ _ _, ?_, ?_, ?_, fun _ => h1, ?_⟩
  · simp only [resolve, hg]
    simp [go_sem]
  · intro f' hf'
    simp [Target.leads] at hf'
    subst hf'
    exact hFg
  · simp [invoke, go_sem, eg]
  · refine (hit l (fun xs A => I xs A ∧ A.heap[l]? = some (.loop (R .ready)) ∧ A.heap[d]? = some (.deferred (some []))) W0 hb0 (fun xs A B hA hJ hb => ?_) (fun pre x A hA hJ hx => ?_) ⟨hI0, hL0, hD0⟩).mono ?_
    · exact ⟨hIb _ _ _ (by omega) hJ.1 hb, (hb.block _ (by omega)).trans hJ.2.1, (hb.block _ (by omega)).trans hJ.2.2⟩
    · obtain ⟨hi, hl, hd⟩ := hJ
      have hy := run_yield (P := P) (args := encs x) hl (hps x)
      refine ⟨fn, _, assign, body, hy, roundIn_of_wpIn hfn (hassign l x A _ ⟨_, run_beginRound hl rfl, ?_⟩)⟩
      have hll : l < A.heap.size := by omega
      have hi2 := hIp _ _ _ _ (.loop { R .ready with state := .busy }) hi (by omega) hl rfl
      have hx2 := hOp _ _ _ _ _ (.loop { R .ready with state := .busy }) hx (by omega) hl rfl
      have hk2 := hKp A l _ (.loop { R .ready with state := .busy }) (by omega) hl rfl
      have hl2 : (A.putObj l (.loop { R .ready with state := .busy })).heap[l]? = some (.loop { R .ready with state := .busy }) := World.putObj_heap_same hll
      have hd2 : (A.putObj l (.loop { R .ready with state := .busy })).heap[d]? = some (.deferred (some [])) := (World.putObj_heap_other (by omega)).trans hd
      refine wpIn_mono (hbody l pre x _ (by simp; omega) hi2 hx2) ?_
      rintro e a3 B ⟨rfl, ho, hkb, hsz, hib⟩
      rw [World.putObj_size] at hsz
      have hl3 := ho.same _ _ hl2 rfl
      have hd3 := ho.same _ _ hd2 rfl
      refine ⟨_, _, run_endRound none hl3, rfl, ⟨hIp _ _ _ _ _ hib (by omega) hl3 rfl, World.putObj_heap_same (by omega), (World.putObj_heap_other (by omega)).trans hd3⟩, hKt _ _ _ (hKt _ _ _ hk2 hkb) (hKp B l _ _ (by omega) hl3 rfl), by simp; omega⟩
    · rintro e B ⟨⟨v, rfl⟩, xs, hS, hi, hl, hd⟩
      have hll := (Array.getElem?_eq_some_iff.1 hl).1
      exact ⟨none, _, run_endLoop hl (by simp [R]), hdone d xs _ (Nat.le_refl _) hS (hIp _ _ _ _ _ hi (by omega) hl rfl) ((World.putObj_heap_other (by omega)).trans hd)⟩


attribute [local go_sem] Oper.semAt_some

set_option maxRecDepth 100000 in
set_option maxHeartbeats 2000000 in
theorem columns2_c (A : Option Addr) (f : List (List Int)) (c g1 g2 g3 l n : Nat) (w : World) (J : List (Nat × Value) → World → Prop) (hJ : ∀ xs A B, w.heap.size ≤ A.heap.size → J xs A → Below A.heap.size A B → J xs B)
    (hY : ∀ pre x W, w.heap.size ≤ W.heap.size → J pre W → pre.map Prod.fst = List.range x.1 → x.1 < wide f → RowT W 23 x.2 ((colJ f x.1).map (.int .u64)) → YieldAt Fence.wide n Try.prog l #[.int .i64 (x.1 : Int), x.2] W fun e B => e = .returned (.bool true) ∧ J (pre ++ [x]) B ∧ (Fit A f c g1 g2 g3 W → Fit A f c g1 g2 g3 B) ∧ W.heap.size ≤ B.heap.size)
    (hF : Fit A f c g1 g2 g3 w) (hl : f.length ≤ 1000000) (hwd : wide f ≤ 1000000) (h0 : J [] w) :
    Calls Try.prog 108 #[.func (.yield l) #[] #[], .pointer (some ⟨g1, 0, none⟩), .pointer (some ⟨g3, 0, none⟩)] w fun e w' => (∃ v, e = .returned v) ∧ ∃ xs, xs.map Prod.fst = List.range (wide f) ∧ J xs w' := by
  have hc1 := hF.r1.cell (k := 0) rfl
  go_enter Try.func108, Try.ntmps108
  have hpw := pwide_c A f c w hF.A (by omega)
  obtain ⟨m, hm⟩ : ∃ m, wide f = m := ⟨_, rfl⟩
  rw [hm] at hpw hwd hY ⊢
  have HPW := hid hpw
  clear hpw hm
  go_wp2_with (go_at_call 76; refine HPW.out.mono ?_; rintro e w2 ⟨rfl, rfl⟩)
  clear hc1
  go_loopw [4, 5, 6, 9] (fun _ _ _ j wr => ∃ k : Nat, j = .int .i64 k ∧ k ≤ m ∧ w.heap.size ≤ wr.heap.size ∧ Fit A f c g1 g2 g3 wr ∧ ∃ xs : List (Nat × Value), xs.map Prod.fst = List.range k ∧ J xs wr) (fun _ _ _ j _ => m - (intOf j).toNat)
  case atStart => exact ⟨0, rfl, by omega, Nat.le_refl _, hF, [], rfl, h0⟩
  case round =>
    obtain ⟨k, rfl, hk, hsz, hF2, xs, hxs, hJx⟩ := hrel
    have HXS := hid hxs
    clear hxs
    by_cases hlt : k < m
    · have hc1 := hF2.r1.cell (k := 0) rfl
      go_wp2
      generalize wr = wo at *
      clear hc1
      go_loopw [5, 6, 14] (fun o _ i w4 => ∃ i' : Nat, i = .int .i64 i' ∧ i' ≤ f.length ∧ Own w4 wo.heap.size 23 o (((colJ f k).take i').map (.int .u64)) ∧ Below wo.heap.size wo w4) (fun _ _ i _ => f.length - (intOf i).toNat)
      case atStart => exact ⟨0, rfl, by omega, by simpa using Own.nil wo wo.heap.size 23, Below.refl _ _⟩
      case round =>
        obtain ⟨i, rfl, hi, hown4, hb4⟩ := hrel
        have hF4 := hF2.below hb4
        by_cases hlt2 : i < f.length
        · obtain ⟨l2, hxl⟩ := get_of_lt hlt2
          have hcj := colJ_at hxl k
          have hs : ((colJ f k).take i).map (Value.int .u64) ++ [Value.int .u64 (l2.getD k 0)] = ((colJ f k).take (i + 1)).map (Value.int .u64) := by
            rw [take_snoc' hcj]; simp
          have hlen : (((colJ f k).take i).map (Value.int .u64)).length = i := by simp [colJ_len]; omega
          have HS := hid (⟨hs, hlen, hxl⟩ : _ ∧ _ ∧ _)
          clear hs hlen hcj hxl
          have hc3 := hF4.r3.cell (k := 0) rfl
          go_wp2_with (first | (go_at_call 117; refine (reads1_c A f c g2 i k l2 _ hF4.A hF4.r2 (by omega) HS.out.2.2 (by omega)).mono ?_; rintro e w2 ⟨rfl, rfl⟩) | (at_builtin; refine wpList_push elt_u64 wr rfl _ _ rfl wo.heap.size hown4 rfl (.int .u64 (l2.getD k 0)) rfl rfl (by rw [HS.out.2.1]; omega) (by rw [HS.out.2.1]; omega) hb4.size ?_; intro v' w3 hown5 _ hb5))
          go_roundw
          case rel =>
            rw [HS.out.1] at hown5
            exact ⟨i + 1, by go_num, by omega, hown5, hb4.trans hb5⟩
          case measure => simp [intOf]; omega
        · obtain rfl : i = f.length := by omega
          rw [List.take_of_length_le (by rw [colJ_len]; exact Nat.le_refl _)] at hown4
          have hrt := hown4.rowT
          obtain ⟨A5, c5, rfl, _⟩ := hown4.form
          rw [List.length_map] at hrt
          have hs4 := hb4.size
          have hJ4 := hJ _ _ _ hsz hJx hb4
          obtain ⟨fn, tmps, assign, body, hy, hR⟩ := hY xs (k, .slice A5 (colJ f k).length c5) wr (by omega) hJ4 HXS.out hlt hrt
          dsimp only at hy
          clear hown4 hJx
          go_upto_region 9 with (fail)
          refine (wpIn_wide (n := n + 1)).1 ?_
          gi_wp2
          refine hR.mono ?_
          rintro e B ⟨rfl, hJB, hKB, hszB⟩
          gi_wp2
          go_wp2
          go_roundw
          case rel => exact ⟨k + 1, by go_num, by omega, by omega, hKB hF4, xs ++ [(k, .slice A5 (colJ f k).length c5)], by rw [List.map_append, HXS.out, List.range_succ]; rfl, hJB⟩
          case measure => simp [intOf]; omega
    · obtain rfl : k = m := by omega
      go_wp2
      go_end0
      exact ⟨⟨_, rfl⟩, xs, HXS.out, hJx⟩

end Go.Proofs.Ytnmadmcegdpecaa
