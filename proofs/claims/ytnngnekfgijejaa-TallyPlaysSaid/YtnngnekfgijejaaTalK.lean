/-
  The votes of a map, in whatever order: maps.Values.
-/
import Derived.Test.YtnngnekfgijejaaTalH
import Derived.Test.YtnngnekfgijejaaRangeM
import Derived.Deep.Cut
namespace Go.Proofs.Ytnngnekfgijejaa
open Go.RowKit Go.Maps Go.Shelf

theorem RangeAt.walks {P : Program} {k : TypeId} {α H : Type} {M : MK P k α H} {w w' : World} {b r cnt : Nat} {L rest : List α} (h : RangeAt M w b r L rest cnt) (hk : KeepsWalks w w') : RangeAt M w' b r L rest cnt := by
  obtain ⟨h1, h2, h3, h4, D, left, ⟨es, clock, since, seen, c0, e1, e2, e3, e4, e5, e6⟩, h6, h7⟩ := h
  exact ⟨h1, h2, h3, h4, D, left, ⟨es, clock, since, seen, c0, hk.same _ _ e1 rfl, e2, e3, e4, hk.same _ _ e5 rfl, e6⟩, h6, h7⟩
theorem RangeAt.iter {P : Program} {k : TypeId} {α H : Type} {M : MK P k α H} {w : World} {b r cnt : Nat} {L rest : List α} (h : RangeAt M w b r L rest cnt) : ∃ o : Obj, w.heap[r]? = some o ∧ o.isCells = false := by
  obtain ⟨_, _, _, _, D, left, ⟨es, clock, since, seen, c0, e1, e2, e3, e4, e5, e6⟩, _⟩ := h
  exact ⟨_, e5, rfl⟩

attribute [local go_sem] Oper.semAt_some

set_option maxRecDepth 100000 in
set_option maxHeartbeats 400000 in
theorem values1_c (bx b : Nat) (L : List Vt) (lp n : Nat) (w : World) (J : List Vt → World → Prop) (hJ : ∀ xs A C, w.heap.size ≤ A.heap.size → J xs A → Turns w.heap.size A C → J xs C)
    (hY : ∀ pre x A, w.heap.size ≤ A.heap.size → J pre A → x ∈ L → pre.length < L.length → YieldAt Fence.wide n Try.prog lp #[vval x] A fun e C => e = .returned (.bool true) ∧ J (pre ++ [x]) C ∧ KeepsWalks A C)
    (hB : Row1 w bx 68 [.map (some b)]) (hM : MapAt tM w b L) (h0 : J [] w) :
    Calls Try.prog 52 #[.func (.yield lp) #[] #[], .pointer (some ⟨bx, 0, none⟩)] w fun e w' => (∃ v, e = .returned v) ∧ ∃ xs, L.Perm xs ∧ J xs w' := by
  have c0 := hB.cell (k := 0) rfl
  have HJ := hid hJ
  have HY := hid hY
  clear hJ hY
  go_enter Try.func52, Try.ntmps52
  go_wp2_with (at_range; refine wpList_range_vote _ rfl _ rfl rfl hM ?_; intro w2 cnt hrg2 hg2 hs2)
  go_frame
  have hr2 : w.heap.size ≤ w2.heap.size := by omega
  have hJ2 := HJ.out _ _ _ (Nat.le_refl _) h0 ⟨none, hg2, fun r e => by cases e⟩
  clear hs2 hg2 h0 hM c0
  obtain ⟨r, hr⟩ : ∃ r, w.heap.size = r := ⟨_, rfl⟩
  have hle : w.heap.size ≤ r := by omega
  rw [hr] at hrg2 ⊢
  clear hr
  go_loopw [7] (fun _ wr => ∃ rest cnt pre, RangeAt tM wr b r L rest cnt ∧ L.Perm (pre ++ rest) ∧ J pre wr ∧ w.heap.size ≤ wr.heap.size) (fun _ wr => wr.rangeLeft b r)
  case atStart => exact ⟨L, cnt, [], hrg2, .refl _, hJ2, hr2⟩
  case round =>
    obtain ⟨rest, cnt2, pre, hrg, hp, hJw, hsz⟩ := hrel
    rename_i wr
    have HL := hid hrg.left
    have HP := hid hp
    clear hp hrg2 hJ2 hr2
    go_wp2_with (at_next; refine wpList_next_vote _ rfl _ rfl rfl hrg ?_ ?_)
    · intro hr
      subst hr
      go_wp2
      go_end0
      exact ⟨⟨_, rfl⟩, pre, by simpa using HP.out, hJw⟩
    · intro x rest' w3 cnt3 hperm hx hrg3 hlt hg3 hs3 hen
      have HPM := hid hperm
      have hsz3 : w.heap.size ≤ w3.heap.size := by omega
      clear hperm hs3
      have hJ3 := HJ.out _ _ _ hsz hJw ⟨some r, hg3, fun r' e => by cases e; exact ⟨hle, hrg.iter⟩⟩
      have hJ4 : J pre (w3.alloc (.cells #[.int .i64 x.fr, .int .i64 x.rd, .int .u8 x.kd, .int .i64 x.va, .string x.tx] 30)) := HJ.out _ _ _ hsz3 hJ3 (Turns.below (below_alloc w3 _))
      have hrg4 : RangeAt tM (w3.alloc (.cells #[.int .i64 x.fr, .int .i64 x.rd, .int .u8 x.kd, .int .i64 x.va, .string x.tx] 30)) b r L rest' cnt3 := hrg3.below (below_alloc w3 _)
      have hsz4 : w.heap.size ≤ (w3.alloc (.cells #[.int .i64 x.fr, .int .i64 x.rd, .int .u8 x.kd, .int .i64 x.va, .string x.tx] 30)).heap.size := by simp; omega
      go_upto_region 3 with (fail)
      refine (wpIn_wide (n := n + 1)).1 ?_
      obtain ⟨fn, tmps, assign, body, hy, hR⟩ := HY.out pre x (w3.alloc (.cells #[.int .i64 x.fr, .int .i64 x.rd, .int .u8 x.kd, .int .i64 x.va, .string x.tx] 30)) hsz4 hJ4 hx (by have h1 := HP.out.length_eq; have h2 := HPM.out.length_eq; simp at h1 h2; omega)
      clear hrg3 hJ3 hJ4 hg3 hrg hJw hsz
      gi_wp2
      refine hR.mono ?_
      rintro e C ⟨rfl, hJC, hKC⟩
      gi_wp2
      go_wp2
      go_roundw
      case rel => exact ⟨rest', cnt3, pre ++ [x], hrg4.walks hKC, by rw [List.append_assoc]; exact HP.out.trans (HPM.out.append_left pre), hJC, Nat.le_trans hsz4 hKC.size⟩
      case measure => rw [HL.out, (hrg4.walks hKC).left]; exact hlt
end Go.Proofs.Ytnngnekfgijejaa
