/-
  The document's numbers and polynomials (consistoryref01, consistoryref03): parts of Mod, Num, Eval, PolM, LagM, WeiM, RWr, RThr.
-/
import Derived.Test.YtlbhmoiicbhgkaaDoorRobQ1
import Derived.Test.YtlbhmoiicbhgkaaDoorRobQ2
import Derived.Test.YtlbhmoiicbhgkaaDoorRobQ3
import Derived.Test.YtlbhmoiicbhgkaaDoorRobQ4
import Derived.Test.YtlbhmoiicbhgkaaDoorRobQ5
import Derived.Test.YtlbhmoiicbhgkaaDoorRobQ6
import Derived.Test.YtlbhmoiicbhgkaaDoorRobQ7
import Derived.Test.YtlbhmoiicbhgkaaDoorRobQ8
import Derived.Test.YtlbhmoiicbhgkaaDoorRobQ9
import Derived.Test.YtlbhmoiicbhgkaaDoorRobQ10
import Derived.Test.YtlbhmoiicbhgkaaDoorRobQ11
import Derived.Test.YtlbhmoiicbhgkaaDoorRoP
import Derived.WalkKit
import Derived.WalkSpells
import Derived.WalkLawsBesides
import Derived.Deep.QuietTactic
import Derived.BigQuiet
import Derived.Shelf.Small.Bits
import Derived.Shelf.Strconv.Itoa0
import Derived.Shelf.Bits.Mul64
import Derived.Lib.BitFns
import Derived.Lib.ItoaNum
import Derived.Laws.BitsAllLaws
import Derived.OwnWalk
import Derived.Maps.AppendAt
import Derived.StillTailTactics
import Derived.Orders
import Derived.NoCompiler
import Derived.Deep.RegionWith
import Derived.Laws.CopyOwn
import Derived.Laws.AppendOwnNone
import Derived.Lib.SliceRun
import Derived.Deep.Upon
import Derived.RangeFuncNested
import Derived.RangeFuncBound
import Derived.RangeFuncCalls
import Derived.RangeFuncLeaves
import Derived.RangeFuncFrom
import Derived.Shelf.Abstract
import Derived.Shelf.RegionOpen
import Derived.OwnWalkIn
import Derived.TacticsInMore
import Derived.LoopNIn
import Derived.LoopIn
import Derived.Deep.Cut
import Derived.OrdersIn
import Derived.Laws.EntriesVeiled
import Derived.IntWalk
import Derived.Below
import Derived.ChangeSame
import Derived.ProofKit
import Derived.Maps.OwnSet
import Derived.RegionTactic
import Derived.ChangeAlike
section
namespace Go.Proofs.YtlbhmoiicbhgkaaDoor
open Go.RowKit
set_option maxHeartbeats 400000 in
theorem radd_c (a b m : Int) (ha : U64 a) (hb : U64 b) (hm : U64 m) (w : World) :
    Calls Tryd.prog 52 #[.int .u64 a, .int .u64 b, .int .u64 m] w fun e w' => e = .returned (.int .u64 (mAdd a b m)) ∧ ∃ n, w' = w.drewN n := by
  have hm' := hm
  obtain ⟨a1, a2⟩ := ha
  obtain ⟨b1, b2⟩ := hb
  obtain ⟨m1, m2⟩ := hm
  by_cases h : okm m = true
  · have h0 := okm_pos h
    have h1 := okm_le h
    have x1 := Int.emod_nonneg a (b := m) (by omega)
    have x2 := Int.emod_lt_of_pos a h0
    have y1 := Int.emod_nonneg b (b := m) (by omega)
    have y2 := Int.emod_lt_of_pos b h0
    have hd : (m == 0) = false := by simp; omega
    go_enter Tryd.func52, Tryd.ntmps52
    go_wp2
    go_quiet (fail)
    go_wp2
    · go_ret
      refine ⟨ret_int ?_, _, rfl⟩
      rw [mAdd_ok h]; exact add_hi h0 ‹_›
    · go_ret
      refine ⟨ret_int ?_, _, rfl⟩
      rw [mAdd_ok h]; exact add_lo h0 ‹_›
  · have h' : okm m = false := by simpa using h
    have hz := okm_not h' m1
    by_cases hm0 : m = 0
    · subst hm0
      go_enter Tryd.func52, Tryd.ntmps52
      go_wp2
      go_ret
      exact ⟨ret_int (mAdd_no h').symm, 0, rfl⟩
    · have hd : (m == 0) = false := by simpa using hm0
      have hg : (2305843009213693952 : Int) < m := by omega
      go_enter Tryd.func52, Tryd.ntmps52
      go_wp2
      go_ret
      exact ⟨ret_int (mAdd_no h').symm, 0, rfl⟩
set_option maxHeartbeats 400000 in
theorem rsub_c (a b m : Int) (ha : U64 a) (hb : U64 b) (hm : U64 m) (w : World) :
    Calls Tryd.prog 86 #[.int .u64 a, .int .u64 b, .int .u64 m] w fun e w' => e = .returned (.int .u64 (mSub a b m)) ∧ ∃ n, w' = w.drewN n := by
  have hm' := hm
  obtain ⟨a1, a2⟩ := ha
  obtain ⟨b1, b2⟩ := hb
  obtain ⟨m1, m2⟩ := hm
  by_cases h : okm m = true
  · have h0 := okm_pos h
    have h1 := okm_le h
    have x1 := Int.emod_nonneg a (b := m) (by omega)
    have x2 := Int.emod_lt_of_pos a h0
    have y1 := Int.emod_nonneg b (b := m) (by omega)
    have y2 := Int.emod_lt_of_pos b h0
    have hd : (m == 0) = false := by simp; omega
    by_cases hc : b % m ≤ a % m
    · go_enter Tryd.func86, Tryd.ntmps86
      go_wp2
      go_quiet (fail)
      go_wp2
      go_quiet (fail)
      go_wp2
      go_ret
      refine ⟨ret_int ?_, _, World.drewN_drewN _ _ _⟩
      rw [mSub_ok h]; exact sub_hi h0 hc
    · go_enter Tryd.func86, Tryd.ntmps86
      go_wp2
      go_quiet (fail)
      go_wp2
      go_quiet (fail)
      go_wp2
      go_ret
      refine ⟨ret_int ?_, _, World.drewN_drewN _ _ _⟩
      rw [mSub_ok h]; exact sub_lo h0 (by omega)
  · have h' : okm m = false := by simpa using h
    have hz := okm_not h' m1
    by_cases hm0 : m = 0
    · subst hm0
      go_enter Tryd.func86, Tryd.ntmps86
      go_wp2
      go_ret
      exact ⟨ret_int (mSub_no h').symm, 0, rfl⟩
    · have hd : (m == 0) = false := by simpa using hm0
      have hg : (2305843009213693952 : Int) < m := by omega
      go_enter Tryd.func86, Tryd.ntmps86
      go_wp2
      go_ret
      exact ⟨ret_int (mSub_no h').symm, 0, rfl⟩
end Go.Proofs.YtlbhmoiicbhgkaaDoor
end

section
namespace Go.Proofs.YtlbhmoiicbhgkaaDoor
open Go.RowKit
set_option maxHeartbeats 400000 in
theorem rmul_c (a b m : Int) (ha : U64 a) (hb : U64 b) (hm : U64 m) (w : World) :
    Calls Tryd.prog 51 #[.int .u64 a, .int .u64 b, .int .u64 m] w fun e w' => e = .returned (.int .u64 (mMul a b m)) ∧ Dr w w' := by
  go_enter Tryd.func51, Tryd.ntmps51
  go_wp2
  go_loopw [0, 1, 7] (fun x y z wr => ∃ a' b' o : Int, x = .int .u64 a' ∧ y = .int .u64 b' ∧ z = .int .u64 o ∧ U64 a' ∧ U64 b' ∧ U64 o ∧ Dr w wr ∧ DblInv a b m a' b' o) (fun _ y _ _ => (intOf y).toNat)
  case atStart => exact ⟨a, b, 0, rfl, rfl, rfl, ha, hb, ⟨by omega, by omega⟩, Dr.refl w, DblInv.start a b m⟩
  case round =>
    obtain ⟨a', b', o, rfl, rfl, rfl, ha', hb', ho, hw, hd⟩ := hrel
    obtain ⟨b1, b2⟩ := id hb'
    obtain ⟨m1, m2⟩ := id hm
    by_cases hb0 : 0 < b'
    · by_cases h2 : b' % 2 = 1
      · have hx : (b' % 2 == 1) = true := by simp [h2]
        have hn := DblInv.odd hd h2 (by omega)
        clear h2
        go_wp2_with (fail)
        refine (radd_c _ _ _ ho ha' hm _).mono ?_; rintro e w1 ⟨rfl, n1, rfl⟩
        go_wp2_with (fail)
        refine (radd_c _ _ _ ha' ha' hm _).mono ?_; rintro e w1 ⟨rfl, n2, rfl⟩
        go_wp2
        go_roundw
        case rel => exact ⟨_, _, _, rfl, rfl, rfl, mAdd_u64 _ _ _, ⟨by omega, by omega⟩, mAdd_u64 _ _ _, by first | exact (hw.more n1).more n2 | exact hw.more (n1 + n2), hn⟩
        case measure => simp [intOf]; omega
      · have hx : (b' % 2 == 1) = false := by simp [h2]
        have hn := DblInv.even hd (by omega) (by omega)
        clear h2
        go_wp2_with (fail)
        refine (radd_c _ _ _ ha' ha' hm _).mono ?_; rintro e w1 ⟨rfl, n2, rfl⟩
        go_wp2
        go_roundw
        case rel => exact ⟨_, _, _, rfl, rfl, rfl, mAdd_u64 _ _ _, ⟨by omega, by omega⟩, ho, hw.more n2, hn⟩
        case measure => simp [intOf]; omega
    · have hfin := DblInv.done hd (by omega)
      go_wp2
      go_ret
      exact ⟨rfl, hw⟩
set_option maxHeartbeats 400000 in
theorem rpow_c (a m : Int) (ha : U64 a) (hm : U64 m) : ∀ (n : Nat) (e : Nat), e ≤ n → e < 18446744073709551616 → ∀ w : World,
    Calls Tryd.prog 116 #[.int .u64 a, .int .u64 (e : Int), .int .u64 m] w fun en w' => en = .returned (.int .u64 (mPow a e m)) ∧ Dr w w' := by
  intro n
  induction n with
  | zero =>
    intro e he _ w
    obtain rfl : e = 0 := by omega
    go_enter Tryd.func116, Tryd.ntmps116
    go_wp2_with (fail)
    refine (radd_c _ _ _ ⟨by omega, by omega⟩ ⟨by omega, by omega⟩ hm _).mono ?_; rintro e w1 ⟨rfl, n2, rfl⟩
    go_wp2
    go_ret
    exact ⟨ret_int (mPow_zero a m).symm, _, rfl⟩
  | succ n ih =>
    intro e he hlt w
    by_cases h0 : e = 0
    · subst h0
      exact ih 0 (by omega) (by omega) w
    have ih' := hid (ih (e / 2) (by omega) (by omega))
    clear ih
    have hz : ((e : Int) == 0) = false := by simp; omega
    have hh : (e : Int) / 2 = ((e / 2 : Nat) : Int) := by omega
    obtain ⟨k, hk⟩ : ∃ k, e / 2 = k := ⟨_, rfl⟩
    rw [hk] at ih' hh
    have hhalf := mPow_u64 a k m
    by_cases h2 : e % 2 = 1
    · have hx : ((e : Int) % 2 == 1) = true := by simp; omega
      have hfin : mPow a e m = mMul (mMul (mPow a k m) (mPow a k m) m) a m := by rw [← mPow_odd, show 2 * k + 1 = e by omega]
      have HF := hid hfin
      clear hfin hk h2 h0
      go_enter Tryd.func116, Tryd.ntmps116
      go_wp2_with (fail)
      refine (ih'.out _).mono ?_; rintro e1 w1 ⟨rfl, hw1⟩
      go_wp2_with (fail)
      refine (rmul_c _ _ _ hhalf hhalf hm _).mono ?_; rintro e1 w2 ⟨rfl, hw2⟩
      go_wp2_with (fail)
      refine (rmul_c _ _ _ (mMul_u64 _ _ _) ha hm _).mono ?_; rintro e1 w3 ⟨rfl, hw3⟩
      go_wp2
      go_ret
      exact ⟨ret_int HF.out.symm, (hw1.trans hw2).trans hw3⟩
    · have hx : ((e : Int) % 2 == 1) = false := by simp; omega
      have hfin : mPow a e m = mMul (mPow a k m) (mPow a k m) m := by rw [← mPow_even, show 2 * k = e by omega]
      have HF := hid hfin
      clear hfin hk h2 h0
      go_enter Tryd.func116, Tryd.ntmps116
      go_wp2_with (fail)
      refine (ih'.out _).mono ?_; rintro e1 w1 ⟨rfl, hw1⟩
      go_wp2_with (fail)
      refine (rmul_c _ _ _ hhalf hhalf hm _).mono ?_; rintro e1 w2 ⟨rfl, hw2⟩
      go_wp2
      go_ret
      exact ⟨ret_int HF.out.symm, hw1.trans hw2⟩
end Go.Proofs.YtlbhmoiicbhgkaaDoor
end

section
namespace Go.Proofs.YtlbhmoiicbhgkaaDoor
open Go.RowKit
/-- m is no modulus: two ways. -/
theorem okm_ways {m : Int} (h : ¬ okm m = true) (h0 : 0 ≤ m) : m = 0 ∨ (2305843009213693952 < m ∧ (m == 0) = false) := by
  have := okm_not (by simpa using h) h0
  rcases this with h | h
  · exact .inl h
  · exact .inr ⟨h, by simp; omega⟩
end Go.Proofs.YtlbhmoiicbhgkaaDoor
end

section
namespace Go.Proofs.YtlbhmoiicbhgkaaDoor
end Go.Proofs.YtlbhmoiicbhgkaaDoor
end

section
namespace Go.Proofs.YtlbhmoiicbhgkaaDoor
open Go.RowKit
set_option maxHeartbeats 400000 in
theorem reval_c (A : Option Addr) (l : List Int) (c : Nat) (x q : Int) (w : World) (hA : Cells w A (l.map (.int .u64))) (hl : l.length ≤ 9223372036854775807) (hu : ∀ z ∈ l, U64 z) (hx : U64 x) (hq : U64 q) :
    Calls Tryd.prog 97 #[.slice A l.length c, .int .u64 x, .int .u64 q] w fun e w' => e = .returned (.int .u64 (mEval l x q)) ∧ Dr w w' := by
  go_enter Tryd.func97, Tryd.ntmps97
  go_wp2
  go_loopw [7, 8] (fun o i wr => ∃ k : Nat, i = .int .i64 k ∧ k ≤ l.length ∧ o = .int .u64 (mEval (l.take k) x q) ∧ Dr w wr) (fun _ i _ => l.length - (intOf i).toNat)
  case atStart => exact ⟨0, rfl, by omega, by rw [List.take_zero, mEval_nil], Dr.refl w⟩
  case round =>
    obtain ⟨k, rfl, hk, rfl, hw⟩ := hrel
    by_cases hlt : k < l.length
    · obtain ⟨z, hz⟩ := get_of_lt hlt
      obtain ⟨b, off, rfl, hc⟩ := (hA.dr hw).at_map hz
      have huz := hu z (List.mem_of_getElem? hz)
      have hstep := mEval_take hz x q
      have hm := mEval_u64 (l.take k) x q
      obtain ⟨v, hv⟩ : ∃ v, mEval (l.take k) x q = v := ⟨_, rfl⟩
      rw [hv] at hstep hm ⊢
      have hcv : IntKind.u64.wrap (k : Int) = (k : Int) := by rw [IntKind.wrap_u64]; omega
      have HS := hid hstep
      clear hstep hv
      go_wp2
      go_quiet (first | (go_at_call 116; exact quiet_dr (rpow_c _ _ hx hq k k (Nat.le_refl _) (by omega) _)) | (go_at_call 51; exact quiet_dr (rmul_c _ _ _ huz (mPow_u64 _ _ _) hq _)) | (go_at_call 52; exact quiet_dr (radd_c _ _ _ hm (mMul_u64 _ _ _) hq _)))
      go_wp2
      go_roundw
      case rel => exact ⟨k + 1, by go_num, by omega, by rw [HS.out], hw.more _⟩
      case measure => simp [intOf]; omega
    · obtain rfl : k = l.length := by omega
      go_wp2
      go_ret
      exact ⟨ret_int (by rw [List.take_length]), hw⟩
end Go.Proofs.YtlbhmoiicbhgkaaDoor
end

section
namespace Go.Proofs.YtlbhmoiicbhgkaaDoor
open Go.RowKit
def Words (f : List (List Int)) : Prop := ∀ l ∈ f, U64s l
theorem Words.at_ {f : List (List Int)} (h : Words f) {k : Nat} {l : List Int} (hk : f[k]? = some l) : U64s l := h l (List.mem_of_getElem? hk)
end Go.Proofs.YtlbhmoiicbhgkaaDoor
end

section
section
namespace Go.Proofs.YtlbhmoiicbhgkaaDoor
open Go.RowKit
attribute [local go_sem] Oper.semAt_some
set_option maxHeartbeats 400000 in
theorem rmay3_c (m : Int) (hm : U64 m) (w : World) :
    Calls Tryd.prog 123 #[.int .u64 m] w fun e w' => e = .returned (.bool (okm m)) ∧ w = w' := by
  obtain ⟨h0, h1⟩ := hm
  by_cases h : 0 < m
  · go_enter Tryd.func123, Tryd.ntmps123
    go_wp2
    go_ret
    exact ⟨by simp [okm, h], rfl⟩
  · have hd : decide (0 < m) = false := by simpa using h
    go_enter Tryd.func123, Tryd.ntmps123
    go_wp2
    go_ret
    exact ⟨by simp [okm, hd], rfl⟩
theorem r3at_c (A : Option Addr) (l : List Int) (c i : Nat) (q : Int) (w : World) (hA : Cells w A (l.map (.int .u64))) (_ : l.length ≤ 9223372036854775807) (_ : i ≤ 9223372036854775807) (hu : U64s l) (hq : okm q = true) :
    Calls Tryd.prog 131 #[.slice A l.length c, .int .i64 i, .int .u64 q] w fun e w' => e = .returned (.int .u64 (cAt l i q)) ∧ w = w' := by
  have h0 := okm_pos hq
  have h1 := okm_le hq
  by_cases hin : i < l.length
  · obtain ⟨z, hz⟩ := get_of_lt hin
    obtain ⟨o2, off2, rfl, hcz⟩ := hA.at_map hz
    obtain ⟨z0, z1⟩ := hu.at_ hz
    have he := hid (cAt_in hz q)
    have hm0 := Int.emod_nonneg z (b := q) (by omega)
    have hm1 := Int.emod_lt_of_pos z h0
    clear hz
    go_enter Tryd.func131, Tryd.ntmps131
    go_wp2
    go_ret
    exact ⟨ret_int he.out.symm, rfl⟩
  · have he := hid (cAt_out (l := l) (i := i) (by omega) q)
    go_enter Tryd.func131, Tryd.ntmps131
    go_wp2
    go_ret
    exact ⟨ret_int he.out.symm, rfl⟩
set_option maxHeartbeats 1000000 in
theorem rscale_c (A : Option Addr) (a : List Int) (c : Nat) (k q : Int) (w : World) (hA : Cells w A (a.map (.int .u64))) (hl : a.length ≤ 17592186044416) (hu : U64s a) (hk : U64 k) (hq : U64 q) :
    Calls Tryd.prog 126 #[.slice A a.length c, .int .u64 k, .int .u64 q] w (NewNums (pScale a k q) w) := by
  by_cases h : okm q = true
  · have hps : Hid (pScale a k q = a.map fun c => mMul c k q) := hid (by unfold pScale; rw [if_pos h])
    go_enter Tryd.func126, Tryd.ntmps126
    go_wp2
    go_loopw [7, 8] (fun o i wr => ∃ j : Nat, i = .int .i64 j ∧ j ≤ a.length ∧ Own wr w.heap.size 24 o (((a.map fun c => mMul c k q).take j).map (.int .u64)) ∧ Below w.heap.size w wr) (fun _ i _ => a.length - (intOf i).toNat)
    case atStart => exact ⟨0, rfl, by omega, by simpa using Own.nil w w.heap.size 24, Below.refl _ _⟩
    case round =>
      obtain ⟨j, rfl, hj, hown, hb⟩ := hrel
      by_cases hlt : j < a.length
      · obtain ⟨z, hz⟩ := get_of_lt hlt
        obtain ⟨o2, off2, rfl, hcz⟩ := (hA.keep fun p hp => hb.cell hp).at_map hz
        have huz := hu.at_ hz
        have hz2 : (a.map fun c => mMul c k q)[j]? = some (mMul z k q) := by rw [List.getElem?_map, hz]; rfl
        have hs : ((a.map fun c => mMul c k q).take j).map (Value.int .u64) ++ [Value.int .u64 (mMul z k q)] = ((a.map fun c => mMul c k q).take (j + 1)).map (Value.int .u64) := by
          rw [take_snoc' hz2]; simp
        have hlen : (((a.map fun c => mMul c k q).take j).map (Value.int .u64)).length = j := by simp; omega
        have HS := hid (⟨hs, hlen⟩ : _ ∧ _)
        clear hz hz2 hs hlen
        go_wp2_with (first | (go_at_call 123; refine (rmay3_c _ hq _).mono ?_; rintro e w' ⟨rfl, rfl⟩; rw [h]) | (go_at_call 51; refine (rmul_c _ _ _ huz hk hq _).mono ?_; rintro e w2 ⟨rfl, hw2⟩) | (at_builtin; refine wpList_push elt_u64 _ rfl _ _ rfl w.heap.size (hown.dr hw2) rfl (.int .u64 (mMul z k q)) rfl rfl (by rw [HS.out.2]; omega) (by rw [HS.out.2]; omega) (by have := hb.size; rw [hw2.size]; omega) ?_; intro v' w3 hown5 _ hb5))
        go_roundw
        case rel =>
          rw [HS.out.1] at hown5
          exact ⟨j + 1, by go_num, by omega, hown5, (below_dr hb hw2).trans hb5⟩
        case measure => simp [intOf]; omega
      · obtain rfl : j = a.length := by omega
        go_wp2_with (go_at_call 123; refine (rmay3_c _ hq _).mono ?_; rintro e w' ⟨rfl, rfl⟩; rw [h])
        go_ret
        rw [List.take_of_length_le (by simp)] at hown
        exact ⟨_, rfl, by rw [hps.out]; exact hown, hb⟩
  · have h' : okm q = false := by simpa using h
    go_enter Tryd.func126, Tryd.ntmps126
    go_wp2
    go_loopw [7, 8] (fun o i wr => o = .slice none 0 0 ∧ i = .int .i64 0 ∧ w = wr) (fun _ _ _ => 0)
    case atStart => exact ⟨rfl, rfl, rfl⟩
    case round =>
      obtain ⟨rfl, rfl, rfl⟩ := hrel
      go_wp2_with (go_at_call 123; refine (rmay3_c _ hq _).mono ?_; rintro e w' ⟨rfl, rfl⟩; rw [h'])
      go_ret
      have : pScale a k q = [] := by unfold pScale; rw [if_neg h]
      rw [this]
      exact ⟨_, rfl, Own.nil _ _ _, Below.refl _ _⟩
end Go.Proofs.YtlbhmoiicbhgkaaDoor
end
section
namespace Go.Proofs.YtlbhmoiicbhgkaaDoor
open Go.RowKit
attribute [local go_sem] Oper.semAt_some
set_option maxRecDepth 100000 in
set_option maxHeartbeats 2000000 in
theorem rsum_c (A B : Option Addr) (a b : List Int) (c d : Nat) (q : Int) (w : World) (hA : Cells w A (a.map (.int .u64))) (hB : Cells w B (b.map (.int .u64))) (hl : a.length ≤ 1000000) (hl' : b.length ≤ 1000000) (hu : U64s a) (hu' : U64s b) (hq : U64 q) :
    Calls Tryd.prog 125 #[.slice A a.length c, .slice B b.length d, .int .u64 q] w (NewNums (pSum a b q) w) := by
  by_cases h : okm q = true
  · have hps : Hid (pSum a b q = sumL a b q) := hid (by unfold pSum; rw [if_pos h])
    have hlen := sumL_len a b q
    obtain ⟨n, hn⟩ : ∃ n, max a.length b.length = n := ⟨_, rfl⟩
    have hat : ∀ i, i < n → (sumL a b q)[i]? = some (mAdd (cAt a i q) (cAt b i q) q) := fun i hi => sumL_at a b q (by omega)
    have hnl : n ≤ 1000000 := by omega
    rw [hn] at hlen
    have HS := hid (⟨hlen, hat⟩ : _ ∧ _)
    generalize sumL a b q = s at *
    clear hat hlen
    go_enter Tryd.func125, Tryd.ntmps125
    go_wp2
    go_loopw [7, 8] (fun o i wr => ∃ j : Nat, i = .int .i64 j ∧ j ≤ n ∧ Own wr w.heap.size 24 o ((s.take j).map (.int .u64)) ∧ Below w.heap.size w wr) (fun _ i _ => n - (intOf i).toNat)
    case atStart => exact ⟨0, rfl, by omega, by simpa using Own.nil w w.heap.size 24, Below.refl _ _⟩
    case round =>
      obtain ⟨j, rfl, hj, hown, hb⟩ := hrel
      by_cases hlt : j < n
      · have hz2 := HS.out.2 j hlt
        have hs : (s.take j).map (Value.int .u64) ++ [Value.int .u64 (mAdd (cAt a j q) (cAt b j q) q)] = (s.take (j + 1)).map (Value.int .u64) := by
          rw [take_snoc' hz2]; simp
        have hlen : ((s.take j).map (Value.int .u64)).length = j := by have := HS.out.1; simp; omega
        have HT := hid (⟨hs, hlen⟩ : _ ∧ _)
        have hA3 := hA.keep fun p hp => hb.cell hp
        have hB3 := hB.keep fun p hp => hb.cell hp
        clear hs hlen hz2
        have hor : j < a.length ∨ (¬ j < a.length ∧ j < b.length) := by omega
        rcases hor with hja | ⟨hja, hjb⟩
        all_goals
          go_wp2_with (first | (go_at_call 123; refine (rmay3_c _ hq _).mono ?_; rintro e w' ⟨rfl, rfl⟩; rw [h]) | (go_at_call 52; refine (radd_c _ _ _ (cAt_u64 a j h) (cAt_u64 b j h) hq _).mono ?_; rintro e w2 ⟨rfl, hw2⟩) | (at_builtin; refine wpList_push elt_u64 _ rfl _ _ rfl w.heap.size (hown.dr hw2) rfl (.int .u64 (mAdd (cAt a j q) (cAt b j q) q)) rfl rfl (by rw [HT.out.2]; omega) (by rw [HT.out.2]; omega) (by have := hb.size; have := Dr.size hw2; omega) ?_; intro v' w3 hown5 _ hb5))
          refine (r3at_c A a c j q _ hA3 (by omega) (by omega) hu h).mono ?_
          rintro e w5 ⟨rfl, rfl⟩
          go_wp2_with (fail)
          refine (r3at_c B b d j q _ hB3 (by omega) (by omega) hu' h).mono ?_
          rintro e w5 ⟨rfl, rfl⟩
          go_wp2_with (first | (go_at_call 52; refine (radd_c _ _ _ (cAt_u64 a j h) (cAt_u64 b j h) hq _).mono ?_; rintro e w2 ⟨rfl, hw2⟩) | (at_builtin; refine wpList_push elt_u64 _ rfl _ _ rfl w.heap.size (hown.dr hw2) rfl (.int .u64 (mAdd (cAt a j q) (cAt b j q) q)) rfl rfl (by rw [HT.out.2]; omega) (by rw [HT.out.2]; omega) (by have := hb.size; have := Dr.size hw2; omega) ?_; intro v' w3 hown5 _ hb5))
          go_roundw
          case rel =>
            rw [HT.out.1] at hown5
            exact ⟨j + 1, by go_num, by omega, hown5, (below_dr hb hw2).trans hb5⟩
          case measure => simp [intOf]; omega
      · obtain rfl : j = n := by omega
        have h1 : ¬ j < a.length := by omega
        have h2 : ¬ j < b.length := by omega
        go_wp2_with (go_at_call 123; refine (rmay3_c _ hq _).mono ?_; rintro e w' ⟨rfl, rfl⟩; rw [h])
        go_ret
        rw [List.take_of_length_le (by rw [HS.out.1]; exact Nat.le_refl _)] at hown
        exact ⟨_, rfl, by rw [hps.out]; exact hown, hb⟩
  · have h' : okm q = false := by simpa using h
    go_enter Tryd.func125, Tryd.ntmps125
    go_wp2
    go_loopw [7, 8] (fun o i wr => o = .slice none 0 0 ∧ i = .int .i64 0 ∧ w = wr) (fun _ _ _ => 0)
    case atStart => exact ⟨rfl, rfl, rfl⟩
    case round =>
      obtain ⟨rfl, rfl, rfl⟩ := hrel
      go_wp2_with (go_at_call 123; refine (rmay3_c _ hq _).mono ?_; rintro e w' ⟨rfl, rfl⟩; rw [h'])
      go_ret
      have : pSum a b q = [] := by unfold pSum; rw [if_neg h]
      rw [this]
      exact ⟨_, rfl, Own.nil _ _ _, Below.refl _ _⟩
end Go.Proofs.YtlbhmoiicbhgkaaDoor
end
section
namespace Go.Proofs.YtlbhmoiicbhgkaaDoor
open Go.RowKit
attribute [local go_sem] Oper.semAt_some
end Go.Proofs.YtlbhmoiicbhgkaaDoor
end
section
namespace Go.Proofs.YtlbhmoiicbhgkaaDoor
open Go.RowKit
attribute [local go_sem] Oper.semAt_some
theorem timesP_atR (a b : List Int) (q : Int) {n : Nat} (h : n < a.length + b.length - 1) : (timesP a b q)[n]? = some (tAt a b q n (n + 1)) := by
  unfold timesP; rw [List.getElem?_map, List.getElem?_range h]; rfl
set_option maxRecDepth 100000 in
set_option maxHeartbeats 4000000 in
theorem rtimes_c (A B : Option Addr) (a b : List Int) (c d : Nat) (q : Int) (w : World) (hA : Cells w A (a.map (.int .u64))) (hB : Cells w B (b.map (.int .u64))) (hl : a.length ≤ 1000000) (hl' : b.length ≤ 1000000) (hu : U64s a) (hu' : U64s b) (hq : U64 q) :
    Calls Tryd.prog 127 #[.slice A a.length c, .slice B b.length d, .int .u64 q] w (NewNums (pTimes a b q) w) := by
  by_cases hall : okm q = true ∧ 0 < a.length ∧ 0 < b.length
  · obtain ⟨h, ha, hb⟩ := hall
    have hps : Hid (pTimes a b q = timesP a b q) := hid (by unfold pTimes; rw [if_pos ⟨h, ha, hb⟩])
    have hlen : (timesP a b q).length = a.length + b.length - 1 := by simp [timesP]
    have HL := hid hlen
    clear hlen
    go_enter Tryd.func127, Tryd.ntmps127
    go_wp2
    go_loopw [7, 8, 9, 10] (fun o i _ _ wr => ∃ j : Nat, i = .int .i64 j ∧ j ≤ a.length + b.length - 1 ∧ Own wr w.heap.size 24 o (((timesP a b q).take j).map (.int .u64)) ∧ Below w.heap.size w wr) (fun _ i _ _ _ => a.length + b.length - (intOf i).toNat)
    case atStart => exact ⟨0, rfl, by omega, by simpa using Own.nil w w.heap.size 24, Below.refl _ _⟩
    case round =>
      obtain ⟨n, rfl, hn, hown, hbw⟩ := hrel
      by_cases hlt : n < a.length + b.length - 1
      · have hat := timesP_atR a b q hlt
        have hs : ((timesP a b q).take n).map (Value.int .u64) ++ [Value.int .u64 (tAt a b q n (n + 1))] = ((timesP a b q).take (n + 1)).map (Value.int .u64) := by
          rw [take_snoc' hat]; simp
        have hlen2 : (((timesP a b q).take n).map (Value.int .u64)).length = n := by have := HL.out; simp; omega
        have hlti : (n : Int) < (a.length : Int) + (b.length : Int) - 1 := by omega
        have HT := hid (⟨hs, hlen2⟩ : _ ∧ _)
        clear hat hs hlen2
        go_wp2_with (go_at_call 123; refine (rmay3_c _ hq _).mono ?_; rintro e w' ⟨rfl, rfl⟩; rw [h])
        generalize wr = wo at *
        go_loopw [9, 10] (fun s i w4 => ∃ k : Nat, i = .int .i64 k ∧ k ≤ n + 1 ∧ s = .int .u64 (tAt a b q n k) ∧ Dr wo w4) (fun _ i _ => n + 1 - (intOf i).toNat)
        case atStart => exact ⟨0, rfl, by omega, rfl, Dr.refl _⟩
        case round =>
          obtain ⟨i, rfl, hi, rfl, hw⟩ := hrel
          rename_i wr
          have hbw2 := below_dr hbw hw
          by_cases hlt2 : i ≤ n
          · obtain ⟨e, he⟩ : ∃ e, n = i + e := ⟨n - i, by omega⟩
            have hj' : (n : Int) - (i : Int) = (e : Int) := by omega
            have hsu := tAt_u64 a b q n i
            by_cases hia : i < a.length
            · by_cases heb : e < b.length
              · obtain ⟨x, hx⟩ := get_of_lt hia
                obtain ⟨y, hy⟩ := get_of_lt heb
                have hst := tAt_step (q := q) hlt2 hx (show b[n - i]? = some y by rw [show n - i = e by omega]; exact hy)
                obtain ⟨o1, off1, rfl, hcx⟩ := (hA.keep fun p hp => hbw2.cell hp).at_map hx
                obtain ⟨o2, off2, rfl, hcy⟩ := (hB.keep fun p hp => hbw2.cell hp).at_map hy
                have hux := hu.at_ hx
                have huy := hu'.at_ hy
                have HST := hid hst
                generalize tAt a b q n i = v at *
                clear hx hy hst
                have HE := hid he
                clear he
                go_wp2
                go_quiet (first | (go_at_call 51; exact quiet_dr (rmul_c _ _ _ hux huy hq _)) | (go_at_call 52; exact quiet_dr (radd_c _ _ _ hsu (mMul_u64 _ _ _) hq _)))
                go_wp2
                go_roundw
                case rel => exact ⟨i + 1, by go_num, by omega, by rw [HST.out], hw.more _⟩
                case measure => simp [intOf]; omega
              · have hst := tAt_same (a := a) (b := b) (q := q) (n := n) (i := i) (by omega)
                go_wp2
                go_roundw
                case rel => exact ⟨i + 1, by go_num, by omega, by rw [hst], hw⟩
                case measure => simp [intOf]; omega
            · have hst := tAt_same (a := a) (b := b) (q := q) (n := n) (i := i) (by omega)
              go_wp2
              go_roundw
              case rel => exact ⟨i + 1, by go_num, by omega, by rw [hst], hw⟩
              case measure => simp [intOf]; omega
          · obtain rfl : i = n + 1 := by omega
            go_wp2_with (at_builtin; refine wpList_push elt_u64 _ rfl _ _ rfl w.heap.size (hown.dr hw) rfl (.int .u64 (tAt a b q n (n + 1))) rfl rfl (by rw [HT.out.2]; omega) (by rw [HT.out.2]; omega) (by have := hbw2.size; omega) ?_; intro v' w3 hown5 _ hb5)
            go_roundw
            case rel =>
              rw [HT.out.1] at hown5
              exact ⟨n + 1, by go_num, by omega, hown5, hbw2.trans hb5⟩
            case measure => simp [intOf]; omega
      · obtain rfl : n = a.length + b.length - 1 := by omega
        have hlti : ¬ ((a.length + b.length - 1 : Nat) : Int) < (a.length : Int) + (b.length : Int) - 1 := by omega
        go_wp2_with (go_at_call 123; refine (rmay3_c _ hq _).mono ?_; rintro e w' ⟨rfl, rfl⟩; rw [h])
        go_ret
        rw [List.take_of_length_le (by rw [HL.out]; exact Nat.le_refl _)] at hown
        exact ⟨_, rfl, by rw [hps.out]; exact hown, hbw⟩
  · have hps : pTimes a b q = [] := by unfold pTimes; rw [if_neg hall]
    rw [hps]
    go_enter Tryd.func127, Tryd.ntmps127
    go_wp2
    go_loopw [7, 8, 9, 10] (fun o i _ _ wr => o = .slice none 0 0 ∧ i = .int .i64 0 ∧ w = wr) (fun _ _ _ _ _ => 0)
    case atStart => exact ⟨rfl, rfl, rfl⟩
    case round =>
      obtain ⟨rfl, rfl, rfl⟩ := hrel
      cases h : okm q with
      | false =>
        go_wp2_with (go_at_call 123; refine (rmay3_c _ hq _).mono ?_; rintro e w' ⟨rfl, rfl⟩; rw [h])
        go_ret
        exact ⟨_, rfl, Own.nil _ _ _, Below.refl _ _⟩
      | true =>
        have hz : ¬ 0 < a.length ∨ (0 < a.length ∧ ¬ 0 < b.length) := by
          rcases Nat.eq_zero_or_pos a.length with h1 | h1
          · exact .inl (by omega)
          · exact .inr ⟨h1, fun h2 => hall ⟨h, h1, h2⟩⟩
        clear hall
        rcases hz with h1 | ⟨h1, h2⟩
        all_goals
          go_wp2_with (go_at_call 123; refine (rmay3_c _ hq _).mono ?_; rintro e w' ⟨rfl, rfl⟩; rw [h])
          go_ret
          exact ⟨_, rfl, Own.nil _ _ _, Below.refl _ _⟩
end Go.Proofs.YtlbhmoiicbhgkaaDoor
end
section
namespace Go.Proofs.YtlbhmoiicbhgkaaDoor
open Go.RowKit
attribute [local go_sem] Oper.semAt_some
end Go.Proofs.YtlbhmoiicbhgkaaDoor
end
section
namespace Go.Proofs.YtlbhmoiicbhgkaaDoor
open Go.RowKit
attribute [local go_sem] Oper.semAt_some
end Go.Proofs.YtlbhmoiicbhgkaaDoor
end
end

section
section
namespace Go.Proofs.YtlbhmoiicbhgkaaDoor
open Go.RowKit
attribute [local go_sem] Oper.semAt_some
end Go.Proofs.YtlbhmoiicbhgkaaDoor
end
section
namespace Go.Proofs.YtlbhmoiicbhgkaaDoor
end Go.Proofs.YtlbhmoiicbhgkaaDoor
end
section
namespace Go.Proofs.YtlbhmoiicbhgkaaDoor
end Go.Proofs.YtlbhmoiicbhgkaaDoor
end
end

section
namespace Go.Proofs.YtlbhmoiicbhgkaaDoor
open Go.RowKit Go.Shelf
attribute [local go_sem] Oper.semAt_some
end Go.Proofs.YtlbhmoiicbhgkaaDoor
end

section
namespace Go.Proofs.YtlbhmoiicbhgkaaDoor
open Go.RowKit Go.Shelf
attribute [local go_sem] Oper.semAt_some
section
variable {A : World} {l : Nat} {o : Obj} (o' : Obj)
end
end Go.Proofs.YtlbhmoiicbhgkaaDoor
end

section
section
namespace Go.Proofs.YtlbhmoiicbhgkaaDoor
open Go.RowKit
attribute [local go_sem] Oper.semAt_some
/-- what Euclid tells of two. -/
structure Bo (a b g x y : Int) : Prop where
  eq : a * x + b * y = g
  da : g ∣ a
  db : g ∣ b
  g0 : 0 ≤ g
  g1 : g ≤ a ∨ g ≤ b
  x0 : -(max 1 b) ≤ x
  x1 : x ≤ max 1 b
  y0 : -(max 1 a) ≤ y
  y1 : y ≤ max 1 a
  z : b = 0 → x = 1 ∧ y = 0
  z2 : a = 0 → b ≠ 0 → x = 0
theorem Bo.base {a : Int} (h : 0 ≤ a) : Bo a 0 a 1 0 := ⟨by omega, Int.dvd_refl _, Int.dvd_zero _, h, .inl (Int.le_refl _), by omega, by omega, by omega, by omega, fun _ => ⟨rfl, rfl⟩, fun _ h => absurd rfl h⟩
theorem Bo.step {a b g x y : Int} (ha : 0 ≤ a) (hb : 0 < b) (h : Bo b (a % b) g x y) : Bo a b g y (x - a / b * y) := by
  have f1 := Int.emod_nonneg a (b := b) (by omega)
  have f2 := Int.emod_lt_of_pos a hb
  have f3 := Int.mul_ediv_add_emod a b
  have q0 : 0 ≤ a / b := Int.ediv_nonneg ha (by omega)
  obtain ⟨heq, hda, hdb, hg0, hg1, hx0, hx1, hy0, hy1, hz, hz2⟩ := h
  generalize a / b = t at *
  generalize a % b = r at *
  have hy0' : -b ≤ y := by omega
  have hy1' : y ≤ b := by omega
  have m1 := Int.mul_le_mul_of_nonneg_left hy1' q0
  have m2 := Int.mul_le_mul_of_nonneg_left hy0' q0
  have e1 : t * b = b * t := Int.mul_comm _ _
  have e2 : t * -b = -(b * t) := by grind
  rw [e1] at m1
  rw [e2] at m2
  refine ⟨?_, ?_, hda, hg0, ?_, by omega, by omega, ?_, ?_, fun h => by omega, fun h0 _ => ?_⟩
  · rw [← f3]; rw [← heq]; grind
  · rw [← f3]; exact Int.dvd_add (Int.dvd_trans hda (Int.dvd_mul_right _ _)) hdb
  · exact .inr (by omega)
  · by_cases hr : r = 0
    · obtain ⟨rfl, rfl⟩ := hz hr; omega
    · omega
  · by_cases hr : r = 0
    · obtain ⟨rfl, rfl⟩ := hz hr; omega
    · omega
  · have hr : r = 0 := by
      have : 0 ≤ b * t := Int.mul_nonneg (by omega) q0
      omega
    exact (hz hr).2
theorem Bo.wrap {a b g x y : Int} (ha : 0 ≤ a) (hb : 0 < b) (h : Bo b (a % b) g x y) (la : a ≤ 2305843009213693952) (lb : b ≤ 2305843009213693952) : -2305843009213693953 ≤ a / b * y ∧ a / b * y ≤ 2305843009213693953 := by
  have f1 := Int.emod_nonneg a (b := b) (by omega)
  have f3 := Int.mul_ediv_add_emod a b
  have q0 : 0 ≤ a / b := Int.ediv_nonneg ha (by omega)
  obtain ⟨_, _, _, _, _, _, _, hy0, hy1, _, _⟩ := h
  generalize a / b = t at *
  generalize a % b = r at *
  have hy0' : -b ≤ y := by omega
  have hy1' : y ≤ b := by omega
  have m1 := Int.mul_le_mul_of_nonneg_left hy1' q0
  have m2 := Int.mul_le_mul_of_nonneg_left hy0' q0
  have e1 : t * b = b * t := Int.mul_comm _ _
  have e2 : t * -b = -(b * t) := by grind
  rw [e1] at m1
  rw [e2] at m2
  omega
def BothE (a b : Int) (w : World) (e : Ending) (w' : World) : Prop := ∃ g x y, e = .returned (.tuple #[.int .i64 g, .int .i64 x, .int .i64 y]) ∧ Bo a b g x y ∧ Dr w w'
set_option maxRecDepth 100000 in
set_option maxHeartbeats 2000000 in
theorem both_c : ∀ (n : Nat) (a b : Int) (w : World), 0 ≤ a → a ≤ 2305843009213693952 → 0 ≤ b → b ≤ 2305843009213693952 → b < n →
    Calls Tryd.prog 85 #[.int .i64 a, .int .i64 b] w (BothE a b w)
  | 0, _, _, _, _, _, h, _, h' => by omega
  | n + 1, a, b, w, ha, la, hb, lb, hn => by
    by_cases hz : b = 0
    · subst hz
      go_enter Tryd.func85, Tryd.ntmps85
      go_wp2
      go_ret3
      exact ⟨_, _, _, rfl, Bo.base ha, Dr.refl _⟩
    · have hp : 0 < b := by omega
      have hbz : (b == 0) = false := beq_eq_false_iff_ne.2 hz
      have f1 := Int.emod_nonneg a (b := b) (by omega)
      have f2 := Int.emod_lt_of_pos a hp
      have f4 : 0 ≤ a / b := Int.ediv_nonneg ha (by omega)
      have f5 : a / b ≤ a := Int.ediv_le_self _ ha
      go_enter Tryd.func85, Tryd.ntmps85
      go_wp2_with (fail)
      refine (both_c n b (a % b) _ (by omega) lb f1 (by omega) (by omega)).mono ?_
      rintro e w2 ⟨g, x, y, rfl, hB, hw2⟩
      have hS := hid (hB.step ha hp)
      have hW := hB.wrap ha hp la lb
      have x0 := hB.x0
      have x1 := hB.x1
      have hwr1 : IntKind.i64.wrap (a / b * y) = a / b * y := Go.IntWalk.i64_in _ (by omega)
      have hwr2 : IntKind.i64.wrap (x - a / b * y) = x - a / b * y := Go.IntWalk.i64_in _ (by omega)
      have htd : a.tdiv b = a / b := Int.tdiv_eq_ediv_of_nonneg ha
      clear hB
      go_wp2
      go_quiet (fail)
      go_wp2
      go_ret3
      exact ⟨_, _, _, rfl, hS.out, hw2.more _⟩
theorem inv_hi {a m g x y : Int} (h : okm m = true) (hB : Bo (a % m) m g x y) (hg : g = 1) (_hx : 0 ≤ x) : InvIs a m (x % m) := by
  have h0 := okm_pos h
  refine ⟨Int.emod_nonneg _ (by omega), Int.emod_lt_of_pos _ h0, ?_⟩
  have heq := hB.eq
  have e1 := Int.emod_def x m
  have e2 := Int.emod_def a m
  rw [e2] at heq
  rw [e1]
  generalize x / m = u at *
  generalize a / m = v at *
  exact ⟨v * x - y - u * a, by grind⟩
theorem inv_lo {a m g x y : Int} (h : okm m = true) (hB : Bo (a % m) m g x y) (hg : g = 1) (hx : x < 0) : InvIs a m (m - (-x) % m) := by
  have h0 := okm_pos h
  have heq := hB.eq
  have f1 := Int.emod_nonneg (-x) (b := m) (by omega)
  have f2 := Int.emod_lt_of_pos (-x) h0
  have hne : (-x) % m ≠ 0 := by
    intro hz
    have hd : m ∣ x := by
      have : m ∣ -x := Int.dvd_of_emod_eq_zero hz
      exact (Int.dvd_neg).1 this
    have h1 : m ∣ 1 := by
      rw [← hg, ← heq]
      exact Int.dvd_add (Int.dvd_trans hd (Int.dvd_mul_left _ _)) (Int.dvd_mul_right _ _)
    have h2 := Int.le_of_dvd (by decide) h1
    obtain rfl : m = 1 := by omega
    have := hB.z2 (by omega) (by decide)
    omega
  refine ⟨by omega, by omega, ?_⟩
  have e1 := Int.emod_def (-x) m
  have e2 := Int.emod_def a m
  rw [e2] at heq
  rw [e1]
  generalize -x / m = u at *
  generalize a / m = v at *
  exact ⟨v * x - y + a + u * a, by grind⟩
theorem inv_none {a m g x y : Int} (hB : Bo (a % m) m g x y) (hg : g ≠ 1) : ¬ ∃ z, InvIs a m z := by
  rintro ⟨z, _, _, k, hk⟩
  have h1 := hB.db
  have h2 : g ∣ a := by
    rw [← Int.mul_ediv_add_emod a m]
    exact Int.dvd_add (Int.dvd_trans h1 (Int.dvd_mul_right _ _)) hB.da
  have h3 : g ∣ 1 := by
    have : (1 : Int) = z * a - m * k := by omega
    rw [this]
    exact Int.dvd_sub (Int.dvd_trans h2 (Int.dvd_mul_left _ _)) (Int.dvd_trans h1 (Int.dvd_mul_right _ _))
  have h4 := Int.le_of_dvd (by decide) h3
  have h5 := hB.g0
  rcases Int.lt_or_eq_of_le h5 with h6 | h6
  · omega
  · rw [← h6] at h3
    have := Int.zero_dvd.1 h3
    omega
set_option maxRecDepth 100000 in
set_option maxHeartbeats 2000000 in
theorem rinv_c (a m : Int) (ha : U64 a) (hm : U64 m) (w : World) :
    Calls Tryd.prog 48 #[.int .u64 a, .int .u64 m] w fun e w' => e = .returned (.tuple #[.int .u64 (iVal a m), .int .i64 (iErr a m)]) ∧ Dr w w' := by
  obtain ⟨a0, a1⟩ := ha
  obtain ⟨m0, m1⟩ := hm
  by_cases h : okm m = true
  · have h0 := okm_pos h
    have h1 := okm_le h
    have f1 := Int.emod_nonneg a (b := m) (by omega)
    have f2 := Int.emod_lt_of_pos a h0
    have hmz : (m == 0) = false := beq_eq_false_iff_ne.2 (by omega)
    go_enter Tryd.func48, Tryd.ntmps48
    go_wp2_with (fail)
    refine (both_c (m.toNat + 1) (a % m) m _ f1 (by omega) (by omega) h1 (by omega)).mono ?_
    rintro e w2 ⟨g, x, y, rfl, hB, hw2⟩
    have x0 := hB.x0
    have x1 := hB.x1
    have g0 := hB.g0
    have g1 := hB.g1
    by_cases hg : g = 1
    · by_cases hx : 0 ≤ x
      · have v1 := hid (iVal_is h (inv_hi h hB hg hx))
        have v2 := hid (iErr_is h (inv_hi h hB hg hx))
        clear hB
        subst hg
        go_wp2
        go_ret2
        rw [v1.out, v2.out]
        exact ⟨rfl, hw2⟩
      · have hx' : x < 0 := by omega
        have v1 := hid (iVal_is h (inv_lo h hB hg hx'))
        have v2 := hid (iErr_is h (inv_lo h hB hg hx'))
        have f3 := Int.emod_nonneg (-x) (b := m) (by omega)
        have f4 := Int.emod_lt_of_pos (-x) h0
        have htm : x.tmod m = -((-x) % m) := by
          have e1 := Int.neg_tmod x m
          rw [Int.tmod_eq_emod_of_nonneg (by omega)] at e1
          omega
        have hwr : IntKind.u64.wrap (m + x.tmod m) = m - (-x) % m := by
          rw [htm]; exact (Go.IntWalk.u64_in _ (by omega)).trans (by omega)
        clear htm
        clear hB
        subst hg
        go_wp2
        go_ret2
        rw [v1.out, v2.out]
        exact ⟨rfl, hw2⟩
    · have hn := inv_none hB hg
      have v1 := hid (iVal_none hn)
      have v2 := hid (iErr_none h hn)
      have hbg : (g != 1) = true := bne_iff_ne.2 hg
      clear hB hn
      go_wp2
      go_ret2
      rw [v1.out, v2.out]
      exact ⟨rfl, hw2⟩
  · have h' : okm m = false := by simpa using h
    have v1 := hid (iVal_no (a := a) h')
    have v2 := hid (iErr_no (a := a) h')
    rcases okm_ways h m0 with rfl | ⟨hgt, hmz⟩
    all_goals
      go_enter Tryd.func48, Tryd.ntmps48
      go_wp2
      go_ret2
      rw [v1.out, v2.out]
      exact ⟨rfl, Dr.refl _⟩
end Go.Proofs.YtlbhmoiicbhgkaaDoor
end
section
namespace Go.Proofs.YtlbhmoiicbhgkaaDoor
open Go.RowKit
attribute [local go_sem] Oper.semAt_some
end Go.Proofs.YtlbhmoiicbhgkaaDoor
end
section
namespace Go.Proofs.YtlbhmoiicbhgkaaDoor
open Go.RowKit
attribute [local go_sem] Oper.semAt_some
end Go.Proofs.YtlbhmoiicbhgkaaDoor
end
section
namespace Go.Proofs.YtlbhmoiicbhgkaaDoor
end Go.Proofs.YtlbhmoiicbhgkaaDoor
end
section
namespace Go.Proofs.YtlbhmoiicbhgkaaDoor
open Go.RowKit
attribute [local go_sem] Oper.semAt_some
end Go.Proofs.YtlbhmoiicbhgkaaDoor
end
end

section
namespace Go.Proofs.YtlbhmoiicbhgkaaDoor
open Go.RowKit
attribute [local go_sem] Oper.semAt_some
def seenW (i k j m : Nat) : Prop := j < i ∧ m < j ∨ j = i ∧ m < k
structure Wr (l : List Int) (q : Int) (i k : Nat) (nb : Bool) : Prop where
  bad : nb = true → ¬ Apart l q
  good : nb = false → ∀ j m a b, seenW i k j m → l[j]? = some a → l[m]? = some b → Un (a - b) q
  ne : ∀ j m a b, seenW i k j m → l[j]? = some a → l[m]? = some b → a % q ≠ b % q
theorem Wr.start (l : List Int) (q : Int) : Wr l q 0 0 false := ⟨fun h => by simp at h, fun _ j m a b h => by unfold seenW at h; omega, fun j m a b h => by unfold seenW at h; omega⟩
theorem Wr.row {l : List Int} {q : Int} {i : Nat} {nb : Bool} (h : Wr l q i i nb) : Wr l q (i + 1) 0 nb := by
  refine ⟨h.bad, fun hn j m a b hs => h.good hn j m a b ?_, fun j m a b hs => h.ne j m a b ?_⟩
  all_goals
    unfold seenW at hs ⊢
    omega
theorem sub_zero_iff {a b q : Int} (h : okm q = true) : mSub a b q = 0 ↔ a % q = b % q := by
  rw [mSub_ok h]
  constructor
  · intro hz
    have : a = (a - b) + b := by omega
    rw [this, emod_add_congr (b := 0) (by rw [hz]; simp) rfl, Int.zero_add]
  · intro he
    rw [emod_sub_congr he rfl, Int.sub_self, Int.zero_emod]
theorem Wr.step {l : List Int} {q : Int} {i k : Nat} {nb : Bool} {x z : Int} (hq : okm q = true) (h : Wr l q i k nb) (hki : k < i) (hx : l[i]? = some x) (hz : l[k]? = some z) (hd : mSub x z q ≠ 0) : Wr l q i (k + 1) (nb || decide (¬ iErr (mSub x z q) q = 0)) := by
  have hne : x % q ≠ z % q := fun he => hd ((sub_zero_iff hq).2 he)
  have hun : iErr (mSub x z q) q = 0 ↔ Un (x - z) q := (iErr_zero hq).trans ⟨fun h => h.congr (by rw [mSub_ok hq, Int.emod_emod]), fun h => h.congr (by rw [mSub_ok hq, Int.emod_emod])⟩
  have hil := (List.getElem?_eq_some_iff.1 hx).1
  have hkl := (List.getElem?_eq_some_iff.1 hz).1
  refine ⟨fun hn => ?_, fun hn j m a b hs ha hb => ?_, fun j m a b hs ha hb => ?_⟩
  · simp only [Bool.or_eq_true, decide_eq_true_eq] at hn
    rcases hn with hn | hn
    · exact h.bad hn
    · intro hap
      have h1 := List.pairwise_iff_getElem.1 hap k i hkl hil hki
      obtain ⟨_, rfl⟩ := List.getElem?_eq_some_iff.1 hx
      obtain ⟨_, rfl⟩ := List.getElem?_eq_some_iff.1 hz
      exact hn (hun.2 h1)
  · simp only [Bool.or_eq_false_iff, decide_eq_false_iff_not, Classical.not_not] at hn
    by_cases hjm : j = i ∧ m = k
    · obtain ⟨rfl, rfl⟩ := hjm
      rw [hx] at ha
      rw [hz] at hb
      obtain rfl := Option.some.inj ha
      obtain rfl := Option.some.inj hb
      exact hun.1 hn.2
    · exact h.good hn.1 j m a b (by unfold seenW at hs ⊢; omega) ha hb
  · by_cases hjm : j = i ∧ m = k
    · obtain ⟨rfl, rfl⟩ := hjm
      rw [hx] at ha
      rw [hz] at hb
      obtain rfl := Option.some.inj ha
      obtain rfl := Option.some.inj hb
      exact hne
    · exact h.ne j m a b (by unfold seenW at hs ⊢; omega) ha hb
theorem Wr.nodup {l : List Int} {q : Int} {nb : Bool} (h : Wr l q l.length 0 nb) : (mods l q).Nodup := by
  refine List.pairwise_iff_getElem.2 fun i j hi hj hij => ?_
  simp only [mods, List.length_map] at hi hj
  simp only [mods, List.getElem_map]
  exact (h.ne j i l[j] l[i] (.inl ⟨hj, hij⟩) (List.getElem?_eq_getElem hj) (List.getElem?_eq_getElem hi)).symm
theorem Wr.end_ {l : List Int} {q : Int} {nb : Bool} (hq : okm q = true) (hl : l.length ≤ 1024) (h : Wr l q l.length 0 nb) : eAll l q = if nb then 5 else 0 := by
  have h0 : eUnlike l q = 0 := by unfold eUnlike; rw [if_pos hq, if_pos hl, if_pos h.nodup]
  cases nb with
  | true => exact eAll_no h0 (h.bad rfl)
  | false =>
    refine eAll_yes h0 (List.pairwise_iff_getElem.2 fun i j hi hj hij => ?_)
    exact h.good rfl j i l[j] l[i] (.inl ⟨hj, hij⟩) (List.getElem?_eq_getElem hj) (List.getElem?_eq_getElem hi)
theorem twice_all {l : List Int} {q : Int} (hq : okm q = true) (hl : l.length ≤ 1024) {i k : Nat} {x z : Int} (hki : k < i) (hx : l[i]? = some x) (hz : l[k]? = some z) (hd : mSub x z q = 0) : eAll l q = 6 := by
  have h6 : eUnlike l q = 6 := by
    unfold eUnlike
    rw [if_pos hq, if_pos hl, if_neg]
    intro hn
    obtain ⟨hil, rfl⟩ := List.getElem?_eq_some_iff.1 hx
    obtain ⟨hkl, rfl⟩ := List.getElem?_eq_some_iff.1 hz
    have := List.pairwise_iff_getElem.1 hn k i (by simpa [mods] using hkl) (by simpa [mods] using hil) hki
    simp only [mods, List.getElem_map] at this
    exact this ((sub_zero_iff hq).1 hd).symm
  rw [eAll_bad (by rw [h6]; decide), h6]
set_option maxRecDepth 100000 in
set_option maxHeartbeats 2000000 in
theorem rwrong_c (A : Option Addr) (l : List Int) (c : Nat) (q : Int) (w : World) (hA : Cells w A (l.map (.int .u64))) (hl : l.length ≤ 1000000) (hu : U64s l) (hq : U64 q) :
    Calls Tryd.prog 124 #[.slice A l.length c, .int .u64 q] w fun e w' => e = .returned (.int .i64 (eAll l q)) ∧ Dr w w' := by
  cases hk : okm q with
  | false =>
    have hu1 : eUnlike l q = 1 := by unfold eUnlike; rw [if_neg (by rw [hk]; decide)]
    have HE := hid (show eAll l q = 1 by rw [eAll_bad (by rw [hu1]; decide), hu1])
    clear hu1
    go_enter Tryd.func124, Tryd.ntmps124
    go_wp2_with (go_at_call 123; refine (rmay3_c _ hq _).mono ?_; rintro e w' ⟨rfl, rfl⟩; rw [hk])
    go_ret
    exact ⟨ret_int HE.out.symm, Dr.refl _⟩
  | true =>
    have h0 := okm_pos hk
    have h1 := okm_le hk
    by_cases hbig : l.length ≤ 1024
    · go_enter Tryd.func124, Tryd.ntmps124
      go_wp2_with (go_at_call 123; refine (rmay3_c _ hq _).mono ?_; rintro e w' ⟨rfl, rfl⟩; rw [hk])
      go_loopw [5, 6, 7, 8, 9, 10] (fun n i _ _ _ _ wr => ∃ (k : Nat) (nb : Bool), n = .bool nb ∧ i = .int .i64 k ∧ k ≤ l.length ∧ Hid (Wr l q k 0 nb) ∧ Dr w wr) (fun _ i _ _ _ _ _ => l.length - (intOf i).toNat)
      case atStart => exact ⟨0, false, rfl, rfl, by omega, Wr.start l q, Dr.refl _⟩
      case round =>
        obtain ⟨i, nb, rfl, rfl, hi, hW, hw⟩ := hrel
        by_cases hlt : i < l.length
        · obtain ⟨x, hx⟩ := get_of_lt hlt
          have hux := hu.at_ hx
          have HX := hid hx
          clear hx
          go_wp2
          generalize wr = wo at *
          go_loopw [5, 7, 8, 9, 10] (fun n k _ _ _ wr => ∃ (j : Nat) (nb : Bool), n = .bool nb ∧ k = .int .i64 j ∧ j ≤ i ∧ Hid (Wr l q i j nb) ∧ Dr w wr) (fun _ k _ _ _ _ => i - (intOf k).toNat)
          case atStart => exact ⟨0, nb, rfl, rfl, by omega, hW, hw⟩
          case round =>
            obtain ⟨k, n2, rfl, rfl, hki, hW2, hw2⟩ := hrel
            clear hW
            by_cases hltk : k < i
            · obtain ⟨z, hz⟩ := get_of_lt (l := l) (show k < l.length by omega)
              have huz := hu.at_ hz
              have hkl : k < l.length := by omega
              obtain ⟨o1, off1, rfl, hcx⟩ := (hA.dr hw2).at_map HX.out
              obtain ⟨o2, off2, he2, hcz⟩ := (hA.dr hw2).at_map hz
              simp only [Option.some.injEq, Addr.mk.injEq, and_true] at he2
              obtain ⟨rfl, rfl⟩ := he2
              by_cases hd : mSub x z q = 0
              · have HE := hid (twice_all hk hbig hltk HX.out hz hd)
                clear hz
                go_wp2
                go_quiet ((go_at_call 86; exact quiet_dr (rsub_c _ _ _ hux huz hq _)))
                go_wp2
                go_ret
                exact ⟨ret_int HE.out.symm, hw2.more _⟩
              · have hst := hW2.out.step hk hltk HX.out hz hd
                have hdn : (mSub x z q == 0) = false := beq_eq_false_iff_ne.2 hd
                have hum := mSub_u64 x z q
                obtain ⟨dd, hdd⟩ : ∃ d, mSub x z q = d := ⟨_, rfl⟩
                rw [hdd] at hst hdn hum
                have hsub := fun w => rsub_c x z q hux huz hq w
                rw [hdd] at hsub
                have HSUB := hid hsub
                have HST := hid hst
                clear hz hst hsub hdd hd
                cases n2 with
                | true =>
                  go_wp2
                  go_quiet ((go_at_call 86; exact quiet_dr (HSUB.out _)))
                  go_wp2_with (go_at_call 48; refine (rinv_c _ _ hum hq _).mono ?_; rintro e w5 ⟨rfl, hw5⟩)
                  go_roundw
                  case rel => exact ⟨k + 1, true, rfl, by go_num, by omega, by have := HST.out; rw [Bool.true_or] at this; exact this, (hw2.more _).trans hw5⟩
                  case measure => simp [intOf]; omega
                | false =>
                  by_cases hie : iErr dd q = 0
                  · have hie2 : (iErr dd q != 0) = false := by simp [hie]
                    have HS2 := HST.out
                    rw [Bool.false_or, decide_eq_false (by simpa using hie)] at HS2
                    have HS3 := hid HS2
                    clear HS2 hie
                    go_wp2
                    go_quiet ((go_at_call 86; exact quiet_dr (HSUB.out _)))
                    go_wp2_with (go_at_call 48; refine (rinv_c _ _ hum hq _).mono ?_; rintro e w5 ⟨rfl, hw5⟩)
                    go_roundw
                    case rel => exact ⟨k + 1, false, rfl, by go_num, by omega, HS3, (hw2.more _).trans hw5⟩
                    case measure => simp [intOf]; omega
                  · have hie2 : (iErr dd q != 0) = true := bne_iff_ne.2 hie
                    have HS2 := HST.out
                    rw [Bool.false_or, decide_eq_true (by simpa using hie)] at HS2
                    have HS3 := hid HS2
                    clear HS2 hie
                    go_wp2
                    go_quiet ((go_at_call 86; exact quiet_dr (HSUB.out _)))
                    go_wp2_with (go_at_call 48; refine (rinv_c _ _ hum hq _).mono ?_; rintro e w5 ⟨rfl, hw5⟩)
                    go_roundw
                    case rel => exact ⟨k + 1, true, rfl, by go_num, by omega, HS3, (hw2.more _).trans hw5⟩
                    case measure => simp [intOf]; omega
            · obtain rfl : k = i := by omega
              have HR := hid hW2.out.row
              go_wp2
              go_roundw
              case rel => exact ⟨k + 1, n2, rfl, by go_num, by omega, HR, hw2⟩
              case measure => simp [intOf]; omega
        · obtain rfl : i = l.length := by omega
          have HE := hid (hW.out.end_ hk hbig)
          cases nb with
          | true =>
            have HE2 := HE.out
            rw [if_pos rfl] at HE2
            have HE3 := hid HE2
            clear HE2
            go_wp2
            go_ret
            exact ⟨ret_int HE3.out.symm, hw⟩
          | false =>
            have HE2 := HE.out
            rw [if_neg (by decide)] at HE2
            have HE3 := hid HE2
            clear HE2
            go_wp2
            go_ret
            exact ⟨ret_int HE3.out.symm, hw⟩
    · have hu1 : eUnlike l q = 40 := by unfold eUnlike; rw [if_pos hk, if_neg hbig]
      have HE := hid (show eAll l q = 40 by rw [eAll_bad (by rw [hu1]; decide), hu1])
      clear hu1
      go_enter Tryd.func124, Tryd.ntmps124
      go_wp2_with (go_at_call 123; refine (rmay3_c _ hq _).mono ?_; rintro e w' ⟨rfl, rfl⟩; rw [hk])
      go_ret
      exact ⟨ret_int HE.out.symm, Dr.refl _⟩
end Go.Proofs.YtlbhmoiicbhgkaaDoor
end

section
namespace Go.Proofs.YtlbhmoiicbhgkaaDoor
theorem eAll_apartR {l : List Int} {q : Int} (h : eAll l q = 0) : okm q = true ∧ Apart l q := by
  by_cases h0 : eUnlike l q = 0
  · refine ⟨unlike_okm h0, ?_⟩
    by_cases ha : Apart l q
    · exact ha
    · rw [eAll_no h0 ha] at h; omega
  · rw [eAll_bad h0] at h; exact absurd h h0
end Go.Proofs.YtlbhmoiicbhgkaaDoor
end

section
namespace Go.Proofs.YtlbhmoiicbhgkaaDoor
open Go.RowKit
attribute [local go_sem] Oper.semAt_some
theorem rOut_u64 (xs ys : List Int) (q : Int) : ∀ k, U64s (rOut xs ys q k)
  | 0 => fun z hz => by cases hz
  | k + 1 => pSum_u64 _ _ _
theorem rOut_step {xs ys : List Int} {k : Nat} {x y : Int} (h : xs[k]? = some x) (h' : ys[k]? = some y) (q : Int) : rOut xs ys q (k + 1) = pSum (rOut xs ys q k) (pScale (pAll (xs.take k) q) (mMul (mSub y (mEval (rOut xs ys q k) x q) q) (iVal (mEval (pAll (xs.take k) q) x q) q) q) q) q := by
  rw [rOut, List.getD_eq_getElem?_getD, List.getD_eq_getElem?_getD, h, h']; rfl
theorem pAll_zero {q : Int} (h : okm q = true) : pAll ([] : List Int) q = [mAdd 1 0 q] := by
  unfold pAll; rw [mAdd_ok h]; rfl
set_option maxRecDepth 100000 in
set_option maxHeartbeats 2000000 in
theorem refthrough_c (A B : Option Addr) (l m : List Int) (c d : Nat) (q : Int) (w : World) (hA : Cells w A (l.map (.int .u64))) (hB : Cells w B (m.map (.int .u64))) (hl : l.length ≤ 100000) (_hl' : m.length ≤ 100000) (hu : U64s l) (hu' : U64s m) (hq : U64 q) :
    Calls Tryd.prog 117 #[.slice A l.length c, .slice B m.length d, .int .u64 q] w (NewTwo (tVal l m q) (tErr l m q) w) := by
  by_cases hlm : l.length = m.length
  · have hln : ((l.length : Int) != (m.length : Int)) = false := by simp [hlm]
    have hln2 : (l.length != m.length) = false := by simp [hlm]
    have hte : tErr l m q = eAll l q := by unfold tErr; rw [if_pos hlm]
    by_cases he : eAll l q = 0
    · obtain ⟨hk, hap⟩ := eAll_apartR he
      have htv : tVal l m q = rOut l m q l.length := by rw [tVal_ok (by rw [hte, he]), through_same hk m hap]
      rw [he] at hte
      have HE := hid (⟨he, hte, htv, hlm⟩ : _ ∧ _ ∧ _ ∧ _)
      have hnb : ((0 : Int) != 0) = false := by decide
      have hp0 := hid (pAll_zero hk)
      clear he hte htv hap hlm
      go_enter Tryd.func117, Tryd.ntmps117
      go_wp2_with (first | (go_at_call 123; refine (rmay3_c _ hq _).mono ?_; rintro e w' ⟨rfl, rfl⟩; rw [hk]) | (go_at_call 124; refine (rwrong_c A l c q _ hA (by omega) hu hq).mono ?_; rintro e w2 ⟨rfl, hw2⟩; rw [HE.out.1]) | (go_at_call 52; refine (radd_c 1 0 q ⟨by decide, by decide⟩ ⟨by decide, by decide⟩ hq _).mono ?_; rintro e w3 ⟨rfl, hw3⟩))
      have hb3 : Below w.heap.size w w3 := below_dr (below_of_dr hw2) hw3
      have hr4 := row1_new w3 [.int .u64 (mAdd 1 0 q)] 24
      have hb4 := below_next hb3 hb3.size (below_alloc w3 (.cells #[.int .u64 (mAdd 1 0 q)] 24))
      simp only [List.toArray] at hr4
      go_loopw [9, 10, 11, 12, 13, 14] (fun o v i _ _ _ wr => ∃ k : Nat, i = .int .i64 k ∧ k ≤ l.length ∧ Own wr w.heap.size 24 o ((rOut l m q k).map (.int .u64)) ∧ (∃ C cc, v = .slice C (pAll (l.take k) q).length cc ∧ Cells wr C ((pAll (l.take k) q).map (.int .u64))) ∧ Below w.heap.size w wr) (fun _ _ i _ _ _ _ => l.length - (intOf i).toNat)
      case atStart => exact ⟨0, rfl, by omega, by simpa [rOut] using Own.nil _ _ _, ⟨_, _, by rw [List.take_zero, hp0.out]; rfl, by rw [List.take_zero, hp0.out]; exact hr4.cells⟩, hb4⟩
      case round =>
        obtain ⟨k, rfl, hk1, hown, ⟨C, cc, rfl, hC⟩, hb⟩ := hrel
        clear hr4 hw2 hw3 hb3 hb4
        have hpu := pAll_u64 hk (l.take k)
        by_cases hlt : k < l.length
        · obtain ⟨x, hx⟩ := get_of_lt hlt
          have hkm : k < m.length := by have := HE.out.2.2.2; omega
          obtain ⟨y, hy⟩ := get_of_lt hkm
          have hux := hu.at_ hx
          have huy := hu'.at_ hy
          obtain ⟨o1, off1, rfl, hcx⟩ := (hA.keep fun p hp => hb.cell hp).at_map hx
          obtain ⟨o2, off2, rfl, hcy⟩ := (hB.keep fun p hp => hb.cell hp).at_map hy
          have hpl : (pAll (l.take k) q).length = k + 1 := by rw [(pAll_is hk _).1, List.length_take]; omega
          have hst := pAll_step hx q
          have hsr := rOut_step hx hy q
          have hol := rOut_len hk l m k hk1
          have hou := rOut_u64 l m q k
          have hue := mEval_u64 (pAll (l.take k) q) x q
          have hui := iVal_u64 (mEval (pAll (l.take k) q) x q) q
          have hueo := mEval_u64 (rOut l m q k) x q
          generalize pAll (l.take k) q = P at *
          obtain ⟨O, hO⟩ : ∃ O, rOut l m q k = O := ⟨_, rfl⟩
          rw [hO] at hown hol hou hueo hsr
          obtain ⟨A6, c6, rfl, hA6⟩ := hown.form
          rw [List.length_map]
          have HS := hid (⟨hst, hsr, hpl, hol⟩ : _ ∧ _ ∧ _ ∧ _)
          clear hst hsr hpl hol hx hy hO hown
          go_wp2_with (first | (go_at_call 97; refine (reval_c C P cc x q _ hC (by rw [HS.out.2.2.1]; omega) hpu hux hq).mono ?_; rintro e w5 ⟨rfl, hw5⟩) | (go_at_call 48; refine (rinv_c _ _ hue hq _).mono ?_; rintro e w6 ⟨rfl, hw6⟩))
          have hw56 := hw5.trans hw6
          have hcy6 := (hw56.cell _).trans hcy
          have hcx6 := (hw56.cell _).trans hcx
          have hA66 := hA6.dr hw56
          have hC6 := hC.dr hw56
          clear hcx hcy hA6 hC hw5 hw6
          generalize iVal (mEval P x q) q = v at *
          go_quiet (first | (go_at_call 97; exact quiet_dr (reval_c A6 O c6 x q _ (hA66.drewN _) (by rw [HS.out.2.2.2]; omega) hou hux hq)) | (go_at_call 86; exact quiet_dr (rsub_c _ _ _ huy hueo hq _)) | (go_at_call 51; exact quiet_dr (rmul_c _ _ _ (mSub_u64 _ _ _) hui hq _)))
          obtain ⟨K, hK⟩ : ∃ K, mMul (mSub y (mEval O x q) q) v q = K := ⟨_, rfl⟩
          have hsl : (pScale P K q).length = k + 1 := by rw [scale_len hk, HS.out.2.2.1]
          have hsu := pScale_u64 P K q
          have huK : U64 K := by rw [← hK]; exact mMul_u64 _ _ _
          have hsr := HS.out.2.1
          rw [hK] at hsr ⊢
          obtain ⟨S, hS⟩ : ∃ S, pScale P K q = S := ⟨_, rfl⟩
          rw [hS] at hsl hsu hsr
          have HT := hid (⟨hS, hsl, hsr⟩ : _ ∧ _ ∧ _)
          clear hK hsl hsr hS
          go_wp2_with (fail)
          refine (rscale_c C P cc K q _ (hC6.drewN _) (by rw [HS.out.2.2.1]; omega) hpu huK hq).mono ?_
          rintro e w7 ⟨v7, rfl, hown7, hb7⟩
          rw [HT.out.1] at hown7
          obtain ⟨A7, c7, rfl, hA7⟩ := hown7.form
          rw [List.length_map]
          go_wp2_with (fail)
          refine (rsum_c A6 A7 O S c6 c7 q _ ((hA66.drewN _).keep fun p hp => hb7.cell hp) hA7 (by rw [HS.out.2.2.2]; omega) (by rw [HT.out.2.1]; omega) hou hsu hq).mono ?_
          rintro e w8 ⟨v8, rfl, hown8, hb8⟩
          rw [← HT.out.2.2] at hown8
          have hbq : Below w.heap.size w _ := below_next (below_dr (below_dr hb hw56) ⟨_, rfl⟩) (below_dr hb hw56).size hb7
          have hb8w := below_next hbq hbq.size hb8
          have hcx7 := (hb7.cell (lt_of_cell hcx6)).trans hcx6
          have hcx8 := (hb8.cell (lt_of_cell hcx7)).trans hcx7
          have hC7 := (hC6.drewN _).keep fun p hp => hb7.cell hp
          have hC8 := hC7.keep fun p hp => hb8.cell hp
          have hown8w := hown8.from_ hbq.size
          clear hcx7 hC7 hb7 hown7 hA7 hA66 hcy6 hcx6 hC6 hb8 hown8 hbq hw56
          go_wp2_with (go_at_call 86; refine (rsub_c 0 _ _ ⟨by decide, by decide⟩ hux hq _).mono ?_; rintro e w9 ⟨rfl, hw9⟩)
          have hb9 := below_dr hb8w hw9
          have hr9 := row1_new w9 [.int .u64 (mSub 0 x q), .int .u64 1] 24
          have hC9 := (hC8.dr hw9).keep fun p hp => (below_alloc w9 (.cells #[.int .u64 (mSub 0 x q), .int .u64 1] 24)).cell hp
          have hown9 := (hown8w.dr hw9).alloc (.cells #[.int .u64 (mSub 0 x q), .int .u64 1] 24)
          have hb10 := below_next hb9 hb9.size (below_alloc w9 (.cells #[.int .u64 (mSub 0 x q), .int .u64 1] 24))
          refine (rtimes_c C _ P [mSub 0 x q, 1] cc 2 q _ hC9 hr9.cells (by rw [HS.out.2.2.1]; omega) (by simp) hpu (u64_pair x q) hq).mono ?_
          rintro e w11 ⟨v11, rfl, hown11, hb11⟩
          obtain ⟨A11, c11, rfl, hA11⟩ := hown11.form
          rw [List.length_map, ← HS.out.1]
          rw [← HS.out.1] at hA11
          have hown12 := hown9.below hb11
          have hb12 := below_next hb10 hb10.size hb11
          clear hown11 hr9 hC9 hC8 hown9 hb10 hb11 hb9 hw9 hown8w hcx8
          go_wp2
          go_roundw
          case rel => exact ⟨k + 1, by go_num, by omega, hown12, ⟨_, _, rfl, hA11⟩, hb12⟩
          case measure => simp [intOf]; omega
        · obtain rfl : k = l.length := by omega
          clear hC hpu
          go_wp2
          go_ret2
          rw [HE.out.2.1, HE.out.2.2.1]
          exact ⟨_, rfl, hown, hb⟩
    · have hbn : (eAll l q != 0) = true := bne_iff_ne.2 he
      have hw0 : tVal l m q = [] := tVal_bad (by rw [hte]; exact he)
      have HE := hid (⟨hte, hw0⟩ : _ ∧ _)
      cases hk : okm q with
      | true =>
        clear hte hw0 he hlm
        go_enter Tryd.func117, Tryd.ntmps117
        go_wp2_with (first | (go_at_call 123; refine (rmay3_c _ hq _).mono ?_; rintro e w' ⟨rfl, rfl⟩; rw [hk]) | (go_at_call 124; refine (rwrong_c A l c q _ hA (by omega) hu hq).mono ?_; rintro e w2 ⟨rfl, hw2⟩))
        go_ret2
        rw [HE.out.1, HE.out.2]
        exact ⟨_, rfl, Own.nil _ _ _, below_of_dr hw2⟩
      | false =>
        have hu1 : eUnlike l q = 1 := by unfold eUnlike; rw [if_neg (by rw [hk]; decide)]
        have he1 : eAll l q = 1 := by rw [eAll_bad (by rw [hu1]; decide), hu1]
        rw [he1] at hte
        have HE := hid (⟨hte, hw0⟩ : _ ∧ _)
        clear hte hw0 he hlm hu1 hbn he1
        go_enter Tryd.func117, Tryd.ntmps117
        go_wp2_with (go_at_call 123; refine (rmay3_c _ hq _).mono ?_; rintro e w' ⟨rfl, rfl⟩; rw [hk])
        go_ret2
        rw [HE.out.1, HE.out.2]
        exact ⟨_, rfl, Own.nil _ _ _, Below.refl _ _⟩
  · have hln : ((l.length : Int) != (m.length : Int)) = true := by simp; omega
    have hln2 : (l.length != m.length) = true := by simp; omega
    have hea : tErr l m q = 1 := by unfold tErr; rw [if_neg hlm]
    have hw0 : tVal l m q = [] := tVal_bad (by rw [hea]; decide)
    have HE := hid (⟨hea, hw0⟩ : _ ∧ _)
    clear hea hw0 hlm
    cases hk : okm q with
    | true =>
      go_enter Tryd.func117, Tryd.ntmps117
      go_wp2_with (go_at_call 123; refine (rmay3_c _ hq _).mono ?_; rintro e w' ⟨rfl, rfl⟩; rw [hk])
      go_ret2
      rw [HE.out.1, HE.out.2]
      exact ⟨_, rfl, Own.nil _ _ _, Below.refl _ _⟩
    | false =>
      go_enter Tryd.func117, Tryd.ntmps117
      go_wp2_with (go_at_call 123; refine (rmay3_c _ hq _).mono ?_; rintro e w' ⟨rfl, rfl⟩; rw [hk])
      go_ret2
      rw [HE.out.1, HE.out.2]
      exact ⟨_, rfl, Own.nil _ _ _, Below.refl _ _⟩
end Go.Proofs.YtlbhmoiicbhgkaaDoor
end
