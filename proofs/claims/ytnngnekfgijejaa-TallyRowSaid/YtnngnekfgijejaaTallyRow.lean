/-
  PROVED HERE: TallyRow: votes of unlike members, rounds or Kinds come to the same tally in whatever row they are put, and a tally's own votes, put anew, come to it: for every number, every votes, however they are turned.
-/
import Derived.Test.YtnngnekfgijejaaTalV
import Derived.RegionTactic
import Derived.ChangeAlike
namespace Go.Proofs.Ytnngnekfgijejaa
open Go.ChangeShapes Go.WideShapes Go.ChangeAt Go.RowKit Go.Maps Go.Shelf Go.Proofs

def Unl (a b : Vt) : Prop := ¬ (a.rd = b.rd ∧ a.fr = b.fr ∧ a.kd = b.kd)
theorem Unl.symm {a b : Vt} (h : Unl a b) : Unl b a := fun e => h ⟨e.1.symm, e.2.1.symm, e.2.2.symm⟩
/-- votes of unlike places, put one by one, are all there. -/
theorem putAll_perm {n : Int} : ∀ (l L : List Vt), (L ++ l).Pairwise Unl → (∀ v ∈ l, mayV v n = true) → (putAll n L l).Perm (L ++ l)
  | [], L, _, _ => by rw [List.append_nil]; exact .refl _
  | v :: l, L, h, hm => by
    have hno : hasV L v = false := by
      rw [hasV_no]
      intro u hu
      exact (List.pairwise_append.1 h).2.2 u hu v (List.mem_cons_self ..)
    have hb : putB n L v = true := by simp [putB, hno, hm v (List.mem_cons_self ..)]
    have he : putL n L v = ins v L := by rw [putL, hb]; rfl
    have hp : (L ++ v :: l).Perm (ins v L ++ l) := by
      refine List.perm_middle.trans ?_
      rw [← List.cons_append]
      exact (ins_perm v L).symm.append_right l
    have h2 : (ins v L ++ l).Pairwise Unl := (hp.pairwise_iff fun {a b} => Unl.symm).1 h
    show (putAll n (putL n L v) l).Perm _
    rw [he]
    exact (putAll_perm l (ins v L) h2 fun u hu => hm u (List.mem_cons_of_mem _ hu)).trans hp.symm
theorem srt_unl {L : List Vt} (h : Srt L) : L.Pairwise Unl := h.imp fun {a b} h e => by rw [ahead_iff] at h; omega
/-- in whatever row. -/
theorem putAll_row {n : Int} {L T : List Vt} (hs : Srt L) (hm : Mays n L) (hp : T.Perm L) : putAll n [] T = L := by
  have h1 : ([] ++ T).Pairwise Unl := (hp.pairwise_iff fun {a b} => Unl.symm).2 (srt_unl hs)
  have h2 := putAll_perm (n := n) T [] h1 fun v hv => hm v (hp.mem_iff.1 hv)
  exact srt_unique (putAll_srt T [] .nil) hs (h2.trans hp)

/-- the votes turned about. -/
def turnV (L : List Vt) (b : Nat) : List Vt := L.reverse.drop b ++ L.reverse.take b
theorem turnV_perm (L : List Vt) (b : Nat) : (turnV L b).Perm L := by
  unfold turnV
  refine List.perm_append_comm.trans ?_
  rw [List.take_append_drop]
  exact L.reverse_perm
theorem turnV_len (L : List Vt) (b : Nat) : (turnV L b).length = L.length := (turnV_perm L b).length_eq
theorem turnV_at (L : List Vt) {b k : Nat} (hb : b < L.length) (hk : k < L.length) : (turnV L b)[k]? = L[L.length - 1 - (k + b) % L.length]? := by
  unfold turnV
  have hr : L.reverse.length = L.length := List.length_reverse
  by_cases h : k + b < L.length
  · rw [List.getElem?_append_left (by rw [List.length_drop, hr]; omega), List.getElem?_drop, Nat.mod_eq_of_lt h, List.getElem?_reverse (by omega)]
    congr 1; omega
  · have hm : (k + b) % L.length = k + b - L.length := by
      rw [Nat.mod_eq_sub_mod (by omega), Nat.mod_eq_of_lt (by omega)]
    rw [List.getElem?_append_right (by rw [List.length_drop, hr]; omega), List.length_drop, hr, hm, List.getElem?_take, if_pos (by omega), List.getElem?_reverse (by omega)]
    congr 1; omega
theorem turn_eq {len k p : Nat} (h : 0 < len) (hl : len ≤ 10000) : wrap64 ((len : Int) - 1 - ((k : Int) + (p : Int)) % (len : Int)) = ((len - 1 - (k + p) % len : Nat) : Int) := by
  have h1 : ((k : Int) + (p : Int)) % (len : Int) = ((k + p) % len : Nat) := by
    rw [Int.natCast_emod, Int.natCast_add]
  have := Nat.mod_lt (k + p) h
  rw [h1]
  generalize (k + p) % len = q at *
  rw [IntWalk.wrap64_in _ ⟨by omega, by omega⟩]
  omega

set_option maxRecDepth 100000 in
set_option maxHeartbeats 4000000 in
theorem tallyRow_c (n : Int) (A : Option Addr) (l : List Vt) (c : Nat) (by_ : Int) (w : World) (hn : I64 n) (hA : CellsV w A l) (hl : l.length ≤ 9223372036854775807) (ho : Oks l) (hby : I64 by_) [DecidableEq Lit] :
    Calls Try.prog 3 #[.int .i64 n, .slice A l.length c, .int .i64 by_] w fun e w' => e = .returned (.bool true) ∧ Below w.heap.size w w' := by
  obtain ⟨hy1, hy2⟩ := hby
  have HO := hid ho
  clear ho
  go_enter Try.func3, Try.ntmps3
  go_wp2_with (fail)
  refine (long_c A l c w hA hl HO.out).mono ?_
  rintro e _ ⟨⟨b, rfl⟩, rfl⟩
  cases b with
  | true =>
    go_wp2_with (fail)
    refine (awake_c w).mono ?_
    rintro e w1 ⟨rfl, hb1⟩
    go_wp2
    go_ret
    exact ⟨rfl, hb1⟩
  | false =>
    go_wp2_with (fail)
    refine (awake_c w).mono ?_
    rintro e w1 ⟨rfl, hb1⟩
    go_wp2_with (fail)
    refine (of_c n A l c w1 hn (hA.below hb1) hl HO.out).mono ?_
    rintro e w2 ⟨g, gm, rfl, hT, hg, hgm, hb2⟩
    replace hb2 := below_next hb1 hb1.size hb2
    have HMM := hid (rfl : memOf n = memOf n)
    obtain ⟨L, hL⟩ : ∃ L, putAll (memOf n) [] l = L := ⟨_, rfl⟩
    obtain ⟨m, hm⟩ : ∃ m, memOf n = m := ⟨_, rfl⟩
    rw [hL] at hT
    rw [hm] at hT ⊢
    have HM := hid hm
    clear hb1 hg hgm hA hL hm
    go_wp2_with (fail)
    refine (votes_c g gm m L w2 hT).mono ?_
    rintro e w3 ⟨v, rfl, hown, hb⟩
    obtain ⟨A3, c3, rfl, _⟩ := hown.form
    replace hT := hT.below hb
    replace hb2 := below_next hb2 hb2.size hb
    have hlen := hT.len
    have hoV : OwnV w3 w3.heap.size 30 (.slice none 0 0) [] := OwnV.nil _ _ _
    clear hb
    have hc3 := hown.cellsV
    clear hown
    go_wp2
    go_loopw [11, 12] (fun o i wr => ∃ k : Nat, i = .int .i64 k ∧ k ≤ L.length ∧ OwnV wr w3.heap.size 30 o ((turnV L (pick by_ L.length)).take k) ∧ Below w3.heap.size w3 wr) (fun _ i _ => L.length - (intOf i).toNat)
    case atStart => exact ⟨0, rfl, by omega, hoV, Below.refl _ _⟩
    case round =>
      obtain ⟨k, rfl, hk, hoK, hbr⟩ := hrel
      rename_i wr
      clear hoV
      by_cases hlt : k < L.length
      · have hpos : 0 < L.length := by omega
        have hte := turn_eq (k := k) (p := pick by_ L.length) hpos hlen
        have hpk := pick_lt by_ hpos
        have hta := turnV_at L hpk hlt
        have hml : (k + pick by_ L.length) % L.length < L.length := Nat.mod_lt _ hpos
        obtain ⟨x, hx⟩ := get_of_lt (l := L) (show L.length - 1 - (k + pick by_ L.length) % L.length < L.length by omega)
        obtain ⟨b, off, rfl, hbl, d0, d1, d2, d3, d4⟩ := (hc3.below hbr).at_ hx
        have HS := hid (show (turnV L (pick by_ L.length)).take k ++ [x] = (turnV L (pick by_ L.length)).take (k + 1) by rw [List.take_add_one, hta, hx]; rfl)
        have HL := hid (show ((turnV L (pick by_ L.length)).take k).length = k by rw [List.length_take, turnV_len]; omega)
        have hji : L.length - 1 - (k + pick by_ L.length) % L.length < L.length := by omega
        generalize L.length - 1 - (k + pick by_ L.length) % L.length = j at *
        have hoK2 := hoK.below (below_alloc wr (.cells (vcl x).toArray 30))
        have hsz := hbr.size
        obtain ⟨i0, hi, hz0, hz1, hz2⟩ := info_parts info_vote
        have hpe := pick_eq by_ hpos hlen
        clear hta hx hml hoK
        have hpk2 : ((pick by_ L.length : Nat) : Int) < 10000 := by omega
        generalize turnV L (pick by_ L.length) = T at *
        generalize pick by_ L.length = p at *
        go_wp2_with (at_builtin; refine wpList_append_own _ rfl _ _ 22 rfl w3.heap.size 30 i0 (vval zeroVt) 5 48 Try.underlying22 hi hz0 hz1 hz2 rfl (by decide) _ _ _ rfl hoK2 ⟨wr.heap.size, 0, none⟩ 1 1 (vcl x) rfl rfl (news_five wr x _) (one_five x) (by rw [HL.out]; unfold maxLen; omega) (by rw [HL.out]; omega) (by simp; omega) ?_; intro v' w3' hO2 hg2 _)
        go_roundw
        case rel =>
          refine ⟨k + 1, by go_num, by omega, ?_, (hbr.alloc hbr.size _).grown hg2 (by simp; omega) fun k e => (hoK2.block k e).1⟩
          rw [← HS.out]
          unfold OwnV
          rw [List.length_append, List.flatMap_append]
          exact hO2
        case measure => simp [intOf]; omega
      · obtain rfl : k = L.length := by omega
        rw [List.take_of_length_le (by rw [turnV_len]; exact Nat.le_refl _)] at hoK
        have htp := turnV_perm L (pick by_ L.length)
        generalize turnV L (pick by_ L.length) = T at *
        have HTP := hid htp
        clear htp
        obtain ⟨A4, c4, rfl, hc4⟩ := hoK.form
        clear hoK
        have hokL := hid (show Oks L from fun v hv => hT.ok hv)
        have hokT := hid (show Oks T from fun v hv => hT.ok (HTP.out.mem_iff.1 hv))
        have hpL := hid (putAll_row hT.srt hT.mays (.refl L))
        have hpT := hid (putAll_row hT.srt hT.mays HTP.out)
        have hTl : T.length ≤ 9223372036854775807 := by rw [HTP.out.length_eq]; omega
        replace hb2 := below_next hb2 hb2.size hbr
        replace hT := hT.below hbr
        replace hc3 := hc3.below hbr
        clear hbr
        go_wp2_with (fail)
        refine (of_c n A3 L c3 wr hn hc3 (by omega) hokL.out).mono ?_
        rintro e w5 ⟨g1, gm1, rfl, hT1, hg, hgm, hb⟩
        rw [HM.out] at hT1 ⊢
        rw [hpL.out] at hT1
        replace hb2 := below_next hb2 hb2.size hb
        replace hT := hT.below hb
        replace hc3 := hc3.below hb
        replace hc4 := hc4.below hb
        clear hb hg hgm
        go_wp2_with (fail)
        refine (of_c n A4 T c4 w5 hn hc4 hTl hokT.out).mono ?_
        rintro e w6 ⟨g2, gm2, rfl, hT2, hg, hgm, hb⟩
        rw [HM.out] at hT2 ⊢
        rw [hpT.out] at hT2
        replace hb2 := below_next hb2 hb2.size hb
        replace hT := hT.below hb
        replace hT1 := hT1.below hb
        replace hc3 := hc3.below hb
        clear hb hg hgm hc4
        go_wp2_with (fail)
        refine (same_c g1 gm1 g gm m m L L w6 hT1 hT).mono ?_
        rintro e w7 ⟨rfl, hb⟩
        rw [decide_eq_true (rfl : L = L)]
        replace hb2 := below_next hb2 hb2.size hb
        replace hT := hT.below hb
        replace hT2 := hT2.below hb
        replace hc3 := hc3.below hb
        clear hb hT1
        go_wp2_with (fail)
        refine (same_c g2 gm2 g gm m m L L w7 hT2 hT).mono ?_
        rintro e w8 ⟨rfl, hb⟩
        rw [decide_eq_true (rfl : L = L)]
        replace hb2 := below_next hb2 hb2.size hb
        replace hc3 := hc3.below hb
        have HS := hid hT.srt
        clear hb hT2 hT
        go_wp2
        go_loopw [19] (fun i wq => ∃ k : Nat, i = .int .i64 k ∧ 1 ≤ k ∧ Below w8.heap.size w8 wq) (fun i _ => L.length - (intOf i).toNat)
        case atStart => exact ⟨1, rfl, by omega, Below.refl _ _⟩
        case round =>
          obtain ⟨k, rfl, hk1, hbq⟩ := hrel
          rename_i wq
          by_cases hlt : k < L.length
          · obtain ⟨x, hx⟩ := get_of_lt (l := L) (show k - 1 < L.length by omega)
            obtain ⟨y, hy⟩ := get_of_lt hlt
            have hxy : ahead x y = true := by
              have h1 := (List.getElem?_eq_some_iff.1 hx).2
              have h2 := (List.getElem?_eq_some_iff.1 hy).2
              have := List.pairwise_iff_getElem.1 HS.out (k - 1) k (by omega) hlt (by omega)
              rwa [h1, h2] at this
            rw [ahead_iff] at hxy
            have HXY := hid hxy
            obtain ⟨b, off, rfl, hbl, d0, d1, d2, d3, d4⟩ := (hc3.below hbq).at_ hx
            obtain ⟨b', off', he, hbl', e0, e1, e2, e3, e4⟩ := (hc3.below hbq).at_ hy
            simp only [Option.some.injEq, Addr.mk.injEq, and_true] at he
            obtain ⟨rfl, rfl⟩ := he
            clear hx hy hxy
            go_wp2
            go_region
            all_goals
              rcases HXY.out with h | ⟨h1, h | ⟨h2, h⟩⟩
            all_goals
              first
                | (have q1 : (x.rd == y.rd) = true := by simp [h1]
                   have q2 : (x.fr == y.fr) = true := by simp [h2]
                   have q3 : x.rd ≤ y.rd := by omega
                   have q4 : x.fr ≤ y.fr := by omega
                   clear h1 h2)
                | (have q1 : (x.rd == y.rd) = true := by simp [h1]
                   have q2 : (x.fr == y.fr) = false := by simp; omega
                   have q3 : x.rd ≤ y.rd := by omega
                   clear h1)
                | (have q1 : (x.rd == y.rd) = false := by simp; omega)
            all_goals
              go_wp2
              go_roundw
              case rel => exact ⟨k + 1, by go_num, by omega, below_dr ((hbq.alloc hbq.size _).alloc (by have := hbq.size; simp; omega) _) ⟨1, rfl⟩⟩
              case measure => simp [intOf]; omega
          · go_wp2
            go_ret
            exact ⟨rfl, below_next hb2 hb2.size hbq⟩

set_option maxRecDepth 100000 in
theorem tallyRow_lifted (os : Os) (started : os.Started) (H : Type) (enc : TypeId × Value → H) :
    ReturnsInHanded {} Try.checked os 3 .any (Rows.tallyRowSpec.pre6 enc Try.prog Try.f3 Rows.tallyRowRow.domain false) (Rows.tallyRowSpec.post enc Try.prog Try.f3 false true false false) := by
  haveI : DecidableEq Lit := fun a b => Classical.propDecidable (a = b)
  refine returnsInHanded_of_change (C := Try.checked) Try.own started (by kernel_rfl) Try.func3
    (ChangeSpec.witness6 (enc := enc) (C := Try.checked) false ⟨#[], #[.int .i64 0, .slice none 0 0, .int .i64 0], []⟩ 8 (by kernel_rfl) (by kernel_rfl) (by kernel_rfl) (by kernel_rfl)) ?_
  intro W base args ds gs before hval0 hW hcnd _
  have hval : ∀ (j : Nat) t v, Try.f3.params[j]? = some t → args[j]? = some v → Value.okWide Try.prog W .any base t v := hval0
  have hW' := hW
  obtain ⟨p, q, hA0, hV, rfl, hfz, hnd⟩ := hW
  have hA : DataW.TrodAll enc Try.prog W 0 (fun _ => true) true Try.f3.params.toList args.toList ds p := hA0
  rw [Try.params3] at hA hval
  obtain ⟨v0, v1, v2, d0, d1, d2, p0, p1, p2, rfl, rfl, rfl, h0, h1, h2⟩ := trodAll_three hA
  obtain ⟨rfl, rfl⟩ := trodVars_none hV
  obtain ⟨x0, rfl, _, _, w0⟩ := open_int Try.underlying3 (hval 0 3 v0 rfl rfl) h0
  obtain ⟨_, k1⟩ := one_ofV Try.underlying22 (hval 1 22 v1 rfl rfl) h1
  obtain ⟨A1, x1, c1, rfl, a1, b1, e1⟩ := votes_at k1
  obtain ⟨x2, rfl, _, _, w2⟩ := open_int Try.underlying3 (hval 2 3 v2 rfl rfl) h2
  clear hA0 hval0
  refine (tallyRow_c x0 A1 x1 c1 x2 W (i64_of w0) a1 b1 e1 (i64_of w2)).mono fun e W' ⟨he, hb⟩ => ?_
  subst he
  exact ⟨_, rfl, post_true hW' hb Try.laidOut (by kernel_rfl) rfl rfl rfl rfl rfl Try.underlying4⟩

theorem tallyRow_holds : Rows.TallyRowSaid :=
  OpenClaim.holds_of_wide 3 Try.f3 rfl rfl rfl rfl rfl rfl rfl ⟨rfl, rfl, rfl, rfl, rfl⟩ rfl rfl rfl rfl rfl (by kernel_rfl) Try.func3 (by kernel_rfl)
    (of_decide_eq_true (by kernel_rfl)) (by unfold Func.isWrapper; first | (rw [if_pos (by decide +kernel)]; kernel_rfl) | (rw [if_neg (by decide +kernel)]; exact ⟨rfl, rfl⟩))
    (fun os started H enc _ => tallyRow_lifted os started H enc)
#print axioms tallyRow_holds

end Go.Proofs.Ytnngnekfgijejaa
