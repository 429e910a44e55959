/-
  The document's Decode.
-/
import Derived.Test.YtlbhmoiicbhgkaaDoorRobQ1
import Derived.Test.YtlbhmoiicbhgkaaDoorRobQ2
import Derived.Test.YtlbhmoiicbhgkaaDoorRobQ3
import Derived.Test.YtlbhmoiicbhgkaaDoorRobQ4
import Derived.Test.YtlbhmoiicbhgkaaDoorRobQ5
import Derived.Test.YtlbhmoiicbhgkaaDoorRobQ6
import Derived.Test.YtlbhmoiicbhgkaaDoorRobQ7
import Derived.Test.YtlbhmoiicbhgkaaDoorRobQ8
import Derived.Test.YtlbhmoiicbhgkaaDoorRobQ9
import Derived.Test.YtlbhmoiicbhgkaaDoorRobQ10
import Derived.Test.YtlbhmoiicbhgkaaDoorRobQ11
import Derived.Test.YtlbhmoiicbhgkaaDoorRpB
import Derived.Test.YtlbhmoiicbhgkaaDoorRpC
namespace Go.Proofs.YtlbhmoiicbhgkaaDoor
open Go Go.RowKit Go.Maps Go.Shelf Go.Proofs Go.Psi

attribute [local go_sem] Oper.semAt_some

/-- the places that were put to one another are unlike. -/
def Ne2 (l : List Int) (q : Int) (i k : Nat) : Prop := ∀ j n a b, seenW i k j n → l[j]? = some a → l[n]? = some b → a % q ≠ b % q
theorem Ne2.start (l : List Int) (q : Int) : Ne2 l q 0 0 := fun j m a b h => by unfold seenW at h; omega
theorem Ne2.row {l : List Int} {q : Int} {i : Nat} (h : Ne2 l q i i) : Ne2 l q (i + 1) 0 := fun j m a b hs => h j m a b (by unfold seenW at hs ⊢; omega)
theorem Ne2.step {l : List Int} {q : Int} {i k : Nat} {x z : Int} (h : Ne2 l q i k) (hx : l[i]? = some x) (hz : l[k]? = some z) (hd : x % q ≠ z % q) : Ne2 l q i (k + 1) := by
  intro j n a b hs ha hb
  by_cases hjn : j = i ∧ n = k
  · obtain ⟨rfl, rfl⟩ := hjn
    rw [hx] at ha
    rw [hz] at hb
    obtain rfl := Option.some.inj ha
    obtain rfl := Option.some.inj hb
    exact hd
  · exact h j n a b (by unfold seenW at hs ⊢; omega) ha hb
theorem Ne2.two {l : List Int} {q : Int} (h : Ne2 l q l.length 0) : Two l q := by
  refine List.pairwise_iff_getElem.2 fun i j hi hj hij => ?_
  exact (h j i l[j] l[i] (.inl ⟨hj, hij⟩) (List.getElem?_eq_getElem hj) (List.getElem?_eq_getElem hi)).symm
theorem decR_bad {l m : List Int} {t q : Int} (h : t < 0 ∨ t > 2 ∨ l.length ≠ m.length ∨ primeV q = false) : decR l m t q = ([], [], 1) := by unfold decR; rw [if_pos h]
theorem decR_big {l m : List Int} {t q : Int} (h : ¬ (t < 0 ∨ t > 2 ∨ l.length ≠ m.length ∨ primeV q = false)) (h2 : 7 < l.length) : decR l m t q = ([], [], 40) := by unfold decR; rw [if_neg h, if_pos h2]
theorem decR_twice {l m : List Int} {t q : Int} (h : ¬ (t < 0 ∨ t > 2 ∨ l.length ≠ m.length ∨ primeV q = false)) (h2 : l.length ≤ 7) (h3 : eAll l q = 6) : decR l m t q = ([], [], 6) := by unfold decR; rw [if_neg h, if_neg (by omega), if_pos (by rw [h3]; decide), h3]
set_option maxRecDepth 100000 in
set_option maxHeartbeats 3200000 in
theorem decode05_c (A B : Option Addr) (l m : List Int) (c d : Nat) (t q : Int) (w : World) (hA : Cells w A (l.map (.int .u64))) (hB : Cells w B (m.map (.int .u64))) (hl : l.length ≤ 1000) (_hml : m.length ≤ 1000) (hu : U64s l) (hu' : U64s m) (ht : I64 t) (hq : U64 q) :
    Calls Tryd.prog 25 #[.slice A l.length c, .slice B m.length d, .int .i64 t, .int .u64 q] w (DecR (decR l m t q) w) := by
  have HA := hid hA
  have HB := hid hB
  have HU := hid hu
  have HU' := hid hu'
  have HP := hid (rprime_c q hq w)
  clear hA hB hu hu'
  cases hp : primeV q with
  | false =>
    have HD := hid (decR_bad (l := l) (m := m) (t := t) (.inr (.inr (.inr hp))))
    rw [hp] at HP
    clear hp
    generalize decR l m t q = R at *
    go_enter Tryd.func25, Tryd.ntmps25
    go_wp2_with (fail)
    refine HP.out.mono ?_
    rintro e w1 ⟨rfl, hb1⟩
    go_wp2
    go_ret3
    rw [HD.out]
    exact DecR.none 1 w w1 hb1
  | true =>
  rw [hp] at HP
  have HPR := hid hp
  clear hp
  by_cases ht0 : t < 0
  · have HD := hid (decR_bad (l := l) (m := m) (q := q) (.inl ht0))
    have k1 : decide (t < 0) = true := by simpa using ht0
    generalize decR l m t q = R at *
    go_enter Tryd.func25, Tryd.ntmps25
    go_wp2_with (fail)
    refine HP.out.mono ?_
    rintro e w1 ⟨rfl, hb1⟩
    go_wp2
    go_ret3
    rw [HD.out]
    exact DecR.none 1 w w1 hb1
  have k1 : decide (t < 0) = false := by simpa using ht0
  by_cases ht2 : 2 < t
  · have HD := hid (decR_bad (l := l) (m := m) (q := q) (.inr (.inl ht2)))
    have k2 : decide (2 < t) = true := by simpa using ht2
    generalize decR l m t q = R at *
    go_enter Tryd.func25, Tryd.ntmps25
    go_wp2_with (fail)
    refine HP.out.mono ?_
    rintro e w1 ⟨rfl, hb1⟩
    go_wp2
    go_ret3
    rw [HD.out]
    exact DecR.none 1 w w1 hb1
  have k2 : decide (2 < t) = false := by simpa using ht2
  by_cases hlm : l.length = m.length
  case neg =>
    have HD := hid (decR_bad (t := t) (q := q) (.inr (.inr (.inl hlm))))
    have k3 : ((l.length : Int) != (m.length : Int)) = true := by rw [bne_iff_ne]; omega
    generalize decR l m t q = R at *
    clear hlm
    go_enter Tryd.func25, Tryd.ntmps25
    go_wp2_with (fail)
    refine HP.out.mono ?_
    rintro e w1 ⟨rfl, hb1⟩
    go_wp2
    go_ret3
    rw [HD.out]
    exact DecR.none 1 w w1 hb1
  have k3 : ((l.length : Int) != (m.length : Int)) = false := by rw [bne_eq_false_iff_eq]; omega
  have HOK := hid (show ¬ (t < 0 ∨ t > 2 ∨ l.length ≠ m.length ∨ primeV q = false) by rw [HPR.out]; simp; omega)
  have HLM := hid hlm
  clear hlm
  by_cases hl7 : 7 < l.length
  · have HD := hid (decR_big HOK.out hl7)
    have k4 : decide (7 < (l.length : Int)) = true := by rw [decide_eq_true_eq]; omega
    generalize decR l m t q = R at *
    go_enter Tryd.func25, Tryd.ntmps25
    go_wp2_with (fail)
    refine HP.out.mono ?_
    rintro e w1 ⟨rfl, hb1⟩
    go_wp2
    go_ret3
    rw [HD.out]
    exact DecR.none 40 w w1 hb1
  have k4 : decide (7 < (l.length : Int)) = false := by rw [decide_eq_false_iff_not]; omega
  have hl7' : l.length ≤ 7 := by omega
  obtain ⟨tn, rfl⟩ : ∃ tn : Nat, t = (tn : Int) := ⟨t.toNat, by omega⟩
  have htn : tn ≤ 2 := by omega
  obtain ⟨hok, hq2⟩ := okm_prime HPR.out
  have hq0 : (q == 0) = false := by rw [beq_eq_false_iff_ne]; omega
  have HT6 := hid (fun (h : eAll l q = 6) => decR_twice HOK.out hl7' h)
  have HOKM := hid hok
  have HR := hid (show decR l m tn q = decR l m tn q from rfl)
  generalize hR : decR l m tn q = R at *
  have HRR := hid hR
  clear HR hR hok
  go_enter Tryd.func25, Tryd.ntmps25
  go_wp2_with (fail)
  refine HP.out.mono ?_
  rintro e w1 ⟨rfl, hb1⟩
  have HB1 := hid hb1
  clear hb1
  go_wp2
  go_loopw [11] (fun x wr => ∃ i : Nat, x = .int .i64 (i : Int) ∧ i ≤ l.length ∧ Hid (Ne2 l q i 0 ∧ Dr w1 wr)) (fun x _ => l.length - (intOf x).toNat)
  case atStart => exact ⟨0, rfl, by omega, hid ⟨Ne2.start l q, Dr.refl _⟩⟩
  case round =>
  obtain ⟨i, rfl, hi, HI⟩ := hrel
  by_cases hlt : i < l.length
  · have hlt' : (i : Int) < (l.length : Int) := by omega
    obtain ⟨x, hx⟩ := get_of_lt hlt
    have hux := HU.out x (List.mem_of_getElem? hx)
    have HX := hid hx
    have HI2 := hid HI.out
    clear hx HI
    go_wp2
    generalize wr = wo at *
    go_loopw [12] (fun y wr => ∃ k : Nat, y = .int .i64 (k : Int) ∧ k ≤ i ∧ Hid (Ne2 l q i k ∧ Dr w1 wr)) (fun y _ => i - (intOf y).toNat)
    case atStart => exact ⟨0, rfl, by omega, hid HI2.out⟩
    case round =>
    obtain ⟨k, rfl, hk, HK⟩ := hrel
    by_cases hltk : k < i
    · have hltk' : (k : Int) < (i : Int) := by omega
      have hkl : (k : Int) < (l.length : Int) := by omega
      obtain ⟨z, hz⟩ := get_of_lt (l := l) (show k < l.length by omega)
      have huz := HU.out z (List.mem_of_getElem? hz)
      have hbl := below_dr HB1.out HK.out.2
      obtain ⟨bx, ox, rfl, cx0⟩ := HA.out.at_map HX.out
      obtain ⟨b2, o2, he2, cz0⟩ := HA.out.at_map hz
      simp only [Option.some.injEq, Addr.mk.injEq, and_true] at he2
      obtain ⟨rfl, rfl⟩ := he2
      have cx := (hbl.cell (lt_of_cell cx0)).trans cx0
      have cz := (hbl.cell (lt_of_cell cz0)).trans cz0
      have t1 := Int.tmod_eq_emod_of_nonneg (b := q) hux.lo
      have t2 := Int.tmod_eq_emod_of_nonneg (b := q) huz.lo
      by_cases he : x % q = z % q
      · have HE := hid (HT6.out (twice_all HOKM.out (by omega) hltk HX.out hz ((sub_zero_iff HOKM.out).2 he)))
        have f1 : (x % q == z % q) = true := by rw [beq_iff_eq]; exact he
        have HBL := hid hbl
        clear he hz cx0 cz0 HK hbl
        go_wp2
        go_quiet (fail)
        go_wp2
        go_ret3
        rw [HE.out]
        exact DecR.none 6 w _ (below_dr HBL.out ⟨_, rfl⟩)
      · have f1 : (x % q == z % q) = false := by rw [beq_eq_false_iff_ne]; exact he
        have HN := hid (show Ne2 l q i (k + 1) ∧ Dr w1 wr from ⟨HK.out.1.step HX.out hz he, HK.out.2⟩)
        clear he hz cx0 cz0 HK hbl
        go_wp2
        go_quiet (fail)
        have HN2 := hid (show Ne2 l q i (k + 1) ∧ Dr w1 (wr.drewN nq) from ⟨HN.out.1, HN.out.2.trans ⟨_, rfl⟩⟩)
        clear HN
        go_wp2
        go_roundw
        case rel => exact ⟨k + 1, by go_num, by omega, HN2⟩
        case measure => simp [intOf]; omega
    · obtain rfl : k = i := by omega
      have HN := hid (show Ne2 l q (k + 1) 0 ∧ Dr w1 wr from ⟨HK.out.1.row, HK.out.2⟩)
      clear HK
      go_wp2
      go_roundw
      case rel => exact ⟨k + 1, by go_num, by omega, HN⟩
      case measure => simp [intOf]; omega
  obtain rfl : i = l.length := by omega
  have htwo := HI.out.1.two
  have hap := htwo.apart hq2 (prime_pr HPR.out)
  have hbl := below_dr HB1.out HI.out.2
  have hFV : fstV l m tn q [] (2 * tn + 1) 0 = if R.2.2 = 0 then some R.1 else none := by
    rw [fstV_all htn HPR.out hap hl7']
    exact first_law htn HPR.out hap hl7' HLM.out (C := R.1) (W := R.2.1) (er := R.2.2) (HRR.out.trans rfl)
  have HCS := hid (dec_cases htn HPR.out hap hl7' HLM.out (C := R.1) (W := R.2.1) (er := R.2.2) (HRR.out.trans rfl))
  have hF := first05_c A B l m c d tn q HLM.out htn hl HU.out HU'.out hq (by omega) (2 * tn + 1) none none [] 0 0 0 wr (by simp) (by omega) (HA.out.below hbl) (HB.out.below hbl) (.inl rfl) (.inl rfl) (Nat.le_refl _) (Nat.le_refl _) (by omega) (by omega)
  rw [hFV] at hF
  have HF := hid (show Calls Tryd.prog 65 #[.slice A l.length c, .slice B m.length d, .slice none 0 0, .slice none 0 0, .int .i64 0, .int .i64 (tn : Int), .int .u64 q] wr (AllR (if R.2.2 = 0 then some R.1 else none) wr) from hF)
  have HBL := hid hbl
  clear hF hFV hbl hap htwo HI HRR HT6 HOK
  obtain ⟨C, W, er⟩ := R
  dsimp only at HF HCS
  by_cases her : er = 0
  case neg =>
    rw [if_neg her] at HF
    have HD := hid (show C = [] ∧ W = [] ∧ er = 5 by
      rcases HCS.out with ⟨h1, h2, h3, _⟩ | ⟨h1, _⟩
      · exact ⟨h2, h3, h1⟩
      · exact absurd h1 her)
    clear HCS her
    go_wp2_with (fail)
    refine HF.out.mono ?_
    rintro e w9 ⟨v9, rfl, _, n9, b9⟩
    have hb9 := below_next HBL.out HBL.out.size b9
    clear b9 n9
    go_wp2
    go_ret3
    rw [HD.out.1, HD.out.2.1, HD.out.2.2]
    exact DecR.none 5 w w9 hb9
  subst her
  rw [if_pos rfl] at HF
  have HW := hid (show W = offL l m C q ∧ C.length = tn + 1 ∧ C.map (· % q) = C by
    rcases HCS.out with ⟨h1, _⟩ | ⟨_, h2, h3, h4, _⟩
    · exact absurd h1 (by decide)
    · exact ⟨h2, h3, h4⟩)
  clear HCS
  go_wp2_with (fail)
  refine HF.out.mono ?_
  rintro e w9 ⟨v9, rfl, o9, _, b9⟩
  have hv9 := (o9 C rfl).from_ HBL.out.size
  have hb9 := below_next HBL.out HBL.out.size b9
  obtain ⟨A9, c9, e9, hC9⟩ := hv9.form
  have HV9 := hid hv9
  have HCU := hid (show U64s C by
    intro z hz
    rw [← HW.out.2.2] at hz
    obtain ⟨y, _, rfl⟩ := List.mem_map.1 hz
    exact mod_u64 HOKM.out)
  rw [List.length_map] at e9
  subst e9
  have HC9 := hid hC9
  have HB9 := hid hb9
  have hlC : C.length ≤ 3 := by have := HW.out.2.1; omega
  clear o9 b9 hv9 hC9 hb9 HF
  go_wp2
  go_loopw [15, 16] (fun x i wr => ∃ k : Nat, i = .int .i64 (k : Int) ∧ k ≤ l.length ∧ Hid (Own wr w9.heap.size 3 x (natv (offK l m C q k)) ∧ Below w9.heap.size w9 wr)) (fun _ i _ => l.length - (intOf i).toNat)
  case atStart => exact ⟨0, rfl, by omega, hid ⟨Own.nil _ _ _, Below.refl _ _⟩⟩
  case round =>
    obtain ⟨k, rfl, hk, HI⟩ := hrel
    by_cases hlt : k < l.length
    · have hlt' : (k : Int) < (l.length : Int) := by omega
      have hlty : (k : Int) < (m.length : Int) := by have := HLM.out; omega
      obtain ⟨x, hx⟩ := get_of_lt hlt
      obtain ⟨y, hy⟩ := get_of_lt (l := m) (k := k) (by have := HLM.out; omega)
      have hux := HU.out x (List.mem_of_getElem? hx)
      have huy := HU'.out y (List.mem_of_getElem? hy)
      have hX := HI.out.1
      have hbl := HI.out.2
      have hbw := below_next HB9.out HB9.out.size hbl
      obtain ⟨bx, ox, rfl, cx0⟩ := HA.out.at_map hx
      obtain ⟨by_, oy, rfl, cy0⟩ := HB.out.at_map hy
      have cx := (hbw.cell (lt_of_cell cx0)).trans cx0
      have cy := (hbw.cell (lt_of_cell cy0)).trans cy0
      have hcs := HC9.out.below hbl
      have hon : offB l m C q k = !decide (mEval C x q = y % q) := by
        unfold offB
        rw [List.getD_eq_getElem?_getD, List.getD_eq_getElem?_getD, hx, hy]
        simp
      have HS := hid (show natv (offK l m C q (k + 1)) = natv (offK l m C q k) ++ natv (if offB l m C q k = true then [k] else []) by
        rw [offK_succ, natv, List.map_append])
      have hlX : (natv (offK l m C q k)).length ≤ 1000 := by
        have := offK_len l m C q k
        rw [List.length_map]; omega
      rw [hon] at HS
      have HGO := hid (fun w' (hd : Dr wr w') => goes05_c A9 C c9 x y q w' (hcs.dr hd) (by omega) HCU.out hux huy hq (by omega))
      clear hon hx hy cx0 cy0 HI hcs hbw
      generalize decide (mEval C x q = y % q) = bb at *
      cases bb with
      | false =>
        go_wp2
        go_quiet (first | (go_at_call 66; exact quiet_dr (HGO.out _ ⟨_, rfl⟩)))
        have hX2 := hX.dr (⟨nq, rfl⟩ : Dr wr (wr.drewN nq))
        have hbl2 := below_dr hbl (⟨nq, rfl⟩ : Dr wr (wr.drewN nq))
        clear HGO
        generalize wr.drewN nq = w2 at *
        have hB := Bun.nil w2
        clear hX hbl cx cy
        go_wp2_with (first | (refine wpList_named hB rfl ?_; clear hB; intro wn gn hB hbn hg; (try rw [hg]); clear hg; replace hX2 := hX2.below hbn; clear hbn) | (at_builtin; refine wpList_push_at elt_int _ rfl _ _ rfl w9.heap.size hX2 rfl (.int .i64 (k : Int)) _ rfl (hB.row (i := 0) rfl) rfl (by omega) (by omega) (Nat.le_trans hbl2.size hB.b.size) ?_; intro v8 w8 ho8 hg8 _))
        have HN := hid (show Own w8 w9.heap.size 3 v8 (natv (offK l m C q (k + 1))) ∧ Below w9.heap.size w9 w8 from
          ⟨by rw [HS.out]; exact ho8, (below_next hbl2 hbl2.size hB.b).grown hg8 (Nat.le_trans hbl2.size hB.b.size) fun g e => (hX2.block g e).1⟩)
        clear hX2 hbl2 hB ho8 hg8
        go_roundw
        case rel => exact ⟨k + 1, by go_num, by omega, HN⟩
        case measure => simp [intOf]; omega
      | true =>
        go_wp2
        go_quiet (first | (go_at_call 66; exact quiet_dr (HGO.out _ ⟨_, rfl⟩)))
        have HN := hid (show Own (wr.drewN nq) w9.heap.size 3 u15 (natv (offK l m C q (k + 1))) ∧ Below w9.heap.size w9 (wr.drewN nq) from
          ⟨by rw [HS.out]; simpa [natv] using hX.dr ⟨nq, rfl⟩, below_dr hbl ⟨nq, rfl⟩⟩)
        clear hX hbl cx cy HGO
        go_wp2
        go_roundw
        case rel => exact ⟨k + 1, by go_num, by omega, HN⟩
        case measure => simp [intOf]; omega
    · obtain rfl : k = l.length := by omega
      have hlt' : ¬ (l.length : Int) < (l.length : Int) := by omega
      have HE := hid (show natv W = natv (offK l m C q l.length) by rw [HW.out.1]; rfl)
      go_wp2
      go_ret3
      refine ⟨_, _, rfl, HV9.out.below HI.out.2, ?_, below_next HB9.out HB9.out.size HI.out.2⟩
      show Own _ _ _ _ (natv W)
      rw [HE.out]
      exact HI.out.1.from_ HB9.out.size
end Go.Proofs.YtlbhmoiicbhgkaaDoor
