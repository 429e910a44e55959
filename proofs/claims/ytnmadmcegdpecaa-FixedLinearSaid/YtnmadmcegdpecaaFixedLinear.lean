/-
  PROVED HERE: FixedLinear: products of a sum of rows of values are the sum of the products, of a multiple the multiple.
-/
import Derived.Test.YtnmadmcegdpecaaFixM
import Derived.Test.YtnmadmcegdpecaaArgs
import Derived.Test.YtnmadmcegdpecaaAwake07
namespace Go.Proofs.Ytnmadmcegdpecaa
open Go.ChangeShapes Go.WideShapes Go.ChangeAt Go.RowKit

theorem dots_u64 (p : Par) (l x : List Int) : U64s (dotS p l x) := by
  unfold dotS
  split
  · intro z hz
    obtain ⟨k, _, rfl⟩ := List.mem_map.1 hz
    exact dsum_u64 _ _ _ _ _
  · intro z hz; cases hz
theorem sumL_u64 (l o : List Int) (q : Int) (n : Nat) : U64s (sumL l o q n) := by
  intro z hz
  obtain ⟨k, _, rfl⟩ := List.mem_map.1 hz
  exact mAdd_u64 _ _ _
theorem manyL_u64 (l : List Int) (k q : Int) (n : Nat) : U64s (manyL l k q n) := by
  intro z hz
  obtain ⟨k, _, rfl⟩ := List.mem_map.1 hz
  exact mMul_u64 _ _ _
theorem sumL_snoc (l o : List Int) (q : Int) (n : Nat) : (sumL l o q n).map (Value.int .u64) ++ [Value.int .u64 (mAdd (l.getD n 0) (o.getD n 0) q)] = (sumL l o q (n + 1)).map (.int .u64) := by
  simp [sumL, List.range_succ]
theorem manyL_snoc (l : List Int) (k q : Int) (n : Nat) : (manyL l k q n).map (Value.int .u64) ++ [Value.int .u64 (mMul (l.getD n 0) k q)] = (manyL l k q (n + 1)).map (.int .u64) := by
  simp [manyL, List.range_succ]
theorem dots_len_eq (p : Par) (l o x : List Int) : (dotS p l x).length = (dotS p o x).length := by
  unfold dotS; split <;> simp

/-- 'out = append(out, u)', and where the new row lies. -/
theorem wpList_push_at {P : Program} {t e : TypeId} {z : Value} {bytes : Nat} (E : Elt P t e z bytes) (wr : World) {ops : Array Oper} {rest : List Oper} {o : Oper} {a : Act} {Q : Exit → Act → World → Prop}
    (hg : o.guard = none) (s x : Operand) (hop : o.op = .call { callee := .builtin .append, args := #[s, x], argTypes := #[t, t] })
    (base : Nat) {v : Value} {xs : List Value} (hown : Own wr base e v xs) (hs : a.eval s = v) (u : Value) (hx : a.eval x = .slice (some ⟨wr.heap.size, 0, none⟩) 1 1) (h1 : u.oneCell' = true)
    (hb : (xs.length + 1) * bytes ≤ 140737488355328) (hm : xs.length + 1 ≤ 9223372036854775807) (hbase : base ≤ wr.heap.size)
    (hK : ∀ v' w', Own w' base e v' (xs ++ [u]) → (∀ k, k < wr.heap.size → some k ≠ v.ownBlock → w'.heap[k]? = wr.heap[k]?) → Below base wr w' → (v'.ownBlock = v.ownBlock ∨ v'.ownBlock = some (wr.heap.size + 1)) → wpList P ops Q rest (a.put o.dst v') w') :
    wpList P ops Q (o :: rest) a (wr.alloc (.cells #[u] e)) := by
  obtain ⟨i, hi, hz, hsz, hby⟩ := E.info
  refine wpList_append_own_at (P := P) (wr.alloc (.cells #[u] e)) hg s x t hop base e i z 1 bytes E.under hi hz hsz hby E.one (by decide) v xs.length xs hs (hown.alloc _) ⟨wr.heap.size, 0, none⟩ 1 1 [u] hx rfl (cell_one_new _ _ _)
    (by simpa using h1) (by unfold maxLen; omega) hb (by simp; omega) ?_
  intro v' w' h2 h3 _ h4
  refine hK v' w' ?_ (fun k hk hne => ?_) ?_ (by simpa using h4)
  · unfold Own; rw [List.length_append]; exact h2
  · rw [h3.block k (by simp; omega) hne, Below.heap_alloc wr _ k hk]
  · refine ((Below.refl _ _).alloc hbase _).grown h3 (by simp; omega) fun k hk => (hown.block k hk).1

set_option maxRecDepth 100000 in
set_option maxHeartbeats 4000000 in
theorem fixedLinear_c (p : Par) (hp : p.ok) (A B X : Option Addr) (l o x : List Int) (c d e : Nat) (y : Int) (w : World) (hA : Cells w A (l.map (.int .u64))) (hB : Cells w B (o.map (.int .u64))) (hX : Cells w X (x.map (.int .i64)))
    (hl : l.length ≤ 9223372036854775807) (hl' : o.length ≤ 9223372036854775807) (hl2 : x.length ≤ 9223372036854775807) (hu : U64s l) (hu' : U64s o) (hu2 : I64s x) (hy : U64 y) :
    Calls Try.prog 7 #[pval p, .slice A l.length c, .slice B o.length d, .slice X x.length e, .int .u64 y] w fun e w' => e = .returned (.bool true) ∧ Below w.heap.size w w' := by
  have hb0 := below_alloc w (.cells (pcells p).toArray 40)
  have hP0 := row1_new w (pcells p) 40
  have hA0 := hA.below hb0
  have hB0 := hB.below hb0
  have hX0 := hX.below hb0
  simp only [List.toArray] at hP0 hb0 hA0 hB0 hX0
  go_enter Try.func7, Try.ntmps7
  cases h1 : decide ((l.length : Int) > 60) with
  | true =>
    go_wp2_with (fail)
    refine (awake07_c _).mono ?_
    rintro e w2 ⟨rfl, hb4⟩
    go_wp2
    go_ret
    exact ⟨rfl, below_next hb0 hb0.size hb4⟩
  | false =>
  cases h2 : decide ((o.length : Int) > 60) with
  | true =>
    go_wp2_with (fail)
    refine (awake07_c _).mono ?_
    rintro e w2 ⟨rfl, hb4⟩
    go_wp2
    go_ret
    exact ⟨rfl, below_next hb0 hb0.size hb4⟩
  | false =>
  cases h3 : decide ((x.length : Int) > 40) with
  | true =>
    go_wp2_with (fail)
    refine (awake07_c _).mono ?_
    rintro e w2 ⟨rfl, hb4⟩
    go_wp2
    go_ret
    exact ⟨rfl, below_next hb0 hb0.size hb4⟩
  | false =>
  have hl60 : l.length ≤ 60 := by simp at h1; omega
  have ho60 : o.length ≤ 60 := by simp at h2; omega
  have hx40 : x.length ≤ 40 := by simp at h3; omega
  go_wp2_with (fail)
  refine (awake07_c _).mono ?_
  rintro e w2 ⟨rfl, hb4⟩
  have hb1 := below_next hb0 hb0.size hb4
  have hP1 := hP0.below hb4
  have hA1 := hA0.below hb4
  have hB1 := hB0.below hb4
  have hX1 := hX0.below hb4
  have hsz : w.heap.size < w2.heap.size := hP1.lt
  clear hP0 hA0 hB0 hX0 hb0 hb4 h1 h2 h3 hA hB hX
  go_wp2
  go_loopw [11, 12, 13, 14, 15] (fun su ma i _ _ wr => ∃ k : Nat, i = .int .i64 k ∧ k ≤ max l.length o.length ∧ Own wr w2.heap.size 23 su ((sumL l o p.Q k).map (.int .u64)) ∧ Own wr w2.heap.size 23 ma ((manyL l y p.Q k).map (.int .u64)) ∧ (∀ g, su.ownBlock = some g → ma.ownBlock ≠ some g) ∧ Below w2.heap.size w2 wr) (fun _ _ i _ _ _ => max l.length o.length - (intOf i).toNat)
  case atStart => exact ⟨0, rfl, by omega, by simpa [sumL] using Own.nil w2 w2.heap.size 23, by simpa [manyL] using Own.nil w2 w2.heap.size 23, (fun g hg => by cases hg), Below.refl _ _⟩
  case round =>
    obtain ⟨k, rfl, hk, hsu, hma, hne, hb⟩ := hrel
    rename_i wr
    by_cases hlt : k < max l.length o.length
    · have hP3 := hP1.below hb
      have q1 := hP3.cell (k := 1) rfl
      have hs1 := sumL_snoc l o p.Q k
      have hs2 := manyL_snoc l y p.Q k
      have HLN := hid (⟨by simp [sumL], by simp [manyL]⟩ : ((sumL l o p.Q k).map (Value.int .u64)).length = k ∧ ((manyL l y p.Q k).map (Value.int .u64)).length = k)
      by_cases hil : k < l.length
      · by_cases hio : k < o.length
        · skip
          obtain ⟨za, hza⟩ := get_of_lt hil
          obtain ⟨b1, off1, rfl, c1⟩ := (hA1.below hb).at_map hza
          have uza := hu.at_ hza
          have ea : l.getD k 0 = za := by rw [List.getD_eq_getElem?_getD, hza]; rfl
          obtain ⟨zo, hzo⟩ := get_of_lt hio
          obtain ⟨b2, off2, rfl, c2⟩ := (hB1.below hb).at_map hzo
          have uzo := hu'.at_ hzo
          have eo : o.getD k 0 = zo := by rw [List.getD_eq_getElem?_getD, hzo]; rfl
          rw [ea, eo] at hs1
          rw [ea] at hs2
          have HS := hid (⟨hs1, hs2, ea, eo⟩ : _ ∧ _ ∧ _ ∧ _)
          clear hs1 hs2 ea eo
          go_wp2_with (first
            | (go_at_call 32; refine (add_c _ _ _ uza uzo hp.Q _).mono ?_; rintro e w4 ⟨rfl, hw4⟩; have q1 := (hP3.dr hw4).cell (k := 1) rfl)
            | (go_at_call 33; refine (mul_c _ _ _ uza hy hp.Q _).mono ?_; rintro e w6 ⟨rfl, hw6⟩)
            | (at_builtin; refine wpList_push_at elt_u64 w4 rfl _ _ rfl w2.heap.size (hsu.dr hw4) rfl (.int .u64 (mAdd za zo p.Q)) rfl rfl (by rw [HLN.out.1]; omega) (by rw [HLN.out.1]; omega) (by have := (below_dr hb hw4).size; omega) ?_; intro su' w5 hsu5 hoth5 hb5 hwh5; have hma5 := (hma.dr hw4).keep (fun g hg => hoth5 g ((hma.dr hw4).block g hg).2 (fun h => hne g h.symm hg)); have q1 := ((hP3.dr hw4).keep (hb5.block _ hsz)).cell (k := 1) rfl)
            | (at_builtin; refine wpList_push_at elt_u64 w6 rfl _ _ rfl w2.heap.size (hma5.dr hw6) rfl (.int .u64 (mMul za y p.Q)) rfl rfl (by rw [HLN.out.2]; omega) (by rw [HLN.out.2]; omega) (by have := (below_dr hb hw4).size; have := hb5.size; have := (Dr.size hw6); omega) ?_; intro ma' w7 hma7 hoth7 hb7 hwh7))
          have hsu7 := (hsu5.dr hw6).keep (w' := w7) (fun g hg => hoth7 g ((hsu5.dr hw6).block g hg).2 (fun h => by
            rcases hwh5 with h8 | h8
            · exact hne g (h8 ▸ hg) h.symm
            · have h9 := (hma.block g h.symm).2
              rw [hg] at h8
              have h10 := Option.some.inj h8
              have h11 := (Dr.size hw4)
              omega))
          have hne7 : ∀ g, su'.ownBlock = some g → ma'.ownBlock ≠ some g := by
            intro g hg hg'
            rcases hwh7 with h8 | h8
            · rw [h8] at hg'
              rcases hwh5 with h9 | h9
              · exact hne g (h9 ▸ hg) hg'
              · have h10 := (hma.block g hg').2
                rw [hg] at h9
                have h11 := Option.some.inj h9
                have h12 := (Dr.size hw4)
                omega
            · have h9 := ((hsu5.dr hw6).block g hg).2
              rw [hg'] at h8
              have h10 := Option.some.inj h8
              omega
          rw [HS.out.1] at hsu7
          rw [HS.out.2.1] at hma7
          have hb8 : Below w2.heap.size w2 w7 := (below_dr ((below_dr hb hw4).trans hb5) hw6).trans hb7
          clear hsu5 hma5 hoth5 hoth7 hwh5 hwh7 hb5 hb7
          go_wp2
          go_roundw
          case rel => exact ⟨k + 1, by go_num, by omega, hsu7, hma7, hne7, hb8⟩
          case measure => simp [intOf]; omega
        · skip
          obtain ⟨za, hza⟩ := get_of_lt hil
          obtain ⟨b1, off1, rfl, c1⟩ := (hA1.below hb).at_map hza
          have uza := hu.at_ hza
          have ea : l.getD k 0 = za := by rw [List.getD_eq_getElem?_getD, hza]; rfl
          have uzo : U64 0 := ⟨by decide, by decide⟩
          have eo : o.getD k 0 = 0 := by rw [List.getD_eq_getElem?_getD, List.getElem?_eq_none (by omega)]; rfl
          rw [ea, eo] at hs1
          rw [ea] at hs2
          have HS := hid (⟨hs1, hs2, ea, eo⟩ : _ ∧ _ ∧ _ ∧ _)
          clear hs1 hs2 ea eo
          go_wp2_with (first
            | (go_at_call 32; refine (add_c _ _ _ uza uzo hp.Q _).mono ?_; rintro e w4 ⟨rfl, hw4⟩; have q1 := (hP3.dr hw4).cell (k := 1) rfl)
            | (go_at_call 33; refine (mul_c _ _ _ uza hy hp.Q _).mono ?_; rintro e w6 ⟨rfl, hw6⟩)
            | (at_builtin; refine wpList_push_at elt_u64 w4 rfl _ _ rfl w2.heap.size (hsu.dr hw4) rfl (.int .u64 (mAdd za 0 p.Q)) rfl rfl (by rw [HLN.out.1]; omega) (by rw [HLN.out.1]; omega) (by have := (below_dr hb hw4).size; omega) ?_; intro su' w5 hsu5 hoth5 hb5 hwh5; have hma5 := (hma.dr hw4).keep (fun g hg => hoth5 g ((hma.dr hw4).block g hg).2 (fun h => hne g h.symm hg)); have q1 := ((hP3.dr hw4).keep (hb5.block _ hsz)).cell (k := 1) rfl)
            | (at_builtin; refine wpList_push_at elt_u64 w6 rfl _ _ rfl w2.heap.size (hma5.dr hw6) rfl (.int .u64 (mMul za y p.Q)) rfl rfl (by rw [HLN.out.2]; omega) (by rw [HLN.out.2]; omega) (by have := (below_dr hb hw4).size; have := hb5.size; have := (Dr.size hw6); omega) ?_; intro ma' w7 hma7 hoth7 hb7 hwh7))
          have hsu7 := (hsu5.dr hw6).keep (w' := w7) (fun g hg => hoth7 g ((hsu5.dr hw6).block g hg).2 (fun h => by
            rcases hwh5 with h8 | h8
            · exact hne g (h8 ▸ hg) h.symm
            · have h9 := (hma.block g h.symm).2
              rw [hg] at h8
              have h10 := Option.some.inj h8
              have h11 := (Dr.size hw4)
              omega))
          have hne7 : ∀ g, su'.ownBlock = some g → ma'.ownBlock ≠ some g := by
            intro g hg hg'
            rcases hwh7 with h8 | h8
            · rw [h8] at hg'
              rcases hwh5 with h9 | h9
              · exact hne g (h9 ▸ hg) hg'
              · have h10 := (hma.block g hg').2
                rw [hg] at h9
                have h11 := Option.some.inj h9
                have h12 := (Dr.size hw4)
                omega
            · have h9 := ((hsu5.dr hw6).block g hg).2
              rw [hg'] at h8
              have h10 := Option.some.inj h8
              omega
          rw [HS.out.1] at hsu7
          rw [HS.out.2.1] at hma7
          have hb8 : Below w2.heap.size w2 w7 := (below_dr ((below_dr hb hw4).trans hb5) hw6).trans hb7
          clear hsu5 hma5 hoth5 hoth7 hwh5 hwh7 hb5 hb7
          go_wp2
          go_roundw
          case rel => exact ⟨k + 1, by go_num, by omega, hsu7, hma7, hne7, hb8⟩
          case measure => simp [intOf]; omega
      · have hio : k < o.length := by omega
        have uza : U64 0 := ⟨by decide, by decide⟩
        have ea : l.getD k 0 = 0 := by rw [List.getD_eq_getElem?_getD, List.getElem?_eq_none (by omega)]; rfl
        obtain ⟨zo, hzo⟩ := get_of_lt hio
        obtain ⟨b2, off2, rfl, c2⟩ := (hB1.below hb).at_map hzo
        have uzo := hu'.at_ hzo
        have eo : o.getD k 0 = zo := by rw [List.getD_eq_getElem?_getD, hzo]; rfl
        rw [ea, eo] at hs1
        rw [ea] at hs2
        have HS := hid (⟨hs1, hs2, ea, eo⟩ : _ ∧ _ ∧ _ ∧ _)
        clear hs1 hs2 ea eo
        go_wp2_with (first
          | (go_at_call 32; refine (add_c _ _ _ uza uzo hp.Q _).mono ?_; rintro e w4 ⟨rfl, hw4⟩; have q1 := (hP3.dr hw4).cell (k := 1) rfl)
          | (go_at_call 33; refine (mul_c _ _ _ uza hy hp.Q _).mono ?_; rintro e w6 ⟨rfl, hw6⟩)
          | (at_builtin; refine wpList_push_at elt_u64 w4 rfl _ _ rfl w2.heap.size (hsu.dr hw4) rfl (.int .u64 (mAdd 0 zo p.Q)) rfl rfl (by rw [HLN.out.1]; omega) (by rw [HLN.out.1]; omega) (by have := (below_dr hb hw4).size; omega) ?_; intro su' w5 hsu5 hoth5 hb5 hwh5; have hma5 := (hma.dr hw4).keep (fun g hg => hoth5 g ((hma.dr hw4).block g hg).2 (fun h => hne g h.symm hg)); have q1 := ((hP3.dr hw4).keep (hb5.block _ hsz)).cell (k := 1) rfl)
          | (at_builtin; refine wpList_push_at elt_u64 w6 rfl _ _ rfl w2.heap.size (hma5.dr hw6) rfl (.int .u64 (mMul 0 y p.Q)) rfl rfl (by rw [HLN.out.2]; omega) (by rw [HLN.out.2]; omega) (by have := (below_dr hb hw4).size; have := hb5.size; have := (Dr.size hw6); omega) ?_; intro ma' w7 hma7 hoth7 hb7 hwh7))
        have hsu7 := (hsu5.dr hw6).keep (w' := w7) (fun g hg => hoth7 g ((hsu5.dr hw6).block g hg).2 (fun h => by
          rcases hwh5 with h8 | h8
          · exact hne g (h8 ▸ hg) h.symm
          · have h9 := (hma.block g h.symm).2
            rw [hg] at h8
            have h10 := Option.some.inj h8
            have h11 := (Dr.size hw4)
            omega))
        have hne7 : ∀ g, su'.ownBlock = some g → ma'.ownBlock ≠ some g := by
          intro g hg hg'
          rcases hwh7 with h8 | h8
          · rw [h8] at hg'
            rcases hwh5 with h9 | h9
            · exact hne g (h9 ▸ hg) hg'
            · have h10 := (hma.block g hg').2
              rw [hg] at h9
              have h11 := Option.some.inj h9
              have h12 := (Dr.size hw4)
              omega
          · have h9 := ((hsu5.dr hw6).block g hg).2
            rw [hg'] at h8
            have h10 := Option.some.inj h8
            omega
        rw [HS.out.1] at hsu7
        rw [HS.out.2.1] at hma7
        have hb8 : Below w2.heap.size w2 w7 := (below_dr ((below_dr hb hw4).trans hb5) hw6).trans hb7
        clear hsu5 hma5 hoth5 hoth7 hwh5 hwh7 hb5 hb7
        go_wp2
        go_roundw
        case rel => exact ⟨k + 1, by go_num, by omega, hsu7, hma7, hne7, hb8⟩
        case measure => simp [intOf]; omega
    · obtain rfl : k = max l.length o.length := by omega
      have hbo := hb
      have hP3 := hP1.below hbo
      have hA3 := hA1.below hbo
      have hB3 := hB1.below hbo
      have hX3 := hX1.below hbo
      have hb9 := below_next hb1 hb1.size hbo
      obtain ⟨As, cs, rfl, gs, gsl⟩ := rowV_own hsu
      obtain ⟨Am, cm, rfl, gm, gml⟩ := rowV_own hma
      clear hb hsu hma hne hP1 hA1 hB1 hX1
      go_wp2
      refine Rg.wp_region (l := [_, _, _, _, _, _, _, _, _, _, _, _, _, _, _, _]) (tail := [_, _, _, _]) (Rg.grows _ 20) [some 80, some 81, some 82, some 83, some 84, some 85, some 86, some 87, some 88, some 89, some 90, some 91, some 92, some 93, some 94, some 95, some 16, some 17, some 18, some 19] 152 (by kernel_rfl) (by kernel_rfl) (by kernel_rfl) rfl (Rg.grows_fair _ _) (Rg.keep_drew _) (trivial) ?_
      refine Rg.op_is (pval p) [] rfl rfl (by kernel_rfl) ?_ ?_
      · intro wx hb
        refine Rg.from_nil fun T hT => ?_
        obtain ⟨q0, q1, q2, q3, q4, q5, q6, q7, q8, q9, q10, q11⟩ := pars_at (hP3.below hb)
        go_wp2
        exact hT _ _ rfl (by first | exact Rg.Keep.refl _ | exact below_of_dr hw2 | exact hw2 | exact (Below.refl _ _).alloc (Nat.le_refl _) _) (by first | rfl | exact congrArg _ (by decide))
      refine' Rg.op_is _ [] rfl rfl (by kernel_rfl) ?_ ?_
      rotate_left
      · intro wx hb
        refine Rg.from_nil fun T hT => ?_
        go_wp2
        refine hT _ _ rfl (by first | exact Rg.Keep.refl _ | exact below_of_dr hw2 | exact hw2 | exact (Below.refl _ _).alloc (Nat.le_refl _) _) ?_
        simp only [Rg.last, List.getElem?_toArray, List.getElem?_cons_succ, List.getElem?_cons_zero, Option.getD_some]
        rfl
      refine' Rg.op_is _ [] rfl rfl (by kernel_rfl) ?_ ?_
      rotate_left
      · intro wx hb
        refine Rg.from_nil fun T hT => ?_
        go_wp2
        refine hT _ _ rfl (by first | exact Rg.Keep.refl _ | exact below_of_dr hw2 | exact hw2 | exact (Below.refl _ _).alloc (Nat.le_refl _) _) ?_
        simp only [Rg.last, List.getElem?_toArray, List.getElem?_cons_succ, List.getElem?_cons_zero, Option.getD_some]
        rfl
      refine Rg.op_of (fun w' v => RowV w' v (dotS p l x)) [0, 1, 2] rfl ?_ ?_ rfl (by kernel_rfl) ?_ ?_
      · exact fun w1 w2 v hk h => h.below hk
      · exact fun w1 w2 v hk h => h.below hk
      · intro wx hb
        refine Rg.from_is (some 80) rfl rfl ?_
        refine Rg.from_is (some 81) rfl rfl ?_
        refine Rg.from_is (some 82) rfl rfl ?_
        refine Rg.from_nil fun T hT => ?_
        go_wp2_with (fail)
        refine (fdot_c p hp _ X l x _ _ _ (hA3.below hb) (hX3.below hb) hl (by omega) hu hu2).mono ?_
        rintro e w6 ⟨v, rfl, hown, hb8⟩
        have hrv := rowV_own hown
        clear hown
        go_wp2
        exact hT _ _ rfl hb8 hrv
      refine Rg.op_is (pval p) [] rfl rfl (by kernel_rfl) ?_ ?_
      · intro wx hb
        refine Rg.from_nil fun T hT => ?_
        obtain ⟨q0, q1, q2, q3, q4, q5, q6, q7, q8, q9, q10, q11⟩ := pars_at (hP3.below hb)
        go_wp2
        exact hT _ _ rfl (by first | exact Rg.Keep.refl _ | exact below_of_dr hw2 | exact hw2 | exact (Below.refl _ _).alloc (Nat.le_refl _) _) (by first | rfl | exact congrArg _ (by decide))
      refine' Rg.op_is _ [] rfl rfl (by kernel_rfl) ?_ ?_
      rotate_left
      · intro wx hb
        refine Rg.from_nil fun T hT => ?_
        go_wp2
        refine hT _ _ rfl (by first | exact Rg.Keep.refl _ | exact below_of_dr hw2 | exact hw2 | exact (Below.refl _ _).alloc (Nat.le_refl _) _) ?_
        simp only [Rg.last, List.getElem?_toArray, List.getElem?_cons_succ, List.getElem?_cons_zero, Option.getD_some]
        rfl
      refine' Rg.op_is _ [] rfl rfl (by kernel_rfl) ?_ ?_
      rotate_left
      · intro wx hb
        refine Rg.from_nil fun T hT => ?_
        go_wp2
        refine hT _ _ rfl (by first | exact Rg.Keep.refl _ | exact below_of_dr hw2 | exact hw2 | exact (Below.refl _ _).alloc (Nat.le_refl _) _) ?_
        simp only [Rg.last, List.getElem?_toArray, List.getElem?_cons_succ, List.getElem?_cons_zero, Option.getD_some]
        rfl
      refine Rg.op_of (fun w' v => RowV w' v (dotS p o x)) [4, 5, 6] rfl ?_ ?_ rfl (by kernel_rfl) ?_ ?_
      · exact fun w1 w2 v hk h => h.below hk
      · exact fun w1 w2 v hk h => h.below hk
      · intro wx hb
        refine Rg.from_is (some 84) rfl rfl ?_
        refine Rg.from_is (some 85) rfl rfl ?_
        refine Rg.from_is (some 86) rfl rfl ?_
        refine Rg.from_nil fun T hT => ?_
        go_wp2_with (fail)
        refine (fdot_c p hp _ X o x _ _ _ (hB3.below hb) (hX3.below hb) hl' (by omega) hu' hu2).mono ?_
        rintro e w6 ⟨v, rfl, hown, hb8⟩
        have hrv := rowV_own hown
        clear hown
        go_wp2
        exact hT _ _ rfl hb8 hrv
      refine Rg.op_is (pval p) [] rfl rfl (by kernel_rfl) ?_ ?_
      · intro wx hb
        refine Rg.from_nil fun T hT => ?_
        obtain ⟨q0, q1, q2, q3, q4, q5, q6, q7, q8, q9, q10, q11⟩ := pars_at (hP3.below hb)
        go_wp2
        exact hT _ _ rfl (by first | exact Rg.Keep.refl _ | exact below_of_dr hw2 | exact hw2 | exact (Below.refl _ _).alloc (Nat.le_refl _) _) (by first | rfl | exact congrArg _ (by decide))
      refine' Rg.op_is _ [] rfl rfl (by kernel_rfl) ?_ ?_
      rotate_left
      · intro wx hb
        refine Rg.from_nil fun T hT => ?_
        go_wp2
        refine hT _ _ rfl (by first | exact Rg.Keep.refl _ | exact below_of_dr hw2 | exact hw2 | exact (Below.refl _ _).alloc (Nat.le_refl _) _) ?_
        simp only [Rg.last, List.getElem?_toArray, List.getElem?_cons_succ, List.getElem?_cons_zero, Option.getD_some]
        rfl
      refine' Rg.op_is _ [] rfl rfl (by kernel_rfl) ?_ ?_
      rotate_left
      · intro wx hb
        refine Rg.from_nil fun T hT => ?_
        go_wp2
        refine hT _ _ rfl (by first | exact Rg.Keep.refl _ | exact below_of_dr hw2 | exact hw2 | exact (Below.refl _ _).alloc (Nat.le_refl _) _) ?_
        simp only [Rg.last, List.getElem?_toArray, List.getElem?_cons_succ, List.getElem?_cons_zero, Option.getD_some]
        rfl
      refine Rg.op_of (fun w' v => RowV w' v (dotS p (sumL l o p.Q (max l.length o.length)) x)) [8, 9, 10] rfl ?_ ?_ rfl (by kernel_rfl) ?_ ?_
      · exact fun w1 w2 v hk h => h.below hk
      · exact fun w1 w2 v hk h => h.below hk
      · intro wx hb
        refine Rg.from_is (some 88) rfl rfl ?_
        refine Rg.from_is (some 89) rfl rfl ?_
        refine Rg.from_is (some 90) rfl rfl ?_
        refine Rg.from_nil fun T hT => ?_
        go_wp2_with (fail)
        refine (fdot_c p hp _ X (sumL l o p.Q (max l.length o.length)) x _ _ _ (gs.below hb) (hX3.below hb) gsl (by omega) (sumL_u64 _ _ _ _) hu2).mono ?_
        rintro e w6 ⟨v, rfl, hown, hb8⟩
        have hrv := rowV_own hown
        clear hown
        go_wp2
        exact hT _ _ rfl hb8 hrv
      refine Rg.op_is (pval p) [] rfl rfl (by kernel_rfl) ?_ ?_
      · intro wx hb
        refine Rg.from_nil fun T hT => ?_
        obtain ⟨q0, q1, q2, q3, q4, q5, q6, q7, q8, q9, q10, q11⟩ := pars_at (hP3.below hb)
        go_wp2
        exact hT _ _ rfl (by first | exact Rg.Keep.refl _ | exact below_of_dr hw2 | exact hw2 | exact (Below.refl _ _).alloc (Nat.le_refl _) _) (by first | rfl | exact congrArg _ (by decide))
      refine' Rg.op_is _ [] rfl rfl (by kernel_rfl) ?_ ?_
      rotate_left
      · intro wx hb
        refine Rg.from_nil fun T hT => ?_
        go_wp2
        refine hT _ _ rfl (by first | exact Rg.Keep.refl _ | exact below_of_dr hw2 | exact hw2 | exact (Below.refl _ _).alloc (Nat.le_refl _) _) ?_
        simp only [Rg.last, List.getElem?_toArray, List.getElem?_cons_succ, List.getElem?_cons_zero, Option.getD_some]
        rfl
      refine' Rg.op_is _ [] rfl rfl (by kernel_rfl) ?_ ?_
      rotate_left
      · intro wx hb
        refine Rg.from_nil fun T hT => ?_
        go_wp2
        refine hT _ _ rfl (by first | exact Rg.Keep.refl _ | exact below_of_dr hw2 | exact hw2 | exact (Below.refl _ _).alloc (Nat.le_refl _) _) ?_
        simp only [Rg.last, List.getElem?_toArray, List.getElem?_cons_succ, List.getElem?_cons_zero, Option.getD_some]
        rfl
      refine Rg.op_of (fun w' v => RowV w' v (dotS p (manyL l y p.Q (max l.length o.length)) x)) [12, 13, 14] rfl ?_ ?_ rfl (by kernel_rfl) ?_ ?_
      · exact fun w1 w2 v hk h => h.below hk
      · exact fun w1 w2 v hk h => h.below hk
      · intro wx hb
        refine Rg.from_is (some 92) rfl rfl ?_
        refine Rg.from_is (some 93) rfl rfl ?_
        refine Rg.from_is (some 94) rfl rfl ?_
        refine Rg.from_nil fun T hT => ?_
        go_wp2_with (fail)
        refine (fdot_c p hp _ X (manyL l y p.Q (max l.length o.length)) x _ _ _ (gm.below hb) (hX3.below hb) gml (by omega) (manyL_u64 _ _ _ _) hu2).mono ?_
        rintro e w6 ⟨v, rfl, hown, hb8⟩
        have hrv := rowV_own hown
        clear hown
        go_wp2
        exact hT _ _ rfl hb8 hrv
      refine Rg.walk_nil [0, 1, 2, 3, 4, 5, 6, 7, 8, 9, 10, 11, 12, 13, 14, 15] (by kernel_rfl) ?_
      intro wx hb
      refine Rg.from_is (some 80) rfl rfl ?_
      refine Rg.from_is (some 81) rfl rfl ?_
      refine Rg.from_is (some 82) rfl rfl ?_
      refine Rg.from_of (some 83) rfl rfl fun v83 h83 => ?_
      refine Rg.from_is (some 84) rfl rfl ?_
      refine Rg.from_is (some 85) rfl rfl ?_
      refine Rg.from_is (some 86) rfl rfl ?_
      refine Rg.from_of (some 87) rfl rfl fun v87 h87 => ?_
      refine Rg.from_is (some 88) rfl rfl ?_
      refine Rg.from_is (some 89) rfl rfl ?_
      refine Rg.from_is (some 90) rfl rfl ?_
      refine Rg.from_of (some 91) rfl rfl fun v91 h91 => ?_
      refine Rg.from_is (some 92) rfl rfl ?_
      refine Rg.from_is (some 93) rfl rfl ?_
      refine Rg.from_is (some 94) rfl rfl ?_
      refine Rg.from_of (some 95) rfl rfl fun v95 h95 => ?_
      refine Rg.from_nil ?_
      simp only [List.map, Act.put, List.setIfInBounds_toArray, List.set_cons_zero, List.set_cons_succ]
      obtain ⟨A1, c1, rfl, g1, l1⟩ := h83
      obtain ⟨A2, c2, rfl, g2, l2⟩ := h87
      obtain ⟨A3, c3, rfl, g3, l3⟩ := h91
      obtain ⟨A4, c4, rfl, g4, l4⟩ := h95
      have hP4 := hP3.below hb
      have hb10 := below_next hb9 hb9.size hb
      have k2 := dots_len_eq p o l x
      have k3 := dots_len_eq p (sumL l o p.Q (max l.length o.length)) l x
      have k4 := dots_len_eq p (manyL l y p.Q (max l.length o.length)) l x
      have e1 : (((dotS p l x).length : Int) != ((dotS p o x).length : Int)) = false := by rw [k2]; simp
      have e2 : (((dotS p (sumL l o p.Q (max l.length o.length)) x).length : Int) != ((dotS p l x).length : Int)) = false := by rw [k3]; simp
      have e3 : (((dotS p (manyL l y p.Q (max l.length o.length)) x).length : Int) != ((dotS p l x).length : Int)) = false := by rw [k4]; simp
      have hs := fun k c d e => linear_sum p l o x (n := max l.length o.length) (k := k) (c := c) (d := d) (e := e) rfl
      have hm := fun k c e => linear_many p l x y (n := max l.length o.length) (k := k) (c := c) (e := e) (Nat.le_max_left _ _)
      have u1 := dots_u64 p l x
      have u2 := dots_u64 p o x
      generalize dotS p (sumL l o p.Q (max l.length o.length)) x = ds at *
      generalize dotS p (manyL l y p.Q (max l.length o.length)) x = dm at *
      generalize dotS p l x = dl at *
      generalize dotS p o x = d2 at *
      have HS := hid (⟨hs, hm, k2, k3, k4⟩ : _ ∧ _ ∧ _ ∧ _ ∧ _)
      clear hs hm k2 k3 k4 hb hP3 hA3 hB3 hX3 gs gm
      go_wp2
      clear e1 e2 e3
      go_loopw [20] (fun i wr => ∃ k : Nat, i = .int .i64 k ∧ k ≤ dl.length ∧ Dr wx wr) (fun i _ => dl.length - (intOf i).toNat)
      case atStart => exact ⟨0, rfl, by omega, Dr.refl _⟩
      case round =>
        obtain ⟨k, rfl, hk, hw⟩ := hrel
        rename_i w9
        by_cases hlt : k < dl.length
        · obtain ⟨vc, hvc⟩ := get_of_lt hlt
          have hlt2 : k < d2.length := by rw [HS.out.2.2.1]; exact hlt
          have hlt3 : k < ds.length := by rw [HS.out.2.2.2.1]; exact hlt
          have hlt4 : k < dm.length := by rw [HS.out.2.2.2.2]; exact hlt
          obtain ⟨vd, hvd⟩ := get_of_lt hlt2
          obtain ⟨ve, hve⟩ := get_of_lt hlt3
          obtain ⟨vf, hvf⟩ := get_of_lt hlt4
          have q1 := HS.out.1 k _ _ _ hvc hvd hve
          have q2 := HS.out.2.1 k _ _ hvc hvf
          have n1 : (ve != mAdd vc vd p.Q) = false := by rw [q1]; simp
          have n2 : (vf != mMul vc y p.Q) = false := by rw [q2]; simp
          have uc := u1.at_ hvc
          have ud := u2.at_ hvd
          obtain ⟨o1, f1, rfl, x1⟩ := (g1.dr hw).at_map hvc
          obtain ⟨o2, f2, rfl, x2⟩ := (g2.dr hw).at_map hvd
          obtain ⟨o3, f3, rfl, x3⟩ := (g3.dr hw).at_map hve
          obtain ⟨o4, f4, rfl, x4⟩ := (g4.dr hw).at_map hvf
          have y1 := (hP4.dr hw).cell (k := 1) rfl
          have HQQ := hid (⟨q1, q2⟩ : _ ∧ _)
          clear q1 q2 hvc hvd hve hvf
          go_wp2
          go_quiet (first | (go_at_call 32; exact quiet_dr (add_c _ _ _ uc ud hp.Q _)) | (go_at_call 33; exact quiet_dr (mul_c _ _ _ uc hy hp.Q _)))
          go_wp2
          go_roundw
          case rel => exact ⟨k + 1, by go_num, by omega, hw.more _⟩
          case measure => simp [intOf]; omega
        · obtain rfl : k = dl.length := by omega
          go_wp2
          go_ret
          exact ⟨rfl, below_dr hb10 hw⟩

set_option maxRecDepth 100000 in
theorem fixedLinear_lifted (os : Os) (started : os.Started) (H : Type) (enc : TypeId × Value → H) :
    ReturnsInHanded {} Try.checked os 7 .any (Rows.fixedLinearSpec.pre6 enc Try.prog Try.f7 Rows.fixedLinearRow.domain false) (Rows.fixedLinearSpec.post enc Try.prog Try.f7 false true false false) := by
  refine returnsInHanded_of_change (C := Try.checked) Try.own started (by kernel_rfl) Try.func7
    (ChangeSpec.witness6 (enc := enc) (C := Try.checked) false ⟨#[], #[pval parSome, .slice none 0 0, .slice none 0 0, .slice none 0 0, .int .u64 0], []⟩ 8 (by kernel_rfl) (by kernel_rfl) (by kernel_rfl) (by kernel_rfl)) ?_
  intro W base args ds gs before hval0 hW hcnd _
  have hval : ∀ (j : Nat) t v, Try.f7.params[j]? = some t → args[j]? = some v → Value.okWide Try.prog W .any base t v := hval0
  have hW' := hW
  obtain ⟨p, q, hA0, hV, rfl, hfz, hnd⟩ := hW
  have hA : DataW.TrodAll enc Try.prog W 0 (fun _ => true) true Try.f7.params.toList args.toList ds p := hA0
  rw [Try.params7] at hA hval
  obtain ⟨v0, v1, v2, v3, v4, d0, d1, d2, d3, d4, p0, p1, p2, p3, p4, rfl, rfl, rfl, h0, h1, h2, h3, h4⟩ := trodAll_five' hA
  obtain ⟨rfl, rfl⟩ := trodVars_none hV
  obtain ⟨pr, rfl, hp⟩ := par_at (hval 0 40 v0 rfl rfl) h0
  obtain ⟨_, k1⟩ := one_of Try.underlying26 (hval 1 26 v1 rfl rfl) h1
  obtain ⟨A, l, c, rfl, gA, gl, gu⟩ := words_at k1
  obtain ⟨_, k2⟩ := one_of Try.underlying26 (hval 2 26 v2 rfl rfl) h2
  obtain ⟨B, o, d, rfl, gB, gl', gu'⟩ := words_at k2
  obtain ⟨_, k3⟩ := one_of Try.underlying42 (hval 3 42 v3 rfl rfl) h3
  obtain ⟨X, x, e2, rfl, gX, gl2, gu2⟩ := ints_at k3
  obtain ⟨y, rfl, _, _, wy⟩ := open_int Try.underlying23 (hval 4 23 v4 rfl rfl) h4
  clear hA0 hval0
  refine (fixedLinear_c pr hp A B X l o x c d e2 y W gA gB gX gl gl' gl2 gu gu' gu2 (u64_of wy)).mono fun e W' ⟨he, hb⟩ => ?_
  subst he
  exact ⟨_, rfl, post_true hW' hb Try.laidOut (by kernel_rfl) rfl rfl rfl rfl rfl Try.underlying4⟩

theorem fixedLinear_holds : Rows.FixedLinearSaid :=
  OpenClaim.holds_of_wide 7 Try.f7 rfl rfl rfl rfl rfl rfl rfl ⟨rfl, rfl, rfl, rfl, rfl⟩ rfl rfl rfl rfl rfl (by kernel_rfl) Try.func7 (by kernel_rfl)
    (of_decide_eq_true (by kernel_rfl)) (by unfold Func.isWrapper; first | (rw [if_pos (by decide +kernel)]; kernel_rfl) | (rw [if_neg (by decide +kernel)]; exact ⟨rfl, rfl⟩))
    (fun os started H enc _ => fixedLinear_lifted os started H enc)
#print axioms fixedLinear_holds

end Go.Proofs.Ytnmadmcegdpecaa
