/-
  The rounds in which anything was sent.
-/
import Derived.Test.YtnngnekfgijejaaTalN
import Derived.Sort.OwnSortedInts
namespace Go.Proofs.Ytnngnekfgijejaa
open Go.RowKit Go.Maps Go.Shelf Go.Proofs Go.Sort Go.Lib

/-- the slice at A reads as these votes. -/
def CellsV (w : World) (A : Option Addr) (L : List Vt) : Prop := Cells w A (L.flatMap vcl)
theorem CellsV.below {w w' : World} {A : Option Addr} {L : List Vt} (h : CellsV w A L) (hb : Below w.heap.size w w') : CellsV w' A L := Cells.below h hb
theorem CellsV.dr {w w' : World} {A : Option Addr} {L : List Vt} (h : CellsV w A L) (hd : Dr w w') : CellsV w' A L := Cells.dr h hd
theorem flatV_get {L : List Vt} {i : Nat} {v : Vt} (h : L[i]? = some v) (j : Nat) (hj : j < 5) : (L.flatMap vcl)[i * 5 + j]? = some ((vcl v)[j]!) := by
  obtain ⟨hi, e⟩ := List.getElem?_eq_some_iff.1 h
  rw [flatV_at L _ (by omega)]
  have e1 : (i * 5 + j) / 5 = i := by omega
  have e2 : (i * 5 + j) % 5 = j := by omega
  rw [e1, e2]
  simp [hi, e]
theorem CellsV.at_ {w : World} {A : Option Addr} {L : List Vt} (h : CellsV w A L) {i : Nat} {v : Vt} (hv : L[i]? = some v) :
    ∃ b off, A = some ⟨b, off, none⟩ ∧ b < w.heap.size ∧ w.cell? ⟨b, off + i * 5, none⟩ = some (.int .i64 v.fr) ∧ w.cell? ⟨b, off + i * 5 + 1, none⟩ = some (.int .i64 v.rd) ∧ w.cell? ⟨b, off + i * 5 + 2, none⟩ = some (.int .u8 v.kd) ∧ w.cell? ⟨b, off + i * 5 + 3, none⟩ = some (.int .i64 v.va) ∧ w.cell? ⟨b, off + i * 5 + 4, none⟩ = some (.string v.tx) := by
  rcases h with h | ⟨b, off, rfl, h⟩
  · have := flatV_get hv 0 (by omega)
    rw [h] at this; simp at this
  · have h0 := h _ _ (flatV_get hv 0 (by omega))
    have h1 := h _ _ (flatV_get hv 1 (by omega))
    have h2 := h _ _ (flatV_get hv 2 (by omega))
    have h3 := h _ _ (flatV_get hv 3 (by omega))
    have h4 := h _ _ (flatV_get hv 4 (by omega))
    simp only [← Nat.add_assoc] at h1 h2 h3 h4
    exact ⟨b, off, rfl, lt_of_cell h0, h0, h1, h2, h3, h4⟩
theorem OwnV.form {w : World} {base : Nat} {t : TypeId} {v : Value} {xs : List Vt} (h : OwnV w base t v xs) : ∃ A cap, v = .slice A xs.length cap ∧ CellsV w A xs := by
  rcases h.2 with ⟨rfl, h0⟩ | ⟨g, cap, cur, rfl, hb, hg, hn, hm, hs, ht⟩
  · obtain rfl := List.eq_nil_of_length_eq_zero h0
    exact ⟨none, 0, rfl, .inl rfl⟩
  · refine ⟨_, cap, rfl, .inr ⟨g, 0, rfl, fun i u hu => ?_⟩⟩
    have := World.ownsRow.cells (w := w) h (g := g) rfl i u hu
    have hadd : (⟨g, 0, none⟩ : Addr).add i = ⟨g, 0 + i, none⟩ := by unfold Addr.add; split <;> simp_all
    rwa [hadd] at this

theorem OwnV.cellsV {w : World} {base n c : Nat} {t : TypeId} {A : Option Addr} {xs : List Vt} (h : OwnV w base t (.slice A n c) xs) : CellsV w A xs := by
  obtain ⟨A', c', e, h2⟩ := h.form
  simp only [Value.slice.injEq] at e
  rw [e.1]; exact h2
theorem OwnV.other {w w' : World} {base base0 : Nat} {t e0 : TypeId} {v v0 : Value} {xs : List Vt} {ys : List Value} (h : OwnV w base t v xs) (hown : Own w base0 e0 v0 ys) (hne : t ≠ e0) (hk : ∀ k, k < w.heap.size → some k ≠ v0.ownBlock → w'.heap[k]? = w.heap[k]?) : OwnV w' base t v xs := by
  refine h.keep fun g hg => hk g (h.block g hg).2 fun e => ?_
  rcases h.2 with ⟨rfl, _⟩ | ⟨g2, cap, cur, rfl, _, h3, _⟩
  · cases hg
  · rcases hown.2 with ⟨rfl, _⟩ | ⟨g3, cap3, cur3, rfl, _, h4, _⟩
    · cases e
    · simp only [Value.ownBlock, Option.some.injEq] at hg e
      subst hg e
      rw [h3] at h4
      simp only [Option.some.injEq, Obj.cells.injEq] at h4
      exact hne h4.2.1

def rds (L : List Vt) : List Int := L.map Vt.rd
def rndL (L : List Vt) : List Int := Lib.compact (rds L)

theorem wpList_push_at {P : Program} {t e : TypeId} {z : Value} {bytes : Nat} (E : Elt P t e z bytes) (wr : World) {ops : Array Oper} {rest : List Oper} {o : Oper} {a : Act} {Q : Exit → Act → World → Prop}
    (hg : o.guard = none) (s x : Operand) (hop : o.op = .call { callee := .builtin .append, args := #[s, x], argTypes := #[t, t] })
    (base : Nat) {v : Value} {xs : List Value} (hown : Own wr base e v xs) (hs : a.eval s = v) (u : Value) (m : Nat) (hm0 : wr.heap.size = m) (hx : a.eval x = .slice (some ⟨m, 0, none⟩) 1 1) (h1 : u.oneCell' = true)
    (hb : (xs.length + 1) * bytes ≤ 140737488355328) (hm : xs.length + 1 ≤ 9223372036854775807) (hbase : base ≤ wr.heap.size)
    (hK : ∀ v' w', Own w' base e v' (xs ++ [u]) → (∀ k, k < wr.heap.size → some k ≠ v.ownBlock → w'.heap[k]? = wr.heap[k]?) → Below base wr w' → wpList P ops Q rest (a.put o.dst v') w') :
    wpList P ops Q (o :: rest) a (wr.alloc (.cells #[u] e)) := by
  subst hm0
  exact wpList_push E wr hg s x hop base hown hs u hx h1 hb hm hbase hK
theorem Own.parts {w : World} {base : Nat} {t : TypeId} {v : Value} {xs : List Value} (h : Own w base t v xs) (hne : 0 < xs.length) :
    ∃ g cap cur, v = .slice (some ⟨g, 0, none⟩) xs.length cap ∧ base ≤ g ∧ w.heap[g]? = some (.cells cur t (0, 0)) ∧ xs.length ≤ cap ∧ cap ≤ maxLen ∧ cur.size = cap ∧ cur.toList.take xs.length = xs := by
  rcases h.2 with ⟨_, h0⟩ | ⟨g, cap, cur, h1, h2, h3, h4, h5, h6, h7⟩
  · omega
  · exact ⟨g, cap, cur, h1, h2, h3, h4, h5, by rw [h6, Nat.mul_one], by rw [Nat.mul_one] at h7; exact h7⟩
/-- slices.Compact, of a row of the call's own. -/
theorem compact_c (base : Nat) (v : Value) (zs : List Int) (w : World) (h : Own w base 3 v (zs.map (.int .i64))) (hl : zs.length ≤ 10000) :
    Calls Try.prog 38 #[v] w fun e w' => ∃ v', e = .returned v' ∧ Own w' base 3 v' ((Lib.compact zs).map (.int .i64)) ∧ w.grownBy w' v.ownBlock := by
  by_cases h0 : zs = []
  · subst h0
    rcases h.2 with ⟨rfl, _⟩ | ⟨g, cap, cur, rfl, r⟩
    · have hC := Any.slices_Compact_int_empty compactI none 0 w
      change Calls Try.prog 38 _ _ _ at hC
      refine hC.mono ?_
      rintro e w2 ⟨rfl, rfl⟩
      exact ⟨_, rfl, h, ⟨rfl, rfl, rfl, Nat.le_refl _, fun _ _ _ => rfl⟩⟩
    · have hC := Any.slices_Compact_int_empty compactI (some ⟨g, 0, none⟩) cap w
      change Calls Try.prog 38 _ _ _ at hC
      refine hC.mono ?_
      rintro e w2 ⟨rfl, rfl⟩
      exact ⟨_, rfl, h, ⟨rfl, rfl, rfl, Nat.le_refl _, fun _ _ _ => rfl⟩⟩
  · have hpos : 0 < (zs.map (Value.int .i64)).length := by
      rw [List.length_map]
      exact Nat.pos_of_ne_zero fun e => h0 (List.eq_nil_of_length_eq_zero e)
    obtain ⟨g, cap, cur, rfl, hbg, hg, hc1, hc2, hc3, hc4⟩ := h.parts hpos
    rw [List.length_map] at hc1 hc4
    rw [List.length_map]
    have hH : Holds (Value.int .i64) w g 0 zs.toArray := holds_of_blockI hg hc4
    have hC := Any.slices_Compact_int_arr compactI g 0 cap zs.toArray w hH (by simp; omega) (by simpa using hc1)
    change Calls Try.prog 38 _ _ _ at hC
    simp only [List.size_toArray] at hC
    refine hC.mono ?_
    rintro e w2 ⟨rfl, q, rfl⟩
    have hle : (Lib.compactUpTo zs.toArray zs.length).length ≤ zs.length := by
      unfold Lib.compactUpTo
      rw [List.length_map]
      refine Nat.le_trans (List.length_filter_le _ _) ?_
      simp
    have hg2 := heap_sortedI (n := q) (os := #[]) ((Lib.compactUpTo zs.toArray zs.length ++ List.replicate (zs.length - (Lib.compactUpTo zs.toArray zs.length).length) 0).toArray) hg
    have hgr := grownBy_sortedI (w := w) (g := g) (n := q) (os := #[]) ((Lib.compactUpTo zs.toArray zs.length ++ List.replicate (zs.length - (Lib.compactUpTo zs.toArray zs.length).length) 0).toArray)
    rw [grow_empty] at hg2 hgr
    refine ⟨_, rfl, ⟨by simp [Lib.compact], .inr ⟨g, cap, _, by simp [Lib.compact], hbg, hg2, ?_, hc2, by simp [putCells, hc3], ?_⟩⟩, hgr⟩
    · simp only [List.length_map, Lib.compact]; omega
    · have ht := take_putCellsI cur (Lib.compactUpTo zs.toArray zs.length ++ List.replicate (zs.length - (Lib.compactUpTo zs.toArray zs.length).length) 0) (by simp; omega)
      have ht2 := congrArg (List.take (Lib.compactUpTo zs.toArray zs.length).length) ht
      rw [List.take_take, List.map_append, List.take_append_of_le_length (by simp)] at ht2
      simp only [List.length_map, Lib.compact, Nat.mul_one]
      rw [Nat.min_eq_left (by simp)] at ht2
      rw [ht2, List.take_of_length_le (by simp)]

set_option maxRecDepth 100000 in
set_option maxHeartbeats 1000000 in
theorem rounds_c (g gm : Nat) (n : Int) (L : List Vt) (w : World) (h : Tly w g gm n L) :
    Calls Try.prog 16 #[.pointer (some ⟨g, 0, none⟩)] w fun e w' => ∃ v, e = .returned v ∧ Own w' w.heap.size 3 v ((rndL L).map (.int .i64)) ∧ Below w.heap.size w w' := by
  have hlen := h.len
  have HV := hid (votes_c g gm n L w h)
  clear h
  go_enter Try.func16, Try.ntmps16
  go_wp2_with (fail)
  refine HV.out.mono ?_
  rintro e w2 ⟨v, rfl, ho, hb⟩
  obtain ⟨A, cap, rfl, hcv⟩ := ho.form
  go_wp2
  go_loopw [3, 9] (fun o i wr => ∃ k : Nat, i = .int .i64 k ∧ k ≤ L.length ∧ Own wr w.heap.size 3 o (((rds L).take k).map (.int .i64)) ∧ OwnV wr w.heap.size 30 (.slice A L.length cap) L ∧ Below w.heap.size w wr) (fun _ i _ => L.length - (intOf i).toNat)
  case atStart => exact ⟨0, rfl, by omega, Own.nil _ _ _, ho.from_ (Nat.le_refl _), hb⟩
  case round =>
    obtain ⟨k, rfl, hk, hown, hcv2, hb2⟩ := hrel
    rename_i wr
    by_cases hlt : k < L.length
    · obtain ⟨x, hx⟩ := get_of_lt hlt
      obtain ⟨b, off, rfl, hbl, d0, d1, d2, d3, d4⟩ := hcv2.cellsV.at_ hx
      have HX := hid hx
      clear hx
      have hown2 := hown.alloc (.cells (vcl x).toArray 30)
      have hs : ((rds L).take k).map (Value.int .i64) ++ [Value.int .i64 x.rd] = ((rds L).take (k + 1)).map (Value.int .i64) := by
        rw [List.take_add_one, rds, List.getElem?_map, HX.out]; simp
      have hl : (((rds L).take k).map (Value.int .i64)).length = k := by simp [rds]; omega
      have hsz := hb2.size
      have HS := hid (⟨hs, hl⟩ : _ ∧ _)
      have hbx := hb2.alloc hb2.size (.cells (vcl x).toArray 30)
      have hcv3 := hcv2.below (below_alloc wr (.cells (vcl x).toArray 30))
      clear hs hl hown hcv2
      go_wp2_with (at_builtin; refine wpList_push_at elt_int _ rfl _ _ rfl w.heap.size hown2 rfl (.int .i64 x.rd) (wr.heap.size + 1) (World.size_alloc _ _) rfl rfl (by rw [HS.out.2]; omega) (by rw [HS.out.2]; omega) (by simp; omega) ?_; intro v' w3 hown3 hk3 hb3; rw [HS.out.1] at hown3)
      go_roundw
      case rel => exact ⟨k + 1, by go_num, by omega, hown3, hcv3.other hown2 (by decide) hk3, hbx.trans hb3⟩
      case measure => simp [intOf]; omega
    · obtain rfl : k = L.length := by omega
      have hrl : (rds L).take L.length = rds L := List.take_of_length_le (by simp [rds])
      rw [hrl] at hown
      have HC := hid (compact_c w.heap.size u3 (rds L) wr hown (by simp [rds]; omega))
      clear hrl
      go_wp2_with (fail)
      refine HC.out.mono ?_
      rintro e w5 ⟨v5, rfl, hown5, hg5⟩
      go_wp2
      go_ret
      refine ⟨_, rfl, hown5, hb2.grown hg5 hb2.size fun k e => (hown.block k e).1⟩
theorem rounds_nil (w : World) :
    Calls Try.prog 16 #[.pointer none] w fun e w' => e = .returned (.slice none 0 0) ∧ w = w' := by
  have hC := Any.slices_Compact_int_empty compactI none 0 w
  change Calls Try.prog 38 _ _ _ at hC
  have HC := hid hC
  clear hC
  go_enter Try.func16, Try.ntmps16
  go_wp2_with (fail)
  refine (votes_nil w).mono ?_
  rintro e w2 ⟨rfl, rfl⟩
  go_wp2
  refine wp_loop_rounds 1 ?_
  rw [rounds_succ]
  go_wp2_with (fail)
  refine HC.out.mono ?_
  rintro e w2 ⟨rfl, rfl⟩
  go_wp2
  go_ret
  exact ⟨rfl, rfl⟩
end Go.Proofs.Ytnngnekfgijejaa
