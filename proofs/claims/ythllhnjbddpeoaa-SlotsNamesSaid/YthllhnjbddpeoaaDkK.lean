/-
  The sectors of a disk that are not all 00, or are written to.
-/
import Derived.Test.YthllhnjbddpeoaaDkJ
namespace Go.Proofs.Ythllhnjbddpeoaa
open Go.RowKit Go.Maps Go.Shelf Go.Proofs

attribute [local go_sem] Oper.semAt_some

theorem OwnI.form {w : World} {base : Nat} {v : Value} {xs : List Int} (h : OwnI w base v xs) : ∃ A cap, v = .slice A xs.length cap := by
  rcases h.2 with ⟨rfl, h0⟩ | ⟨g, cap, cur, rfl, hb, hg, hn, hm, hs, ht⟩
  · exact ⟨none, 0, by rw [h0]⟩
  · exact ⟨_, cap, rfl⟩
theorem OwnI.from_ {w : World} {base b : Nat} {v : Value} {xs : List Int} (h : OwnI w base v xs) (hb : b ≤ base) : OwnI w b v xs := by
  refine ⟨h.1, ?_⟩
  rcases h.2 with hn | ⟨g, cap, cur, rfl, hg, rest⟩
  · exact .inl hn
  · exact .inr ⟨g, cap, cur, rfl, Nat.le_trans hb hg, rest⟩
theorem OwnI.below {w w' : World} {base : Nat} {v : Value} {xs : List Int} (h : OwnI w base v xs) (hb : Below w.heap.size w w') : OwnI w' base v xs := h.keep fun g hg => hb.block g (h.block g hg).2

/-- what a disk uses. -/
def Uses (d : Dk) (us : List Int) : Prop := Up us ∧ ∀ a, a ∈ us ↔ (∃ p ∈ d.P, p.1 = a) ∨ ∃ p ∈ d.C, p.1 = a
theorem uses_eq {d : Dk} {us vs : List Int} (h : Uses d us) (k : Uses d vs) : us = vs := up_eq h.1 k.1 fun a => (h.2 a).trans (k.2 a).symm

/-- between two rounds: gb the box. -/
structure UsI (cv : Value) (B : Nat) (w0 : World) (gb : Nat) (ks : List Int) (pre : List (Nat × Pt)) (w : World) : Prop where
  b : Below w0.heap.size w0 w
  own : ∃ v, Row1 w gb 47 [v] ∧ OwnI w w0.heap.size v (ks ++ pre.map fun q => q.2.at_)
  sz : B ≤ w.heap.size
  bx : Row1 w (gb + 1) 83 [cv]
theorem UsI.turns {cv : Value} {w0 w w' : World} {gb : Nat} {ks : List Int} {pre : List (Nat × Pt)} {B N : Nat} (h : UsI cv N w0 gb ks pre w) (hB : w0.heap.size ≤ B) (ht : Turns B w w') : UsI cv N w0 gb ks pre w' := by
  obtain ⟨h1, ⟨v, h2, h3⟩, h4, h5⟩ := h
  exact ⟨(ht.mono hB).past h1 h1.size, ⟨v, ht.row h2, ht.ownsRow h3⟩, Nat.le_trans h4 ht.size, ht.row h5⟩

theorem keys_c (b : Nat) (w : World) :
    Calls Try.prog 65 #[.map (some b)] w fun e w' => e = .returned (.func (.func 85) #[] #[.pointer (some ⟨w.heap.size, 0, none⟩)]) ∧ w' = w.alloc (.cells #[.map (some b)] 82) := by
  go_enter Try.func65, Try.ntmps65
  go_wp2
  go_ret
  exact ⟨rfl, rfl⟩
theorem collect_c (bx b : Nat) (L : List Pt) (w : World) (hB : Row1 w bx 82 [.map (some b)]) (hM : MapAt dM w b L) (hlen : L.length ≤ 1000000) :
    Calls Try.prog 64 #[.func (.func 85) #[] #[.pointer (some ⟨bx, 0, none⟩)]] w fun e w' => ∃ v xs, e = .returned v ∧ L.Perm xs ∧ OwnI w' w.heap.size v (xs.map Pt.at_) ∧ Below w.heap.size w w' := by
  have HC := hid (appendSeq_c bx b L w hB hM hlen)
  clear hB hM hlen
  go_enter Try.func64, Try.ntmps64
  go_wp2_with (fail)
  refine HC.out.mono ?_
  rintro e w' ⟨v, xs, rfl, h1, h2, h3⟩
  go_wp2
  go_ret
  exact ⟨v, xs, rfl, h1, h2, h3⟩
theorem used_nil (w : World) : Calls Try.prog 34 #[.pointer none] w fun e w' => e = .returned (.slice none 0 0) ∧ w = w' := by
  go_enter Try.func34, Try.ntmps34
  go_wp2
  go_ret
  exact ⟨rfl, rfl⟩

set_option maxRecDepth 100000 in
set_option maxHeartbeats 2000000 in
theorem used_c (g gm : Nat) (v : Value) (d : Dk) (m : Nat) (w : World) (h : Dsk w g gm v d) (hd : d.Ok m) (hm : m ≤ 1000000) :
    Calls Try.prog 34 #[.pointer (some ⟨g, 0, none⟩)] w fun e w' => ∃ v' us, e = .returned v' ∧ Uses d us ∧ OwnI w' w.heap.size v' us ∧ Below w.heap.size w w' := by
  obtain ⟨A0, cap0, rfl⟩ := h.own.form
  obtain ⟨c0, c1, c2, c3, c4⟩ := h.cells
  have HLN := hid (show d.P.length + d.C.length ≤ 1000000 by have := hd.len; omega)
  have HH := hid h
  clear hd hm
  refine (callsIn_wide (n := 10)).1 ?_
  refine callsIn_of_wp_marks Try.func34 rfl trivial ?_ rfl
  refine (wpIn_wide (n := 10)).2 ?_
  simp only [Try.ntmps34, List.size_toArray, List.length_cons, List.length_nil, Nat.reduceAdd, Nat.reduceSub, Array.replicate_succ, Array.replicate_zero, List.push_toArray, List.append_toArray, List.nil_append, List.cons_append]
  go_wp2_with (fail)
  refine (keys_c gm w).mono ?_
  rintro e _ ⟨rfl, rfl⟩
  have hbx := row1_new w [.map (some gm)] 82
  have hb0 := below_alloc w (.cells #[.map (some gm)] 82)
  have hM := h.map.below hb0
  have hD0 := h.below hb0
  have HC := hid (collect_c _ gm d.P _ hbx hM (by have := HLN.out; omega))
  have hsz0 : (w.alloc (.cells #[.map (some gm)] 82)).heap.size = w.heap.size + 1 := by simp
  clear h hM hbx c0 c1 c2 c3 c4
  generalize w.alloc _ = w1 at *
  go_wp2_with (fail)
  refine HC.out.mono ?_
  rintro e w2 ⟨v2, ks, rfl, hp, hO, hb⟩
  have hD2 := hD0.below hb
  have hB2 := below_next hb0 hb0.size hb
  have hO2 := hO.from_ hb0.size
  have HKL := hid (show (ks.map Pt.at_).length = d.P.length by rw [List.length_map, hp.length_eq])
  obtain ⟨A2, cap2, rfl⟩ := hO2.form
  rw [HKL.out] at hO2 ⊢
  clear HC hD0 hb0 hO hsz0
  go_wp2_with (fail)
  have hR3 := row1_new w2 [.slice A2 d.P.length cap2] 47
  have hb3 := below_alloc w2 (.cells #[.slice A2 d.P.length cap2] 47)
  have hsz3 : (w2.alloc (.cells #[.slice A2 d.P.length cap2] 47)).heap.size = w2.heap.size + 1 := by simp
  have hO3 := hO2.below hb3
  have hD3 := hD2.below hb3
  have hB3 := below_next hB2 hB2.size hb3
  generalize w2.alloc _ = w3 at *
  obtain ⟨gb, hgb⟩ : ∃ gb, w2.heap.size = gb := ⟨_, rfl⟩
  have hgw : w.heap.size ≤ gb := by have := hB2.size; omega
  rw [hgb] at hR3 hsz3 ⊢
  clear hb3 hgb hO2 hD2 hB2
  refine (waiting_c g gm A0 d.C.length cap0 d _ hD3).mono ?_
  rintro e _ ⟨rfl, rfl⟩
  go_wp2
  have hBs := row1_new w3 [.slice A0 d.C.length cap0] 83
  have hb4 := below_alloc w3 (.cells #[.slice A0 d.C.length cap0] 83)
  have hsz4 : (w3.alloc (.cells #[.slice A0 d.C.length cap0] 83)).heap.size = gb + 2 := by simp; omega
  rw [hsz3] at hBs
  have hR4 := hR3.below hb4
  have hO4 := hO3.below hb4
  have hD4 := hD3.below hb4
  have hB4 := below_next hB3 hB3.size hb4
  generalize w3.alloc _ = w4 at *
  clear hR3 hO3 hD3 hB3 hb4 hsz3
  have hw4 : w.heap.size ≤ w4.heap.size := hB4.size
  have hI0 : UsI (.slice A0 d.C.length cap0) w4.heap.size w gb (ks.map Pt.at_) [] w4 := ⟨hB4, ⟨_, hR4, by rw [List.map_nil, List.append_nil]; exact hO4⟩, Nat.le_refl _, hBs⟩
  have hcl : d.C.length ≤ 1000000 := by have := HLN.out; omega
  have hvb : ∀ b, (Value.slice A0 d.C.length cap0).ownBlock = some b → b < w.heap.size := fun b hb => (HH.out.vlt hb).1
  have HVB := hid hvb
  have HS4 := hid hsz4
  clear hvb hsz4 hR4 hO4
  refine (wpIn_wide (n := 10)).1 ?_
  refine wpIn_rangeFunc_ownH (n := 10) rfl (by decide) (gf := 92) (lb := #[.pointer (some ⟨gb + 1, 0, none⟩)]) rfl trivial (enters_of Try.func92 (by kernel_rfl) rfl)
    (back_stops 9 (gb + 1) _ d.C hcl w4 hBs hD4.own) (fun h k => h.trans k) (fun W l o o' hl _ _ _ => ⟨World.putObj_heap_other (by have := HS4.out; omega), fun b hb => World.putObj_heap_other (by have := HVB.out b hb; omega)⟩) (Below.refl _ _) (fun _ => rfl)
    (fun pre W => UsI (.slice A0 d.C.length cap0) w4.heap.size w gb (ks.map Pt.at_) pre W) (fun _ _ _ => False)
    (own_of_turns fun s A C h ht => h.turns hw4 ht) (fun c => own_of_turns fun s A C h ht => h) hI0
    (fun x a' W => ∃ g', gb + 1 < g' ∧ Row1 W g' 80 (pcl x.2) ∧ a' = { tmps := #[.pointer (some ⟨g, 0, none⟩), undef, .slice none 0 0, .pointer (some ⟨gb, 0, none⟩), undef, .pointer (some ⟨g', 0, none⟩), .pointer (some ⟨g, 0, none⟩), .bool false, .pointer (some ⟨g, 0, none⟩), .pointer (some ⟨g, 0, none⟩), .pointer (some ⟨g, 0, none⟩), .map (some gm), .func (.func 85) #[] #[.pointer (some ⟨w.heap.size, 0, none⟩)], .slice A2 d.P.length cap2, .pointer (some ⟨g, 0, none⟩), .func (.func 92) #[] #[.pointer (some ⟨gb + 1, 0, none⟩)], .int .i64 (x.1 : Int), pval x.2, undef, undef, undef, undef, undef, undef, undef, undef, undef], defers := [] })
    (fun x a' => own_of_turns fun _ A C ⟨g', h1, h2, h3⟩ ht => ⟨g', h1, ht.row h2, h3⟩) ?assign ?body ?done ?stop
  case assign =>
    intro lp pre x W K hI hK
    have hWs := hI.sz
    have hS := HS4.out
    clear hBs
    gi_wp2
    have hba := below_alloc W (.cells #[.int .i64 x.2.1, .string x.2.2] 80)
    exact hK _ _ ((KeepsOthers.alloc _ _).from _) (KpB.below hba (by omega) fun b hb => by have := HVB.out b hb; omega) (hI.turns (Nat.le_trans hw4 hWs) (Turns.below hba)) ⟨W.heap.size, by omega, row1_new W (pcl x.2) _, rfl⟩
  case body =>
    rintro lp pre x a' A hl hr ⟨hb, ⟨v, hR, hO⟩, hsz, hbx⟩ ⟨g', hg', hV, rfl⟩ hlt
    have c0 := hR.cell (k := 0) rfl
    have f0 := hR.frozen 0
    have c1 := hV.cell (k := 0) rfl
    have hgl := hR.lt
    have hO' := hO.keep (w' := A.alloc (.cells #[.int .i64 x.2.at_] 3)) fun g hg => Below.heap_alloc A _ g (hO.block g hg).2
    obtain ⟨i0, hi, hz0, hz1, hz2⟩ := info_parts info_int
    have hR' := hR.alloc (.cells #[.int .i64 x.2.at_] 3)
    have HNE := hid (hO'.ne_row hR' (by decide))
    have HC := hid hO'.cells
    have hln : (ks.map Pt.at_ ++ pre.map fun q => q.2.at_).length ≤ 1000000 := by
      rw [List.length_append, HKL.out, List.length_map]
      have := HLN.out
      omega
    have hbx' := hbx.alloc (.cells #[.int .i64 x.2.at_] 3)
    have HNB := hid (hO'.ne_row hbx' (by decide))
    have HO' := hid hO'
    have HBL := hid hO'.block
    have hKsz := HS4.out
    clear hO hO'
    gi_wp2_with (gi_at_builtin; refine wpListIn_append_own _ rfl _ _ 47 rfl w.heap.size 3 i0 (.int .i64 0) 1 8 Try.underlying47 hi hz0 hz1 hz2 rfl (by decide) v (ks.map Pt.at_ ++ pre.map fun q => q.2.at_).length ((ks.map Pt.at_ ++ pre.map fun q => q.2.at_).map (Value.int .i64)) rfl HO'.out ⟨A.heap.size, 0, none⟩ 1 1 [.int .i64 x.2.1] rfl rfl (news_one A x.2.1) (by simp [Value.oneCell']) (by unfold maxLen; omega) (by omega) (by simp; omega) ?_; intro v' A2 hO2 hg2 _; obtain ⟨g2, cap', rfl⟩ := ownsRow_succ hO2; have hR2 := hR'.keep (hg2.block _ (by simp; omega) (fun e => HNE.out _ e.symm rfl)); have c2 := hR2.cell (k := 0) rfl; have f2 := hR2.frozen 0)
    have e1 : (ks.map Pt.at_ ++ pre.map fun q => q.2.at_).length = ks.length + pre.length := by simp
    rw [e1] at hO2
    have hO3 : OwnI A2 w.heap.size (.slice (some ⟨g2, 0, none⟩) (ks.length + pre.length + 1) cap') (ks.map Pt.at_ ++ (pre ++ [x]).map fun q => q.2.at_) := by
      unfold OwnI
      have e2 : (ks.map Pt.at_ ++ (pre ++ [x]).map fun q => q.2.at_) = (ks.map Pt.at_ ++ pre.map fun q => q.2.at_) ++ [x.2.at_] := by simp
      rw [e2, List.map_append, List.length_append, e1]
      exact hO2
    have hB2 : Below w.heap.size w A2 := (hb.alloc hb.size _).grown hg2 (by simp; omega) fun k e => (HBL.out k e).1
    have hs2 := hg2.size
    simp only [World.size_alloc] at hs2
    have hbx2 := hbx'.keep (hg2.block _ (by simp; omega) (fun e => HNB.out _ e.symm rfl))
    refine ⟨(((KeepsOthers.alloc _ _).trans (KeepsOthers.of_grownBy hg2 HC.out)).trans (KeepsOthers.setCell _ _ _)).from _, ⟨?_, fun b hb' => ?_⟩, hB2.setCell (p := ⟨gb, 0, none⟩) hgw _, ⟨_, hR2.set 0 _, hO3.keep fun g hg => Below.heap_setCell A2 ⟨gb, 0, none⟩ _ g (hO3.ne_row hR2 (by decide) g hg)⟩, by simp; omega, hbx2.far (by show gb ≠ gb + 1; omega) _⟩
    · exact (hbx2.far (p := ⟨gb, 0, none⟩) (by show gb ≠ gb + 1; omega) _).trans hbx.symm
    · have h1 := HVB.out b hb'
      have h2 : b < A.heap.size := by omega
      refine (Below.heap_setCell A2 ⟨gb, 0, none⟩ _ b (by show b ≠ gb; omega)).trans ((hg2.block b (by simp; omega) fun e => ?_).trans (Below.heap_alloc A _ b h2))
      have := (HBL.out b e.symm).1
      omega
  case done =>
    rintro D ys W hD rfl ⟨hb, ⟨v, hR, hO⟩, hsz, hbx⟩ hK
    have hys : (ks.map Pt.at_ ++ (bks d.C d.C.length).map fun q => q.2.at_).length ≤ 10000000 := by
      rw [List.length_append, HKL.out, List.length_map, bks_len]
      have := HLN.out
      omega
    have hmem : ∀ a, a ∈ (ks.map Pt.at_ ++ (bks d.C d.C.length).map fun q => q.2.at_) ↔ (∃ p ∈ d.P, p.1 = a) ∨ ∃ p ∈ d.C, p.1 = a := by
      intro a
      have e := bks_pts d.C (Nat.le_refl d.C.length)
      rw [List.take_of_length_le (by simp)] at e
      rw [List.mem_append, List.mem_map, List.mem_map]
      constructor
      · rintro (⟨p, h1, h2⟩ | ⟨q, h1, h2⟩)
        · exact .inl ⟨p, hp.mem_iff.2 h1, h2⟩
        · refine .inr ⟨q.2, ?_, h2⟩
          have : q.2 ∈ d.C.reverse := by rw [← e]; exact List.mem_map_of_mem h1
          simpa using this
      · rintro (⟨p, h1, h2⟩ | ⟨p, h1, h2⟩)
        · exact .inl ⟨p, hp.mem_iff.1 h1, h2⟩
        · have : p ∈ (bks d.C d.C.length).map (·.2) := by rw [e]; simpa using h1
          obtain ⟨q, h3, h4⟩ := List.mem_map.1 this
          exact .inr ⟨q, h3, by rw [h4]; exact h2⟩
    have HMEM := hid hmem
    clear hmem
    generalize (ks.map Pt.at_ ++ (bks d.C d.C.length).map fun q => q.2.at_) = zs at *
    have c0 := hR.cell (k := 0) rfl
    have hne := hO.ne_row hR (by decide)
    have hcells := hO.cells
    have hblk := hO.block
    have HNE := hid hne
    have HCE := hid hcells
    have HBL := hid hblk
    have HOW := hid hO
    clear hne hcells hblk hO hI0
    go_wp2_with (fail)
    refine (sort_c w.heap.size v zs W HOW.out.own hys).mono ?_
    rintro e W2 ⟨rfl, hO5, hg5⟩
    have hR5 := hR.keep (hg5.block _ hR.lt fun e => HNE.out _ e.symm rfl)
    have hK2 := (KeepsOthers.of_grownBy hg5 HCE.out).same D _ hK rfl
    have hB5 := hb.grown hg5 hb.size fun k e => (HBL.out k e).1
    have c5 := hR5.cell (k := 0) rfl
    have HO5 := hid hO5
    clear hO5 c0
    go_wp2_with (fail)
    refine (compact_c w.heap.size v (srt zs) W2 HO5.out (by rw [srt_len]; exact hys)).mono ?_
    rintro e W3 ⟨v5, rfl, hO6, hg6⟩
    have hcells2 := (OwnI.of HO5.out).cells
    have hK3 := (KeepsOthers.of_grownBy hg6 hcells2).same D _ hK2 rfl
    have hB6 := hB5.grown hg6 hB5.size fun k e => ((OwnI.of HO5.out).block k e).1
    have hu := used_up zs
    have HU := hid (show Uses d (Lib.compact (srt zs)) from ⟨hu.1, fun a => (hu.2 a).trans (HMEM.out a)⟩)
    clear hu
    go_wp2
    refine ⟨by simp, .inl ⟨_, _, rfl, run_takeDeferred hK3, ?_⟩⟩
    refine ⟨_, results_tmp rfl _ _ _, v5, _, rfl, HU.out, ?_, ?_⟩
    · exact (Turns.put (B := w.heap.size) _ hK3 rfl (by omega)).ownsRow (OwnI.of hO6)
    · exact (Turns.put (B := w.heap.size) _ hK3 rfl (by omega)).past hB6 hB6.size
  case stop => exact fun D c pre W _ _ h _ => h.elim
end Go.Proofs.Ythllhnjbddpeoaa
