/-
  What a sector has.
-/
import Derived.Test.YthllhnjbddpeoaaDkG
import Derived.Test.YthllhnjbddpeoaaRangeM
namespace Go.Proofs.Ythllhnjbddpeoaa
open Go.RowKit Go.Maps Go.Shelf Go.Proofs

attribute [local go_sem] Oper.semAt_some

theorem own_of_turns {β : Type} {B : Nat} {I : β → World → Prop} (h : ∀ s A C, I s A → Turns B A C → I s C) : OwnFrom B I := fun s W W' row hs hg hr => h s W W' hs ⟨row, hg, fun r e => hr r e⟩
theorem Turns.size {B : Nat} {A C : World} (h : Turns B A C) : A.heap.size ≤ C.heap.size := by
  obtain ⟨row, hg, _⟩ := h
  exact hg.size

/-- between two rounds: nothing of sector a has come. -/
structure RdI (B : Nat) (w0 : World) (gr ga : Nat) (a : Int) (pre : List (Nat × Pt)) (w : World) : Prop where
  b : Below w0.heap.size w0 w
  no : ∀ p ∈ pre, p.2.1 ≠ a
  row : Row1 w gr 9 [.string ⟨#[]⟩]
  arg : Row1 w ga 3 [.int .i64 a]
  sz : B ≤ w.heap.size
theorem RdI.turns {w0 w w' : World} {gr ga : Nat} {a : Int} {pre : List (Nat × Pt)} {B N : Nat} (h : RdI N w0 gr ga a pre w) (hB : w0.heap.size ≤ B) (ht : Turns B w w') : RdI N w0 gr ga a pre w' :=
  ⟨(ht.mono hB).past h.b h.b.size, h.no, ht.row h.row, ht.row h.arg, Nat.le_trans h.sz ht.size⟩
/-- it has come. -/
structure RdX (w0 : World) (gr : Nat) (a : Int) (pre : List (Nat × Pt)) (w : World) : Prop where
  b : Below w0.heap.size w0 w
  last : ∃ ini x, pre = ini ++ [x] ∧ (∀ p ∈ ini, p.2.1 ≠ a) ∧ x.2.1 = a ∧ Row1 w gr 9 [.string x.2.2]
theorem RdX.turns {w0 w w' : World} {gr : Nat} {a : Int} {pre : List (Nat × Pt)} {B : Nat} (h : RdX w0 gr a pre w) (hB : w0.heap.size ≤ B) (ht : Turns B w w') : RdX w0 gr a pre w' := by
  obtain ⟨h1, ini, x, h2, h3, h4, h5⟩ := h
  exact ⟨(ht.mono hB).past h1 h1.size, ini, x, h2, h3, h4, ht.row h5⟩

theorem lastC_no {C : List Pt} {a : Int} (h : ∀ p ∈ bks C C.length, p.2.1 ≠ a) : lastC C a = none := by
  unfold lastC
  rw [List.find?_eq_none]
  intro p hp
  have e := bks_pts C (Nat.le_refl C.length)
  rw [List.take_of_length_le (by simp)] at e
  rw [← e] at hp
  obtain ⟨q, hq, rfl⟩ := List.mem_map.1 hp
  simpa using h q hq
theorem lastC_yes {C : List Pt} {a : Int} {k : Nat} (hk : k ≤ C.length) {ini : List (Nat × Pt)} {x : Nat × Pt} (e : bks C k = ini ++ [x]) (h : ∀ p ∈ ini, p.2.1 ≠ a) (hx : x.2.1 = a) : lastC C a = some x.2 := by
  unfold lastC
  have e2 := bks_pts C hk
  rw [e, List.map_append] at e2
  rw [← List.take_append_drop k C.reverse, ← e2, List.append_assoc, List.find?_append]
  rw [List.find?_eq_none.2 fun p hp => by obtain ⟨q, hq, rfl⟩ := List.mem_map.1 hp; simpa using h q hq]
  simp [hx]

set_option maxRecDepth 100000 in
set_option maxHeartbeats 2000000 in
theorem read_c (g gm : Nat) (v : Value) (d : Dk) (a : Int) (w : World) (h : Dsk w g gm v d) (ha : I64 a) (hl : d.C.length ≤ 1000000) :
    Calls Try.prog 18 #[.pointer (some ⟨g, 0, none⟩), .int .i64 a] w fun e w' => e = .returned (.string (d.read a)) ∧ Below w.heap.size w w' := by
  obtain ⟨A0, cap0, rfl⟩ := h.own.form
  have HL := hid hl
  have HA := hid ha
  clear hl ha
  refine (callsIn_wide (n := 10)).1 ?_
  refine callsIn_of_wp_marks Try.func18 rfl trivial ?_ rfl
  refine (wpIn_wide (n := 10)).2 ?_
  simp only [Try.ntmps18, List.size_toArray, List.length_cons, List.length_nil, Nat.reduceAdd, Nat.reduceSub, Array.replicate_succ, Array.replicate_zero, List.push_toArray, List.append_toArray, List.nil_append, List.cons_append]
  go_wp2_with (fail)
  have hRa := (row1_new w [.int .i64 a] 3).alloc (.cells #[.string ⟨#[]⟩] 9)
  have hRr := row1_new (w.alloc (.cells #[.int .i64 a] 3)) [.string ⟨#[]⟩] 9
  have hB1 := (below_alloc w (.cells #[.int .i64 a] 3)).alloc (by simp) (.cells #[.string ⟨#[]⟩] 9)
  have hD := h.below hB1
  have hsz : ((w.alloc (.cells #[.int .i64 a] 3)).alloc (.cells #[.string ⟨#[]⟩] 9)).heap.size = w.heap.size + 2 := by simp
  simp only [World.size_alloc] at hRa hRr
  generalize (w.alloc _).alloc _ = w1 at *
  obtain ⟨ga, hga⟩ : ∃ ga, w.heap.size = ga := ⟨_, rfl⟩
  obtain ⟨gr, hgr⟩ : ∃ gr, w.heap.size + 1 = gr := ⟨_, rfl⟩
  have HSZ := hid hsz
  have HGA := hid hga
  have HGR := hid hgr
  rw [hgr] at hRr ⊢
  rw [hga] at hRa ⊢
  have HH := hid h
  clear hsz hga hgr h
  cases hde : d.de with
  | true =>
    refine (dead_c g gm _ d _ hD).mono ?_
    rintro e _ ⟨rfl, rfl⟩
    rw [hde]
    have e1 : d.read a = ⟨#[]⟩ := by simp [Dk.read, hde]
    have E1 := hid e1
    clear e1 hde
    have c1 := hRr.cell (k := 0) rfl
    have f1 := hRr.frozen 0
    have hgw : w.heap.size ≤ gr := by rw [← HGR.out]; omega
    go_wp2
    refine ⟨.string ⟨#[]⟩, ?_, by rw [E1.out], hB1.setCell (p := ⟨gr, 0, none⟩) hgw _⟩
    have hc5 := (hRr.set 0 (.string ⟨#[]⟩)).cell (k := 0) rfl
    simp [results, Try.f18, go_sem, hc5]
  | false =>
    refine (dead_c g gm _ d _ hD).mono ?_
    rintro e _ ⟨rfl, rfl⟩
    rw [hde]
    have HDE := hid hde
    clear hde
    go_wp2_with (fail)
    refine (waiting_c g gm A0 d.C.length cap0 d _ hD).mono ?_
    rintro e _ ⟨rfl, rfl⟩
    go_wp2
    have hBs := row1_new w1 [.slice A0 d.C.length cap0] 83
    have hb2 := below_alloc w1 (.cells #[.slice A0 d.C.length cap0] 83)
    have hsz2 : (w1.alloc (.cells #[.slice A0 d.C.length cap0] 83)).heap.size = w1.heap.size + 1 := by simp
    replace hRa := hRa.below hb2
    replace hRr := hRr.below hb2
    have hD2 := hD.below hb2
    have hB2 := below_next hB1 hB1.size hb2
    generalize w1.alloc _ = w2 at *
    obtain ⟨Bs, hBB⟩ : ∃ Bs, w1.heap.size = Bs := ⟨_, rfl⟩
    rw [hBB] at hBs hsz2 ⊢
    have HS2 := hid hsz2
    have hlt2 : Bs < w2.heap.size := by omega
    have hgr2 : gr < w2.heap.size := hRr.lt
    have hw2 : w.heap.size ≤ w2.heap.size := hB2.size
    clear hsz2 hBB hb2 hD
    have hI0 : RdI w2.heap.size w gr ga a [] w2 := ⟨hB2, (fun p hp => by cases hp), hRr, hRa, Nat.le_refl _⟩
    have hgw : w.heap.size ≤ gr := by rw [← HGR.out]; omega
    refine (wpIn_wide (n := 10)).1 ?_
    refine wpIn_rangeFunc_ownH (n := 10) rfl (by decide) (gf := 92) (lb := #[.pointer (some ⟨Bs, 0, none⟩)]) rfl trivial (enters_of Try.func92 (by kernel_rfl) rfl)
      (back_stops 9 Bs _ d.C HL.out w2 hBs hD2.own) (fun h k => h.trans k) (fun W l o o' hl _ _ _ => ⟨World.putObj_heap_other (by omega), fun b hb => World.putObj_heap_other (by have := (hD2.vlt hb).1; omega)⟩) (Below.refl _ _) (fun _ => rfl)
      (fun pre W => RdI w2.heap.size w gr ga a pre W) (fun c pre W => c = .ret ∧ RdX w gr a pre W)
      (own_of_turns fun s A C h ht => h.turns hw2 ht) (fun c => own_of_turns fun s A C h ht => ⟨h.1, h.2.turns hw2 ht⟩) hI0
      (fun x a' W => ∃ g', gr < g' ∧ Row1 W g' 80 (pcl x.2) ∧ a' = { tmps := #[.pointer (some ⟨g, 0, none⟩), .int .i64 a, undef, .pointer (some ⟨ga, 0, none⟩), .pointer (some ⟨gr, 0, none⟩), undef, .pointer (some ⟨g', 0, none⟩), .pointer (some ⟨g, 0, none⟩), .bool false, .pointer (some ⟨g, 0, none⟩), .func (.func 92) #[] #[.pointer (some ⟨Bs, 0, none⟩)], .int .i64 (x.1 : Int), pval x.2, undef, undef, undef, undef, undef, undef, undef, undef, undef], defers := [] })
      (fun x a' => own_of_turns fun _ A C ⟨g', h1, h2, h3⟩ ht => ⟨g', h1, ht.row h2, h3⟩) ?assign ?body ?done ?stop
    case assign =>
      intro lp pre x W K hI hK
      have hWs := hI.sz
      gi_wp2
      have hba := below_alloc W (.cells #[.int .i64 x.2.1, .string x.2.2] 80)
      refine hK _ _ ((KeepsOthers.alloc _ _).from _) (KpB.below hba (by omega) fun b hb => by have := (hD2.vlt hb).1; omega) (hI.turns (Nat.le_trans hw2 hWs) (Turns.below hba)) ⟨W.heap.size, by omega, row1_new W (pcl x.2) _, rfl⟩
    case body =>
      rintro lp pre x a' W hl hr hI ⟨g', hg', hV, rfl⟩ hlt
      have c0 := hV.cell (k := 0) rfl
      have c1 := hV.cell (k := 1) rfl
      have c2 := hI.row.cell (k := 0) rfl
      have f2 := hI.row.frozen 0
      have c3 := hI.arg.cell (k := 0) rfl
      gi_wp2
      · have hx : x.2.1 = a := by first | assumption | simpa using ‹(x.2.1 == a) = true›
        exact ⟨(KeepsOthers.setCell _ _ _).from _, rfl, hI.b.setCell (p := ⟨gr, 0, none⟩) hgw _, pre, x, rfl, hI.no, hx, hI.row.set 0 _⟩
      · have hx : x.2.1 ≠ a := by first | assumption | simpa using ‹(x.2.1 == a) = false›
        exact ⟨KeepsFrom.refl _ _, KpB.refl, hI.b, (fun p hp => by
          rcases List.mem_append.1 hp with h | h
          · exact hI.no p h
          · simp at h; subst h; exact hx), hI.row, hI.arg, hI.sz⟩
    case done =>
      rintro D ys W hD rfl hI hK
      have hDsk := HH.out.below hI.b
      have c3 := hI.arg.cell (k := 0) rfl
      have hRd := hid (show d.read a = d.plat a by simp [Dk.read, HDE.out, lastC_no hI.no])
      have hlt := (Array.getElem?_eq_some_iff.1 hK).1
      go_wp2_with (fail)
      refine (platter_c g gm _ d a _ hDsk HA.out).mono ?_
      rintro e W2 ⟨rfl, hb⟩
      have hrow := hI.row.below hb
      have c2 := hrow.cell (k := 0) rfl
      have f2 := hrow.frozen 0
      have hK2 : W2.heap[D]? = some (.deferred (some [])) := (hb.block D hlt).trans hK
      go_wp2
      have hK' := (KeepsOthers.setCell W2 ⟨gr, 0, none⟩ (.string (d.plat a))).same D _ hK2 rfl
      refine ⟨by simp, .inl ⟨_, _, rfl, run_takeDeferred hK', ?_⟩⟩
      have hc5 := cell_kept ((hrow.set 0 (.string (d.plat a))).cell (k := 0) rfl) (grownBy_putObj' _ D (.deferred none)) (fun r e => by cases e; exact ⟨_, hK', rfl⟩)
      refine ⟨.string (d.plat a), ?_, by rw [hRd.out], ((below_next hI.b hI.b.size hb).setCell (p := ⟨gr, 0, none⟩) hgw _).trans (belowK_b (w := w) (Nat.le_refl _) _ D _ _ (by omega) hK' rfl rfl)⟩
      simp [results, Try.f18, go_sem, hc5]
    case stop =>
      rintro D c pre W hD ⟨k, hk, rfl⟩ ⟨rfl, hX⟩ hK
      obtain ⟨hXb, ini, x, h1, h2, h3, h4⟩ := hX
      have hRd := hid (show d.read a = x.2.2 by simp [Dk.read, HDE.out, lastC_yes hk h1 h2 h3])
      gi_wp2
      refine ⟨by simp, .inl ⟨_, _, rfl, run_takeDeferred hK, ?_⟩⟩
      have hc5 := cell_kept (h4.cell (k := 0) rfl) (grownBy_putObj' _ D (.deferred none)) (fun r e => by cases e; exact ⟨_, hK, rfl⟩)
      refine ⟨.string x.2.2, ?_, by rw [hRd.out], hXb.trans (belowK_b (w := w) (Nat.le_refl _) W D _ _ (by omega) hK rfl rfl)⟩
      simp [results, Try.f18, go_sem, hc5]
end Go.Proofs.Ythllhnjbddpeoaa
