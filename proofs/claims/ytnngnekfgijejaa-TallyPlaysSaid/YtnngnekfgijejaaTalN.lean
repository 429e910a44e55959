/-
  All votes of a tally, in order.
-/
import Derived.Test.YtnngnekfgijejaaTalL
import Derived.Test.YtnngnekfgijejaaTalM
import Derived.Shelf.SlSortCmp.NoneTotal
namespace Go.Proofs.Ytnngnekfgijejaa
open Go.RowKit Go.Maps Go.Shelf Go.Proofs Go.Sort

instance : Inhabited Vt := ⟨zeroVt⟩
theorem flatV_len (xs : List Vt) : (xs.flatMap vcl).length = xs.length * 5 := by
  induction xs with
  | nil => rfl
  | cons x l ih => rw [List.flatMap_cons, List.length_append, ih]; simp; omega
theorem flatV_at : ∀ (xs : List Vt) (t : Nat), t < xs.length * 5 → (xs.flatMap vcl)[t]? = some ((vcl xs.toArray[t / 5]!)[t % 5]!)
  | [], t, h => by simp at h
  | x :: l, t, h => by
    rw [List.flatMap_cons]
    by_cases h5 : t < 5
    · rw [List.getElem?_append_left h5]
      have e1 : t / 5 = 0 := by omega
      have e2 : t % 5 = t := by omega
      rw [e1, e2]
      have : t = 0 ∨ t = 1 ∨ t = 2 ∨ t = 3 ∨ t = 4 := by omega
      rcases this with rfl | rfl | rfl | rfl | rfl <;> rfl
    · rw [List.getElem?_append_right (by show 5 ≤ t; omega), show t - (vcl x).length = t - 5 from rfl, flatV_at l (t - 5) (by simp at h; omega)]
      have e1 : t / 5 = (t - 5) / 5 + 1 := by omega
      have e2 : t % 5 = (t - 5) % 5 := by omega
      rw [e1, e2]
      have hl : (t - 5) / 5 < l.length := by simp at h; omega
      simp [hl]
theorem flatK_V (d : Array Vt) : (flatK vcl 5 d).toList = d.toList.flatMap vcl := by
  apply List.ext_getElem?
  intro t
  by_cases h : t < d.size * 5
  · rw [flatV_at d.toList t (by simpa using h), Array.toArray_toList]
    rw [Array.getElem?_toList, Array.getElem?_eq_getElem (by rw [size_flatK]; exact h)]
    have := get_flatK vcl 5 d t h
    rw [getElem!_pos (flatK vcl 5 d) t (by rw [size_flatK]; exact h)] at this
    rw [this]
  · rw [List.getElem?_eq_none (by rw [Array.length_toList, size_flatK]; omega), List.getElem?_eq_none (by rw [flatV_len]; simpa using h)]

theorem OwnV.parts {w : World} {base g cap n : Nat} {t : TypeId} {xs : List Vt} (h : OwnV w base t (.slice (some ⟨g, 0, none⟩) n cap) xs) :
    n = xs.length ∧ base ≤ g ∧ ∃ cur, w.heap[g]? = some (.cells cur t (0, 0)) ∧ xs.length ≤ cap ∧ cap ≤ maxLen ∧ cur.size = cap * 5 ∧ cur.toList.take (xs.length * 5) = xs.flatMap vcl := by
  rcases h.2 with ⟨h0, _⟩ | ⟨g', cap', cur, h1, h2, h3⟩
  · cases h0
  · simp only [Value.slice.injEq, Option.some.injEq, Addr.mk.injEq, and_true] at h1
    obtain ⟨rfl, rfl, rfl⟩ := h1
    exact ⟨rfl, h2, cur, h3⟩
theorem OwnV.holds {w : World} {base g cap n : Nat} {t : TypeId} {xs : List Vt} (h : OwnV w base t (.slice (some ⟨g, 0, none⟩) n cap) xs) : HoldsK vcl 5 w g 0 xs.toArray := by
  obtain ⟨_, _, cur, hb, h1, h2, h3, h4⟩ := h.parts
  intro j hj
  rw [size_flatK] at hj
  have hj' : j < xs.length * 5 := by simpa using hj
  refine ⟨?_, by simp [World.frozen?, hb]⟩
  have h5 : (cur.toList.take (xs.length * 5))[j]? = (xs.flatMap vcl)[j]? := by rw [h4]
  rw [List.getElem?_take_of_lt hj', flatV_at xs j hj'] at h5
  simp only [World.cell?, hb, Nat.zero_add, Option.isSome_none, Bool.false_eq_true, if_false]
  rw [get_flatK vcl 5 xs.toArray j (by simpa using hj')]
  rw [← Array.getElem?_toList, h5]
  rfl
theorem heap_sortV {w : World} {g n : Nat} {os : Array Obj} {cur : Array Value} {e : TypeId} {fr : Nat × Nat} (d : Array Vt) (hb : w.heap[g]? = some (.cells cur e fr)) :
    (sortWorldK vcl 5 w g 0 n d os).heap[g]? = some (.cells (putCells id 0 (flatK vcl 5 d) cur) e fr) := by
  have hg : g < w.heap.size := (Array.getElem?_eq_some_iff.1 hb).1
  unfold sortWorldK putRowK
  rw [heap_grow_old _ _ (by simpa using hg)]
  simp [putRow, mapBlock, Sort.ahead, Array.getElem?_modify, hb, onCells]
theorem grownBy_sortV {w : World} {g n : Nat} {os : Array Obj} (d : Array Vt) : w.grownBy (sortWorldK vcl 5 w g 0 n d os) (some g) := by
  unfold sortWorldK putRowK
  refine ⟨rfl, rfl, rfl, by simp, fun k hk hne => ?_⟩
  rw [heap_grow_old _ _ (by simpa using hk)]
  have : g ≠ k := fun e => hne (by rw [e])
  simp [putRow, mapBlock, Sort.ahead, Array.getElem?_modify, this]
theorem take_putCellsV (cur F : Array Value) (h : F.size ≤ cur.size) : (putCells id 0 F cur).toList.take F.size = F.toList := by
  apply List.ext_getElem?
  intro j
  by_cases hj : j < F.size
  · rw [List.getElem?_take_of_lt hj, Array.getElem?_toList, Array.getElem?_toList]
    simp [putCells, hj, show j < cur.size by omega]
  · rw [List.getElem?_take_eq_none (by omega), List.getElem?_eq_none (by simp; omega)]
theorem OwnV.sorted {w : World} {base g cap k n : Nat} {t : TypeId} {os : Array Obj} {xs : List Vt} (h : OwnV w base t (.slice (some ⟨g, 0, none⟩) k cap) xs) (d : Array Vt) (hd : d.size = xs.length) :
    OwnV (sortWorldK vcl 5 w g 0 n d os) base t (.slice (some ⟨g, 0, none⟩) xs.length cap) d.toList := by
  obtain ⟨_, hb0, cur, hb, h1, h2, h3, h4⟩ := h.parts
  have hs : (flatK vcl 5 d).size ≤ cur.size := by rw [size_flatK, h3, hd]; exact Nat.mul_le_mul_right 5 h1
  have e : d.toList.length = xs.length := by rw [← hd]; rfl
  refine ⟨by rw [flatV_len], .inr ⟨g, cap, _, by rw [e], hb0, heap_sortV d hb, by rw [e]; exact h1, h2, by simp [putCells, h3], ?_⟩⟩
  have := take_putCellsV cur (flatK vcl 5 d) hs
  rw [size_flatK, flatK_V, hd] at this
  rw [e]
  exact this

set_option maxRecDepth 100000 in
theorem cmpLaysV (blk off size : Nat) (w : World) : CmpLays Try.prog 32 #[] vcl 5 cfV blk off size w := by
  intro m os dk _ x y
  refine (cmpV_c x y _).mono ?_
  rintro e w' ⟨rfl, q, os', h⟩
  exact ⟨rfl, q, os', h⟩

set_option maxRecDepth 100000 in
theorem sort_c (base g cap k : Nat) (xs : List Vt) (w : World) (h : OwnV w base 30 (.slice (some ⟨g, 0, none⟩) k cap) xs) (hl : xs.length ≤ 10000) :
    Calls Try.prog 51 #[.slice (some ⟨g, 0, none⟩) xs.length cap, .func (.func 32) #[] #[]] w fun e w' => e = .returned (.tuple #[]) ∧ ∃ ys, xs.Perm ys ∧ ys.Pairwise (fun a b => ahead b a = false) ∧ OwnV w' base 30 (.slice (some ⟨g, 0, none⟩) xs.length cap) ys ∧ w.grownBy w' (some g) := by
  obtain ⟨_, hb0, cur, hb, _⟩ := h.parts
  have hcon := AnyQ.slices_SortFunc sortV 5 Try.isAgg30 Try.sizeOf30 vcl (fun _ => rfl) one_five cfV cfV_swo 32 #[] g 0 cap xs.toArray w
    (enters_of Try.func32 (by kernel_rfl) rfl) (cmpLaysV _ _ _ w) h.holds (Array.getElem?_eq_some_iff.1 hb).1 (by simp; omega)
  change Calls Try.prog 51 _ _ _ at hcon
  rw [List.size_toArray] at hcon
  refine hcon.mono ?_
  rintro e w' ⟨rfl, d', n, os, hp, hs, rfl⟩
  obtain ⟨hsz, _, hpp⟩ := hp
  replace hsz : d'.size = xs.length := by simpa using hsz
  have e1 : (d'.extract 0 xs.length).toList = d'.toList := by rw [← hsz, Array.extract_size]
  have e2 : (xs.toArray.extract 0 xs.length).toList = xs := by
    have : xs.toArray.extract 0 xs.length = xs.toArray := by
      have := Array.extract_size (xs := xs.toArray)
      rwa [List.size_toArray] at this
    rw [this]
  rw [e1, e2] at hpp
  refine ⟨rfl, d'.toList, hpp.symm, ?_, h.sorted d' hsz, grownBy_sortV d'⟩
  rw [List.pairwise_iff_getElem]
  intro i j hi hj hij
  replace hi : i < d'.size := by simpa using hi
  replace hj : j < d'.size := by simpa using hj
  have := hs i j (Nat.zero_le _) hij (by simpa using (show j < xs.length by omega))
  rw [cfV_lt, getElem!_pos d' i hi, getElem!_pos d' j hj] at this
  simpa using this
theorem srt_of {L ys : List Vt} (hL : Srt L) (hp : L.Perm ys) (hy : ys.Pairwise fun a b => ahead b a = false) : ys = L := by
  have hd : L.Pairwise fun a b => ¬ (a.rd = b.rd ∧ a.fr = b.fr ∧ a.kd = b.kd) := hL.imp fun {a b} h e => by rw [ahead_iff] at h; omega
  have hd2 : ys.Pairwise fun a b => ¬ (a.rd = b.rd ∧ a.fr = b.fr ∧ a.kd = b.kd) := (hp.pairwise_iff fun {a b} h e => h ⟨e.1.symm, e.2.1.symm, e.2.2.symm⟩).1 hd
  have hs : Srt ys := (hy.and hd2).imp fun {a b} h => by
    rcases ahead_tri a b with h1 | h1 | h1
    · exact h1
    · rw [h.1] at h1; cases h1
    · exact absurd (Vt.at_iff.1 h1) h.2
  exact (srt_unique hL hs hp).symm

set_option maxRecDepth 100000 in
set_option maxHeartbeats 1000000 in
theorem sortedFunc_c (bx b : Nat) (L : List Vt) (w : World) (hB : Row1 w bx 68 [.map (some b)]) (hM : MapAt tM w b L) (hS : Srt L) (hlen : L.length ≤ 10000) :
    Calls Try.prog 30 #[.func (.func 52) #[] #[.pointer (some ⟨bx, 0, none⟩)], .func (.func 32) #[] #[]] w fun e w' => ∃ v, e = .returned v ∧ OwnV w' w.heap.size 30 v L ∧ Below w.heap.size w w' := by
  have hcol : Calls Try.prog 50 #[.func (.func 52) #[] #[.pointer (some ⟨bx, 0, none⟩)]] w fun e w' => ∃ v xs, e = .returned v ∧ L.Perm xs ∧ OwnV w' w.heap.size 30 v xs ∧ Below w.heap.size w w' := by
    have happ := hid (appendSeq_c bx b L w hB hM hlen)
    clear hB hM
    go_enter Try.func50, Try.ntmps50
    go_wp2_with (fail)
    refine happ.out.mono ?_
    rintro e w2 ⟨v, xs, rfl, hp, ho, hb⟩
    go_wp2
    go_ret
    exact ⟨v, xs, rfl, hp, ho, hb⟩
  have HC := hid hcol
  have HS := hid hS
  clear hcol hB hM hS
  go_enter Try.func30, Try.ntmps30
  go_wp2_with (fail)
  refine HC.out.mono ?_
  rintro e w2 ⟨v, xs, rfl, hp, ho, hb⟩
  have HP := hid hp
  have hl2 : xs.length ≤ 10000 := by rw [← hp.length_eq]; exact hlen
  clear hp
  rcases ho.2 with ⟨rfl, h0⟩ | ⟨g, cap, cur, rfl, h1, h2, h3⟩
  · have hx : xs = [] := List.eq_nil_of_length_eq_zero h0
    subst hx
    have hL : L = [] := List.perm_nil.1 HP.out
    subst hL
    have hn := AnyF.slices_SortFunc_none sortV none 0 (.func (.func 32) #[] #[]) w2
    change Calls Try.prog 51 _ _ _ at hn
    have HN := hid hn
    clear hn
    go_wp2_with (fail)
    refine HN.out.mono ?_
    rintro e w3 ⟨rfl, rfl⟩
    go_wp2
    go_ret
    exact ⟨_, rfl, ho, hb⟩
  · have HSO := hid (sort_c w.heap.size g cap xs.length xs w2 ho hl2)
    clear h3
    go_wp2_with (fail)
    refine HSO.out.mono ?_
    rintro e w3 ⟨rfl, ys, hp2, hpw, ho3, hg3⟩
    go_wp2
    go_ret
    have he := srt_of HS.out (HP.out.trans hp2) hpw
    subst he
    exact ⟨_, rfl, ho3, below_but hb hg3 h1 hb.size⟩
/-- all votes, in order. -/
theorem votes_c (g gm : Nat) (n : Int) (L : List Vt) (w : World) (h : Tly w g gm n L) :
    Calls Try.prog 13 #[.pointer (some ⟨g, 0, none⟩)] w fun e w' => ∃ v, e = .returned v ∧ OwnV w' w.heap.size 30 v L ∧ Below w.heap.size w w' := by
  have c1 := h.row.cell (k := 1) rfl
  have hR := row1_new w [.map (some gm)] 68
  have hM := h.map.alloc (.cells #[.map (some gm)] 68)
  have hV : Calls Try.prog 31 #[.map (some gm)] w fun e w' => e = .returned (.func (.func 52) #[] #[.pointer (some ⟨w.heap.size, 0, none⟩)]) ∧ w.alloc (.cells #[.map (some gm)] 68) = w' := by
    clear c1 hR hM
    go_enter Try.func31, Try.ntmps31
    go_wp2
    go_ret
    exact ⟨rfl, rfl⟩
  have HV := hid hV
  have HSO := hid (sortedFunc_c w.heap.size gm L _ hR hM h.srt h.len)
  clear hV hR hM
  go_enter Try.func13, Try.ntmps13
  go_wp2_with (fail)
  refine HV.out.mono ?_
  rintro e w2 ⟨rfl, rfl⟩
  go_wp2_with (fail)
  refine HSO.out.mono ?_
  rintro e w3 ⟨v, rfl, ho, hb⟩
  go_wp2
  go_ret
  exact ⟨v, rfl, ho.from_ (by simp), below_alloc_next hb⟩
theorem votes_nil (w : World) :
    Calls Try.prog 13 #[.pointer none] w fun e w' => e = .returned (.slice none 0 0) ∧ w = w' := by
  go_enter Try.func13, Try.ntmps13
  go_wp2
  go_ret
  exact ⟨rfl, rfl⟩
end Go.Proofs.Ytnngnekfgijejaa
