/-
  The document's disk: a write, a sync.
-/
import Derived.Test.YtnniiokpngdgkaaRkB
namespace Go.Proofs.Ytnniiokpngdgkaa
open Go Go.ChangeShapes Go.WideShapes Go.ChangeAt Go.RowKit Go.Maps Go.Shelf Go.Proofs

theorem ownsRow_form {w : World} {base size n : Nat} {v : Value} {e : TypeId} {xs : List Value} (h : w.ownsRow base e size v n xs) : ∃ A c, v = .slice A n c := by
  rcases h.2 with ⟨rfl, rfl⟩ | ⟨g, cap, cur, rfl, _, _⟩
  · exact ⟨none, 0, rfl⟩
  · exact ⟨_, cap, rfl⟩
theorem OwnR.of {w : World} {base n : Nat} {v : Value} {l : List Pt} {xs : List Value} (h : w.ownsRow base 96 2 v n xs) (hn : n = l.length) (hx : xs = l.flatMap pcl) : OwnR w 0 v l := by
  subst hn hx
  exact OwnR.from_ (base := base) h (Nat.zero_le _)

theorem ownsRow_from {w : World} {base b size n : Nat} {v : Value} {e : TypeId} {xs : List Value} (h : w.ownsRow base e size v n xs) (hb : b ≤ base) : w.ownsRow b e size v n xs := by
  refine ⟨h.1, ?_⟩
  rcases h.2 with hn | ⟨g, cap, cur, rfl, hg, rest⟩
  · exact .inl hn
  · exact .inr ⟨g, cap, cur, rfl, Nat.le_trans hb hg, rest⟩
set_option maxRecDepth 100000 in
set_option maxHeartbeats 2000000 in
theorem rwrite_c (g : Nat) (vp vc : Value) (r : Rk) (a : Int) (s : ByteArray) (w : World) (h : RDsk w g vp vc r) (hl : I64 r.lf) (hf : r.hs = true → 0 ≤ r.lf) (hm : r.C.length ≤ 900000) (hs : s.size ≤ 9223372036854775807) :
    Calls Try.prog 56 #[.pointer (some ⟨g, 0, none⟩), .int .i64 a, .string s] w fun e w' => ∃ vc', e = .returned (.int .i64 (r.writeE a s)) ∧ RDsk w' g vp vc' (r.write a s) ∧ RT w w' g := by
  obtain ⟨c0, c1, c2, c3, c4⟩ := h.cells
  have HH := hid h
  have HL := hid hl
  have HF := hid hf
  clear hl hf
  cases hov : r.ov with
  | true =>
    have e1 : r.writeE a s = 42 := by simp [Rk.writeE, hov]
    have e2 : r.write a s = r := by simp [Rk.write, hov]
    rw [e1, e2]
    rw [hov] at c4
    clear h hov e1 e2
    go_enter Try.func56, Try.ntmps56
    go_wp2
    go_ret
    exact ⟨vc, rfl, HH.out, RT.refl⟩
  | false =>
    rw [hov] at c4
    cases his : isS a with
    | false =>
      have e1 : r.writeE a s = 1 := by simp [Rk.writeE, hov, his]
      have e2 : r.write a s = r := by simp [Rk.write, hov, his]
      rw [e1, e2]
      have hic := ris_c a w
      rw [his] at hic
      have HIC := hid hic
      clear h hov e1 e2 his hic
      go_enter Try.func56, Try.ntmps56
      go_wp2_with (fail)
      refine HIC.out.mono ?_
      rintro e _ ⟨rfl, rfl⟩
      go_wp2
      go_ret
      exact ⟨vc, rfl, HH.out, RT.refl⟩
    | true =>
      have hic := ris_c a w
      rw [his] at hic
      have HIC := hid hic
      clear hic
      by_cases h5 : 512 < s.size
      · have e1 : r.writeE a s = 10 := by simp [Rk.writeE, hov, his, h5]
        have e2 : r.write a s = r := by simp [Rk.write, hov, his, h5]
        rw [e1, e2]
        clear h hov e1 e2 his
        go_enter Try.func56, Try.ntmps56
        go_wp2_with (fail)
        refine HIC.out.mono ?_
        rintro e _ ⟨rfl, rfl⟩
        go_wp2
        go_ret
        exact ⟨vc, rfl, HH.out, RT.refl⟩
      · cases hsb : r.spendB with
        | false =>
          have e1 : r.writeE a s = 42 := by simp [Rk.writeE, hov, his, h5, hsb]
          have e2 : r.write a s = r.spend := by simp [Rk.write, hov, his, h5, hsb]
          rw [e1, e2]
          have hsp := rspend_c g vp vc r w HH.out HL.out HF.out
          rw [hsb] at hsp
          have HSP := hid hsp
          clear h hov e1 e2 his hsb hsp
          go_enter Try.func56, Try.ntmps56
          go_wp2_with (fail)
          refine HIC.out.mono ?_
          rintro e _ ⟨rfl, rfl⟩
          go_wp2_with (fail)
          refine HSP.out.mono ?_
          rintro e w2 ⟨rfl, hD, hT⟩
          go_wp2
          go_ret
          exact ⟨vc, rfl, hD, hT⟩
        | true =>
          have e1 : r.writeE a s = 0 := by simp [Rk.writeE, hov, his, h5, hsb]
          have e2 : r.write a s = { r.spend with C := r.C ++ [⟨a, s⟩] } := by simp [Rk.write, hov, his, h5, hsb]
          rw [e1, e2]
          have hsp := rspend_c g vp vc r w HH.out HL.out HF.out
          rw [hsb] at hsp
          have HSP := hid hsp
          have HPC := hid r.spend_PC
          clear h hov e1 e2 his hsb hsp
          go_enter Try.func56, Try.ntmps56
          go_wp2_with (fail)
          refine HIC.out.mono ?_
          rintro e _ ⟨rfl, rfl⟩
          clear c0 c1 c2 c3 c4
          go_wp2_with (fail)
          refine HSP.out.mono ?_
          rintro e w2 ⟨rfl, hD, hT⟩
          obtain ⟨A, c, rfl, hA⟩ := hD.C.cellsP
          obtain ⟨c0, c1, c2, c3, c4⟩ := hD.cells
          obtain ⟨f0, f1, f2, f3, f4⟩ := hD.free
          have hcl : r.spend.C.length ≤ 900000 := by rw [HPC.out.2]; exact hm
          have hro := ownR_new w2
          have hba := below_alloc w2 (.cells #[] 96)
          have hsa : w2.heap.size ≤ (w2.alloc (.cells #[] 96)).heap.size := hba.size
          have HD := hid hD
          have HAx := hid hA
          clear c0 c1 c2 c3 c4
          obtain ⟨c0, c1, c2, c3, c4⟩ := (hD.below hba).cells
          clear hD hA
          generalize hrr : r.spend = r2 at *
          go_wp2_with (at_builtin; first
            | (refine wpList_append_R (w2.alloc (.cells #[] 96)) rfl _ _ rfl w2.heap.size _ 0 [] rfl hro A r2.C c rfl (HAx.out.below hba) (by omega) hsa ?_; intro v7 w7 hrow7 hg7; have hb7 := hba.grown hg7 hsa fun k e => (World.ownsRow.lt hro k e).1; have hrow8 := ownsRow_below hrow7 (below_alloc w7 (.cells (pcl ⟨a, s⟩).toArray 96)); have hb8 := hb7.alloc hb7.size (.cells (pcl ⟨a, s⟩).toArray 96); have hD8 := hid (HD.out.below hb8); have HN := hid (cellsP_new w7 ⟨a, s⟩))
            | (refine wpList_append_R (w7.alloc (.cells (pcl ⟨a, s⟩).toArray 96)) rfl _ _ rfl w2.heap.size v7 (0 + r2.C.length) _ rfl hrow8 (some ⟨w7.heap.size, 0, none⟩) [⟨a, s⟩] 1 rfl HN.out (by simp; omega) hb8.size ?_; intro v9 w9 hrow9 hg9; have hb9 := hb8.grown hg9 hb8.size fun k e => (World.ownsRow.lt hrow8 k e).1; have hD9 := HD.out.below hb9; obtain ⟨f0, f1, f2, f3, f4⟩ := hD9.free; have k1 := hD9.cells.2.1; obtain ⟨A9, c9, rfl⟩ := ownsRow_form hrow9))
          have hO9 : OwnR w9 0 (.slice A9 (0 + r2.C.length + [(⟨a, s⟩ : Pt)].length) c9) (r2.C ++ [⟨a, s⟩]) := OwnR.of hrow9 (by simp) (by simp)
          subst hrr
          go_ret
          refine ⟨_, rfl, hD9.set 1 _ rfl hD9.P ?_, (hT.next hb9).set _ _⟩
          rw [← HPC.out.2]
          simpa using hO9
set_option maxRecDepth 100000 in
set_option maxHeartbeats 2000000 in
theorem rsync_c (g : Nat) (vp vc : Value) (r : Rk) (w : World) (h : RDsk w g vp vc r) (hl : I64 r.lf) (hf : r.hs = true → 0 ≤ r.lf) (hm : r.P.length + r.C.length ≤ 900000) [DecidableEq Lit] :
    Calls Try.prog 57 #[.pointer (some ⟨g, 0, none⟩)] w fun e w' => ∃ vp' vc', e = .returned (.int .i64 r.syncE) ∧ RDsk w' g vp' vc' r.sync ∧ RT w w' g := by
  obtain ⟨c0, c1, c2, c3, c4⟩ := h.cells
  have HH := hid h
  have HL := hid hl
  have HF := hid hf
  clear hl hf
  cases hov : r.ov with
  | true =>
    have e1 : r.syncE = 42 := by simp [Rk.syncE, hov]
    have e2 : r.sync = r := by simp [Rk.sync, hov]
    rw [e1, e2]
    rw [hov] at c4
    clear h hov e1 e2
    go_enter Try.func57, Try.ntmps57
    go_wp2
    go_ret
    exact ⟨vp, vc, rfl, HH.out, RT.refl⟩
  | false =>
    rw [hov] at c4
    cases hsb : r.spendB with
    | false =>
      have e1 : r.syncE = 42 := by simp [Rk.syncE, hov, hsb]
      have e2 : r.sync = r.spend := by simp [Rk.sync, hov, hsb]
      rw [e1, e2]
      have hsp := rspend_c g vp vc r w HH.out HL.out HF.out
      rw [hsb] at hsp
      have HSP := hid hsp
      clear h hov e1 e2 hsb hsp
      go_enter Try.func57, Try.ntmps57
      go_wp2_with (fail)
      refine HSP.out.mono ?_
      rintro e w2 ⟨rfl, hD, hT⟩
      go_wp2
      go_ret
      exact ⟨vp, vc, rfl, hD, hT⟩
    | true =>
      have e1 : r.syncE = 0 := by simp [Rk.syncE, hov, hsb]
      have e2 : r.sync = { r.spend with P := r.P ++ r.C, C := [] } := by simp [Rk.sync, hov, hsb]
      rw [e1, e2]
      have hsp := rspend_c g vp vc r w HH.out HL.out HF.out
      rw [hsb] at hsp
      have HSP := hid hsp
      have HPC := hid r.spend_PC
      have HM := hid (show r.spend.P.length + r.spend.C.length ≤ 900000 by rw [HPC.out.1, HPC.out.2]; exact hm)
      clear h hov e1 e2 hsb hsp hm
      go_enter Try.func57, Try.ntmps57
      clear c0 c1 c2 c3
      go_wp2_with (fail)
      refine HSP.out.mono ?_
      rintro e w1 ⟨rfl, hD, hT⟩
      clear c4
      generalize hrr : r.spend = r2 at *
      obtain ⟨A, c, rfl, hA⟩ := hD.P.cellsP
      obtain ⟨A2, c2, rfl, hA2⟩ := hD.C.cellsP
      have HD := hid hD
      have HAx := hid hA
      have HAy := hid hA2
      clear hD hA hA2
      go_wp2_with (fail)
      refine Rgd.wp_region (l := [_, _, _, _, _, _, _, _, _, _, _, _, _, _]) (tail := [_]) (Rgd.keep w1 [6, 11] [(0, 2), (0, 0), (0, 0), (0, 0), (0, 0), (0, 0), (0, 0), (0, 1), (0, 1), (0, 1), (0, 1), (1, 1), (2, 2), (2, 2)]) [some 12, some 13, some 14, some 15, some 16, some 17, some 18, some 19, some 20, some 21, some 22, some 23, some 24, some 25, none] 29 rfl [[], [], [], [2], [2, 3], [2, 3, 4], [1, 2, 3, 4, 5], [], [7], [7, 8], [7, 8, 9], [1, 2, 3, 4, 5, 6, 7, 8, 9, 10], [0, 1, 2, 3, 4, 5, 6, 7, 8, 9, 10, 11], [0, 1, 2, 3, 4, 5, 6, 7, 8, 9, 10, 11, 12]] (by kernel_rfl) (by kernel_rfl) (by kernel_rfl) (by kernel_rfl) (by kernel_rfl) rfl (Rgd.keep_fair) (Rgd.keep_start _) ?_
      refine' Rgd.op_is _ [] 0 2 rfl rfl rfl (by kernel_rfl) ?_ ?_
      rotate_left
      · intro p wx hp1 hp2 hb
        refine Rgd.from_nil fun T hT => ?_
        go_wp2
        refine hT _ _ rfl (by first | exact Rgd.Keep.refl _ | exact below_of_dr hw2 | exact hw2 | exact (Below.refl _ _).alloc (Nat.le_refl _) _) ?_
        simp only [Rgd.last, List.getElem?_toArray, List.getElem?_cons_succ, List.getElem?_cons_zero, Option.getD_some]
        rfl
      refine Rgd.op_of (fun p w u => p = 0 → ∃ b, u = .slice (some ⟨b, 0, none⟩) 0 0 ∧ w.ownsRow w1.heap.size 96 2 u 0 []) [] 0 0 rfl rfl ?_ ?_ rfl (by kernel_rfl) ?_ ?_
      · exact fun p w1 w2 v _ hk h hp => by obtain ⟨b, h1, h2⟩ := h hp; exact ⟨b, h1, ownsRow_below h2 hk⟩
      · exact fun p w1 w2 v _ _ _ _ _ _ hp => by omega
      · intro p wx hp1 hp2 hb
        obtain rfl : p = 0 := by omega
        refine Rgd.from_nil fun T hT => ?_
        have hb : Below w1.heap.size w1 wx := hb
        go_wp2
        exact hT _ _ rfl (below_alloc _ _) fun _ => ⟨_, rfl, ownsRow_from (ownR_new wx) hb.size⟩
      refine' Rgd.op_is _ [] 0 0 rfl rfl rfl (by kernel_rfl) ?_ ?_
      rotate_left
      · intro p wx hp1 hp2 hb
        obtain rfl : p = 0 := by omega
        refine Rgd.from_nil fun T hT => ?_
        go_wp2
        refine hT _ _ rfl (by first | exact Rgd.Keep.refl _ | exact below_of_dr hw2 | exact hw2 | exact (Below.refl _ _).alloc (Nat.le_refl _) _) ?_
        simp only [Rgd.last, List.getElem?_toArray, List.getElem?_cons_succ, List.getElem?_cons_zero, Option.getD_some]
        rfl
      refine' Rgd.op_is _ [2] 0 0 rfl rfl rfl (by kernel_rfl) ?_ ?_
      rotate_left
      · intro p wx hp1 hp2 hb
        obtain rfl : p = 0 := by omega
        refine Rgd.from_is (some 14) rfl rfl ?_
        refine Rgd.from_nil fun T hT => ?_
        go_wp2
        refine hT _ _ rfl (by first | exact Rgd.Keep.refl _ | exact below_of_dr hw2 | exact hw2 | exact (Below.refl _ _).alloc (Nat.le_refl _) _) ?_
        simp only [Rgd.last, List.getElem?_toArray, List.getElem?_cons_succ, List.getElem?_cons_zero, Option.getD_some]
        rfl
      refine' Rgd.op_is _ [3] 0 0 rfl rfl rfl (by kernel_rfl) ?_ ?_
      rotate_left
      · intro p wx hp1 hp2 hb
        obtain rfl : p = 0 := by omega
        refine Rgd.from_is (some 15) rfl rfl ?_
        refine Rgd.from_nil fun T hT => ?_
        go_wp2
        refine hT _ _ rfl (by first | exact Rgd.Keep.refl _ | exact below_of_dr hw2 | exact hw2 | exact (Below.refl _ _).alloc (Nat.le_refl _) _) ?_
        simp only [Rgd.last, List.getElem?_toArray, List.getElem?_cons_succ, List.getElem?_cons_zero, Option.getD_some]
        rfl
      refine Rgd.op_is (.slice A r2.P.length c) [4] 0 0 rfl rfl rfl (by kernel_rfl) ?_ ?_
      · intro p wx hp1 hp2 hb
        obtain rfl : p = 0 := by omega
        refine Rgd.from_is (some 16) rfl rfl ?_
        refine Rgd.from_nil fun T hT => ?_
        have c0 := (HD.out.below hb).cells.1
        go_wp2
        exact hT _ _ rfl (by first | exact Rgd.Keep.refl _ | exact below_of_dr hw2 | exact hw2 | exact (Below.refl _ _).alloc (Nat.le_refl _) _) (by first | rfl | exact congrArg _ (by decide))
      refine Rgd.op_turns (fun p w u => p = 1 → w.ownsRow w1.heap.size 96 2 u r2.P.length (r2.P.flatMap pcl)) [1, 5] 0 rfl ?_ ?_ rfl (by kernel_rfl) ?_ ?_
      · exact fun p w1 w2 v _ hk h hp => ownsRow_below (h hp) hk
      · exact fun p w1 w2 v _ _ _ _ _ _ hp => by omega
      · intro wx hb
        refine Rgd.from_of (some 13) rfl rfl fun v13 h13 => ?_
        refine Rgd.from_is (some 17) rfl rfl ?_
        refine Rgd.from_nil fun T hT => ?_
        have hb : Below w1.heap.size w1 wx := hb
        have hm := HM.out
        obtain ⟨b, rfl, hrow⟩ := h13 rfl
        refine wpList_append_R wx rfl _ _ (by rfl) w1.heap.size _ 0 [] (by rfl) hrow A r2.P c (by rfl) (HAx.out.below hb) (by omega) hb.size ?_
        intro v' w' hown hgr
        rw [Nat.zero_add, List.nil_append] at hown
        exact hT _ _ rfl trivial (hb.grown hgr hb.size fun k e => (World.ownsRow.lt hrow k e).1) fun _ => hown
      refine' Rgd.op_is _ [] 0 1 rfl rfl rfl (by kernel_rfl) ?_ ?_
      rotate_left
      · intro p wx hp1 hp2 hb
        refine Rgd.from_nil fun T hT => ?_
        go_wp2
        refine hT _ _ rfl (by first | exact Rgd.Keep.refl _ | exact below_of_dr hw2 | exact hw2 | exact (Below.refl _ _).alloc (Nat.le_refl _) _) ?_
        simp only [Rgd.last, List.getElem?_toArray, List.getElem?_cons_succ, List.getElem?_cons_zero, Option.getD_some]
        rfl
      refine' Rgd.op_is _ [7] 0 1 rfl rfl rfl (by kernel_rfl) ?_ ?_
      rotate_left
      · intro p wx hp1 hp2 hb
        refine Rgd.from_is (some 19) rfl rfl ?_
        refine Rgd.from_nil fun T hT => ?_
        go_wp2
        refine hT _ _ rfl (by first | exact Rgd.Keep.refl _ | exact below_of_dr hw2 | exact hw2 | exact (Below.refl _ _).alloc (Nat.le_refl _) _) ?_
        simp only [Rgd.last, List.getElem?_toArray, List.getElem?_cons_succ, List.getElem?_cons_zero, Option.getD_some]
        rfl
      refine' Rgd.op_is _ [8] 0 1 rfl rfl rfl (by kernel_rfl) ?_ ?_
      rotate_left
      · intro p wx hp1 hp2 hb
        refine Rgd.from_is (some 20) rfl rfl ?_
        refine Rgd.from_nil fun T hT => ?_
        go_wp2
        refine hT _ _ rfl (by first | exact Rgd.Keep.refl _ | exact below_of_dr hw2 | exact hw2 | exact (Below.refl _ _).alloc (Nat.le_refl _) _) ?_
        simp only [Rgd.last, List.getElem?_toArray, List.getElem?_cons_succ, List.getElem?_cons_zero, Option.getD_some]
        rfl
      refine Rgd.op_is (.slice A2 r2.C.length c2) [9] 0 1 rfl rfl rfl (by kernel_rfl) ?_ ?_
      · intro p wx hp1 hp2 hb
        refine Rgd.from_is (some 21) rfl rfl ?_
        refine Rgd.from_nil fun T hT => ?_
        have c1 := (HD.out.below hb).cells.2.1
        go_wp2
        exact hT _ _ rfl (by first | exact Rgd.Keep.refl _ | exact below_of_dr hw2 | exact hw2 | exact (Below.refl _ _).alloc (Nat.le_refl _) _) (by first | rfl | exact congrArg _ (by decide))
      refine Rgd.op_turns (fun p w u => p = 2 → w.ownsRow w1.heap.size 96 2 u (r2.P ++ r2.C).length ((r2.P ++ r2.C).flatMap pcl)) [6, 10] 1 rfl ?_ ?_ rfl (by kernel_rfl) ?_ ?_
      · exact fun p w1 w2 v _ hk h hp => ownsRow_below (h hp) hk
      · exact fun p w1 w2 v h0 h1 => by simp [Rgd.keep] at h1; omega
      · intro wx hb
        refine Rgd.from_of (some 18) rfl rfl fun v18 h18 => ?_
        refine Rgd.from_is (some 22) rfl rfl ?_
        refine Rgd.from_nil fun T hT => ?_
        have hb : Below w1.heap.size w1 wx := hb
        have hm := HM.out
        have hrow := h18 rfl
        refine wpList_append_R wx rfl _ _ (by rfl) w1.heap.size _ r2.P.length _ (by rfl) hrow A2 r2.C c2 (by rfl) (HAy.out.below hb) (by omega) hb.size ?_
        intro v' w' hown hgr
        exact hT _ _ rfl trivial (hb.grown hgr hb.size fun k e => (World.ownsRow.lt hrow k e).1) fun _ => by rw [List.length_append, List.flatMap_append]; exact hown
      refine' Rgd.op_is _ [0] 2 2 rfl rfl rfl (by kernel_rfl) ?_ ?_
      rotate_left
      · intro p wx hp1 hp2 hb
        obtain rfl : p = 2 := by omega
        refine Rgd.from_is (some 12) rfl rfl ?_
        refine Rgd.from_nil fun T hT => ?_
        go_wp2
        refine hT _ _ rfl (by first | exact Rgd.Keep.refl _ | exact below_of_dr hw2 | exact hw2 | exact (Below.refl _ _).alloc (Nat.le_refl _) _) ?_
        simp only [Rgd.last, List.getElem?_toArray, List.getElem?_cons_succ, List.getElem?_cons_zero, Option.getD_some]
        rfl
      refine' Rgd.op_is _ [12] 2 2 rfl rfl rfl (by kernel_rfl) ?_ ?_
      rotate_left
      · intro p wx hp1 hp2 hb
        obtain rfl : p = 2 := by omega
        refine Rgd.from_is (some 24) rfl rfl ?_
        refine Rgd.from_nil fun T hT => ?_
        go_wp2
        refine hT _ _ rfl (by first | exact Rgd.Keep.refl _ | exact below_of_dr hw2 | exact hw2 | exact (Below.refl _ _).alloc (Nat.le_refl _) _) ?_
        simp only [Rgd.last, List.getElem?_toArray, List.getElem?_cons_succ, List.getElem?_cons_zero, Option.getD_some]
        rfl
      refine Rgd.walk_nil [0, 1, 2, 3, 4, 5, 6, 7, 8, 9, 10, 11, 12, 13] (by kernel_rfl) ?_
      intro wx hb
      refine Rgd.from_is (some 12) rfl rfl ?_
      refine Rgd.from_of (some 13) rfl rfl fun v13 h13 => ?_
      refine Rgd.from_is (some 14) rfl rfl ?_
      refine Rgd.from_is (some 15) rfl rfl ?_
      refine Rgd.from_is (some 16) rfl rfl ?_
      refine Rgd.from_is (some 17) rfl rfl ?_
      refine Rgd.from_of (some 18) rfl rfl fun v18 h18 => ?_
      refine Rgd.from_is (some 19) rfl rfl ?_
      refine Rgd.from_is (some 20) rfl rfl ?_
      refine Rgd.from_is (some 21) rfl rfl ?_
      refine Rgd.from_is (some 22) rfl rfl ?_
      refine Rgd.from_of (some 23) rfl rfl fun v23 h23 => ?_
      refine Rgd.from_is (some 24) rfl rfl ?_
      refine Rgd.from_is (some 25) rfl rfl ?_
      refine Rgd.from_nil ?_
      simp only [List.map, Act.put, List.setIfInBounds_toArray, List.set_cons_zero, List.set_cons_succ]
      have hb : Below w1.heap.size w1 wx := hb
      have hrow := h23 rfl
      rw [List.length_append] at hrow
      obtain ⟨A9, c9, rfl⟩ := ownsRow_form hrow
      have hD9 := HD.out.below hb
      obtain ⟨f0, f1, f2, f3, f4⟩ := hD9.free
      obtain ⟨k0, k1, k2, k3, k4⟩ := hD9.cells
      clear h13 h18 h23
      go_wp2
      have hs1 := hD9.set 0 (.slice A9 (r2.P.length + r2.C.length) c9) (vc' := .slice A2 r2.C.length c2) (r' := { r2 with P := r2.P ++ r2.C }) rfl (OwnR.of hrow (List.length_append).symm rfl) hD9.C
      have hs2 := hs1.set 1 (.slice none 0 0) (vp' := .slice A9 (r2.P.length + r2.C.length) c9) (r' := { r2 with P := r2.P ++ r2.C, C := [] }) rfl hs1.P ⟨rfl, .inl ⟨rfl, rfl⟩⟩
      go_ret
      subst hrr
      have he : ({ r.spend with P := r.P ++ r.C, C := [] } : Rk) = { r.spend with P := r.spend.P ++ r.spend.C, C := [] } := by rw [HPC.out.1, HPC.out.2]
      rw [he]
      exact ⟨_, _, rfl, hs2, ((hT.next hb).set _ _).set _ _⟩
end Go.Proofs.Ytnniiokpngdgkaa
