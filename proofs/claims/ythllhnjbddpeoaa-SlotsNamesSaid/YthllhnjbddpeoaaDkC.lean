/-
  A disk's fuse; a write.
-/
import Derived.Test.YthllhnjbddpeoaaDkB
namespace Go.Proofs.Ythllhnjbddpeoaa
open Go.RowKit Go.Maps

set_option maxHeartbeats 1000000 in
theorem burn_c (g gm : Nat) (v : Value) (d : Dk) (w : World) (h : Dsk w g gm v d) (hf : d.fu = true → 0 ≤ d.le) (hl : -9223372036854775808 ≤ d.le ∧ d.le ≤ 9223372036854775807) :
    Calls Try.prog 55 #[.pointer (some ⟨g, 0, none⟩)] w fun e w' => e = .returned (.bool d.burnB) ∧ Dsk w' g gm v d.burn ∧ Tch w w' g gm v := by
  obtain ⟨c0, c1, c2, c3, c4⟩ := h.cells
  obtain ⟨f0, f1, f2, f3, f4⟩ := h.free
  cases hfu : d.fu with
  | false =>
    have e1 : d.burnB = true := by simp [Dk.burnB, hfu]
    have e2 : d.burn = d := by simp [Dk.burn, hfu]
    rw [e1, e2]
    rw [hfu] at c2
    clear e1 e2 hfu hf
    go_enter Try.func55, Try.ntmps55
    go_wp2
    go_ret
    exact ⟨rfl, h, Tch.refl⟩
  | true =>
    have h0 := hf hfu
    by_cases hz : d.le = 0
    · have e1 : d.burnB = false := by simp [Dk.burnB, hfu, hz]
      have e2 : d.burn = { d with de := true } := by simp [Dk.burn, hfu, hz]
      rw [e1, e2]
      rw [hfu] at c2
      rw [hz] at c3
      clear e1 e2 hfu hf hz h0 hl
      go_enter Try.func55, Try.ntmps55
      go_wp2
      go_ret
      exact ⟨rfl, h.set 4 (.bool true) (d' := { d with de := true }) rfl rfl rfl, Tch.refl.set _ _⟩
    · have e1 : d.burnB = true := by simp [Dk.burnB, hfu, hz]
      have e2 : d.burn = { d with le := d.le - 1 } := by simp [Dk.burn, hfu, hz]
      rw [e1, e2]
      rw [hfu] at c2
      have hz1 : (d.le == 0) = false := by simpa using hz
      have hz2 : 1 ≤ d.le := by omega
      clear e1 e2 hfu hf hz
      go_enter Try.func55, Try.ntmps55
      go_wp2
      go_ret
      exact ⟨rfl, h.set 3 (.int .i64 (d.le - 1)) (d' := { d with le := d.le - 1 }) rfl rfl rfl, Tch.refl.set _ _⟩

theorem info_put : (Try.prog.info? 80).map (fun i => (i.zero, i.size, i.bytes)) = some (some (pval ⟨0, ⟨#[]⟩⟩), 2, 24) := by kernel_rfl
theorem one_two (x : Pt) : ∀ u ∈ pcl x, u.oneCell' = true := by
  intro u hu
  simp only [pcl, List.mem_cons, List.not_mem_nil, or_false] at hu
  rcases hu with rfl | rfl <;> rfl
theorem Row1.news {w : World} {b : Nat} {e : TypeId} {xs : List Value} (h : Row1 w b e xs) : ∀ j u, xs[j]? = some u → w.cell? ((⟨b, 0, none⟩ : Addr).add j) = some u := by
  intro j u hu
  have hadd : (⟨b, 0, none⟩ : Addr).add j = ⟨b, j, none⟩ := by unfold Addr.add; split <;> simp_all
  rw [hadd]
  exact h.cell hu
theorem zs_extract (n k : Nat) : (zs n).extract k n = zs (n - k) := by
  apply ByteArray.ext
  simp only [zs, ByteArray.data_extract]
  apply Array.ext'
  simp
theorem pad_eq {s : ByteArray} : s ++ blk.extract s.size 512 = pad s := by
  unfold pad blk
  rw [zs_extract]
theorem Tch.grownO {w w' w'' : World} {g gm : Nat} {v : Value} (h : Tch w w' g gm v) (k : w'.grownBy w'' v.ownBlock) : Tch w w'' g gm v :=
  ⟨k.os.trans h.os, k.tape.trans h.tape, k.output.trans h.output, Nat.le_trans h.size k.size, fun i hi h1 h2 h3 => (k.block i (Nat.lt_of_lt_of_le hi h.size) fun e => h3 e.symm).trans (h.block i hi h1 h2 h3)⟩

/-- the cache while one write more is put to it. -/
def phCache (w0 : World) (g gm : Nat) (v : Value) (d : Dk) (p : Nat) (w : World) : Prop := match p with
  | 0 => Below w0.heap.size w0 w
  | _ => Tch w0 w g gm v ∧ Row1 w g 85 [.map (some gm), v, .bool d.fu, .int .i64 d.le, .bool d.de] ∧ MapAt dM w gm d.P
def wayCache (w0 : World) (g gm : Nat) (v : Value) (d : Dk) (cs : List Nat) (bds : List (Nat × Nat)) : Rgd.Way := ⟨Rgd.Keep, fun _ _ _ => True, phCache w0 g gm v d, cs, bds⟩
theorem wayCache_fair {w0 : World} {g gm : Nat} {v : Value} {d : Dk} {cs : List Nat} {bds : List (Nat × Nat)} : (wayCache w0 g gm v d cs bds).Fair := ⟨by
  rintro p w w' h hk
  have hk : Below w.heap.size w w' := hk
  match p, h with
  | 0, h => exact below_next h (Below.size h) hk
  | p + 1, ⟨h1, h2, h3⟩ => exact ⟨h1.next hk, h2.below hk, h3.below hk⟩⟩

set_option maxRecDepth 100000 in
set_option maxHeartbeats 2000000 in
theorem write_c (g gm : Nat) (v : Value) (d : Dk) (m : Nat) (a : Int) (s : ByteArray) (w : World) (h : Dsk w g gm v d) (hd : d.Ok m) (hm : m ≤ 1000000) (ha : I64 a) (hs : s.size ≤ 9223372036854775807) :
    Calls Try.prog 20 #[.pointer (some ⟨g, 0, none⟩), .int .i64 a, .string s] w fun e w' => ∃ v', e = .returned (.int .i64 (d.writeE a s)) ∧ Dsk w' g gm v' (d.write a s) ∧ Then w v v' ∧ Tch w w' g gm v := by
  obtain ⟨c0, c1, c2, c3, c4⟩ := h.cells
  have h1 : ((42 : Int) != 0) = true := rfl
  cases hde : d.de with
  | true =>
    have e1 : d.writeE a s = 42 := by simp [Dk.writeE, hde]
    have e2 : d.write a s = d := by simp [Dk.write, hde]
    rw [e1, e2]
    rw [hde] at c4
    clear e1 e2 hde hm
    go_enter Try.func20, Try.ntmps20
    go_wp2
    go_ret
    exact ⟨v, rfl, h, Then.refl, Tch.refl⟩
  | false =>
    have C4 := c4
    rw [hde] at C4
    cases his : isS a with
    | false =>
      have e1 : d.writeE a s = 1 := by simp [Dk.writeE, hde, his]
      have e2 : d.write a s = d := by simp [Dk.write, hde, his]
      rw [e1, e2]
      have hi := is_c a w ha
      rw [his] at hi
      clear e1 e2 hde his hm c4
      go_enter Try.func20, Try.ntmps20
      go_wp2_with (fail)
      refine hi.mono ?_
      rintro e _ ⟨rfl, rfl⟩
      go_wp2
      go_ret
      exact ⟨v, rfl, h, Then.refl, Tch.refl⟩
    | true =>
      have hi := is_c a w ha
      rw [his] at hi
      by_cases hl : 512 < s.size
      · have e1 : d.writeE a s = 10 := by simp [Dk.writeE, hde, his, hl]
        have e2 : d.write a s = d := by simp [Dk.write, hde, his, hl]
        rw [e1, e2]
        clear e1 e2 hde his hm c4
        go_enter Try.func20, Try.ntmps20
        go_wp2_with (fail)
        refine hi.mono ?_
        rintro e _ ⟨rfl, rfl⟩
        go_wp2
        go_ret
        exact ⟨v, rfl, h, Then.refl, Tch.refl⟩
      · have hl2 : s.size ≤ 512 := by omega
        have hbc := burn_c g gm v d w h hd.fuse hd.le
        cases hbb : d.burnB with
        | false =>
          have e1 : d.writeE a s = 42 := by simp [Dk.writeE, hde, his, hl, hbb]
          have e2 : d.write a s = d.burn := by simp [Dk.write, hde, his, hl, hbb]
          rw [e1, e2]
          rw [hbb] at hbc
          clear e1 e2 hde his hm c4 hl hbb
          go_enter Try.func20, Try.ntmps20
          go_wp2_with (fail)
          refine hi.mono ?_
          rintro e _ ⟨rfl, rfl⟩
          go_wp2_with (fail)
          refine hbc.mono ?_
          rintro e w1 ⟨rfl, hD, hT⟩
          go_wp2
          go_ret
          exact ⟨v, rfl, hD, Then.refl, hT⟩
        | true =>
          have e1 : d.writeE a s = 0 := by simp [Dk.writeE, hde, his, hl, hbb]
          have e2 : d.write a s = { d.burn with C := d.C ++ [⟨a, pad s⟩] } := by simp [Dk.write, hde, his, hl, hbb]
          rw [e1, e2]
          rw [hbb] at hbc
          have hlen : d.C.length ≤ 1000000 := by have := hd.len; omega
          have hbC := d.burn_PC.2
          have HB := hid hbC
          clear e1 e2 hde his hm c4 hl hbb hd hbC
          go_enter Try.func20, Try.ntmps20
          go_wp2_with (fail)
          refine hi.mono ?_
          rintro e _ ⟨rfl, rfl⟩
          go_wp2_with (fail)
          refine hbc.mono ?_
          rintro e w1 ⟨rfl, hD, hTc⟩
          clear c0 c1 c2 c3 C4 h hi hbc
          go_wp2
          obtain ⟨i0, hi, hz0, hz1, hz2⟩ := info_parts info_put
          have HI := hid (⟨hi, hz0, hz1, hz2⟩ : _ ∧ _ ∧ _ ∧ _)
          clear hi hz0 hz1 hz2
          refine Rgd.wp_region (l := [_, _, _, _, _, _, _, _, _, _, _, _, _, _, _]) (tail := [_, _, _]) (wayCache w1 g gm v d.burn [14] [(0, 1), (0, 0), (0, 0), (0, 0), (0, 0), (0, 0), (0, 0), (0, 0), (0, 0), (0, 0), (0, 0), (0, 0), (0, 0), (0, 0), (0, 0)]) [some 27, some 28, some 29, some 30, some 31, some 32, some 33, some 34, some 35, some 36, some 37, some 38, some 39, some 40, some 41, some 42, some 43, none] 44 rfl [[], [], [1], [1, 2], [1, 2, 3], [], [], [], [], [8], [7, 8, 9], [6, 7, 8, 9, 10], [5, 6, 7, 8, 9, 10, 11], [5, 6, 7, 8, 9, 10, 11, 12], [1, 2, 3, 4, 5, 6, 7, 8, 9, 10, 11, 12, 13]] (by kernel_rfl) (by kernel_rfl) (by kernel_rfl) (by kernel_rfl) (by kernel_rfl) rfl (wayCache_fair) (Rgd.keep_drew _) ?_
          refine' Rgd.op_is _ [] 0 1 rfl rfl rfl (by kernel_rfl) ?_ ?_
          rotate_left
          · intro p wx hp1 hp2 hb
            refine Rgd.from_nil fun T hT => ?_
            go_wp2
            refine hT _ _ rfl (by first | exact Rgd.Keep.refl _ | exact below_of_dr hw2 | exact hw2 | exact (Below.refl _ _).alloc (Nat.le_refl _) _) ?_
            simp only [Rgd.last, List.getElem?_toArray, List.getElem?_cons_succ, List.getElem?_cons_zero, Option.getD_some]
            rfl
          refine' Rgd.op_is _ [] 0 0 rfl rfl rfl (by kernel_rfl) ?_ ?_
          rotate_left
          · intro p wx hp1 hp2 hb
            obtain rfl : p = 0 := by omega
            refine Rgd.from_nil fun T hT => ?_
            go_wp2
            refine hT _ _ rfl (by first | exact Rgd.Keep.refl _ | exact below_of_dr hw2 | exact hw2 | exact (Below.refl _ _).alloc (Nat.le_refl _) _) ?_
            simp only [Rgd.last, List.getElem?_toArray, List.getElem?_cons_succ, List.getElem?_cons_zero, Option.getD_some]
            rfl
          refine' Rgd.op_is _ [1] 0 0 rfl rfl rfl (by kernel_rfl) ?_ ?_
          rotate_left
          · intro p wx hp1 hp2 hb
            obtain rfl : p = 0 := by omega
            refine Rgd.from_is (some 28) rfl rfl ?_
            refine Rgd.from_nil fun T hT => ?_
            go_wp2
            refine hT _ _ rfl (by first | exact Rgd.Keep.refl _ | exact below_of_dr hw2 | exact hw2 | exact (Below.refl _ _).alloc (Nat.le_refl _) _) ?_
            simp only [Rgd.last, List.getElem?_toArray, List.getElem?_cons_succ, List.getElem?_cons_zero, Option.getD_some]
            rfl
          refine' Rgd.op_is _ [2] 0 0 rfl rfl rfl (by kernel_rfl) ?_ ?_
          rotate_left
          · intro p wx hp1 hp2 hb
            obtain rfl : p = 0 := by omega
            refine Rgd.from_is (some 29) rfl rfl ?_
            refine Rgd.from_nil fun T hT => ?_
            go_wp2
            refine hT _ _ rfl (by first | exact Rgd.Keep.refl _ | exact below_of_dr hw2 | exact hw2 | exact (Below.refl _ _).alloc (Nat.le_refl _) _) ?_
            simp only [Rgd.last, List.getElem?_toArray, List.getElem?_cons_succ, List.getElem?_cons_zero, Option.getD_some]
            rfl
          refine' Rgd.op_is _ [3] 0 0 rfl rfl rfl (by kernel_rfl) ?_ ?_
          rotate_left
          · intro p wx hp1 hp2 hb
            obtain rfl : p = 0 := by omega
            refine Rgd.from_is (some 30) rfl rfl ?_
            refine Rgd.from_nil fun T hT => ?_
            have hb : Below w1.heap.size w1 wx := hb
            obtain ⟨-, c1, -, -, -⟩ := (hD.below hb).cells
            go_wp2
            refine hT _ _ rfl (by first | exact Rgd.Keep.refl _ | exact below_of_dr hw2 | exact hw2 | exact (Below.refl _ _).alloc (Nat.le_refl _) _) ?_
            simp only [Rgd.last, List.getElem?_toArray, List.getElem?_cons_succ, List.getElem?_cons_zero, Option.getD_some]
            rfl
          refine' Rgd.op_is _ [] 0 0 rfl rfl rfl (by kernel_rfl) ?_ ?_
          rotate_left
          · intro p wx hp1 hp2 hb
            obtain rfl : p = 0 := by omega
            refine Rgd.from_nil fun T hT => ?_
            go_wp2
            refine hT _ _ rfl (by first | exact Rgd.Keep.refl _ | exact below_of_dr hw2 | exact hw2 | exact (Below.refl _ _).alloc (Nat.le_refl _) _) ?_
            simp only [Rgd.last, List.getElem?_toArray, List.getElem?_cons_succ, List.getElem?_cons_zero, Option.getD_some]
            rfl
          refine' Rgd.op_is _ [] 0 0 rfl rfl rfl (by kernel_rfl) ?_ ?_
          rotate_left
          · intro p wx hp1 hp2 hb
            obtain rfl : p = 0 := by omega
            refine Rgd.from_nil fun T hT => ?_
            go_wp2
            refine hT _ _ rfl (by first | exact Rgd.Keep.refl _ | exact below_of_dr hw2 | exact hw2 | exact (Below.refl _ _).alloc (Nat.le_refl _) _) ?_
            simp only [Rgd.last, List.getElem?_toArray, List.getElem?_cons_succ, List.getElem?_cons_zero, Option.getD_some]
            rfl
          refine Rgd.op_is (.string blk) [] 0 0 rfl rfl rfl (by kernel_rfl) ?_ ?_
          · intro p wx hp1 hp2 hb
            obtain rfl : p = 0 := by omega
            refine Rgd.from_nil fun T hT => ?_
            have hb : Below w1.heap.size w1 wx := hb
            go_wp2_with (fail)
            refine (blank_c _).mono ?_
            rintro e wy ⟨rfl, hk⟩
            go_wp2
            exact hT _ _ rfl hk rfl
          refine' Rgd.op_is _ [] 0 0 rfl rfl rfl (by kernel_rfl) ?_ ?_
          rotate_left
          · intro p wx hp1 hp2 hb
            obtain rfl : p = 0 := by omega
            refine Rgd.from_nil fun T hT => ?_
            go_wp2
            refine hT _ _ rfl (by first | exact Rgd.Keep.refl _ | exact below_of_dr hw2 | exact hw2 | exact (Below.refl _ _).alloc (Nat.le_refl _) _) ?_
            simp only [Rgd.last, List.getElem?_toArray, List.getElem?_cons_succ, List.getElem?_cons_zero, Option.getD_some]
            rfl
          refine' Rgd.op_is _ [8] 0 0 rfl rfl rfl (by kernel_rfl) ?_ ?_
          rotate_left
          · intro p wx hp1 hp2 hb
            obtain rfl : p = 0 := by omega
            refine Rgd.from_is (some 35) rfl rfl ?_
            refine Rgd.from_nil fun T hT => ?_
            go_wp2
            refine hT _ _ rfl (by first | exact Rgd.Keep.refl _ | exact below_of_dr hw2 | exact hw2 | exact (Below.refl _ _).alloc (Nat.le_refl _) _) ?_
            simp only [Rgd.last, List.getElem?_toArray, List.getElem?_cons_succ, List.getElem?_cons_zero, Option.getD_some]
            rfl
          refine Rgd.op_is (.string (blk.extract s.size 512)) [7, 9] 0 0 rfl rfl rfl (by kernel_rfl) ?_ ?_
          · intro p wx hp1 hp2 hb
            obtain rfl : p = 0 := by omega
            refine Rgd.from_is (some 34) rfl rfl ?_
            refine Rgd.from_is (some 36) rfl rfl ?_
            refine Rgd.from_nil fun T hT => ?_
            have hbs := blk_size
            go_wp2
            exact hT _ _ rfl (Rgd.Keep.refl _) (by simp [Rgd.last, blk_size])
          refine Rgd.op_is (.string (pad s)) [6, 10] 0 0 rfl rfl rfl (by kernel_rfl) ?_ ?_
          · intro p wx hp1 hp2 hb
            obtain rfl : p = 0 := by omega
            refine Rgd.from_is (some 33) rfl rfl ?_
            refine Rgd.from_is (some 37) rfl rfl ?_
            refine Rgd.from_nil fun T hT => ?_
            have hbs := blk_size
            go_wp2
            refine hT _ _ rfl (Rgd.Keep.refl _) ?_
            simp only [Rgd.last, List.getElem?_toArray, List.getElem?_cons_succ, List.getElem?_cons_zero, Option.getD_some]
            rw [pad_eq]
          refine' Rgd.op_is _ [5, 11] 0 0 rfl rfl rfl (by kernel_rfl) ?_ ?_
          rotate_left
          · intro p wx hp1 hp2 hb
            obtain rfl : p = 0 := by omega
            refine Rgd.from_is (some 32) rfl rfl ?_
            refine Rgd.from_is (some 38) rfl rfl ?_
            refine Rgd.from_nil fun T hT => ?_
            go_wp2
            refine hT _ _ rfl (by first | exact Rgd.Keep.refl _ | exact below_of_dr hw2 | exact hw2 | exact (Below.refl _ _).alloc (Nat.le_refl _) _) ?_
            simp only [Rgd.last, List.getElem?_toArray, List.getElem?_cons_succ, List.getElem?_cons_zero, Option.getD_some]
            rfl
          refine Rgd.op_of (fun p w u => p = 0 → ∃ b, u = .slice (some ⟨b, 0, none⟩) 1 1 ∧ Row1 w b 80 (pcl ⟨a, pad s⟩) ∧ w1.heap.size ≤ b) [12] 0 0 rfl rfl ?_ ?_ rfl (by kernel_rfl) ?_ ?_
          · exact fun p w1 w2 v _ hk h hp => by obtain ⟨b, h1, h2, h3⟩ := h hp; exact ⟨b, h1, h2.below hk, h3⟩
          · exact fun p w1 w2 v _ _ _ _ _ _ hp => by omega
          · intro p wx hp1 hp2 hb
            obtain rfl : p = 0 := by omega
            refine Rgd.from_is (some 39) rfl rfl ?_
            refine Rgd.from_nil fun T hT => ?_
            have hb : Below w1.heap.size w1 wx := hb
            go_wp2
            exact hT _ _ rfl (below_alloc _ _) fun _ => ⟨_, rfl, row1_new _ (pcl ⟨a, pad s⟩) _, hb.size⟩
          refine Rgd.op_turns (fun p w u => 1 ≤ p → OwnP w 0 u (d.C ++ [⟨a, pad s⟩]) ∧ Then w1 v u) [4, 13] 0 rfl ?_ ?_ rfl (by kernel_rfl) ?_ ?_
          · exact fun p w1 w2 v _ hk h hp => ⟨(h hp).1.keep fun b hb => Below.block hk b ((h hp).1.block b hb).2, (h hp).2⟩
          · exact fun p w1 w2 v h0 h1 => by simp [wayCache] at h1; omega
          · intro wx hb
            refine Rgd.from_is (some 31) rfl rfl ?_
            refine Rgd.from_of (some 40) rfl rfl fun v40 h40 => ?_
            refine Rgd.from_nil fun T hT => ?_
            obtain ⟨b, rfl, hrow, hb1⟩ := h40 rfl
            have hb : Below w1.heap.size w1 wx := hb
            have hDx := hD.below hb
            refine wpList_append_own_at _ rfl _ _ 83 (by rfl) 0 80 i0 (pval ⟨0, ⟨#[]⟩⟩) 2 24 Try.underlying83 HI.out.1 HI.out.2.1 HI.out.2.2.1 HI.out.2.2.2 (by rfl) (by decide) v d.C.length (d.C.flatMap pcl) (by rfl) (HB.out ▸ hDx.own) ⟨b, 0, none⟩ 1 1 (pcl ⟨a, pad s⟩) (by rfl) (by rfl) hrow.news (one_two _) (by unfold maxLen; omega) (by omega) (Nat.zero_le _) ?_
            intro v' w' hown hgr _ hblk
            have hne1 : v.ownBlock ≠ some g := hDx.own.ne_row hDx.row (by decide)
            have hne2 : v.ownBlock ≠ some gm := hDx.own.ne_map hDx.map
            refine hT _ _ rfl trivial ⟨(Tch.of_below hb).grownO hgr, hDx.row.keep (hgr.block _ hDx.lt.1 fun e => hne1 e.symm), d.burn_PC.1 ▸ hDx.map.keep (hgr.block _ hDx.lt.2.1 fun e => hne2 e.symm)⟩ ?_
            refine fun _ => ⟨?_, ?_⟩
            · show World.ownsRow _ _ _ _ _ _ _
              simp only [List.length_append, List.flatMap_append, List.length_cons, List.length_nil, List.flatMap_cons, List.flatMap_nil, List.append_nil]
              exact hown
            · intro b' hb'
              have hb' : v'.ownBlock = some b' := hb'
              rcases hblk with h | h
              · exact .inl (h.symm.trans hb')
              · rw [h] at hb'
                obtain rfl := Option.some.inj hb'
                exact .inr hb.size
          refine Rgd.walk_nil [0, 1, 2, 3, 4, 5, 6, 7, 8, 9, 10, 11, 12, 13, 14] (by kernel_rfl) ?_
          intro wx hb
          refine Rgd.from_is (some 27) rfl rfl ?_
          refine Rgd.from_is (some 28) rfl rfl ?_
          refine Rgd.from_is (some 29) rfl rfl ?_
          refine Rgd.from_is (some 30) rfl rfl ?_
          refine Rgd.from_is (some 31) rfl rfl ?_
          refine Rgd.from_is (some 32) rfl rfl ?_
          refine Rgd.from_is (some 33) rfl rfl ?_
          refine Rgd.from_is (some 34) rfl rfl ?_
          refine Rgd.from_is (some 35) rfl rfl ?_
          refine Rgd.from_is (some 36) rfl rfl ?_
          refine Rgd.from_is (some 37) rfl rfl ?_
          refine Rgd.from_is (some 38) rfl rfl ?_
          refine Rgd.from_is (some 39) rfl rfl ?_
          refine Rgd.from_of (some 40) rfl rfl fun v40 h40 => ?_
          refine Rgd.from_of (some 41) rfl rfl fun v41 h41 => ?_
          refine Rgd.from_nil ?_
          simp only [List.map, Act.put, List.setIfInBounds_toArray, List.set_cons_zero, List.set_cons_succ]
          obtain ⟨hT1, hrow, hmap⟩ := hb
          obtain ⟨hO, hTh⟩ := h41 (Nat.le_refl _)
          obtain ⟨A, cap, rfl⟩ := hO.form
          have hln : (d.C ++ [(⟨a, pad s⟩ : Pt)]).length = d.C.length + 1 := by simp
          rw [hln] at hO hTh ⊢
          clear hln h41
          have c1 := hrow.cell (k := 1) rfl
          have f1 := hrow.frozen 1
          have hlt := hD.lt
          go_wp2
          go_ret
          refine ⟨_, rfl, ⟨hrow.set 1 _, hmap.far hlt.2.2 _, hO.keep fun b hb' => Below.heap_setCell _ ⟨g, 1, none⟩ _ b fun e => hO.ne_row hrow (by decide) (by rw [hb', e])⟩, fun b hb' => ?_, (hTc.trans Then.refl hT1).set _ _⟩
          rcases hTh b hb' with h1 | h1
          · exact .inl h1
          · exact .inr (Nat.le_trans hTc.size h1)
end Go.Proofs.Ythllhnjbddpeoaa
