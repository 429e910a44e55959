/-
  What is asked of no disk; the states of the closed examples.
-/
import Derived.Test.YthllhnjbddpeoaaDkW
namespace Go.Proofs.Ythllhnjbddpeoaa
open Go.RowKit Go.Maps Go.Shelf Go.Proofs

theorem fuse_nil (n : Int) (w : World) : Calls Try.prog 23 #[.pointer none, .int .i64 n] w fun e w' => e = .returned (.tuple #[]) ∧ w = w' := by
  go_enter Try.func23, Try.ntmps23
  go_wp2
  go_end0
  exact ⟨rfl, rfl⟩
theorem start_nil (w : World) : Calls Try.prog 22 #[.pointer none] w fun e w' => e = .returned (.tuple #[]) ∧ w = w' := by
  go_enter Try.func22, Try.ntmps22
  go_wp2
  go_end0
  exact ⟨rfl, rfl⟩
theorem crash_nil (A : Option Addr) (m c : Nat) (n : Int) (w : World) : Calls Try.prog 38 #[.pointer none, .slice A m c, .int .i64 n] w fun e w' => e = .returned (.tuple #[]) ∧ w = w' := by
  go_enter Try.func38, Try.ntmps38
  go_wp2
  first
    | go_end0
      exact ⟨rfl, rfl⟩
    | (refine ⟨_, results_none rfl _ _ _, ?_⟩; exact ⟨rfl, rfl⟩)
    | (refine bodyPost_ret (results_none rfl _ _ _) rfl ?_; exact ⟨rfl, rfl⟩)
theorem write_nil (a : Int) (s : ByteArray) (w : World) : Calls Try.prog 20 #[.pointer none, .int .i64 a, .string s] w fun e w' => e = .returned (.int .i64 2) ∧ w = w' := by
  go_enter Try.func20, Try.ntmps20
  go_wp2
  go_ret
  exact ⟨rfl, rfl⟩
theorem sync_nil (w : World) : Calls Try.prog 37 #[.pointer none] w fun e w' => e = .returned (.int .i64 2) ∧ w = w' := by
  go_enter Try.func37, Try.ntmps37
  go_wp2
  go_ret
  exact ⟨rfl, rfl⟩
theorem copy_nil (w : World) : Calls Try.prog 39 #[.pointer none] w fun e w' => e = .returned (.pointer none) ∧ w = w' := by
  go_enter Try.func39, Try.ntmps39
  go_wp2
  go_ret
  exact ⟨rfl, rfl⟩
theorem read_nil (a : Int) (w : World) : Calls Try.prog 18 #[.pointer none, .int .i64 a] w fun e w' => e = .returned (.string ⟨#[]⟩) ∧ Below w.heap.size w w' := by
  refine (callsIn_wide (n := 10)).1 ?_
  refine callsIn_of_wp_marks Try.func18 rfl trivial ?_ rfl
  refine (wpIn_wide (n := 10)).2 ?_
  simp only [Try.ntmps18, List.size_toArray, List.length_cons, List.length_nil, Nat.reduceAdd, Nat.reduceSub, Array.replicate_succ, Array.replicate_zero, List.push_toArray, List.append_toArray, List.nil_append, List.cons_append]
  go_wp2_with (fail)
  have hRr := row1_new (w.alloc (.cells #[.int .i64 a] 3)) [.string ⟨#[]⟩] 9
  have hB1 := (below_alloc w (.cells #[.int .i64 a] 3)).alloc (by simp) (.cells #[.string ⟨#[]⟩] 9)
  simp only [World.size_alloc] at hRr
  generalize (w.alloc _).alloc _ = w1 at *
  obtain ⟨ga, hga⟩ : ∃ ga, w.heap.size = ga := ⟨_, rfl⟩
  obtain ⟨gr, hgr⟩ : ∃ gr, w.heap.size + 1 = gr := ⟨_, rfl⟩
  have HGR := hid hgr
  have HGA := hid hga
  rw [hgr] at hRr ⊢
  rw [hga] at hB1 ⊢
  clear hga hgr
  refine (dead_nil _).mono ?_
  rintro e _ ⟨rfl, rfl⟩
  have c1 := hRr.cell (k := 0) rfl
  have f1 := hRr.frozen 0
  have hgw : ga ≤ gr := by rw [← HGR.out, ← HGA.out]; omega
  go_wp2
  refine ⟨.string ⟨#[]⟩, ?_, rfl, by rw [HGA.out]; exact hB1.setCell (p := ⟨gr, 0, none⟩) hgw _⟩
  have hc5 := (hRr.set 0 (.string ⟨#[]⟩)).cell (k := 0) rfl
  simp [results, Try.f18, go_sem, hc5]
theorem row1_tch {w w' : World} {g gm b : Nat} {v : Value} {d : Dk} {e : TypeId} {xs : List Value} (h : Row1 w b e xs) (hD : Dsk w g gm v d) (hT : Tch w w' g gm v) (h1 : e ≠ 85) (h2 : e ≠ 80) : Row1 w' b e xs := by
  have hne := hD.ne_cells h h1 h2
  exact h.keep (hT.block b h.lt hne.1 hne.2.1 hne.2.2)
theorem pad_cut4 (s : ByteArray) : (pad s).extract 0 s.size = s := by
  apply bytes_ext
  simp only [ByteArray.data_extract, Array.toList_extract, List.extract_eq_take_drop, List.drop_zero, Nat.sub_zero, pad_data]
  rw [List.take_append_of_le_length (by rw [Array.length_toList]; exact Nat.le_refl _), List.take_of_length_le (by rw [Array.length_toList]; exact Nat.le_refl _)]
theorem ne_blk {s : ByteArray} {b : UInt8} (h : s.data.toList.head? = some b) (hb : b ≠ 0) : s ≠ blk := by
  rintro rfl
  change (List.replicate (511 + 1) (0 : UInt8)).head? = some b at h
  rw [List.replicate_succ] at h
  exact hb (Option.some.inj h).symm
abbrev s0 : ByteArray := ⟨#[]⟩
abbrev sA : ByteArray := ⟨#[97]⟩
abbrev sLast : ByteArray := ⟨#[108, 97, 115, 116]⟩
abbrev s4a : ByteArray := ⟨#[97, 97, 97, 97]⟩
abbrev s4b : ByteArray := ⟨#[98, 98, 98, 98]⟩
abbrev s2c : ByteArray := ⟨#[99, 99]⟩
abbrev s4d : ByteArray := ⟨#[100, 100, 100, 100]⟩
theorem pad_nil : pad s0 = blk := by
  apply bytes_ext
  rw [pad_data, blk_data]
  rfl
def n0 : Dk := dk0.fuse 0
def n1 : Dk := n0.write (-1) s0
def n2 : Dk := n1.write 0 (zs 513)
def n3 : Dk := n2.write 0 sA
def n4 : Dk := n3.write (-1) s0
def n5 : Dk := n4.sync
def n6 : Dk := n5.fuse 5
def n7 : Dk := n6.start
def n8 : Dk := n7.fuse 0
def n9 : Dk := n8.fuse (-1)
def n10 : Dk := n9.write 65535 sLast
def n11 : Dk := n10.sync
def n12 : Dk := n11.write 65535 s0
def n13 : Dk := n12.sync
theorem n1_eq : n1 = ⟨[], [], true, 0, false⟩ := rfl
theorem n2_eq : n2 = ⟨[], [], true, 0, false⟩ := by unfold n2; rw [n1_eq]; simp [Dk.write, isS, zs_size]
theorem n3_eq : n3 = ⟨[], [], true, 0, true⟩ := by unfold n3; rw [n2_eq]; rfl
theorem n4_eq : n4 = ⟨[], [], true, 0, true⟩ := by unfold n4; rw [n3_eq]; rfl
theorem n5_eq : n5 = ⟨[], [], true, 0, true⟩ := by unfold n5; rw [n4_eq]; rfl
theorem n6_eq : n6 = ⟨[], [], true, 5, true⟩ := by unfold n6; rw [n5_eq]; rfl
theorem n9_eq : n9 = ⟨[], [], false, -1, false⟩ := by unfold n9 n8 n7; rw [n6_eq]; rfl
theorem n10_eq : n10 = ⟨[], [⟨65535, pad sLast⟩], false, -1, false⟩ := by unfold n10; rw [n9_eq]; rfl
theorem last_ne : pad sLast ≠ blk := ne_blk (b := 108) (by rw [pad_data]; rfl) (by decide)
theorem n11_eq : n11 = ⟨[⟨65535, pad sLast⟩], [], false, -1, false⟩ := by
  unfold n11; rw [n10_eq]
  simp [Dk.sync, Dk.burnB, Dk.burn, setP, last_ne]
theorem n12_eq : n12 = ⟨[⟨65535, pad sLast⟩], [⟨65535, blk⟩], false, -1, false⟩ := by
  unfold n12; rw [n11_eq, ← pad_nil]; rfl
theorem n13_eq : n13 = ⟨[], [], false, -1, false⟩ := by
  unfold n13; rw [n12_eq]
  simp [Dk.sync, Dk.burnB, Dk.burn, setP]
theorem n0_ok : n0.Ok 0 := dk0_ok.fuse_ ⟨by omega, by omega⟩
theorem n1_ok : n1.Ok 1 := n0_ok.write _ _
theorem n2_ok : n2.Ok 2 := n1_ok.write _ _
theorem n3_ok : n3.Ok 3 := n2_ok.write _ _
theorem n4_ok : n4.Ok 4 := n3_ok.write _ _
theorem n5_ok : n5.Ok 4 := n4_ok.sync
theorem n6_ok : n6.Ok 4 := n5_ok.fuse_ ⟨by omega, by omega⟩
theorem n7_ok : n7.Ok 4 := n6_ok.start
theorem n8_ok : n8.Ok 4 := n7_ok.fuse_ ⟨by omega, by omega⟩
theorem n9_ok : n9.Ok 4 := n8_ok.fuse_ ⟨by omega, by omega⟩
theorem n10_ok : n10.Ok 5 := n9_ok.write _ _
theorem n11_ok : n11.Ok 5 := n10_ok.sync
theorem n12_ok : n12.Ok 6 := n11_ok.write _ _
theorem n13_ok : n13.Ok 6 := n12_ok.sync
theorem uses_nil {d : Dk} (hP : d.P = []) (hC : d.C = []) : Uses d [] := by
  refine ⟨List.Pairwise.nil, fun a => ?_⟩
  rw [hP, hC]
  simp
theorem n12_uses : Uses n12 [65535] := by
  refine ⟨List.pairwise_singleton _ _, fun a => ?_⟩
  rw [n12_eq]
  simp [eq_comm]
/-- four writes to one sector. -/
def sx : Nat → ByteArray
  | 0 => s4a
  | 1 => s4b
  | 2 => s2c
  | _ => s4d
theorem sx_size (k : Nat) : (sx k).size ≤ 4 := by
  match k with
  | 0 => decide
  | 1 => decide
  | 2 => decide
  | _ + 3 => exact (by decide : s4d.size ≤ 4)
def bs : Nat → Dk
  | 0 => n13
  | k + 1 => (bs k).write 7 (sx k)
theorem bs_eq : ∀ k, bs k = ⟨[], (List.range k).map fun j => ⟨7, pad (sx j)⟩, false, -1, false⟩
  | 0 => n13_eq
  | k + 1 => by
    have h : ¬ 512 < (sx k).size := by have := sx_size k; omega
    rw [bs, bs_eq k, List.range_succ, List.map_append]
    simp [Dk.write, isS, h, Dk.burnB, Dk.burn]
theorem bs_ok : ∀ k, (bs k).Ok (6 + k)
  | 0 => n13_ok
  | k + 1 => (bs_ok k).write _ _
theorem bs_E (k : Nat) : (bs k).writeE 7 (sx k) = 0 := by
  have h : ¬ 512 < (sx k).size := by have := sx_size k; omega
  rw [bs_eq k]
  simp [Dk.writeE, isS, h, Dk.burnB]
theorem bs4 : bs 4 = ⟨[], [⟨7, pad s4a⟩, ⟨7, pad s4b⟩, ⟨7, pad s2c⟩, ⟨7, pad s4d⟩], false, -1, false⟩ := bs_eq 4
theorem pad2c : pad s2c = s2c ++ zs 510 := rfl
theorem cut_ba : cut (pad s4b) (pad s4a) 2 = ⟨#[98, 98, 97, 97]⟩ ++ zs 508 := by
  apply bytes_ext
  rw [cut_data, pad_data, pad_data, List.take_of_length_le (l := s4a.data.toList ++ _) (by rw [List.length_append, List.length_replicate]; decide)]
  simp only [ByteArray.data_append, Array.toList_append, zs_data]
  rfl
theorem d_plat : ((bs 4).crash [true, false, true] 2).plat 7 = s2c ++ zs 510 := by
  have h1 : (clamp 2).toNat = 2 := by decide
  rw [bs4, ← pad2c]
  simp [Dk.crash, Dk.plat, isS, h1, crashS, getP_set]
theorem c_plat : ((bs 4).crash [true] 2).plat 7 = ⟨#[98, 98, 97, 97]⟩ ++ zs 508 := by
  have h1 : (clamp 2).toNat = 2 := by decide
  rw [bs4, ← cut_ba]
  simp [Dk.crash, Dk.plat, isS, h1, crashS, getP_set]
def e1 : Dk := dk0.write 1 sX
theorem e1_eq : e1 = ⟨[], [⟨1, pad sX⟩], false, 0, false⟩ := rfl
theorem e1_ok : e1.Ok 1 := dk0_ok.write _ _
theorem cut_full {s t : ByteArray} (hs : s.size = 512) : cut s t 512 = s := by
  apply bytes_ext
  rw [cut_data, List.take_of_length_le (l := s.data.toList) (by rw [Array.length_toList]; exact Nat.le_of_eq hs), List.drop_eq_nil_of_le (by rw [List.length_take]; omega), List.append_nil]
theorem e_plat : (e1.crash [] 999).plat 1 = sX ++ zs 511 := by
  have h1 : (clamp 999).toNat = 512 := by decide
  rw [e1_eq, show sX ++ zs 511 = pad sX from rfl]
  simp only [Dk.crash, h1]
  simp [Dk.plat, isS, crashS, getP_set, cut_full (pad_size (s := sX) (by decide))]
theorem f_plat : (e1.crash [] (-3)).plat 1 = zs 512 := by
  have h1 : (clamp (-3)).toNat = 0 := by decide
  rw [e1_eq, show zs 512 = blk from rfl]
  simp only [Dk.crash, h1]
  have h2 : getP [] 1 = blk := rfl
  simp [Dk.plat, isS, crashS, getP_set, h2, cut_zero blk_size]
end Go.Proofs.Ythllhnjbddpeoaa
