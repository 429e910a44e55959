/-
  A crash that keeps nothing; how many writes a new disk wants; plainly.
-/
import Derived.Test.YthllhnjbddpeoaaSlY
namespace Go.Proofs.Ythllhnjbddpeoaa
open Go Go.RowKit Go.Maps Go.Shelf Go.Proofs

theorem setP_blk_nil (p : Int) : setP [] ⟨p, blk⟩ = [] := by
  unfold setP
  rw [if_pos rfl]; rfl
theorem lenD_new {d : Dk} {s : ByteArray} (hP : d.P = []) (hC : d.C = []) : lenD d s = 6 + secs_of s.size := by
  have hb : blanks (usD d s) (d.place + 1 + secs_of s.size) (d.place + 32768) = [] := by
    unfold blanks
    rw [List.map_eq_nil_iff, List.filter_eq_nil_iff]
    intro a ha
    have h1 : a ∈ usedPc ((chunks d.place s (secs_of s.size)).foldl effP ((preW d.place).foldl effP d.pc)) := ha
    have h2 : (preW d.place).foldl effP d.pc = ([], []) := by
      have : d.pc = ([], []) := by unfold Dk.pc; rw [hP, hC]
      rw [this]
      simp only [preW, List.foldl_cons, List.foldl_nil, effP, List.nil_append, pad_nil, setP_blk_nil]
    rw [h2, fold_puts _ _ fun y hy => by
      unfold chunks at hy
      obtain ⟨k, _, rfl⟩ := List.mem_map.1 hy
      trivial] at h1
    unfold usedPc at h1
    have h3 := (used_up _).2 a |>.1 h1
    simp only [List.map_nil, List.nil_append] at h3
    obtain ⟨q, hq, rfl⟩ := List.mem_map.1 h3
    have := wc_mem hq
    simp only [inB, Bool.and_eq_true, decide_eq_true_eq]
    omega
  unfold lenD bodyW
  rw [hb, List.append_nil, chunks_len]
/-- what is on the platter, ahead of the new head there. -/
theorem st_plat {x : Pc} {p : Int} {s hs : ByteArray} {us : List Int} {k : Nat} {y : Pc} (hs1 : s.size ≤ roomN) (h : StAt x p hs (wOf p s us) k y) (hk0 : 1 ≤ k ∨ x.2 = []) (hk : k ≤ 5 + (wOf p s us).length) : Same x p (vw (y.1, [])) := by
  cases h with
  | s0 =>
    have hx : x.2 = [] := by
      rcases hk0 with h | h
      · omega
      · exact h
    have e : ((x.1, []) : Pc) = x := by rw [← hx]
    rw [e]
    exact ⟨fun _ _ => rfl, .inr rfl⟩
  | s1 => exact ⟨fun a _ => plat_sync x a, .inr (by rw [vw_nil, plat_sync])⟩
  | s2 => exact ⟨fun a _ => plat_sync x a, .inr (by rw [vw_nil, plat_sync])⟩
  | s3 j hj => exact ⟨fun a ha => by rw [vw_nil, p3_at, if_neg (by omega)], .inl (by rw [vw_nil, p3_at, if_pos rfl]; exact hd_blk)⟩
  | s4 => exact ⟨fun a ha => by rw [vw_nil, w_out hs1 (by omega), if_neg (by omega)], .inl (by rw [vw_nil, w_out hs1 (by omega), if_pos rfl]; exact hd_blk)⟩
  | s5 => exact ⟨fun a ha => by rw [vw_nil, w_out hs1 (by omega), if_neg (by omega)], .inl (by rw [vw_nil, w_out hs1 (by omega), if_pos rfl]; exact hd_blk)⟩
  | s6 => omega
/-- on a new disk: with one less it is not done, and behind a crash nothing is there. -/
theorem many_less {d : Dk} {s : ByteArray} {m : Nat} {n : Int} (hok : d.Ok m) (hL : Live d) (hC : d.C = []) (hs : s.size ≤ roomN) (hage : d.age ≠ maxN) (hn : 0 ≤ n) (hn2 : n < lenD d s) (hn3 : n ≤ 9223372036854775807) :
    ∃ d', (d.fuse n).slw s = (42, d') ∧ d'.Ok (2 * m + 100000) ∧ (d'.crash [] 0).start.txt = d.txt := by
  have hok2 : (d.fuse n).Ok m := hok.fuse_ ⟨by omega, hn3⟩
  have hL2 : Live (d.fuse n) := ⟨hL.de, fun _ => hn⟩
  have hf2 : (d.fuse n).fu = true := by show decide (0 ≤ n) = true; simpa using hn
  have hle : (d.fuse n).le = n := rfl
  have hage2 : (d.fuse n).age ≠ maxN := hage
  have h1 := hok2.slw s
  obtain ⟨_, r2, r3, _, _⟩ := fuse_read d n
  have hlen : lenD (d.fuse n) s = lenD d s := rfl
  have hC2 : (d.fuse n).pc.2 = [] := hC
  rw [← r2]
  rw [← hlen] at hn2
  generalize d.fuse n = x at *
  obtain ⟨y, e, hst, hk⟩ := slw_dies hL2 hs hage2 hf2 (by rw [hle]; exact hn2)
  rw [e] at h1 ⊢
  refine ⟨_, rfl, h1, ?_⟩
  have hlw : lenD x s = 6 + (wOf x.place s (usD x s)).length := by unfold lenD wOf; rw [List.length_map]
  have hsame := st_plat hs hst (.inr hC2) (by omega)
  obtain ⟨_, h2⟩ := same_text (place_vw hL2.de) hsame
  obtain ⟨_, h4⟩ := live_newest hL2.de
  rw [h4, ← h2]
  have hde : (((⟨y.1, y.2, true, 0, true⟩ : Dk).crash [] 0).start).de = false := rfl
  refine (live_newest hde).2.trans (readP_congr fun a ha => ?_).2
  have h5 := crash_zero_plat h1 a
  unfold Dk.plat at h5
  rw [ha] at h5
  simp only [if_true] at h5
  show vw (((⟨y.1, y.2, true, 0, true⟩ : Dk).crash [] 0).P, []) a = vw (y.1, []) a
  rw [vw_nil, vw_nil]
  exact h5
end Go.Proofs.Ythllhnjbddpeoaa
