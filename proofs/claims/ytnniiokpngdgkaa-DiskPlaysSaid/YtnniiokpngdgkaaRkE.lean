/-
  The document's disk: a step; beside the program's.
-/
import Derived.Test.YtnniiokpngdgkaaRkD
namespace Go.Proofs.Ytnniiokpngdgkaa
open Go Go.ChangeShapes Go.WideShapes Go.ChangeAt Go.RowKit Go.Maps Go.Shelf Go.Proofs

theorem far_c (A : Option Addr) (l : List St) (c : Nat) (w : World) (hA : CellsS w A l) (hl : l.length ≤ 9223372036854775807) :
    Calls Try.prog 26 #[.slice A l.length c] w fun e w' => (∃ b : Bool, e = .returned (.bool b)) ∧ w = w' := by
  have HA := hid hA
  clear hA
  go_enter Try.func26, Try.ntmps26
  go_wp2
  go_loopw [3] (fun i wr => ∃ k : Nat, i = .int .i64 k ∧ k ≤ l.length ∧ w = wr) (fun i _ => l.length - (intOf i).toNat)
  case atStart => exact ⟨0, rfl, by omega, rfl⟩
  case round =>
    obtain ⟨k, rfl, hk, rfl⟩ := hrel
    by_cases hlt : k < l.length
    · obtain ⟨x, hx⟩ := get_of_lt hlt
      obtain ⟨b, off, rfl, d0, d1, d2, d3, d4⟩ := HA.out.at_ hx
      clear hx
      by_cases h1 : 200 < x.at_
      · by_cases h2 : x.at_ < 65536
        · go_wp2
          go_ret
          exact ⟨⟨_, rfl⟩, rfl⟩
        · go_wp2
          go_roundw
          case rel => exact ⟨k + 1, by go_num, by omega, trivial⟩
          case measure => simp [intOf]; omega
      · go_wp2
        go_roundw
        case rel => exact ⟨k + 1, by go_num, by omega, trivial⟩
        case measure => simp [intOf]; omega
    · obtain rfl : k = l.length := by omega
      go_wp2
      go_ret
      exact ⟨⟨_, rfl⟩, rfl⟩
def Rk.step (r : Rk) (u : St) : Rk := if u.kd = 0 then r.write u.at_ u.s else if u.kd = 1 then r.sync else if u.kd = 2 then r.fuse u.n else if u.kd = 3 then r.crash u.ks u.n else r.start
def Rk.stepE (r : Rk) (u : St) : Int := if u.kd = 0 then r.writeE u.at_ u.s else if u.kd = 1 then r.syncE else 0
def runsR (l : List St) : Rk := l.foldl Rk.step rk0
theorem runsR_snoc (l : List St) (u : St) : runsR (l ++ [u]) = (runsR l).step u := by simp [runsR]
theorem Sim.step {d : Dk} {r : Rk} (h : Sim d r) (u : St) : Sim (d.step u) (r.step u) ∧ d.stepE u = r.stepE u := by
  refine ⟨?_, ?_⟩
  · unfold Dk.step Rk.step
    split
    · exact h.write _ _
    · split
      · exact h.sync
      · split
        · exact h.fuse _
        · split
          · exact h.crash _ _
          · exact h.start
  · unfold Dk.stepE Rk.stepE
    rw [h.writeE, h.syncE]
theorem runs_sim (l : List St) : Sim (runs l) (runsR l) := by
  have key : ∀ (l : List St) (d : Dk) (r : Rk), Sim d r → Sim (l.foldl Dk.step d) (l.foldl Rk.step r) := by
    intro l
    induction l with
    | nil => intro d r h; exact h
    | cons u l ih => intro d r h; exact ih _ _ (h.step u).1
  exact key l _ _ sim0
def Rk.len (r : Rk) : Nat := r.P.length + r.C.length
theorem Rk.spend_len (r : Rk) : r.spend.len = r.len := by
  unfold Rk.len
  rw [r.spend_PC.1, r.spend_PC.2]
theorem Rk.step_len (r : Rk) (u : St) : (r.step u).len ≤ r.len + 1 := by
  have hs := r.spend_len
  unfold Rk.step
  split
  · unfold Rk.write
    split
    · omega
    · split
      · split
        · omega
        · split
          · unfold Rk.len at *
            simp only [List.length_append, List.length_cons, List.length_nil]
            rw [r.spend_PC.1]
            omega
          · omega
      · omega
  · split
    · unfold Rk.sync
      split
      · omega
      · split
        · unfold Rk.len
          simp only [List.length_append, List.length_nil]
          omega
        · omega
    · split
      · unfold Rk.fuse Rk.len; simp only; omega
      · split
        · unfold Rk.crash Rk.len
          have := crashR_len r.C r.P u.ks (clamp u.n).toNat r.C.length
          simp only [List.length_nil]
          omega
        · unfold Rk.start Rk.len; simp only; omega
theorem runsR_len (l : List St) : (runsR l).len ≤ l.length := by
  have key : ∀ (l : List St) (r : Rk), (l.foldl Rk.step r).len ≤ r.len + l.length := by
    intro l
    induction l with
    | nil => intro r; exact Nat.le_refl _
    | cons u l ih =>
      intro r
      have h1 := ih (r.step u)
      have h2 := r.step_len u
      rw [List.foldl_cons, List.length_cons]
      omega
  have := key l rk0
  have h0 : rk0.len = 0 := rfl
  unfold runsR
  omega

set_option maxRecDepth 100000 in
set_option maxHeartbeats 1000000 in
theorem rdo_c (w0 : World) (g : Nat) (vp vc : Value) (r : Rk) (d : Dk) (m : Nat) (u : St) (w : World) (h : RDsk w g vp vc r) (hS : Sim d r) (hd : d.Ok m) (hm : r.len ≤ 800000) (hw : Below w0.heap.size w0 w) (hg : w0.heap.size ≤ g) (hu : u.Ok w0) [DecidableEq Lit] :
    Calls Try.prog 29 #[stval u, .pointer (some ⟨g, 0, none⟩)] w fun e w' => ∃ vp' vc', e = .returned (.int .i64 (r.stepE u)) ∧ RDsk w' g vp' vc' (r.step u) ∧ RT w w' g := by
  obtain ⟨kd, a, s, n, ka, ks, kc⟩ := u
  obtain ⟨h1, h2, h3, h4, h5, h6⟩ := hu
  simp only at h1 h2 h3 h4 h5 h6
  have hb0 := below_alloc w (.cells #[.int .u8 kd, .int .i64 a, .string s, .int .i64 n, .slice ka ks.length kc] 35)
  have hD := h.below hb0
  have hT0 : RT w (w.alloc (.cells #[.int .u8 kd, .int .i64 a, .string s, .int .i64 n, .slice ka ks.length kc] 35)) g := .of_below hb0
  have hle : I64 r.lf := by rw [← hS.le]; exact ⟨hd.le.1, by have := hd.le.2; omega⟩
  have hfu : r.hs = true → 0 ≤ r.lf := by rw [← hS.le, ← hS.fu]; exact hd.fuse
  have hoC := hS.oC
  have hoP := hS.oP
  unfold Rk.len at hm
  clear h hS hd
  by_cases q0 : kd = 0
  · subst q0
    have HC := hid (rwrite_c g vp vc r a s _ hD hle hfu (by omega) (by omega))
    clear h1 h2 h3 h4 h5 h6 hD hle hfu hoC hoP hm hb0
    go_enter Try.func29, Try.ntmps29
    go_wp2_with (fail)
    refine HC.out.mono ?_
    rintro e w2 ⟨v', rfl, hD2, hT⟩
    go_wp2
    go_ret
    exact ⟨_, _, rfl, hD2, hT0.trans hT⟩
  · by_cases q1 : kd = 1
    · subst q1
      have HC := hid (rsync_c g vp vc r _ hD hle hfu (by omega))
      clear h1 h2 h3 h4 h5 h6 hD q0 hle hfu hoC hoP hm hb0
      go_enter Try.func29, Try.ntmps29
      go_wp2_with (fail)
      refine HC.out.mono ?_
      rintro e w2 ⟨vp', vc', rfl, hD2, hT⟩
      go_wp2
      go_ret
      exact ⟨_, _, rfl, hD2, hT0.trans hT⟩
    · by_cases q2 : kd = 2
      · subst q2
        have HC := hid (rfuse_c g vp vc r n _ hD)
        clear h1 h2 h3 h4 h5 h6 hD q0 q1 hle hfu hoC hoP hm hb0
        go_enter Try.func29, Try.ntmps29
        go_wp2_with (fail)
        refine HC.out.mono ?_
        rintro e w2 ⟨rfl, hD2, hT⟩
        go_wp2
        go_ret
        exact ⟨_, _, rfl, hD2, hT0.trans hT⟩
      · by_cases q3 : kd = 3
        · subst q3
          have HC := hid (rcrash_c g vp vc r ka ks kc n _ hD (by omega) hoC hoP (fun wr hT => h5.below ((hT0.trans hT).past hw hw.size hg)) (by omega))
          clear h1 h2 h3 h4 h5 h6 hD q0 q1 q2 hle hfu hoC hoP hm hb0
          go_enter Try.func29, Try.ntmps29
          go_wp2_with (fail)
          refine HC.out.mono ?_
          rintro e w2 ⟨vp', vc', rfl, hD2, hT⟩
          go_wp2
          go_ret
          exact ⟨_, _, rfl, hD2, hT0.trans hT⟩
        · have HC := hid (rstart_c g vp vc r _ hD)
          have HE := hid (show r.stepE ⟨kd, a, s, n, ka, ks, kc⟩ = 0 ∧ r.step ⟨kd, a, s, n, ka, ks, kc⟩ = r.start by simp [Rk.stepE, Rk.step, q0, q1, q2, q3])
          have p0 : (kd == 0) = false := by simpa using q0
          have p1 : (kd == 1) = false := by simpa using q1
          have p2 : (kd == 2) = false := by simpa using q2
          have p3 : (kd == 3) = false := by simpa using q3
          clear h1 h2 h3 h4 h5 h6 hD q0 q1 q2 q3 hle hfu hoC hoP hm hb0
          go_enter Try.func29, Try.ntmps29
          go_wp2_with (fail)
          refine HC.out.mono ?_
          rintro e w2 ⟨rfl, hD2, hT⟩
          go_wp2
          go_ret
          exact ⟨_, _, by rw [HE.out.1]; rfl, by rw [HE.out.2]; exact hD2, hT0.trans hT⟩
end Go.Proofs.Ytnniiokpngdgkaa
