/-
  Steps: are they too many? One is done; a disk behind steps.
-/
import Derived.Test.YthllhnjbddpeoaaDkN
namespace Go.Proofs.Ythllhnjbddpeoaa
open Go.RowKit Go.Maps Go.Shelf Go.Proofs

def Dk.step (d : Dk) (u : St) : Dk := if u.kd = 0 then d.write u.at_ u.s else if u.kd = 1 then d.sync else if u.kd = 2 then d.fuse u.n else if u.kd = 3 then d.crash u.ks u.n else d.start
def Dk.stepE (d : Dk) (u : St) : Int := if u.kd = 0 then d.writeE u.at_ u.s else if u.kd = 1 then d.syncE else 0
theorem Dk.Ok.step {d : Dk} {m : Nat} {w : World} {u : St} (h : d.Ok m) (hu : u.Ok w) : (d.step u).Ok (m + 1) := by
  unfold Dk.step
  split
  · exact h.write _ _
  · split
    · exact h.sync.mono (by omega)
    · split
      · exact (h.fuse_ ⟨hu.n.1, by have := hu.n.2; omega⟩).mono (by omega)
      · split
        · exact (h.crash _ _).mono (by omega)
        · exact h.start.mono (by omega)
/-- a disk behind steps. -/
def runs (l : List St) : Dk := l.foldl Dk.step dk0
theorem runs_snoc (l : List St) (u : St) : runs (l ++ [u]) = (runs l).step u := by simp [runs]
theorem runs_ok {w : World} (l : List St) (h : ∀ u ∈ l, u.Ok w) : (runs l).Ok l.length := by
  have key : ∀ (l : List St) (d : Dk) (m : Nat), d.Ok m → (∀ u ∈ l, u.Ok w) → (l.foldl Dk.step d).Ok (m + l.length) := by
    intro l
    induction l with
    | nil => intro d m hd _; exact hd
    | cons u l ih =>
      intro d m hd hl
      have := ih (d.step u) (m + 1) (hd.step (hl u (List.mem_cons_self ..))) fun v hv => hl v (List.mem_cons_of_mem _ hv)
      rw [List.foldl_cons, List.length_cons]
      exact this.mono (by omega)
  have := key l dk0 0 dk0_ok h
  rwa [Nat.zero_add] at this

/-- too many? If not they are few. -/
def Few (l : List St) (e : Ending) : Prop := ∃ b : Bool, e = .returned (.bool b) ∧ (b = false → l.length ≤ 200)
set_option maxRecDepth 100000 in
set_option maxHeartbeats 1000000 in
theorem long_c (A : Option Addr) (l : List St) (c : Nat) (w : World) (hA : CellsS w A l) (hl : l.length ≤ 9223372036854775807) (ho : ∀ u ∈ l, u.s.size ≤ 140737488355327 ∧ u.ks.length ≤ 140737488355327) :
    Calls Try.prog 16 #[.slice A l.length c] w fun e w' => Few l e ∧ Dr w w' := by
  have HO := hid ho
  clear ho
  go_enter Try.func16, Try.ntmps16
  go_wp2
  go_loopw [3, 4] (fun n i wr => ∃ (k m : Nat), i = .int .i64 k ∧ k ≤ l.length ∧ n = .int .i64 m ∧ 100 * k ≤ m ∧ m ≤ 1000000000000000 ∧ Dr w wr) (fun _ i _ => l.length - (intOf i).toNat)
  case atStart => exact ⟨0, 0, rfl, by omega, rfl, by omega, by omega, Dr.refl w⟩
  case round =>
    obtain ⟨k, m, rfl, hk, rfl, h1, h2, hd⟩ := hrel
    by_cases hlt : k < l.length
    · by_cases hm : m < 20000
      · obtain ⟨x, hx⟩ := get_of_lt hlt
        have hxo := HO.out x (List.mem_of_getElem? hx)
        obtain ⟨b, off, rfl, d0, d1, d2, d3, d4⟩ := CellsS.at_ (Cells.dr hA hd) hx
        obtain ⟨hs, hks⟩ := hxo
        clear hx
        go_wp2
        go_quiet (fail)
        go_wp2
        go_roundw
        case rel =>
          exact ⟨k + 1, m + 100 + x.s.size + x.ks.length, by go_num, by omega, by congr 1, by omega, by omega, hd.more _⟩
        case measure => simp [intOf]; omega
      · go_wp2
        go_ret
        exact ⟨⟨_, rfl, by simp⟩, hd⟩
    · obtain rfl : k = l.length := by omega
      go_wp2
      all_goals
        go_ret
        exact ⟨⟨_, rfl, by simp; omega⟩, hd⟩

abbrev stval (u : St) : Value := .agg #[.int .u8 u.kd, .int .i64 u.at_, .string u.s, .int .i64 u.n, .slice u.ka u.ks.length u.kc]

set_option maxRecDepth 100000 in
set_option maxHeartbeats 1000000 in
theorem do_c (w0 : World) (g gm : Nat) (v : Value) (d : Dk) (m : Nat) (u : St) (w : World) (h : Dsk w g gm v d) (hd : d.Ok m) (hm : m ≤ 1000000) (hB : Base w0 w g gm v) (hu : u.Ok w0) [DecidableEq Lit] :
    Calls Try.prog 24 #[stval u, .pointer (some ⟨g, 0, none⟩)] w fun e w' => ∃ v', e = .returned (.int .i64 (d.stepE u)) ∧ Dsk w' g gm v' (d.step u) ∧ Then w v v' ∧ Tch w w' g gm v := by
  obtain ⟨kd, a, s, n, ka, ks, kc⟩ := u
  obtain ⟨h1, h2, h3, h4, h5, h6⟩ := hu
  simp only at h1 h2 h3 h4 h5 h6
  have hb0 := below_alloc w (.cells #[.int .u8 kd, .int .i64 a, .string s, .int .i64 n, .slice ka ks.length kc] 35)
  have hD := h.below hb0
  have hB1 := hB.below hb0
  have hT0 : Tch w (w.alloc (.cells #[.int .u8 kd, .int .i64 a, .string s, .int .i64 n, .slice ka ks.length kc] 35)) g gm v := .of_below hb0
  have hs0 := hb0.size
  clear hb0 h hB
  by_cases q0 : kd = 0
  · subst q0
    have HC := hid (write_c g gm v d m a s _ hD hd hm h2 (by omega))
    have HE := hid (⟨rfl, rfl⟩ : d.stepE ⟨0, a, s, n, ka, ks, kc⟩ = d.writeE a s ∧ d.step ⟨0, a, s, n, ka, ks, kc⟩ = d.write a s)
    clear h1 h2 h3 h4 h5 h6 hD hB1
    go_enter Try.func24, Try.ntmps24
    go_wp2_with (fail)
    refine HC.out.mono ?_
    rintro e w2 ⟨v', rfl, hD2, hTh, hT⟩
    go_wp2
    go_ret
    exact ⟨v', rfl, hD2, fun b hb => (hTh b hb).imp id (Nat.le_trans hs0), hT0.trans Then.refl hT⟩
  · by_cases q1 : kd = 1
    · subst q1
      have HC := hid (sync_c g gm v d m _ hD hd hm)
      clear h1 h2 h3 h4 h5 h6 hD hB1 q0
      go_enter Try.func24, Try.ntmps24
      go_wp2_with (fail)
      refine HC.out.mono ?_
      rintro e w2 ⟨v', rfl, hD2, hTh, hT⟩
      go_wp2
      go_ret
      exact ⟨v', rfl, hD2, fun b hb => (hTh b hb).imp id (Nat.le_trans hs0), hT0.trans Then.refl hT⟩
    · by_cases q2 : kd = 2
      · subst q2
        have HC := hid (fuse_c g gm v d n _ hD h4)
        clear h1 h2 h3 h4 h5 h6 hD hB1 q0 q1
        go_enter Try.func24, Try.ntmps24
        go_wp2_with (fail)
        refine HC.out.mono ?_
        rintro e w2 ⟨rfl, hD2, hT⟩
        go_wp2
        go_ret
        exact ⟨v, rfl, hD2, Then.refl, hT0.trans Then.refl hT⟩
      · by_cases q3 : kd = 3
        · subst q3
          have HC := hid (crash_c w0 g gm v d m ka ks kc n _ hD hd hm hB1 h5 (by omega) h4)
          clear h1 h2 h3 h4 h5 h6 hD hB1 q0 q1 q2
          go_enter Try.func24, Try.ntmps24
          go_wp2_with (fail)
          refine HC.out.mono ?_
          rintro e w2 ⟨v', rfl, hD2, hTh, hT⟩
          go_wp2
          go_ret
          exact ⟨v', rfl, hD2, fun b hb => (hTh b hb).imp id (Nat.le_trans hs0), hT0.trans Then.refl hT⟩
        · have HC := hid (start_c g gm v d _ hD)
          have HE := hid (show d.stepE ⟨kd, a, s, n, ka, ks, kc⟩ = 0 ∧ d.step ⟨kd, a, s, n, ka, ks, kc⟩ = d.start by simp [Dk.stepE, Dk.step, q0, q1, q2, q3])
          have p0 : (kd == 0) = false := by simpa using q0
          have p1 : (kd == 1) = false := by simpa using q1
          have p2 : (kd == 2) = false := by simpa using q2
          have p3 : (kd == 3) = false := by simpa using q3
          clear h1 h2 h3 h4 h5 h6 hD hB1 q0 q1 q2 q3
          go_enter Try.func24, Try.ntmps24
          go_wp2_with (fail)
          refine HC.out.mono ?_
          rintro e w2 ⟨rfl, hD2, hT⟩
          go_wp2
          go_ret
          exact ⟨v, by rw [HE.out.1]; rfl, by rw [HE.out.2]; exact hD2, Then.refl, hT0.trans Then.refl hT⟩

theorem cellsS5 {w wx : World} {A : Option Addr} {l : List St} {k : Nat} {x : St} (h : CellsS w A l) (hB : Below w.heap.size w wx) (hx : l[k]? = some x) :
    ∃ b off, A = some ⟨b, off, none⟩ ∧ wx.cell? ⟨b, off + k * 5, none⟩ = some (.int .u8 x.kd) ∧ wx.cell? ⟨b, off + k * 5 + 1, none⟩ = some (.int .i64 x.at_) ∧ wx.cell? ⟨b, off + k * 5 + 2, none⟩ = some (.string x.s) ∧ wx.cell? ⟨b, off + k * 5 + 3, none⟩ = some (.int .i64 x.n) ∧ wx.cell? ⟨b, off + k * 5 + 4, none⟩ = some (.slice x.ka x.ks.length x.kc) := (h.below hB).at_ hx
theorem take_snoc {α : Type} {l : List α} {k : Nat} {x : α} (h : l[k]? = some x) : l.take (k + 1) = l.take k ++ [x] := by
  obtain ⟨h1, h2⟩ := List.getElem?_eq_some_iff.1 h
  rw [List.take_succ_eq_append_getElem h1, h2]
theorem Ok.below {w w' : World} {u : St} (h : u.Ok w) (hb : Below w.heap.size w w') : u.Ok w' := ⟨h.kd, h.at_, h.s, h.n, h.ks.below hb, h.kl⟩

set_option maxRecDepth 100000 in
set_option maxHeartbeats 1000000 in
theorem after_c (A : Option Addr) (l : List St) (c : Nat) (w : World) (hA : CellsS w A l) (hl : l.length ≤ 200) (ho : ∀ u ∈ l, u.Ok w) [DecidableEq Lit] :
    Calls Try.prog 17 #[.slice A l.length c] w fun e w' => ∃ g gm v, e = .returned (.pointer (some ⟨g, 0, none⟩)) ∧ Dsk w' g gm v (runs l) ∧ Base w w' g gm v := by
  have HO := hid ho
  have HA := hid hA
  clear ho hA
  go_enter Try.func17, Try.ntmps17
  go_wp2_with (fail)
  refine (dnew_c w).mono ?_
  rintro e w1 ⟨g, gm, rfl, hD, hg, hgm, hb⟩
  have hB : Base w w1 g gm (.slice none 0 0) := ⟨hb, hg, hgm, (fun b h => by cases h)⟩
  clear hb hg hgm
  go_wp2
  go_loopw [4] (fun i wr => ∃ (k : Nat) (v : Value), i = .int .i64 k ∧ k ≤ l.length ∧ Dsk wr g gm v (runs (l.take k)) ∧ Base w wr g gm v) (fun i _ => l.length - (intOf i).toNat)
  case atStart => exact ⟨0, _, rfl, by omega, hD, hB⟩
  case round =>
    obtain ⟨k, v, rfl, hk, hDr, hBr⟩ := hrel
    clear hD hB
    by_cases hlt : k < l.length
    · obtain ⟨x, hx⟩ := get_of_lt hlt
      have hxo := HO.out x (List.mem_of_getElem? hx)
      obtain ⟨b, off, rfl, d0, d1, d2, d3, d4⟩ := cellsS5 HA.out hBr.b hx
      have hok := runs_ok (w := w) (l.take k) fun u hu => HO.out u (List.mem_of_mem_take hu)
      have hkl : (l.take k).length ≤ 200 := by have := List.length_take_le' k l; omega
      have HS := hid (show runs (l.take (k + 1)) = (runs (l.take k)).step x by rw [take_snoc hx, runs_snoc])
      have HC := hid (do_c w g gm v _ _ x _ hDr hok (by omega) hBr hxo)
      clear hx hok hkl hxo
      go_wp2_with (fail)
      refine HC.out.mono ?_
      rintro e w2 ⟨v', rfl, hD2, hTh, hT⟩
      go_wp2
      go_roundw
      case rel => exact ⟨k + 1, v', by go_num, by omega, by rw [HS.out]; exact hD2, hBr.step hTh hT⟩
      case measure => simp [intOf]; omega
    · obtain rfl : k = l.length := by omega
      rw [List.take_length] at hDr
      go_wp2
      go_ret
      exact ⟨g, gm, v, rfl, hDr, hBr⟩
end Go.Proofs.Ythllhnjbddpeoaa
