/-
  A text is written: Write, Twice.
-/
import Derived.Test.YthllhnjbddpeoaaSlWr
namespace Go.Proofs.Ythllhnjbddpeoaa
open Go Go.RowKit Go.Maps Go.Shelf Go.Proofs

/-- one of the seven things that are done. -/
def stg (p : Int) (s hs : ByteArray) (k : Nat) (d : Dk) : Int × Dk := if k = 3 then d.text p s else if k = 1 then d.op (.put p ⟨#[]⟩) else if k = 5 then d.op (.put p hs) else d.op .sync
def runK (d : Dk) (p : Int) (s hs : ByteArray) : Nat → Int × Dk
  | 0 => (0, d)
  | k + 1 => if (runK d p s hs k).1 = 0 then stg p s hs k (runK d p s hs k).2 else runK d p s hs k
theorem runK_stop (d : Dk) (p : Int) (s hs : ByteArray) (k : Nat) (h : (runK d p s hs k).1 ≠ 0) : ∀ j, runK d p s hs (k + j) = runK d p s hs k
  | 0 => rfl
  | j + 1 => by
    have ih := runK_stop d p s hs k h j
    rw [← Nat.add_assoc, runK, ih, if_neg h]
theorem slw_runK {d : Dk} {s : ByteArray} (h1 : d.de = false) (h2 : s.size ≤ roomN) (h3 : d.age ≠ maxN) : d.slw s = runK d d.place s (headS (d.age + 1) s.size) 7 := by
  unfold Dk.slw
  rw [h1]
  simp only [Bool.false_eq_true, if_false]
  rw [if_neg (by omega), if_neg h3]
  have key : ∀ (d : Dk) (x y z : Wr), d.go [x, y, z] = if (if (d.op x).1 = 0 then (d.op x).2.op y else d.op x).1 = 0 then (if (d.op x).1 = 0 then (d.op x).2.op y else d.op x).2.op z else (if (d.op x).1 = 0 then (d.op x).2.op y else d.op x) := by
    intro d x y z
    simp only [Dk.go]
    by_cases a : (d.op x).1 = 0
    · simp only [if_pos a]
      by_cases b : ((d.op x).2.op y).1 = 0
      · simp only [if_pos b]
        split
        · rename_i c; rw [← c]
        · rfl
      · simp only [if_neg b]
    · simp only [if_neg a]
  have e3 : runK d d.place s (headS (d.age + 1) s.size) 3 = d.go [.sync, .put d.place ⟨#[]⟩, .sync] := by
    rw [key]; rfl
  by_cases a : (d.go [.sync, .put d.place ⟨#[]⟩, .sync]).1 = 0
  · simp only [if_pos a]
    have e4 : runK d d.place s (headS (d.age + 1) s.size) 4 = (d.go [.sync, .put d.place ⟨#[]⟩, .sync]).2.text d.place s := by
      rw [runK, e3, if_pos a]; rfl
    by_cases b : ((d.go [.sync, .put d.place ⟨#[]⟩, .sync]).2.text d.place s).1 = 0
    · simp only [if_pos b]
      rw [key]
      simp only [runK, stg] at e4 ⊢
      simp only [Nat.reduceEqDiff, if_false, if_true] at e4 ⊢
      rw [e4]
      simp only [if_pos b]
    · simp only [if_neg b]
      rw [← e4, ← runK_stop d d.place s _ 4 (by rw [e4]; exact b) 3]
  · simp only [if_neg a]
    rw [← e3, ← runK_stop d d.place s _ 3 (by rw [e3]; exact a) 4]
theorem runK_ok {d : Dk} {m : Nat} (h : d.Ok m) (p : Int) (s hs : ByteArray) : (∀ k, k ≤ 3 → (runK d p s hs k).2.Ok (m + k)) ∧ ∀ k, k ≤ 7 → (runK d p s hs k).2.Ok (2 * (m + 3 + secs_of s.size) + k) := by
  have h3 : ∀ k, k ≤ 3 → (runK d p s hs k).2.Ok (m + k) := by
    intro k
    induction k with
    | zero => intro _; exact h
    | succ k ih =>
      intro hk
      have h1 := ih (by omega)
      rw [runK]
      split
      · unfold stg
        rw [if_neg (by omega)]
        split
        · exact (h1.op _).mono (by omega)
        · rw [if_neg (by omega)]; exact (h1.op _).mono (by omega)
      · exact h1.mono (by omega)
  refine ⟨h3, ?_⟩
  intro k
  induction k with
  | zero => intro _; exact h.mono (by omega)
  | succ k ih =>
    intro hk
    by_cases h4 : k ≤ 2
    · exact (h3 (k + 1) (by omega)).mono (by omega)
    · have h1 := ih (by omega)
      rw [runK]
      split
      · unfold stg
        split
        · rename_i e
          subst e
          exact ((h3 3 (by omega)).text p s).mono (by omega)
        · rw [if_neg (by omega)]
          split
          · exact (h1.op _).mono (by omega)
          · exact (h1.op _).mono (by omega)
      · exact h1.mono (by omega)
abbrev syV (g : Nat) : Value := .func (.func 37) #[.pointer (some ⟨g, 0, none⟩)] #[]
abbrev txV (bd bp bs : Nat) : Value := .func (.func 76) #[] #[.pointer (some ⟨bp, 0, none⟩), .pointer (some ⟨bd, 0, none⟩), .pointer (some ⟨bs, 0, none⟩)]
abbrev stgVs (g bd bp bs b1 b2 : Nat) : List Value := [syV g, hdV bd bp b1, syV g, txV bd bp bs, syV g, hdV bd bp b2, syV g]
/-- the row of what is to be done. -/
def StgRow (g bd bp bs : Nat) (hs : ByteArray) (w : World) (u : Value) : Prop := ∃ gs b1 b2, u = .slice (some ⟨gs, 0, none⟩) 7 7 ∧ Row1 w gs 51 (stgVs g bd bp bs b1 b2) ∧ Row1 w b1 9 [.string ⟨#[]⟩] ∧ Row1 w b2 9 [.string hs]
set_option maxRecDepth 100000 in
theorem stg_fn (g gm bd bp bs b1 b2 : Nat) (m : Nat) (P : Int) (s hs : ByteArray) (hm : m ≤ 390000) (hP : 0 ≤ P ∧ P ≤ 32768) (hs1 : s.size ≤ roomN) (hs2 : hs.size ≤ 512) [DecidableEq Lit] (k : Nat) (hk : k < 7) :
    ∃ (fid : FuncId) (first cap : Array Value), (stgVs g bd bp bs b1 b2)[k]? = some (.func (.func fid) first cap) ∧ (∀ (args : Array Value) (w : World), (callFunc fid args).run Try.prog w = .ok (.enter fid args) w) ∧
      ∀ (wr : World) (v' : Value) (D : Dk), Dsk wr g gm v' D → (k ≤ 3 → D.Ok (m + k)) → D.Ok (2 * (m + 3 + secs_of s.size) + k) → Bx wr bd bp g P → Row1 wr bs 9 [.string s] → Row1 wr b1 9 [.string ⟨#[]⟩] → Row1 wr b2 9 [.string hs] →
        Calls Try.prog fid (first ++ cap) wr fun e w' => ∃ v'', e = .returned (.int .i64 (stg P s hs k D).1) ∧ Dsk w' g gm v'' (stg P s hs k D).2 ∧ Then wr v' v'' ∧ Tch wr w' g gm v' := by
  have hsec : secs_of s.size ≤ 32767 := by unfold secs_of; unfold roomN at hs1; omega
  have sy : ∀ k, k ≠ 3 → k ≠ 1 → k ≠ 5 → k < 7 → ∀ (wr : World) (v' : Value) (D : Dk), Dsk wr g gm v' D → (k ≤ 3 → D.Ok (m + k)) → D.Ok (2 * (m + 3 + secs_of s.size) + k) → Bx wr bd bp g P → Row1 wr bs 9 [.string s] → Row1 wr b1 9 [.string ⟨#[]⟩] → Row1 wr b2 9 [.string hs] →
        Calls Try.prog 37 (#[.pointer (some ⟨g, 0, none⟩)] ++ #[]) wr fun e w' => ∃ v'', e = .returned (.int .i64 (stg P s hs k D).1) ∧ Dsk w' g gm v'' (stg P s hs k D).2 ∧ Then wr v' v'' ∧ Tch wr w' g gm v' := by
    intro k h3 h1 h5 h7 wr v' D hD _ hok _ _ _ _
    have e : stg P s hs k D = D.op .sync := by unfold stg; rw [if_neg h3, if_neg h1, if_neg h5]
    rw [e]
    exact sync_c g gm v' D _ wr hD hok (by omega)
  match k, hk with
  | 0, _ => exact ⟨_, _, _, rfl, fun _ _ => rfl, sy 0 (by omega) (by omega) (by omega) (by omega)⟩
  | 1, _ => exact ⟨_, _, _, rfl, fun _ _ => rfl, fun wr v' D hD _ hok hB _ h1 _ => hdfn_c g gm bd bp b1 v' D _ P ⟨#[]⟩ wr hD hok (by omega) ⟨by omega, by omega⟩ (by decide) hB h1⟩
  | 2, _ => exact ⟨_, _, _, rfl, fun _ _ => rfl, sy 2 (by omega) (by omega) (by omega) (by omega)⟩
  | 3, _ => exact ⟨_, _, _, rfl, fun _ _ => rfl, fun wr v' D hD h3 _ hB hS _ _ => txfn_c g gm bd bp bs v' D (m + 3) P s wr hD (h3 (by omega)) (by omega) hP.1 hP.2 hs1 hB hS⟩
  | 4, _ => exact ⟨_, _, _, rfl, fun _ _ => rfl, sy 4 (by omega) (by omega) (by omega) (by omega)⟩
  | 5, _ => exact ⟨_, _, _, rfl, fun _ _ => rfl, fun wr v' D hD _ hok hB _ _ h2 => hdfn_c g gm bd bp b2 v' D _ P hs wr hD hok (by omega) ⟨by omega, by omega⟩ (by omega) hB h2⟩
  | 6, _ => exact ⟨_, _, _, rfl, fun _ _ => rfl, sy 6 (by omega) (by omega) (by omega) (by omega)⟩
theorem cat_head (a n : Nat) : (⟨(num8 a).toArray⟩ ++ ⟨(num8 n).toArray⟩ ++ ⟨(num8 a).toArray⟩ : ByteArray) = headS a n := by
  apply bytes_ext
  rw [headS_data]
  simp [ByteArray.data_append]
theorem num_at (a : Nat) (w : World) (h : a + 1 ≤ 9223372036854775807) :
    Calls Try.prog 72 #[.int .i64 ((a : Int) + 1)] w fun e w' => e = .returned (.string ⟨(num8 (a + 1)).toArray⟩) ∧ Below w.heap.size w w' := by
  have := number1_c (a + 1) w h
  rwa [show ((a + 1 : Nat) : Int) = (a : Int) + 1 by omega] at this
set_option maxRecDepth 100000 in
set_option maxHeartbeats 4000000 in
theorem slw_main (g gm : Nat) (v : Value) (d : Dk) (m : Nat) (s : ByteArray) (w : World) (h : Dsk w g gm v d) (hd : d.Ok m) (hm : m ≤ 390000) (hde : d.de = false) (hs : s.size ≤ roomN) (hage : d.age ≠ maxN) [DecidableEq Lit] :
    Calls Try.prog 43 #[.pointer (some ⟨g, 0, none⟩), .string s] w fun e w' => ∃ v', e = .returned (.int .i64 (runK d d.place s (headS (d.age + 1) s.size) 7).1) ∧ Dsk w' g gm v' (runK d d.place s (headS (d.age + 1) s.size) 7).2 ∧ Then w v v' ∧ Tch w w' g gm v := by
  have hmf : ∀ (fn : Fn) (first cap : Array Value) (w : World), (Instr.makeFunc fn first cap).run Try.prog w = .ok (.func fn first cap) w := fun _ _ _ _ => rfl
  have HOK := hid hd
  have hcl : d.C.length ≤ 1000000 := by have := hd.len; omega
  have hle := newP_le (d.read 32768) (d.read 0)
  have HP := hid (show d.place = if 0 < d.age then 32768 - d.newest.1 else d.newest.1 from rfl)
  have hs1 : s.size ≤ 16776704 := hs
  have HR := hid (h.reads hcl)
  have HDE := hid hde
  have r2 := (row1_new w [.pointer (some ⟨g, 0, none⟩)] 25).alloc (.cells #[.string s] 9)
  have r3 := row1_new (w.alloc (.cells #[.pointer (some ⟨g, 0, none⟩)] 25)) [.string s] 9
  have hb1 := (below_alloc w (.cells #[.pointer (some ⟨g, 0, none⟩)] 25)).alloc (by simp) (.cells #[.string s] 9)
  simp only [World.size_alloc] at r3
  have hage1 : d.newest.2.1 ≠ 1099511627776 := hage
  generalize d.place = P at *
  have hA : d.age = d.newest.2.1 := rfl
  rw [hA] at HP ⊢
  clear hd hde hs hage hA
  obtain ⟨⟨at0, a, n⟩, hN⟩ : ∃ x, d.newest = x := ⟨_, rfl⟩
  have hN2 : newP (d.read 32768) (d.read 0) = (at0, a, n) := hN
  rw [hN2] at hle
  rw [hN] at HP hage1 ⊢
  have HN2 := hid hN2
  simp only at hle HP hage1 ⊢
  obtain ⟨hp1, hp2, ha2, hn2⟩ := hle
  have ha3 : a < 1099511627776 := by unfold maxN at ha2; omega
  obtain ⟨hs, hhs⟩ : ∃ x, headS (a + 1) s.size = x := ⟨_, rfl⟩
  have hhz : hs.size ≤ 512 := by rw [← hhs, headS_size]; omega
  have HHS := hid hhs
  rw [hhs]
  clear hhs
  clear hN hN2 hage1 ha2 hn2
  have hag : (((a : Nat) : Int) == 1099511627776) = false := by
    rw [beq_eq_false_iff_ne]; omega
  by_cases ha0 : 0 < a
  all_goals
    go_enter Try.func43, Try.ntmps43
    go_upto_region 1 with (fail)
    have hD1 := h.below hb1
    generalize (w.alloc _).alloc _ = w1 at *
    obtain ⟨bd, hbd⟩ : ∃ n, w.heap.size = n := ⟨_, rfl⟩
    have HBD := hid hbd
    rw [hbd] at r2 r3 ⊢
    obtain ⟨bs, hbs⟩ : ∃ n, bd + 1 = n := ⟨_, rfl⟩
    have HBS := hid hbs
    rw [hbs] at r3 ⊢
    have HB1 := hid hb1
    clear hbd hbs
    have c2 := r2.cell (k := 0) rfl
    have c3 := r3.cell (k := 0) rfl
    have HX := hid (dead_c g gm v d w1 hD1)
    rw [HDE.out] at HX
    have HNW := hid (newest_c (.pointer (some ⟨g, 0, none⟩)) d.read w1 (HR.out.below hb1))
    rw [HN2.out] at HNW
    clear hb1
    go_wp2_with (fail)
    refine HX.out.mono ?_
    rintro e _ ⟨rfl, rfl⟩
    go_wp2_with (fail)
    refine HNW.out.mono ?_
    rintro e w2 ⟨rfl, hb2⟩
    clear HX HNW c2 c3
    go_upto_region 12 with (fail)
    have hPv := HP.out
    first
      | rw [if_pos ha0] at hPv
      | rw [if_neg ha0] at hPv
    have hP0 : 0 ≤ P ∧ P ≤ 32768 := by omega
    rw [← hPv]
    have rp := row1_new w2 [.int .i64 P] 100
    have hb3 := below_alloc w2 (.cells #[.int .i64 P] 100)
    have hb4 := below_next hb2 hb2.size hb3
    have q2 := r2.below hb4
    have q3 := r3.below hb4
    have hD3 := hD1.below hb4
    generalize w2.alloc _ = w3 at *
    obtain ⟨bp, hbp⟩ : ∃ n, w2.heap.size = n := ⟨_, rfl⟩
    rw [hbp] at rp ⊢
    have HB4 := hid hb4
    clear hPv hbp hb2 hb3 hb4 r2 r3 hD1
    have hcf1 : ∀ (args : Array Value) (w : World), (callFunc 72 args).run Try.prog w = .ok (.enter 72 args) w := fun _ _ => rfl
    have hcf2 : ∀ (args : Array Value) (w : World), (callFunc 74 args).run Try.prog w = .ok (.enter 74 args) w := fun _ _ => rfl
    go_upto_region 14 with (fail)
    refine Rgd.wp_region (l := [_, _, _, _, _, _, _, _, _, _, _, _, _, _, _, _, _, _, _, _, _, _, _, _, _, _, _, _, _, _]) (tail := []) (Rgd.keep w3 [] [(0, 0), (0, 0), (0, 0), (0, 0), (0, 0), (0, 0), (0, 0), (0, 0), (0, 0), (0, 0), (0, 0), (0, 0), (0, 0), (0, 0), (0, 0), (0, 0), (0, 0), (0, 0), (0, 0), (0, 0), (0, 0), (0, 0), (0, 0), (0, 0), (0, 0), (0, 0), (0, 0), (0, 0), (0, 0), (0, 0)]) [some 36, some 37, some 38, some 39, some 40, some 41, some 42, some 43, some 44, some 45, some 46, some 47, some 48, some 49, some 50, some 51, some 52, some 53, some 54, some 55, some 56, some 57, some 58, some 59, some 60, some 61, some 62, some 63, some 64, some 65] 75 rfl [[], [0], [], [2], [], [4], [], [], [7], [], [], [], [11], [2, 3, 10, 11, 12], [], [], [15], [2, 3, 10, 11, 12, 13, 14, 15, 16], [2, 3, 10, 11, 12, 13, 14, 15, 16, 17], [], [], [20], [2, 3, 10, 11, 12, 13, 14, 15, 16, 17, 19, 20, 21], [2, 3, 10, 11, 12, 13, 14, 15, 16, 17, 18, 19, 20, 21, 22], [2, 3, 9, 10, 11, 12, 13, 14, 15, 16, 17, 18, 19, 20, 21, 22, 23], [], [25], [0, 1, 2, 3, 4, 5, 6, 7, 8, 9, 10, 11, 12, 13, 14, 15, 16, 17, 18, 19, 20, 21, 22, 23, 24, 25, 26], [0, 1, 2, 3, 4, 5, 6, 7, 8, 9, 10, 11, 12, 13, 14, 15, 16, 17, 18, 19, 20, 21, 22, 23, 24, 25, 26, 27], []] (by kernel_rfl) (by kernel_rfl) (by kernel_rfl) (by kernel_rfl) (by kernel_rfl) rfl (Rgd.keep_fair) (Rgd.keep_start _) ?_
    refine Rgd.op_is (.pointer (some ⟨g, 0, none⟩)) [] 0 0 rfl rfl rfl (by kernel_rfl) ?_ ?_
    · intro p wx hp1 hp2 hb
      obtain rfl : p = 0 := by omega
      refine Rgd.from_nil fun T hT => ?_
      have c2 := (q2.below hb).cell (k := 0) rfl
      go_wp2
      exact hT _ _ rfl (by first | exact Rgd.Keep.refl _ | exact below_of_dr hw2 | exact hw2 | exact (Below.refl _ _).alloc (Nat.le_refl _) _) (by first | rfl | exact congrArg _ (by decide))
    refine' Rgd.op_is _ [0] 0 0 rfl rfl rfl (by kernel_rfl) ?_ ?_
    rotate_left
    · intro p wx hp1 hp2 hb
      obtain rfl : p = 0 := by omega
      refine Rgd.from_is (some 36) rfl rfl ?_
      refine Rgd.from_nil fun T hT => ?_
      go_wp2
      refine hT _ _ rfl (by first | exact Rgd.Keep.refl _ | exact below_of_dr hw2 | exact hw2 | exact (Below.refl _ _).alloc (Nat.le_refl _) _) ?_
      simp only [Rgd.last, List.getElem?_toArray, List.getElem?_cons_succ, List.getElem?_cons_zero, Option.getD_some]
      rfl
    refine' Rgd.op_is _ [] 0 0 rfl rfl rfl (by kernel_rfl) ?_ ?_
    rotate_left
    · intro p wx hp1 hp2 hb
      obtain rfl : p = 0 := by omega
      refine Rgd.from_nil fun T hT => ?_
      go_wp2
      refine hT _ _ rfl (by first | exact Rgd.Keep.refl _ | exact below_of_dr hw2 | exact hw2 | exact (Below.refl _ _).alloc (Nat.le_refl _) _) ?_
      simp only [Rgd.last, List.getElem?_toArray, List.getElem?_cons_succ, List.getElem?_cons_zero, Option.getD_some]
      rfl
    refine Rgd.op_of (fun _ w u => ∃ b, u = hdV bd bp b ∧ Row1 w b 9 [.string ⟨#[]⟩] ∧ w3.heap.size ≤ b) [2] 0 0 rfl rfl ?_ ?_ rfl (by kernel_rfl) ?_ ?_
    · exact fun p w1 w2 v _ hk ⟨b, h1, h2, h3⟩ => ⟨b, h1, h2.below hk, h3⟩
    · exact fun p w1 w2 v h0 h1 => by simp [Rgd.keep] at h1
    · intro p wx hp1 hp2 hb
      obtain rfl : p = 0 := by omega
      refine Rgd.from_is (some 38) rfl rfl ?_
      refine Rgd.from_nil fun T hT => ?_
      have hb : Below w3.heap.size w3 wx := hb
      go_wp2_with (fail)
      refine (hdmk_c ⟨#[]⟩ bd bp _).mono ?_
      rintro e wy ⟨rfl, hr, hk⟩
      go_wp2
      exact hT _ _ rfl hk ⟨_, rfl, hr, hb.size⟩
    refine Rgd.op_is (.pointer (some ⟨g, 0, none⟩)) [] 0 0 rfl rfl rfl (by kernel_rfl) ?_ ?_
    · intro p wx hp1 hp2 hb
      obtain rfl : p = 0 := by omega
      refine Rgd.from_nil fun T hT => ?_
      have c2 := (q2.below hb).cell (k := 0) rfl
      go_wp2
      exact hT _ _ rfl (by first | exact Rgd.Keep.refl _ | exact below_of_dr hw2 | exact hw2 | exact (Below.refl _ _).alloc (Nat.le_refl _) _) (by first | rfl | exact congrArg _ (by decide))
    refine' Rgd.op_is _ [4] 0 0 rfl rfl rfl (by kernel_rfl) ?_ ?_
    rotate_left
    · intro p wx hp1 hp2 hb
      obtain rfl : p = 0 := by omega
      refine Rgd.from_is (some 40) rfl rfl ?_
      refine Rgd.from_nil fun T hT => ?_
      go_wp2
      refine hT _ _ rfl (by first | exact Rgd.Keep.refl _ | exact below_of_dr hw2 | exact hw2 | exact (Below.refl _ _).alloc (Nat.le_refl _) _) ?_
      simp only [Rgd.last, List.getElem?_toArray, List.getElem?_cons_succ, List.getElem?_cons_zero, Option.getD_some]
      rfl
    refine' Rgd.op_is _ [] 0 0 rfl rfl rfl (by kernel_rfl) ?_ ?_
    rotate_left
    · intro p wx hp1 hp2 hb
      obtain rfl : p = 0 := by omega
      refine Rgd.from_nil fun T hT => ?_
      go_wp2
      refine hT _ _ rfl (by first | exact Rgd.Keep.refl _ | exact below_of_dr hw2 | exact hw2 | exact (Below.refl _ _).alloc (Nat.le_refl _) _) ?_
      simp only [Rgd.last, List.getElem?_toArray, List.getElem?_cons_succ, List.getElem?_cons_zero, Option.getD_some]
      rfl
    refine Rgd.op_is (.pointer (some ⟨g, 0, none⟩)) [] 0 0 rfl rfl rfl (by kernel_rfl) ?_ ?_
    · intro p wx hp1 hp2 hb
      obtain rfl : p = 0 := by omega
      refine Rgd.from_nil fun T hT => ?_
      have c2 := (q2.below hb).cell (k := 0) rfl
      go_wp2
      exact hT _ _ rfl (by first | exact Rgd.Keep.refl _ | exact below_of_dr hw2 | exact hw2 | exact (Below.refl _ _).alloc (Nat.le_refl _) _) (by first | rfl | exact congrArg _ (by decide))
    refine' Rgd.op_is _ [7] 0 0 rfl rfl rfl (by kernel_rfl) ?_ ?_
    rotate_left
    · intro p wx hp1 hp2 hb
      obtain rfl : p = 0 := by omega
      refine Rgd.from_is (some 43) rfl rfl ?_
      refine Rgd.from_nil fun T hT => ?_
      go_wp2
      refine hT _ _ rfl (by first | exact Rgd.Keep.refl _ | exact below_of_dr hw2 | exact hw2 | exact (Below.refl _ _).alloc (Nat.le_refl _) _) ?_
      simp only [Rgd.last, List.getElem?_toArray, List.getElem?_cons_succ, List.getElem?_cons_zero, Option.getD_some]
      rfl
    refine' Rgd.op_is _ [] 0 0 rfl rfl rfl (by kernel_rfl) ?_ ?_
    rotate_left
    · intro p wx hp1 hp2 hb
      obtain rfl : p = 0 := by omega
      refine Rgd.from_nil fun T hT => ?_
      go_wp2
      refine hT _ _ rfl (by first | exact Rgd.Keep.refl _ | exact below_of_dr hw2 | exact hw2 | exact (Below.refl _ _).alloc (Nat.le_refl _) _) ?_
      simp only [Rgd.last, List.getElem?_toArray, List.getElem?_cons_succ, List.getElem?_cons_zero, Option.getD_some]
      rfl
    refine' Rgd.op_is _ [] 0 0 rfl rfl rfl (by kernel_rfl) ?_ ?_
    rotate_left
    · intro p wx hp1 hp2 hb
      obtain rfl : p = 0 := by omega
      refine Rgd.from_nil fun T hT => ?_
      go_wp2
      refine hT _ _ rfl (by first | exact Rgd.Keep.refl _ | exact below_of_dr hw2 | exact hw2 | exact (Below.refl _ _).alloc (Nat.le_refl _) _) ?_
      simp only [Rgd.last, List.getElem?_toArray, List.getElem?_cons_succ, List.getElem?_cons_zero, Option.getD_some]
      rfl
    refine' Rgd.op_is _ [] 0 0 rfl rfl rfl (by kernel_rfl) ?_ ?_
    rotate_left
    · intro p wx hp1 hp2 hb
      obtain rfl : p = 0 := by omega
      refine Rgd.from_nil fun T hT => ?_
      go_wp2
      refine hT _ _ rfl (by first | exact Rgd.Keep.refl _ | exact below_of_dr hw2 | exact hw2 | exact (Below.refl _ _).alloc (Nat.le_refl _) _) ?_
      simp only [Rgd.last, List.getElem?_toArray, List.getElem?_cons_succ, List.getElem?_cons_zero, Option.getD_some]
      rfl
    refine Rgd.op_is (.int .i64 ((a : Int) + 1)) [11] 0 0 rfl rfl rfl (by kernel_rfl) ?_ ?_
    · intro p wx hp1 hp2 hb
      obtain rfl : p = 0 := by omega
      refine Rgd.from_is (some 47) rfl rfl ?_
      refine Rgd.from_nil fun T hT => ?_
      go_wp2
      exact hT _ _ rfl (by first | exact Rgd.Keep.refl _ | exact below_of_dr hw2 | exact hw2 | exact (Below.refl _ _).alloc (Nat.le_refl _) _) (by first | rfl | exact congrArg _ (by decide))
    refine Rgd.op_is (.string ⟨(num8 (a + 1)).toArray⟩) [10, 12] 0 0 rfl rfl rfl (by kernel_rfl) ?_ ?_
    · intro p wx hp1 hp2 hb
      obtain rfl : p = 0 := by omega
      refine Rgd.from_is (some 46) rfl rfl ?_
      refine Rgd.from_is (some 48) rfl rfl ?_
      refine Rgd.from_nil fun T hT => ?_
      go_wp2_with (fail)
      refine (num_at a _ (by omega)).mono ?_
      rintro e wy ⟨rfl, hk⟩
      go_wp2
      exact hT _ _ rfl hk rfl
    refine' Rgd.op_is _ [] 0 0 rfl rfl rfl (by kernel_rfl) ?_ ?_
    rotate_left
    · intro p wx hp1 hp2 hb
      obtain rfl : p = 0 := by omega
      refine Rgd.from_nil fun T hT => ?_
      go_wp2
      refine hT _ _ rfl (by first | exact Rgd.Keep.refl _ | exact below_of_dr hw2 | exact hw2 | exact (Below.refl _ _).alloc (Nat.le_refl _) _) ?_
      simp only [Rgd.last, List.getElem?_toArray, List.getElem?_cons_succ, List.getElem?_cons_zero, Option.getD_some]
      rfl
    refine Rgd.op_is (.string s) [] 0 0 rfl rfl rfl (by kernel_rfl) ?_ ?_
    · intro p wx hp1 hp2 hb
      obtain rfl : p = 0 := by omega
      refine Rgd.from_nil fun T hT => ?_
      have c2 := (q3.below hb).cell (k := 0) rfl
      go_wp2
      exact hT _ _ rfl (by first | exact Rgd.Keep.refl _ | exact below_of_dr hw2 | exact hw2 | exact (Below.refl _ _).alloc (Nat.le_refl _) _) (by first | rfl | exact congrArg _ (by decide))
    refine' Rgd.op_is _ [15] 0 0 rfl rfl rfl (by kernel_rfl) ?_ ?_
    rotate_left
    · intro p wx hp1 hp2 hb
      obtain rfl : p = 0 := by omega
      refine Rgd.from_is (some 51) rfl rfl ?_
      refine Rgd.from_nil fun T hT => ?_
      go_wp2
      refine hT _ _ rfl (by first | exact Rgd.Keep.refl _ | exact below_of_dr hw2 | exact hw2 | exact (Below.refl _ _).alloc (Nat.le_refl _) _) ?_
      simp only [Rgd.last, List.getElem?_toArray, List.getElem?_cons_succ, List.getElem?_cons_zero, Option.getD_some]
      rfl
    refine Rgd.op_is (.string ⟨(num8 s.size).toArray⟩) [14, 16] 0 0 rfl rfl rfl (by kernel_rfl) ?_ ?_
    · intro p wx hp1 hp2 hb
      obtain rfl : p = 0 := by omega
      refine Rgd.from_is (some 50) rfl rfl ?_
      refine Rgd.from_is (some 52) rfl rfl ?_
      refine Rgd.from_nil fun T hT => ?_
      go_wp2_with (fail)
      refine (number1_c s.size _ (by omega)).mono ?_
      rintro e wy ⟨rfl, hk⟩
      go_wp2
      exact hT _ _ rfl hk rfl
    refine Rgd.op_is (.string (⟨(num8 (a + 1)).toArray⟩ ++ ⟨(num8 s.size).toArray⟩)) [13, 17] 0 0 rfl rfl rfl (by kernel_rfl) ?_ ?_
    · intro p wx hp1 hp2 hb
      obtain rfl : p = 0 := by omega
      refine Rgd.from_is (some 49) rfl rfl ?_
      refine Rgd.from_is (some 53) rfl rfl ?_
      refine Rgd.from_nil fun T hT => ?_
      have hl := num8_len
      go_wp2
      refine hT _ _ rfl (Rgd.Keep.refl _) ?_
      rfl
    refine' Rgd.op_is _ [] 0 0 rfl rfl rfl (by kernel_rfl) ?_ ?_
    rotate_left
    · intro p wx hp1 hp2 hb
      obtain rfl : p = 0 := by omega
      refine Rgd.from_nil fun T hT => ?_
      go_wp2
      refine hT _ _ rfl (by first | exact Rgd.Keep.refl _ | exact below_of_dr hw2 | exact hw2 | exact (Below.refl _ _).alloc (Nat.le_refl _) _) ?_
      simp only [Rgd.last, List.getElem?_toArray, List.getElem?_cons_succ, List.getElem?_cons_zero, Option.getD_some]
      rfl
    refine' Rgd.op_is _ [] 0 0 rfl rfl rfl (by kernel_rfl) ?_ ?_
    rotate_left
    · intro p wx hp1 hp2 hb
      obtain rfl : p = 0 := by omega
      refine Rgd.from_nil fun T hT => ?_
      go_wp2
      refine hT _ _ rfl (by first | exact Rgd.Keep.refl _ | exact below_of_dr hw2 | exact hw2 | exact (Below.refl _ _).alloc (Nat.le_refl _) _) ?_
      simp only [Rgd.last, List.getElem?_toArray, List.getElem?_cons_succ, List.getElem?_cons_zero, Option.getD_some]
      rfl
    refine Rgd.op_is (.int .i64 ((a : Int) + 1)) [20] 0 0 rfl rfl rfl (by kernel_rfl) ?_ ?_
    · intro p wx hp1 hp2 hb
      obtain rfl : p = 0 := by omega
      refine Rgd.from_is (some 56) rfl rfl ?_
      refine Rgd.from_nil fun T hT => ?_
      go_wp2
      exact hT _ _ rfl (by first | exact Rgd.Keep.refl _ | exact below_of_dr hw2 | exact hw2 | exact (Below.refl _ _).alloc (Nat.le_refl _) _) (by first | rfl | exact congrArg _ (by decide))
    refine Rgd.op_is (.string ⟨(num8 (a + 1)).toArray⟩) [19, 21] 0 0 rfl rfl rfl (by kernel_rfl) ?_ ?_
    · intro p wx hp1 hp2 hb
      obtain rfl : p = 0 := by omega
      refine Rgd.from_is (some 55) rfl rfl ?_
      refine Rgd.from_is (some 57) rfl rfl ?_
      refine Rgd.from_nil fun T hT => ?_
      go_wp2_with (fail)
      refine (num_at a _ (by omega)).mono ?_
      rintro e wy ⟨rfl, hk⟩
      go_wp2
      exact hT _ _ rfl hk rfl
    refine Rgd.op_is (.string (⟨(num8 (a + 1)).toArray⟩ ++ ⟨(num8 s.size).toArray⟩ ++ ⟨(num8 (a + 1)).toArray⟩)) [18, 22] 0 0 rfl rfl rfl (by kernel_rfl) ?_ ?_
    · intro p wx hp1 hp2 hb
      obtain rfl : p = 0 := by omega
      refine Rgd.from_is (some 54) rfl rfl ?_
      refine Rgd.from_is (some 58) rfl rfl ?_
      refine Rgd.from_nil fun T hT => ?_
      have hl := num8_len
      go_wp2
      refine hT _ _ rfl (Rgd.Keep.refl _) ?_
      rfl
    refine Rgd.op_of (fun _ w u => ∃ b, u = hdV bd bp b ∧ Row1 w b 9 [.string (headS (a + 1) s.size)] ∧ w3.heap.size ≤ b) [9, 23] 0 0 rfl rfl ?_ ?_ rfl (by kernel_rfl) ?_ ?_
    · exact fun p w1 w2 v _ hk ⟨b, h1, h2, h3⟩ => ⟨b, h1, h2.below hk, h3⟩
    · exact fun p w1 w2 v h0 h1 => by simp [Rgd.keep] at h1
    · intro p wx hp1 hp2 hb
      obtain rfl : p = 0 := by omega
      refine Rgd.from_is (some 45) rfl rfl ?_
      refine Rgd.from_is (some 59) rfl rfl ?_
      refine Rgd.from_nil fun T hT => ?_
      have hb : Below w3.heap.size w3 wx := hb
      go_wp2_with (fail)
      refine (hdmk_c _ bd bp _).mono ?_
      rintro e wy ⟨rfl, hr, hk⟩
      rw [cat_head] at hr
      go_wp2
      exact hT _ _ rfl hk ⟨_, rfl, hr, hb.size⟩
    refine Rgd.op_is (.pointer (some ⟨g, 0, none⟩)) [] 0 0 rfl rfl rfl (by kernel_rfl) ?_ ?_
    · intro p wx hp1 hp2 hb
      obtain rfl : p = 0 := by omega
      refine Rgd.from_nil fun T hT => ?_
      have c2 := (q2.below hb).cell (k := 0) rfl
      go_wp2
      exact hT _ _ rfl (by first | exact Rgd.Keep.refl _ | exact below_of_dr hw2 | exact hw2 | exact (Below.refl _ _).alloc (Nat.le_refl _) _) (by first | rfl | exact congrArg _ (by decide))
    refine' Rgd.op_is _ [25] 0 0 rfl rfl rfl (by kernel_rfl) ?_ ?_
    rotate_left
    · intro p wx hp1 hp2 hb
      obtain rfl : p = 0 := by omega
      refine Rgd.from_is (some 61) rfl rfl ?_
      refine Rgd.from_nil fun T hT => ?_
      go_wp2
      refine hT _ _ rfl (by first | exact Rgd.Keep.refl _ | exact below_of_dr hw2 | exact hw2 | exact (Below.refl _ _).alloc (Nat.le_refl _) _) ?_
      simp only [Rgd.last, List.getElem?_toArray, List.getElem?_cons_succ, List.getElem?_cons_zero, Option.getD_some]
      rfl
    refine Rgd.op_of (fun _ w u => StgRow g bd bp bs (headS (a + 1) s.size) w u) [1, 3, 5, 6, 8, 24, 26] 0 0 rfl rfl ?_ ?_ rfl (by kernel_rfl) ?_ ?_
    · exact fun p w1 w2 v _ hk ⟨gs, b1, b2, h1, h2, h3, h4⟩ => ⟨gs, b1, b2, h1, h2.below hk, h3.below hk, h4.below hk⟩
    · exact fun p w1 w2 v h0 h1 => by simp [Rgd.keep] at h1
    · intro p wx hp1 hp2 hb
      obtain rfl : p = 0 := by omega
      refine Rgd.from_is (some 37) rfl rfl ?_
      refine Rgd.from_of (some 39) rfl rfl fun v39 h39 => ?_
      refine Rgd.from_is (some 41) rfl rfl ?_
      refine Rgd.from_is (some 42) rfl rfl ?_
      refine Rgd.from_is (some 44) rfl rfl ?_
      refine Rgd.from_of (some 60) rfl rfl fun v60 h60 => ?_
      refine Rgd.from_is (some 62) rfl rfl ?_
      refine Rgd.from_nil fun T hT => ?_
      obtain ⟨b1, rfl, hr1, _⟩ := h39
      obtain ⟨b2, rfl, hr2, _⟩ := h60
      go_wp2
      have hk := below_alloc wx (.cells (stgVs g bd bp bs b1 b2).toArray 51)
      exact hT _ _ rfl hk ⟨_, b1, b2, rfl, row1_new wx (stgVs g bd bp bs b1 b2) _, hr1.below hk, hr2.below hk⟩
    refine Rgd.op_is (.int .i64 7) [27] 0 0 rfl rfl rfl (by kernel_rfl) ?_ ?_
    · intro p wx hp1 hp2 hb
      obtain rfl : p = 0 := by omega
      refine Rgd.from_of (some 63) rfl rfl fun v63 h63 => ?_
      refine Rgd.from_nil fun T hT => ?_
      obtain ⟨gs, b1, b2, rfl, _⟩ := h63
      go_wp2
      exact hT _ _ rfl (by first | exact Rgd.Keep.refl _ | exact below_of_dr hw2 | exact hw2 | exact (Below.refl _ _).alloc (Nat.le_refl _) _) (by first | rfl | exact congrArg _ (by decide))
    refine' Rgd.op_is _ [] 0 0 rfl rfl rfl (by kernel_rfl) ?_ ?_
    rotate_left
    · intro p wx hp1 hp2 hb
      obtain rfl : p = 0 := by omega
      refine Rgd.from_nil fun T hT => ?_
      go_wp2
      refine hT _ _ rfl (by first | exact Rgd.Keep.refl _ | exact below_of_dr hw2 | exact hw2 | exact (Below.refl _ _).alloc (Nat.le_refl _) _) ?_
      simp only [Rgd.last, List.getElem?_toArray, List.getElem?_cons_succ, List.getElem?_cons_zero, Option.getD_some]
      rfl
    refine Rgd.walk_nil [0, 1, 2, 3, 4, 5, 6, 7, 8, 9, 10, 11, 12, 13, 14, 15, 16, 17, 18, 19, 20, 21, 22, 23, 24, 25, 26, 27, 28, 29] (by kernel_rfl) ?_
    intro wx hb
    refine Rgd.from_is (some 36) rfl rfl ?_
    refine Rgd.from_is (some 37) rfl rfl ?_
    refine Rgd.from_is (some 38) rfl rfl ?_
    refine Rgd.from_of (some 39) rfl rfl fun v39 h39 => ?_
    refine Rgd.from_is (some 40) rfl rfl ?_
    refine Rgd.from_is (some 41) rfl rfl ?_
    refine Rgd.from_is (some 42) rfl rfl ?_
    refine Rgd.from_is (some 43) rfl rfl ?_
    refine Rgd.from_is (some 44) rfl rfl ?_
    refine Rgd.from_is (some 45) rfl rfl ?_
    refine Rgd.from_is (some 46) rfl rfl ?_
    refine Rgd.from_is (some 47) rfl rfl ?_
    refine Rgd.from_is (some 48) rfl rfl ?_
    refine Rgd.from_is (some 49) rfl rfl ?_
    refine Rgd.from_is (some 50) rfl rfl ?_
    refine Rgd.from_is (some 51) rfl rfl ?_
    refine Rgd.from_is (some 52) rfl rfl ?_
    refine Rgd.from_is (some 53) rfl rfl ?_
    refine Rgd.from_is (some 54) rfl rfl ?_
    refine Rgd.from_is (some 55) rfl rfl ?_
    refine Rgd.from_is (some 56) rfl rfl ?_
    refine Rgd.from_is (some 57) rfl rfl ?_
    refine Rgd.from_is (some 58) rfl rfl ?_
    refine Rgd.from_is (some 59) rfl rfl ?_
    refine Rgd.from_of (some 60) rfl rfl fun v60 h60 => ?_
    refine Rgd.from_is (some 61) rfl rfl ?_
    refine Rgd.from_is (some 62) rfl rfl ?_
    refine Rgd.from_of (some 63) rfl rfl fun v63 h63 => ?_
    refine Rgd.from_is (some 64) rfl rfl ?_
    refine Rgd.from_is (some 65) rfl rfl ?_
    refine Rgd.from_nil ?_
    simp only [List.map, Act.put, List.setIfInBounds_toArray, List.set_cons_zero, List.set_cons_succ]
    have hb : Below w3.heap.size w3 wx := hb
    obtain ⟨gs, b1, b2, rfl, hrow, hr1, hr2⟩ := h63
    have hD4 := hD3.below hb
    have hX := Bx.below ⟨q2, rp⟩ hb
    have q4 := q3.below hb
    rw [HHS.out] at hr2
    have HF := hid (stg_fn g gm bd bp bs b1 b2 m P s hs hm hP0 hs1 hhz)
    have HO := hid (runK_ok HOK.out P s hs)
    have HBX := hid (below_next (below_next HB1.out HB1.out.size HB4.out) (Nat.le_trans HB1.out.size HB4.out.size) hb)
    clear hb q2 q3 rp hD3 hcf1 hcf2
    go_wp2_with (fail)
    go_loopw [65] (fun i wr => ∃ (k : Nat) (v' : Value), k ≤ 7 ∧ i = .int .i64 (k : Int) ∧ (runK d P s hs k).1 = 0 ∧ Dsk wr g gm v' (runK d P s hs k).2 ∧ Then wx v v' ∧ Tch wx wr g gm v) (fun i _ => 7 - (intOf i).toNat)
    case atStart => exact ⟨0, v, by omega, rfl, rfl, hD4, Then.refl, Tch.refl⟩
    case round =>
      obtain ⟨k, v', hk, rfl, hk0, hDr, hTh, hTc⟩ := hrel
      have hrow2 := row1_tch hrow hD4 hTc (by decide) (by decide)
      by_cases hlt : k < 7
      · obtain ⟨fid, first, cap, hcell, hcall, hC⟩ := HF.out k hlt
        have c7 := hrow2.cell hcell
        have HC := hid (hC wr v' _ hDr (fun h => HO.out.1 k h) (HO.out.2 k (by omega)) (hX.tch hD4 hTc) (row1_tch q4 hD4 hTc (by decide) (by decide)) (row1_tch hr1 hD4 hTc (by decide) (by decide)) (row1_tch hr2 hD4 hTc (by decide) (by decide)))
        have HS := hid (show runK d P s hs (k + 1) = stg P s hs k (runK d P s hs k).2 by rw [runK, if_pos hk0])
        clear hC hcell hrow2 hk0 hDr
        go_wp2_with (fail)
        refine HC.out.mono ?_
        rintro e w5 ⟨v5, rfl, hD5, hTh5, hT5⟩
        rw [← HS.out] at hD5
        have hE : (stg P s hs k (runK d P s hs k).2).1 = (runK d P s hs (k + 1)).1 := by rw [HS.out]
        rw [hE]
        have hTh6 := hTh.trans hTc.size hTh5
        have hTc6 := hTc.trans hTh hT5
        have HST := hid (fun h => runK_stop d P s hs (k + 1) h (7 - (k + 1)))
        rw [show k + 1 + (7 - (k + 1)) = 7 by omega] at HST
        clear hE HS hTh hTc hTh5 hT5 HC c7
        by_cases hz : (runK d P s hs (k + 1)).1 = 0
        · have hz1 : ((runK d P s hs (k + 1)).1 != 0) = false := by simpa using hz
          have HZ := hid hz
          clear hz
          go_wp2
          go_roundw
          case rel => exact ⟨k + 1, v5, by omega, by go_num, HZ.out, hD5, hTh6, hTc6⟩
          case measure => simp [intOf]; omega
        · have hz1 : ((runK d P s hs (k + 1)).1 != 0) = true := by simpa using hz
          have HZ := hid (HST.out hz)
          clear hz
          go_wp2
          go_ret
          exact ⟨v5, by rw [HZ.out]; rfl, by rw [HZ.out]; exact hD5, fun b hb => (hTh6 b hb).imp id (Nat.le_trans HBX.out.size), (Tch.of_below HBX.out).trans Then.refl hTc6⟩
      · have e7 : k = 7 := by omega
        have HZ := hid (show (runK d P s hs 7).1 = 0 by rw [← e7]; exact hk0)
        have hD7 : Dsk wr g gm v' (runK d P s hs 7).2 := by rw [← e7]; exact hDr
        clear hk0 e7 hrow2
        go_wp2
        go_ret
        exact ⟨v', by rw [HZ.out]; rfl, hD7, fun b hb => (hTh b hb).imp id (Nat.le_trans HBX.out.size), (Tch.of_below HBX.out).trans Then.refl hTc⟩
end Go.Proofs.Ythllhnjbddpeoaa
