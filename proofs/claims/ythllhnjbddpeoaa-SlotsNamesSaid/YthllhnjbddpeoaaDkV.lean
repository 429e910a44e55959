/-
  A crash whose row of what is kept lies anywhere but on the disk; what a crash leaves.
-/
import Derived.Test.YthllhnjbddpeoaaDkU
import Derived.Test.YthllhnjbddpeoaaDiskSynced
namespace Go.Proofs.Ythllhnjbddpeoaa
open Go.RowKit Go.Maps Go.Shelf Go.Proofs

theorem ownsRow_tch {w w' : World} {g gm base size n : Nat} {v u : Value} {d : Dk} {e : TypeId} {xs : List Value} (h : w.ownsRow base e size u n xs) (hD : Dsk w g gm v d) (hT : Tch w w' g gm v) (h1 : e ≠ 85) (h2 : e ≠ 80) : w'.ownsRow base e size u n xs := by
  refine ⟨h.1, ?_⟩
  rcases h.2 with hn | ⟨b, cap, cur, rfl, hb, hg, rest⟩
  · exact .inl hn
  · have hne := hD.ne_cells hg h1 h2
    exact .inr ⟨b, cap, cur, rfl, hb, (hT.block b (Array.getElem?_eq_some_iff.1 hg).1 hne.1 hne.2.1 hne.2.2).trans hg, rest⟩

theorem crashS_all (C : List Pt) (P : List Pt) (N : Nat) : ∀ k, k ≤ C.length → crashS C (List.replicate C.length true) N P k = (false, (C.take k).foldl setP P)
  | 0, _ => rfl
  | k + 1, hk => by
    have hlt : k < C.length := by omega
    have h1 : C[k]? = some C[k] := List.getElem?_eq_getElem hlt
    have h2 : ((List.replicate C.length true)[k]?).getD false = true := by simp [hlt]
    rw [crashS, h1]
    simp only [h2, if_true, crashS_all C P N k (by omega)]
    rw [take_snoc h1, List.foldl_append]
    rfl
theorem crash_all_plat {d : Dk} {m : Nat} (h : d.Ok m) (hde : d.de = false) (n : Int) (x : Int) : (d.crash (List.replicate d.C.length true) n).plat x = d.read x := by
  unfold Dk.crash
  rw [crashS_all d.C d.P _ _ (Nat.le_refl _), List.take_length]
  simp only [Dk.plat, Dk.read, hde, Bool.false_eq_true, if_false]
  cases his : isS x with
  | true => simp only [if_true]; exact getP_fold d.C d.P x
  | false =>
    rw [lastC_is h.C his]
    simp
theorem cut_zero {s t : ByteArray} (h : t.size = 512) : cut s t 0 = t := by
  apply bytes_ext
  rw [cut_data, List.take_zero, List.nil_append, List.drop_zero, List.take_of_length_le (by rw [Array.length_toList]; exact Nat.le_of_eq h)]
theorem crashS_zero {C P : List Pt} (hC : PtsOk C) (hP : PtsOk P) (x : Int) : ∀ k, getP (crashS C [] 0 P k).2 x = getP P x
  | 0 => rfl
  | k + 1 => by
    rw [crashS]
    cases C[k]? with
    | none => exact crashS_zero hC hP x k
    | some p =>
      simp only [List.getElem?_nil, Option.getD_none, Bool.false_eq_true, if_false]
      split
      · exact crashS_zero hC hP x k
      · rw [getP_set]
        simp only
        rw [cut_zero (getP_size (crashS_ok (keep := []) (n := 0) hC hP (by omega) k) p.1)]
        split
        · rename_i e
          rw [e]
          exact crashS_zero hC hP x k
        · exact crashS_zero hC hP x k
theorem crash_zero_plat {d : Dk} {m : Nat} (h : d.Ok m) (x : Int) : (d.crash [] 0).plat x = d.plat x := by
  have e : (clamp 0).toNat = 0 := by decide
  unfold Dk.crash Dk.plat
  rw [e]
  simp only
  rw [crashS_zero h.C h.P x d.C.length]
/-- what is there is what was there, or what some write made of it. -/
def Kept (C P P' : List Pt) (x : Int) : Prop := getP P' x = getP P x ∨ ∃ p ∈ C, p.at_ = x ∧ getP P' x = p.s
theorem kept_set {C P P' : List Pt} {p : Pt} {x : Int} (hp : p ∈ C) (h : p.at_ ≠ x → Kept C P P' x) : Kept C P (setP P' p) x := by
  unfold Kept
  rw [getP_set]
  split
  · rename_i e
    exact .inr ⟨p, hp, e, rfl⟩
  · rename_i e
    exact h e
theorem crashS_kept (C P : List Pt) (ks : List Bool) (N : Nat) : ∀ k, ((crashS C ks N P k).1 = false → ∀ x, Kept C P (crashS C ks N P k).2 x) ∧ ∃ t, ∀ x, x ≠ t → Kept C P (crashS C ks N P k).2 x
  | 0 => ⟨fun _ x => .inl rfl, 0, fun x _ => .inl rfl⟩
  | k + 1 => by
    obtain ⟨h1, t, h2⟩ := crashS_kept C P ks N k
    rw [crashS]
    cases hp : C[k]? with
    | none => exact ⟨h1, t, h2⟩
    | some p =>
      have hm := List.mem_of_getElem? hp
      simp only
      split
      · exact ⟨fun e x => kept_set hm fun _ => h1 e x, t, fun x hx => kept_set hm fun _ => h2 x hx⟩
      · split
        · exact ⟨h1, t, h2⟩
        · rename_i hf
          have hf' : (crashS C ks N P k).1 = false := by simpa using hf
          refine ⟨(fun e => by cases e), p.at_, fun x hx => ?_⟩
          unfold Kept
          rw [getP_set, if_neg (by simpa using fun e => hx e.symm)]
          exact h1 hf' x
theorem crash_kept (d : Dk) (ks : List Bool) (n : Int) : ∃ t, ∀ x, x ≠ t → isS x = true → (d.crash ks n).plat x = d.plat x ∨ ∃ p ∈ d.C, p.at_ = x ∧ (d.crash ks n).plat x = p.s := by
  obtain ⟨_, t, h⟩ := crashS_kept d.C d.P ks (clamp n).toNat d.C.length
  refine ⟨t, fun x hx his => ?_⟩
  have := h x hx
  simp only [Dk.plat, his, if_true]
  exact this

/-- a write that is done. -/
def okS (u : St) : Bool := isS u.at_ && decide (u.s.size ≤ 512)
abbrev ptS (u : St) : Pt := ⟨u.at_, pad u.s⟩
/-- a disk with these writes in its cache. -/
abbrev withC (d : Dk) (l : List St) : Dk := { d with C := l.map ptS }
theorem write_with {d : Dk} {l : List St} {u : St} (hde : d.de = false) (hfu : d.fu = false) :
    (okS u = true → (withC d l).writeE u.at_ u.s = 0 ∧ (withC d l).write u.at_ u.s = withC d (l ++ [u])) ∧ (okS u = false → (withC d l).writeE u.at_ u.s ≠ 0 ∧ (withC d l).write u.at_ u.s = withC d l) := by
  have hb : (withC d l).burnB = true := by simp [Dk.burnB, hfu]
  have hb2 : (withC d l).burn = withC d l := by simp [Dk.burn, hfu]
  refine ⟨fun h => ?_, fun h => ?_⟩
  · simp only [okS, Bool.and_eq_true, decide_eq_true_eq] at h
    have h2 : ¬ 512 < u.s.size := by omega
    refine ⟨by simp [Dk.writeE, hde, h.1, h2, hb], ?_⟩
    unfold Dk.write
    rw [hb2, hb]
    simp [hde, h.1, h2]
  · cases his : isS u.at_ with
    | false => exact ⟨by simp [Dk.writeE, hde, his], by simp [Dk.write, hde, his]⟩
    | true =>
      have h2 : 512 < u.s.size := by simpa [okS, his] using h
      exact ⟨by simp [Dk.writeE, hde, his, h2], by simp [Dk.write, hde, his, h2]⟩
theorem sync_fu {d : Dk} (hde : d.de = false) (hfu : d.fu = false) : d.sync.fu = false := by
  have hb : d.burnB = true := by simp [Dk.burnB, hfu]
  have hb2 : d.burn = d := by simp [Dk.burn, hfu]
  simp [Dk.sync, hde, hb, hb2, hfu]

set_option maxRecDepth 100000 in
set_option maxHeartbeats 2000000 in
theorem crash_any_c (g gm : Nat) (v : Value) (d : Dk) (m : Nat) (A : Option Addr) (ks : List Bool) (c : Nat) (n : Int) (w : World) (h : Dsk w g gm v d) (hd : d.Ok m) (hm : m ≤ 1000000) (hA : ∀ wr, Tch w wr g gm v → Cells wr A (ks.map Value.bool)) (hks : ks.length ≤ 9223372036854775807) (_ : I64 n) [DecidableEq Lit] :
    Calls Try.prog 38 #[.pointer (some ⟨g, 0, none⟩), .slice A ks.length c, .int .i64 n] w fun e w' => ∃ v', e = .returned (.tuple #[]) ∧ Dsk w' g gm v' (d.crash ks n) ∧ Then w v v' ∧ Tch w w' g gm v := by
  have HOK := hid hd
  have hlen : d.P.length + d.C.length ≤ 1000000 := by have := hd.len; omega
  obtain ⟨A0, cap0, rfl⟩ := h.own.form
  have hcl : d.C.length ≤ 1000000 := by omega
  have HA := hid hA
  clear hd hm hA
  obtain ⟨c0, c1, c2, c3, c4⟩ := h.cells
  go_enter Try.func38, Try.ntmps38
  go_wp2
  have hcl2 := clamp_le n
  obtain ⟨N, hN⟩ : ∃ N : Nat, max 0 (min n 512) = (N : Int) := ⟨(clamp n).toNat, by unfold clamp at hcl2 ⊢; omega⟩
  have hN2 : N ≤ 512 := by unfold clamp at hcl2; omega
  have HN := hid (show (clamp n).toNat = N by unfold clamp; omega)
  rw [hN]
  clear hN hcl2
  go_loopw [6, 19] (fun t i wr => ∃ k : Nat, i = .int .i64 k ∧ k ≤ d.C.length ∧ t = .bool (crashS d.C ks N d.P k).1 ∧ Dsk wr g gm (.slice A0 d.C.length cap0) { d with P := (crashS d.C ks N d.P k).2 } ∧ Tch w wr g gm (.slice A0 d.C.length cap0)) (fun _ i _ => d.C.length - (intOf i).toNat)
  case atStart => exact ⟨0, rfl, by omega, rfl, h, Tch.refl⟩
  case round =>
    obtain ⟨k, rfl, hk, rfl, hDr, hTr⟩ := hrel
    clear h c0 c1 c2 c3 c4
    by_cases hkl : k < d.C.length
    · obtain ⟨p, hp⟩ := get_of_lt hkl
      have his := HOK.out.C.at_ p (List.mem_of_getElem? hp)
      have hps := HOK.out.C.size p (List.mem_of_getElem? hp)
      have hpa := isS_iff.1 his
      have hpI : I64 p.1 := ⟨by omega, by omega⟩
      have hown := hDr.own
      obtain ⟨b, cap, hv, c1, c2⟩ := hown.at_ (k := k) (p := p) hp
      obtain rfl : A0 = some ⟨b, 0, none⟩ := by injection hv
      have hS : crashS d.C ks N d.P (k + 1) = if (ks[k]?).getD false then ((crashS d.C ks N d.P k).1, setP (crashS d.C ks N d.P k).2 p) else if (crashS d.C ks N d.P k).1 then crashS d.C ks N d.P k else (true, setP (crashS d.C ks N d.P k).2 ⟨p.1, cut p.2 (getP (crashS d.C ks N d.P k).2 p.1) N⟩) := by
        rw [crashS, hp]
      have hPl : (crashS d.C ks N d.P k).2.length ≤ 1000000 := by
        have := crashS_len d.C d.P ks N k
        omega
      have hPs := getP_size (crashS_ok (keep := ks) (n := N) HOK.out.C HOK.out.P hN2 k) p.1
      have HIS := hid his
      have HPS := hid (⟨hps, hPs⟩ : _ ∧ _)
      have hca := (HA.out wr hTr).below (below_alloc wr (.cells #[.int .i64 p.1, .string p.2] 80))
      generalize hst : crashS d.C ks N d.P k = st at *
      obtain ⟨tn, P'⟩ := st
      clear hst hp hv hown hpa his hps hPs
      cases hkk : (ks[k]?).getD false with
      | true =>
        have hkn : k < ks.length := by
          rcases Nat.lt_or_ge k ks.length with h | h
          · exact h
          · rw [List.getElem?_eq_none h] at hkk; cases hkk
        have hkb : ks[k]? = some true := by
          rw [List.getElem?_eq_getElem hkn] at hkk ⊢
          simpa using hkk
        obtain ⟨b2, off2, rfl, c5⟩ := hca.at_map hkb
        rw [hkk] at hS
        simp only [if_true] at hS
        have HS := hid hS
        clear hS hkk hkb hca
        go_wp2_with (fail)
        refine (set_c g gm _ _ p _ (hDr.below (below_alloc _ _)) hpI hPl).mono ?_
        rintro e w3 ⟨rfl, hD3, hT3⟩
        have hT4 := (hTr.next (below_alloc wr (.cells #[.int .i64 p.1, .string p.2] 80))).trans Then.refl hT3
        clear hT3
        go_wp2
        go_roundw
        case rel => exact ⟨k + 1, by go_num, by omega, by rw [HS.out], by rw [HS.out]; exact hD3, hT4⟩
        case measure => simp [intOf]; omega
      | false =>
        rw [hkk] at hS
        simp only [Bool.false_eq_true, if_false] at hS
        have HS := hid hS
        have HKK := hid hkk
        clear hS hkk
        have hT1 := hTr.next (below_alloc wr (.cells #[.int .i64 p.1, .string p.2] 80))
        have hD1 := hDr.below (below_alloc wr (.cells #[.int .i64 p.1, .string p.2] 80))
        have hRow := row1_new wr (pcl p) 80
        simp only [List.toArray] at hRow
        have hway : k < ks.length ∧ ks[k]? = some false ∨ ks.length ≤ k := by
          rcases Nat.lt_or_ge k ks.length with h | h
          · have h2 := HKK.out
            rw [List.getElem?_eq_getElem h] at h2 ⊢
            exact .inl ⟨h, by simpa using h2⟩
          · exact .inr h
        rcases hway with ⟨hkn, hkb⟩ | hkn
        · obtain ⟨b2, off2, rfl, c5⟩ := hca.at_map hkb
          clear hkb hca
          cases tn with
          | true =>
            go_wp2
            go_roundw
            case rel => exact ⟨k + 1, by go_num, by omega, by rw [HS.out]; rfl, by rw [HS.out]; exact hD1, hT1⟩
            case measure => simp [intOf]; omega
          | false =>
            go_wp2
            clear hTr hDr c1 c2
            generalize wr.alloc _ = w1 at *
            generalize wr.heap.size = gb at hRow ⊢
            refine Rgd.wp_region (l := [_, _, _, _, _, _, _, _, _, _, _, _, _, _, _]) (tail := [_]) (Rgd.keep w1 [] [(0, 0), (0, 0), (0, 0), (0, 0), (0, 0), (0, 0), (0, 0), (0, 0), (0, 0), (0, 0), (0, 0), (0, 0), (0, 0), (0, 0), (0, 0)]) [some 41, some 42, some 43, some 44, some 45, some 46, some 47, some 48, some 49, some 50, some 51, some 52, some 53, some 54, some 55, some 56] 64 rfl [[], [], [1], [], [3], [], [3, 4, 5], [], [], [8], [7, 8, 9], [], [7, 8, 9, 10, 11], [3, 4, 5, 6, 7, 8, 9, 10, 11, 12], [1, 2, 3, 4, 5, 6, 7, 8, 9, 10, 11, 12, 13]] (by kernel_rfl) (by kernel_rfl) (by kernel_rfl) (by kernel_rfl) (by kernel_rfl) rfl (Rgd.keep_fair) (Rgd.keep_start _) ?_
            refine' Rgd.op_is _ [] 0 0 rfl rfl rfl (by kernel_rfl) ?_ ?_
            rotate_left
            · intro p wx hp1 hp2 hb
              obtain rfl : p = 0 := by omega
              refine Rgd.from_nil fun T hT => ?_
              go_wp2
              refine hT _ _ rfl (by first | exact Rgd.Keep.refl _ | exact below_of_dr hw2 | exact hw2 | exact (Below.refl _ _).alloc (Nat.le_refl _) _) ?_
              simp only [Rgd.last, List.getElem?_toArray, List.getElem?_cons_succ, List.getElem?_cons_zero, Option.getD_some]
              rfl
            refine' Rgd.op_is _ [] 0 0 rfl rfl rfl (by kernel_rfl) ?_ ?_
            rotate_left
            · intro p wx hp1 hp2 hb
              obtain rfl : p = 0 := by omega
              refine Rgd.from_nil fun T hT => ?_
              go_wp2
              refine hT _ _ rfl (by first | exact Rgd.Keep.refl _ | exact below_of_dr hw2 | exact hw2 | exact (Below.refl _ _).alloc (Nat.le_refl _) _) ?_
              simp only [Rgd.last, List.getElem?_toArray, List.getElem?_cons_succ, List.getElem?_cons_zero, Option.getD_some]
              rfl
            refine' Rgd.op_is _ [1] 0 0 rfl rfl rfl (by kernel_rfl) ?_ ?_
            rotate_left
            · intro p wx hp1 hp2 hb
              obtain rfl : p = 0 := by omega
              refine Rgd.from_is (some 42) rfl rfl ?_
              refine Rgd.from_nil fun T hT => ?_
              have c1 := (hRow.below hb).cell (k := 0) rfl
              go_wp2
              refine hT _ _ rfl (by first | exact Rgd.Keep.refl _ | exact below_of_dr hw2 | exact hw2 | exact (Below.refl _ _).alloc (Nat.le_refl _) _) ?_
              simp only [Rgd.last, List.getElem?_toArray, List.getElem?_cons_succ, List.getElem?_cons_zero, Option.getD_some]
              rfl
            refine' Rgd.op_is _ [] 0 0 rfl rfl rfl (by kernel_rfl) ?_ ?_
            rotate_left
            · intro p wx hp1 hp2 hb
              obtain rfl : p = 0 := by omega
              refine Rgd.from_nil fun T hT => ?_
              go_wp2
              refine hT _ _ rfl (by first | exact Rgd.Keep.refl _ | exact below_of_dr hw2 | exact hw2 | exact (Below.refl _ _).alloc (Nat.le_refl _) _) ?_
              simp only [Rgd.last, List.getElem?_toArray, List.getElem?_cons_succ, List.getElem?_cons_zero, Option.getD_some]
              rfl
            refine' Rgd.op_is _ [3] 0 0 rfl rfl rfl (by kernel_rfl) ?_ ?_
            rotate_left
            · intro p wx hp1 hp2 hb
              obtain rfl : p = 0 := by omega
              refine Rgd.from_is (some 44) rfl rfl ?_
              refine Rgd.from_nil fun T hT => ?_
              have c1 := (hRow.below hb).cell (k := 1) rfl
              go_wp2
              refine hT _ _ rfl (by first | exact Rgd.Keep.refl _ | exact below_of_dr hw2 | exact hw2 | exact (Below.refl _ _).alloc (Nat.le_refl _) _) ?_
              simp only [Rgd.last, List.getElem?_toArray, List.getElem?_cons_succ, List.getElem?_cons_zero, Option.getD_some]
              rfl
            refine' Rgd.op_is _ [] 0 0 rfl rfl rfl (by kernel_rfl) ?_ ?_
            rotate_left
            · intro p wx hp1 hp2 hb
              obtain rfl : p = 0 := by omega
              refine Rgd.from_nil fun T hT => ?_
              go_wp2
              refine hT _ _ rfl (by first | exact Rgd.Keep.refl _ | exact below_of_dr hw2 | exact hw2 | exact (Below.refl _ _).alloc (Nat.le_refl _) _) ?_
              simp only [Rgd.last, List.getElem?_toArray, List.getElem?_cons_succ, List.getElem?_cons_zero, Option.getD_some]
              rfl
            refine Rgd.op_is (.string (p.2.extract 0 N)) [4, 5] 0 0 rfl rfl rfl (by kernel_rfl) ?_ ?_
            · intro p wx hp1 hp2 hb
              obtain rfl : p = 0 := by omega
              refine Rgd.from_is (some 45) rfl rfl ?_
              refine Rgd.from_is (some 46) rfl rfl ?_
              refine Rgd.from_nil fun T hT => ?_
              have hps := HPS.out.1
              go_wp2
              exact hT _ _ rfl (Rgd.Keep.refl _) rfl
            refine' Rgd.op_is _ [] 0 0 rfl rfl rfl (by kernel_rfl) ?_ ?_
            rotate_left
            · intro p wx hp1 hp2 hb
              obtain rfl : p = 0 := by omega
              refine Rgd.from_nil fun T hT => ?_
              go_wp2
              refine hT _ _ rfl (by first | exact Rgd.Keep.refl _ | exact below_of_dr hw2 | exact hw2 | exact (Below.refl _ _).alloc (Nat.le_refl _) _) ?_
              simp only [Rgd.last, List.getElem?_toArray, List.getElem?_cons_succ, List.getElem?_cons_zero, Option.getD_some]
              rfl
            refine' Rgd.op_is _ [] 0 0 rfl rfl rfl (by kernel_rfl) ?_ ?_
            rotate_left
            · intro p wx hp1 hp2 hb
              obtain rfl : p = 0 := by omega
              refine Rgd.from_nil fun T hT => ?_
              go_wp2
              refine hT _ _ rfl (by first | exact Rgd.Keep.refl _ | exact below_of_dr hw2 | exact hw2 | exact (Below.refl _ _).alloc (Nat.le_refl _) _) ?_
              simp only [Rgd.last, List.getElem?_toArray, List.getElem?_cons_succ, List.getElem?_cons_zero, Option.getD_some]
              rfl
            refine' Rgd.op_is _ [8] 0 0 rfl rfl rfl (by kernel_rfl) ?_ ?_
            rotate_left
            · intro p wx hp1 hp2 hb
              obtain rfl : p = 0 := by omega
              refine Rgd.from_is (some 49) rfl rfl ?_
              refine Rgd.from_nil fun T hT => ?_
              have c1 := (hRow.below hb).cell (k := 0) rfl
              go_wp2
              refine hT _ _ rfl (by first | exact Rgd.Keep.refl _ | exact below_of_dr hw2 | exact hw2 | exact (Below.refl _ _).alloc (Nat.le_refl _) _) ?_
              simp only [Rgd.last, List.getElem?_toArray, List.getElem?_cons_succ, List.getElem?_cons_zero, Option.getD_some]
              rfl
            refine Rgd.op_is (.string (getP P' p.1)) [7, 9] 0 0 rfl rfl rfl (by kernel_rfl) ?_ ?_
            · intro p wx hp1 hp2 hb
              obtain rfl : p = 0 := by omega
              refine Rgd.from_is (some 48) rfl rfl ?_
              refine Rgd.from_is (some 50) rfl rfl ?_
              refine Rgd.from_nil fun T hT => ?_
              go_wp2_with (fail)
              refine (platter_c g gm _ _ p.1 _ (hD1.below hb) hpI).mono ?_
              rintro e wy ⟨rfl, hk⟩
              go_wp2
              exact hT _ _ rfl hk (by simp [Rgd.last, Dk.plat, HIS.out])
            refine' Rgd.op_is _ [] 0 0 rfl rfl rfl (by kernel_rfl) ?_ ?_
            rotate_left
            · intro p wx hp1 hp2 hb
              obtain rfl : p = 0 := by omega
              refine Rgd.from_nil fun T hT => ?_
              go_wp2
              refine hT _ _ rfl (by first | exact Rgd.Keep.refl _ | exact below_of_dr hw2 | exact hw2 | exact (Below.refl _ _).alloc (Nat.le_refl _) _) ?_
              simp only [Rgd.last, List.getElem?_toArray, List.getElem?_cons_succ, List.getElem?_cons_zero, Option.getD_some]
              rfl
            refine Rgd.op_is (.string ((getP P' p.1).extract N 512)) [10, 11] 0 0 rfl rfl rfl (by kernel_rfl) ?_ ?_
            · intro p wx hp1 hp2 hb
              obtain rfl : p = 0 := by omega
              refine Rgd.from_is (some 51) rfl rfl ?_
              refine Rgd.from_is (some 52) rfl rfl ?_
              refine Rgd.from_nil fun T hT => ?_
              have hps := HPS.out.2
              go_wp2
              exact hT _ _ rfl (Rgd.Keep.refl _) (by simp [Rgd.last, hps])
            refine Rgd.op_is (.string (cut p.2 (getP P' p.1) N)) [6, 12] 0 0 rfl rfl rfl (by kernel_rfl) ?_ ?_
            · intro p wx hp1 hp2 hb
              obtain rfl : p = 0 := by omega
              refine Rgd.from_is (some 47) rfl rfl ?_
              refine Rgd.from_is (some 53) rfl rfl ?_
              refine Rgd.from_nil fun T hT => ?_
              have hps := HPS.out
              go_wp2
              exact hT _ _ rfl (Rgd.Keep.refl _) rfl
            refine' Rgd.op_is _ [2, 13] 0 0 rfl rfl rfl (by kernel_rfl) ?_ ?_
            rotate_left
            · intro p wx hp1 hp2 hb
              obtain rfl : p = 0 := by omega
              refine Rgd.from_is (some 43) rfl rfl ?_
              refine Rgd.from_is (some 54) rfl rfl ?_
              refine Rgd.from_nil fun T hT => ?_
              go_wp2
              refine hT _ _ rfl (by first | exact Rgd.Keep.refl _ | exact below_of_dr hw2 | exact hw2 | exact (Below.refl _ _).alloc (Nat.le_refl _) _) ?_
              simp only [Rgd.last, List.getElem?_toArray, List.getElem?_cons_succ, List.getElem?_cons_zero, Option.getD_some]
              rfl
            refine Rgd.walk_nil [0, 1, 2, 3, 4, 5, 6, 7, 8, 9, 10, 11, 12, 13, 14] (by kernel_rfl) ?_
            intro wx hb
            refine Rgd.from_is (some 41) rfl rfl ?_
            refine Rgd.from_is (some 42) rfl rfl ?_
            refine Rgd.from_is (some 43) rfl rfl ?_
            refine Rgd.from_is (some 44) rfl rfl ?_
            refine Rgd.from_is (some 45) rfl rfl ?_
            refine Rgd.from_is (some 46) rfl rfl ?_
            refine Rgd.from_is (some 47) rfl rfl ?_
            refine Rgd.from_is (some 48) rfl rfl ?_
            refine Rgd.from_is (some 49) rfl rfl ?_
            refine Rgd.from_is (some 50) rfl rfl ?_
            refine Rgd.from_is (some 51) rfl rfl ?_
            refine Rgd.from_is (some 52) rfl rfl ?_
            refine Rgd.from_is (some 53) rfl rfl ?_
            refine Rgd.from_is (some 54) rfl rfl ?_
            refine Rgd.from_is (some 55) rfl rfl ?_
            refine Rgd.from_nil ?_
            simp only [List.map, Act.put, List.setIfInBounds_toArray, List.set_cons_zero, List.set_cons_succ]
            have hD2 := hD1.below hb
            have hT2 := hT1.next hb
            go_wp2_with (fail)
            refine (set_c g gm _ _ ⟨p.1, cut p.2 (getP P' p.1) N⟩ _ hD2 hpI hPl).mono ?_
            rintro e w3 ⟨rfl, hD3, hT3⟩
            have hT4 := hT2.trans Then.refl hT3
            clear hT3
            go_wp2
            go_roundw
            case rel => exact ⟨k + 1, by go_num, by omega, by rw [HS.out]; rfl, by rw [HS.out]; exact hD3, hT4⟩
            case measure => simp [intOf]; omega
        · clear hca
          cases tn with
          | true =>
            go_wp2
            go_roundw
            case rel => exact ⟨k + 1, by go_num, by omega, by rw [HS.out]; rfl, by rw [HS.out]; exact hD1, hT1⟩
            case measure => simp [intOf]; omega
          | false =>
            go_wp2
            clear hTr hDr c1 c2
            generalize wr.alloc _ = w1 at *
            generalize wr.heap.size = gb at hRow ⊢
            refine Rgd.wp_region (l := [_, _, _, _, _, _, _, _, _, _, _, _, _, _, _]) (tail := [_]) (Rgd.keep w1 [] [(0, 0), (0, 0), (0, 0), (0, 0), (0, 0), (0, 0), (0, 0), (0, 0), (0, 0), (0, 0), (0, 0), (0, 0), (0, 0), (0, 0), (0, 0)]) [some 41, some 42, some 43, some 44, some 45, some 46, some 47, some 48, some 49, some 50, some 51, some 52, some 53, some 54, some 55, some 56] 64 rfl [[], [], [1], [], [3], [], [3, 4, 5], [], [], [8], [7, 8, 9], [], [7, 8, 9, 10, 11], [3, 4, 5, 6, 7, 8, 9, 10, 11, 12], [1, 2, 3, 4, 5, 6, 7, 8, 9, 10, 11, 12, 13]] (by kernel_rfl) (by kernel_rfl) (by kernel_rfl) (by kernel_rfl) (by kernel_rfl) rfl (Rgd.keep_fair) (Rgd.keep_start _) ?_
            refine' Rgd.op_is _ [] 0 0 rfl rfl rfl (by kernel_rfl) ?_ ?_
            rotate_left
            · intro p wx hp1 hp2 hb
              obtain rfl : p = 0 := by omega
              refine Rgd.from_nil fun T hT => ?_
              go_wp2
              refine hT _ _ rfl (by first | exact Rgd.Keep.refl _ | exact below_of_dr hw2 | exact hw2 | exact (Below.refl _ _).alloc (Nat.le_refl _) _) ?_
              simp only [Rgd.last, List.getElem?_toArray, List.getElem?_cons_succ, List.getElem?_cons_zero, Option.getD_some]
              rfl
            refine' Rgd.op_is _ [] 0 0 rfl rfl rfl (by kernel_rfl) ?_ ?_
            rotate_left
            · intro p wx hp1 hp2 hb
              obtain rfl : p = 0 := by omega
              refine Rgd.from_nil fun T hT => ?_
              go_wp2
              refine hT _ _ rfl (by first | exact Rgd.Keep.refl _ | exact below_of_dr hw2 | exact hw2 | exact (Below.refl _ _).alloc (Nat.le_refl _) _) ?_
              simp only [Rgd.last, List.getElem?_toArray, List.getElem?_cons_succ, List.getElem?_cons_zero, Option.getD_some]
              rfl
            refine' Rgd.op_is _ [1] 0 0 rfl rfl rfl (by kernel_rfl) ?_ ?_
            rotate_left
            · intro p wx hp1 hp2 hb
              obtain rfl : p = 0 := by omega
              refine Rgd.from_is (some 42) rfl rfl ?_
              refine Rgd.from_nil fun T hT => ?_
              have c1 := (hRow.below hb).cell (k := 0) rfl
              go_wp2
              refine hT _ _ rfl (by first | exact Rgd.Keep.refl _ | exact below_of_dr hw2 | exact hw2 | exact (Below.refl _ _).alloc (Nat.le_refl _) _) ?_
              simp only [Rgd.last, List.getElem?_toArray, List.getElem?_cons_succ, List.getElem?_cons_zero, Option.getD_some]
              rfl
            refine' Rgd.op_is _ [] 0 0 rfl rfl rfl (by kernel_rfl) ?_ ?_
            rotate_left
            · intro p wx hp1 hp2 hb
              obtain rfl : p = 0 := by omega
              refine Rgd.from_nil fun T hT => ?_
              go_wp2
              refine hT _ _ rfl (by first | exact Rgd.Keep.refl _ | exact below_of_dr hw2 | exact hw2 | exact (Below.refl _ _).alloc (Nat.le_refl _) _) ?_
              simp only [Rgd.last, List.getElem?_toArray, List.getElem?_cons_succ, List.getElem?_cons_zero, Option.getD_some]
              rfl
            refine' Rgd.op_is _ [3] 0 0 rfl rfl rfl (by kernel_rfl) ?_ ?_
            rotate_left
            · intro p wx hp1 hp2 hb
              obtain rfl : p = 0 := by omega
              refine Rgd.from_is (some 44) rfl rfl ?_
              refine Rgd.from_nil fun T hT => ?_
              have c1 := (hRow.below hb).cell (k := 1) rfl
              go_wp2
              refine hT _ _ rfl (by first | exact Rgd.Keep.refl _ | exact below_of_dr hw2 | exact hw2 | exact (Below.refl _ _).alloc (Nat.le_refl _) _) ?_
              simp only [Rgd.last, List.getElem?_toArray, List.getElem?_cons_succ, List.getElem?_cons_zero, Option.getD_some]
              rfl
            refine' Rgd.op_is _ [] 0 0 rfl rfl rfl (by kernel_rfl) ?_ ?_
            rotate_left
            · intro p wx hp1 hp2 hb
              obtain rfl : p = 0 := by omega
              refine Rgd.from_nil fun T hT => ?_
              go_wp2
              refine hT _ _ rfl (by first | exact Rgd.Keep.refl _ | exact below_of_dr hw2 | exact hw2 | exact (Below.refl _ _).alloc (Nat.le_refl _) _) ?_
              simp only [Rgd.last, List.getElem?_toArray, List.getElem?_cons_succ, List.getElem?_cons_zero, Option.getD_some]
              rfl
            refine Rgd.op_is (.string (p.2.extract 0 N)) [4, 5] 0 0 rfl rfl rfl (by kernel_rfl) ?_ ?_
            · intro p wx hp1 hp2 hb
              obtain rfl : p = 0 := by omega
              refine Rgd.from_is (some 45) rfl rfl ?_
              refine Rgd.from_is (some 46) rfl rfl ?_
              refine Rgd.from_nil fun T hT => ?_
              have hps := HPS.out.1
              go_wp2
              exact hT _ _ rfl (Rgd.Keep.refl _) rfl
            refine' Rgd.op_is _ [] 0 0 rfl rfl rfl (by kernel_rfl) ?_ ?_
            rotate_left
            · intro p wx hp1 hp2 hb
              obtain rfl : p = 0 := by omega
              refine Rgd.from_nil fun T hT => ?_
              go_wp2
              refine hT _ _ rfl (by first | exact Rgd.Keep.refl _ | exact below_of_dr hw2 | exact hw2 | exact (Below.refl _ _).alloc (Nat.le_refl _) _) ?_
              simp only [Rgd.last, List.getElem?_toArray, List.getElem?_cons_succ, List.getElem?_cons_zero, Option.getD_some]
              rfl
            refine' Rgd.op_is _ [] 0 0 rfl rfl rfl (by kernel_rfl) ?_ ?_
            rotate_left
            · intro p wx hp1 hp2 hb
              obtain rfl : p = 0 := by omega
              refine Rgd.from_nil fun T hT => ?_
              go_wp2
              refine hT _ _ rfl (by first | exact Rgd.Keep.refl _ | exact below_of_dr hw2 | exact hw2 | exact (Below.refl _ _).alloc (Nat.le_refl _) _) ?_
              simp only [Rgd.last, List.getElem?_toArray, List.getElem?_cons_succ, List.getElem?_cons_zero, Option.getD_some]
              rfl
            refine' Rgd.op_is _ [8] 0 0 rfl rfl rfl (by kernel_rfl) ?_ ?_
            rotate_left
            · intro p wx hp1 hp2 hb
              obtain rfl : p = 0 := by omega
              refine Rgd.from_is (some 49) rfl rfl ?_
              refine Rgd.from_nil fun T hT => ?_
              have c1 := (hRow.below hb).cell (k := 0) rfl
              go_wp2
              refine hT _ _ rfl (by first | exact Rgd.Keep.refl _ | exact below_of_dr hw2 | exact hw2 | exact (Below.refl _ _).alloc (Nat.le_refl _) _) ?_
              simp only [Rgd.last, List.getElem?_toArray, List.getElem?_cons_succ, List.getElem?_cons_zero, Option.getD_some]
              rfl
            refine Rgd.op_is (.string (getP P' p.1)) [7, 9] 0 0 rfl rfl rfl (by kernel_rfl) ?_ ?_
            · intro p wx hp1 hp2 hb
              obtain rfl : p = 0 := by omega
              refine Rgd.from_is (some 48) rfl rfl ?_
              refine Rgd.from_is (some 50) rfl rfl ?_
              refine Rgd.from_nil fun T hT => ?_
              go_wp2_with (fail)
              refine (platter_c g gm _ _ p.1 _ (hD1.below hb) hpI).mono ?_
              rintro e wy ⟨rfl, hk⟩
              go_wp2
              exact hT _ _ rfl hk (by simp [Rgd.last, Dk.plat, HIS.out])
            refine' Rgd.op_is _ [] 0 0 rfl rfl rfl (by kernel_rfl) ?_ ?_
            rotate_left
            · intro p wx hp1 hp2 hb
              obtain rfl : p = 0 := by omega
              refine Rgd.from_nil fun T hT => ?_
              go_wp2
              refine hT _ _ rfl (by first | exact Rgd.Keep.refl _ | exact below_of_dr hw2 | exact hw2 | exact (Below.refl _ _).alloc (Nat.le_refl _) _) ?_
              simp only [Rgd.last, List.getElem?_toArray, List.getElem?_cons_succ, List.getElem?_cons_zero, Option.getD_some]
              rfl
            refine Rgd.op_is (.string ((getP P' p.1).extract N 512)) [10, 11] 0 0 rfl rfl rfl (by kernel_rfl) ?_ ?_
            · intro p wx hp1 hp2 hb
              obtain rfl : p = 0 := by omega
              refine Rgd.from_is (some 51) rfl rfl ?_
              refine Rgd.from_is (some 52) rfl rfl ?_
              refine Rgd.from_nil fun T hT => ?_
              have hps := HPS.out.2
              go_wp2
              exact hT _ _ rfl (Rgd.Keep.refl _) (by simp [Rgd.last, hps])
            refine Rgd.op_is (.string (cut p.2 (getP P' p.1) N)) [6, 12] 0 0 rfl rfl rfl (by kernel_rfl) ?_ ?_
            · intro p wx hp1 hp2 hb
              obtain rfl : p = 0 := by omega
              refine Rgd.from_is (some 47) rfl rfl ?_
              refine Rgd.from_is (some 53) rfl rfl ?_
              refine Rgd.from_nil fun T hT => ?_
              have hps := HPS.out
              go_wp2
              exact hT _ _ rfl (Rgd.Keep.refl _) rfl
            refine' Rgd.op_is _ [2, 13] 0 0 rfl rfl rfl (by kernel_rfl) ?_ ?_
            rotate_left
            · intro p wx hp1 hp2 hb
              obtain rfl : p = 0 := by omega
              refine Rgd.from_is (some 43) rfl rfl ?_
              refine Rgd.from_is (some 54) rfl rfl ?_
              refine Rgd.from_nil fun T hT => ?_
              go_wp2
              refine hT _ _ rfl (by first | exact Rgd.Keep.refl _ | exact below_of_dr hw2 | exact hw2 | exact (Below.refl _ _).alloc (Nat.le_refl _) _) ?_
              simp only [Rgd.last, List.getElem?_toArray, List.getElem?_cons_succ, List.getElem?_cons_zero, Option.getD_some]
              rfl
            refine Rgd.walk_nil [0, 1, 2, 3, 4, 5, 6, 7, 8, 9, 10, 11, 12, 13, 14] (by kernel_rfl) ?_
            intro wx hb
            refine Rgd.from_is (some 41) rfl rfl ?_
            refine Rgd.from_is (some 42) rfl rfl ?_
            refine Rgd.from_is (some 43) rfl rfl ?_
            refine Rgd.from_is (some 44) rfl rfl ?_
            refine Rgd.from_is (some 45) rfl rfl ?_
            refine Rgd.from_is (some 46) rfl rfl ?_
            refine Rgd.from_is (some 47) rfl rfl ?_
            refine Rgd.from_is (some 48) rfl rfl ?_
            refine Rgd.from_is (some 49) rfl rfl ?_
            refine Rgd.from_is (some 50) rfl rfl ?_
            refine Rgd.from_is (some 51) rfl rfl ?_
            refine Rgd.from_is (some 52) rfl rfl ?_
            refine Rgd.from_is (some 53) rfl rfl ?_
            refine Rgd.from_is (some 54) rfl rfl ?_
            refine Rgd.from_is (some 55) rfl rfl ?_
            refine Rgd.from_nil ?_
            simp only [List.map, Act.put, List.setIfInBounds_toArray, List.set_cons_zero, List.set_cons_succ]
            have hD2 := hD1.below hb
            have hT2 := hT1.next hb
            go_wp2_with (fail)
            refine (set_c g gm _ _ ⟨p.1, cut p.2 (getP P' p.1) N⟩ _ hD2 hpI hPl).mono ?_
            rintro e w3 ⟨rfl, hD3, hT3⟩
            have hT4 := hT2.trans Then.refl hT3
            clear hT3
            go_wp2
            go_roundw
            case rel => exact ⟨k + 1, by go_num, by omega, by rw [HS.out]; rfl, by rw [HS.out]; exact hD3, hT4⟩
            case measure => simp [intOf]; omega
    · obtain rfl : k = d.C.length := by omega
      obtain ⟨c0, c1, c2, c3, c4⟩ := hDr.cells
      obtain ⟨f0, f1, f2, f3, f4⟩ := hDr.free
      go_wp2
      go_end0
      have h1 : Dsk (wr.setCell ⟨g, 1, none⟩ (.slice none 0 0)) g gm (.slice none 0 0) { d with P := (crashS d.C ks N d.P d.C.length).2, C := [] } := ⟨hDr.row.set 1 _, hDr.map.far hDr.lt.2.2 _, OwnP.nil _ _⟩
      have h2 := h1.set 4 (.bool true) (d' := d.crash ks n) (by unfold Dk.crash; rw [HN.out]) rfl rfl
      exact ⟨rfl, _, h2, (fun b hb => by cases hb), (hTr.set _ _).set _ _⟩
end Go.Proofs.Ythllhnjbddpeoaa
