/-
  The polynomial that fits points: the program's.
-/
import Derived.Test.YtmmmdidbnjcooaaDoorRobC
namespace Go.Proofs.YtmmmdidbnjcooaaDoor
open Go.RowKit Go.Shelf

attribute [local go_sem] Oper.semAt_some

theorem tVal_len {xs ys : List Int} {q : Int} (h : tErr xs ys q = 0) : (tVal xs ys q).length = xs.length := by
  have he : eAll xs q = 0 := by
    unfold tErr at h
    split at h
    · exact h
    · omega
  have hk : okm q = true := by
    by_cases h0 : eUnlike xs q = 0
    · exact unlike_okm h0
    · rw [eAll_bad h0] at he; exact absurd he h0
  rw [tVal_ok h, pOut_len hk]
theorem tVal_u64 (xs ys : List Int) (q : Int) : U64s (tVal xs ys q) := by
  unfold tVal
  split
  · exact pOut_u64 _ _ _ _
  · intro z hz; cases hz

/-- what a set of points tells, if it tells something. -/
noncomputable def tryS (xs ys : List Int) (t q : Int) (s : List Nat) : Option (List Int × List Nat × Int) :=
  if tErr (pick xs s) (pick ys s) q = 0 then
    if (xs.length : Int) - (offL xs ys (tVal (pick xs s) (pick ys s) q) q).length > 2 * t then some (tVal (pick xs s) (pick ys s) q, offL xs ys (tVal (pick xs s) (pick ys s) q) q, 0) else none
  else some ([], [], tErr (pick xs s) (pick ys s) q)
noncomputable def decR (xs ys : List Int) (t q : Int) : List Int × List Nat × Int :=
  if t < 0 ∨ t > 2 ∨ xs.length ≠ ys.length ∨ primeV q = false then ([], [], 1)
  else if xs.length > 7 then ([], [], 40)
  else if eAll xs q ≠ 0 then ([], [], eAll xs q)
  else ((setsL (t.toNat + 1) 0 xs.length).findSome? (tryS xs ys t q)).getD ([], [], 5)
def DecR (r : List Int × List Nat × Int) (w : World) (x : Ending) (w' : World) : Prop :=
  ∃ v1 v2, x = .returned (.tuple #[v1, v2, .int .i64 r.2.2]) ∧ Own w' w.heap.size 24 v1 (r.1.map (.int .u64)) ∧ Own w' w.heap.size 3 v2 (natv r.2.1) ∧ Below w.heap.size w w'
theorem DecR.none (e : Int) (w w' : World) (hb : Below w.heap.size w w') : DecR ([], [], e) w (.returned (.tuple #[.slice none 0 0, .slice none 0 0, .int .i64 e])) w' :=
  ⟨_, _, rfl, Own.nil _ _ _, Own.nil _ _ _, hb⟩
/-- what lies in memory while sets are tried. -/
structure DS (gx gt g8 g9 g10 gp : Nat) (A B : Option Addr) (n m c d : Nat) (t q : Int) (N : Nat) (w0 w : World) : Prop where
  X : Row1 w gx 25 [.slice A n c]
  T : Row1 w gt 3 [.int .i64 t]
  R8 : Row1 w g8 25 [.slice none 0 0]
  R9 : Row1 w g9 46 [.slice none 0 0]
  R10 : Row1 w g10 27 [.int .i64 0]
  P : Row1 w gp 92 (ptsL A B n m c d q)
  b : Below N w0 w
theorem DS.below {gx gt g8 g9 g10 gp : Nat} {A B : Option Addr} {n m c d : Nat} {t q : Int} {N : Nat} {w0 w5 w w' : World} (h : DS gx gt g8 g9 g10 gp A B n m c d t q N w0 w) (h5 : DS gx gt g8 g9 g10 gp A B n m c d t q N w0 w5) (hN : N ≤ w5.heap.size) (hb : Below w5.heap.size w w') : DS gx gt g8 g9 g10 gp A B n m c d t q N w0 w' :=
  ⟨h.X.keep (hb.block _ h5.X.lt), h.T.keep (hb.block _ h5.T.lt), h.R8.keep (hb.block _ h5.R8.lt), h.R9.keep (hb.block _ h5.R9.lt), h.R10.keep (hb.block _ h5.R10.lt), h.P.keep (hb.block _ h5.P.lt), h.b.trans (hb.mono hN)⟩
theorem Own.cu {A B : World} {base : Nat} {e : TypeId} {v : Value} {xs : List Value} (h : Own A base e v xs) (hc : CellsUp 0 A B) : Own B base e v xs := h.keep fun g hg => by
  rcases h.2 with ⟨rfl, h0⟩ | ⟨g', cap, cur, rfl, hb, hg', hn, hm, hs, ht⟩
  · cases hg
  · simp only [Value.ownBlock, Option.some.injEq] at hg
    subst hg
    exact hc _ _ _ _ (Nat.zero_le _) hg'
/-- what is told. -/
structure DX (g8 g9 g10 : Nat) (r : List Int × List Nat × Int) (N : Nat) (w0 w : World) : Prop where
  ex : ∃ v1 v2, Row1 w g8 25 [v1] ∧ Row1 w g9 46 [v2] ∧ Own w N 24 v1 (r.1.map (.int .u64)) ∧ Own w N 3 v2 (natv r.2.1)
  R10 : Row1 w g10 27 [.int .i64 r.2.2]
  b : Below N w0 w
theorem DX.cu {g8 g9 g10 : Nat} {r : List Int × List Nat × Int} {N : Nat} {w0 A B : World} (h : DX g8 g9 g10 r N w0 A) (hc : CellsUp 0 A B) (hb : Below N w0 B) : DX g8 g9 g10 r N w0 B := by
  obtain ⟨v1, v2, h1, h2, h3, h4⟩ := h.ex
  exact ⟨⟨v1, v2, h1.up hc (Nat.zero_le _), h2.up hc (Nat.zero_le _), h3.cu hc, h4.cu hc⟩, h.R10.up hc (Nat.zero_le _), hb⟩
theorem Up.setCell {N : Nat} {A B : World} {p : Addr} (h : Up N A B) (hp : p.block < N) (u : Value) : Up N A (B.setCell p u) := ⟨by simpa using h.1, fun b h1 h2 => (Below.heap_setCell B p u b (by omega)).trans (h.2 b h1 h2)⟩
theorem Own.setCell {A : World} {base : Nat} {e : TypeId} {v : Value} {xs : List Value} {p : Addr} (h : Own A base e v xs) (hp : p.block < base) (u : Value) : Own (A.setCell p u) base e v xs := h.keep fun g hg => Below.heap_setCell A p u g (by have := (h.block g hg).1; omega)
theorem find_at {α β : Type} {f : α → Option β} {pre rest : List α} {s : α} {r : β} (h1 : ∀ x ∈ pre, f x = none) (h2 : f s = some r) : (pre ++ s :: rest).findSome? f = some r := by
  rw [List.findSome?_append, List.findSome?_eq_none_iff.2 h1, List.findSome?_cons, h2]; rfl
theorem find_no {α β : Type} {f : α → Option β} {l : List α} (h1 : ∀ x ∈ l, f x = none) : l.findSome? f = none := List.findSome?_eq_none_iff.2 h1
set_option maxRecDepth 100000 in
set_option maxHeartbeats 8000000 in
theorem dec_c (A B : Option Addr) (l m : List Int) (c d : Nat) (t q : Int) (w : World) (hA : Cells w A (l.map (.int .u64))) (hB : Cells w B (m.map (.int .u64))) (hl : l.length ≤ 1000) (hlm : m.length ≤ 1000) (hu : U64s l) (hu' : U64s m) (ht : I64 t) (hq : U64 q) (hTab : Tabs w) :
    Calls Tryd.prog 23 #[.slice A l.length c, .slice B m.length d, .int .i64 t, .int .u64 q] w (DecR (decR l m t q) w) := by
  have HA := hid hA
  have HB := hid hB
  have HT := hid hTab
  have HD := hid (show decR l m t q = decR l m t q from rfl)
  clear hA hB hTab
  refine (callsIn_wide (n := 10)).1 ?_
  refine callsIn_of_wp_marks Tryd.func23 rfl trivial ?_ rfl
  refine (wpIn_wide (n := 10)).2 ?_
  simp only [Tryd.ntmps23, List.size_toArray, List.length_cons, List.length_nil, Nat.reduceAdd, Nat.reduceSub, Array.replicate_succ, Array.replicate_zero, List.push_toArray, List.append_toArray, List.nil_append, List.cons_append]
  go_upto_region 1 with (fail)
  have k1 := (row1_new w [.slice A l.length c] 25)
  have k2 := (row1_in (w.alloc (.cells #[.slice A l.length c] 25)) [.int .i64 t] 3 (w.heap.size + 1) (by simp))
  have k3 := (row1_in ((w.alloc (.cells #[.slice A l.length c] 25)).alloc (.cells #[.int .i64 t] 3)) [.slice none 0 0] 25 (w.heap.size + 1 + 1) (by simp))
  have k4 := (row1_in (((w.alloc (.cells #[.slice A l.length c] 25)).alloc (.cells #[.int .i64 t] 3)).alloc (.cells #[.slice none 0 0] 25)) [.slice none 0 0] 46 (w.heap.size + 1 + 1 + 1) (by simp))
  have k5 := (row1_in ((((w.alloc (.cells #[.slice A l.length c] 25)).alloc (.cells #[.int .i64 t] 3)).alloc (.cells #[.slice none 0 0] 25)).alloc (.cells #[.slice none 0 0] 46)) [.int .i64 0] 27 (w.heap.size + 1 + 1 + 1 + 1) (by simp))
  have KX := (((k1.alloc (.cells #[.int .i64 t] 3)).alloc (.cells #[.slice none 0 0] 25)).alloc (.cells #[.slice none 0 0] 46)).alloc (.cells #[.int .i64 0] 27)
  have KT := ((k2.alloc (.cells #[.slice none 0 0] 25)).alloc (.cells #[.slice none 0 0] 46)).alloc (.cells #[.int .i64 0] 27)
  have K8 := (k3.alloc (.cells #[.slice none 0 0] 46)).alloc (.cells #[.int .i64 0] 27)
  have K9 := k4.alloc (.cells #[.int .i64 0] 27)
  have K10 := k5
  have KB := ((((below_alloc w (.cells #[.slice A l.length c] 25)).alloc (by simp) (.cells #[.int .i64 t] 3)).alloc (by simp; omega) (.cells #[.slice none 0 0] 25)).alloc (by simp; omega) (.cells #[.slice none 0 0] 46)).alloc (by simp; omega) (.cells #[.int .i64 0] 27)
  clear k1 k2 k3 k4 k5
  simp only [List.toArray] at KX KT K8 K9 K10 KB
  generalize ((((w.alloc (.cells #[.slice A l.length c] 25)).alloc (.cells #[.int .i64 t] 3)).alloc (.cells #[.slice none 0 0] 25)).alloc (.cells #[.slice none 0 0] 46)).alloc (.cells #[.int .i64 0] 27) = w1 at *
  obtain ⟨g10, e10⟩ : ∃ g, w.heap.size + 1 + 1 + 1 + 1 = g := ⟨_, rfl⟩
  obtain ⟨g9, e9⟩ : ∃ g, w.heap.size + 1 + 1 + 1 = g := ⟨_, rfl⟩
  obtain ⟨g8, e8⟩ : ∃ g, w.heap.size + 1 + 1 = g := ⟨_, rfl⟩
  obtain ⟨gt, et⟩ : ∃ g, w.heap.size + 1 = g := ⟨_, rfl⟩
  obtain ⟨gx, ex⟩ : ∃ g, w.heap.size = g := ⟨_, rfl⟩
  rw [e10] at K10 ⊢
  rw [e9] at K9 ⊢
  rw [e8] at K8 ⊢
  rw [et] at KT ⊢
  rw [ex]
  have KX' : Row1 w1 gx 25 [.slice A l.length c] := by rw [← ex]; exact KX
  clear KX
  have n8 : w.heap.size ≤ g8 := by omega
  have n9 : w.heap.size ≤ g9 := by omega
  have n10 : w.heap.size ≤ g10 := by omega
  have d1 : g8 ≠ g9 := by omega
  have d2 : g8 ≠ g10 := by omega
  have d3 : g9 ≠ g10 := by omega
  have dx1 : gx < g8 := by omega
  have dx2 : gt < g8 := by omega
  have dx3 : g8 < g9 := by omega
  have dx4 : g9 < g10 := by omega
  have EX := hid ex
  clear e10 e9 e8 et ex
  have cX := KX'.cell (k := 0) rfl
  have cT := KT.cell (k := 0) rfl
  have f8 := K8.frozen 0
  have f9 := K9.frozen 0
  have f10 := K10.frozen 0
  have c8 := K8.cell (k := 0) rfl
  have c9 := K9.cell (k := 0) rfl
  have c10 := K10.cell (k := 0) rfl
  have hbad := hid (show (t < 0 ∨ t > 2 ∨ l.length ≠ m.length ∨ primeV q = false) → decR l m t q = ([], [], 1) from fun h => if_pos h)
  by_cases ht0 : t < 0
  · go_wp2
    refine ⟨.tuple #[.slice none 0 0, .slice none 0 0, .int .i64 1], ?_, ?_⟩
    · have q8 := (((K8.set 0 (.slice none 0 0)).far (p := ⟨g9, 0, none⟩) (by simp; omega) (.slice none 0 0)).far (p := ⟨g10, 0, none⟩) (by simp; omega) (.int .i64 1)).cell (k := 0) rfl
      have q9 := (((K9.far (p := ⟨g8, 0, none⟩) (by simp; omega) (.slice none 0 0)).set 0 (.slice none 0 0)).far (p := ⟨g10, 0, none⟩) (by simp; omega) (.int .i64 1)).cell (k := 0) rfl
      have q10 := (((K10.far (p := ⟨g8, 0, none⟩) (by simp; omega) (.slice none 0 0)).far (p := ⟨g9, 0, none⟩) (by simp; omega) (.slice none 0 0)).set 0 (.int .i64 1)).cell (k := 0) rfl
      simp [results, Tryd.f23, go_sem, q8, q9, q10]
    · rw [hbad.out (.inl ht0)]
      exact DecR.none _ _ _ (((KB.setCell (p := ⟨g8, 0, none⟩) n8 _).setCell (p := ⟨g9, 0, none⟩) n9 _).setCell (p := ⟨g10, 0, none⟩) n10 _)
  by_cases ht2 : t > 2
  · go_wp2
    refine ⟨.tuple #[.slice none 0 0, .slice none 0 0, .int .i64 1], ?_, ?_⟩
    · have q8 := (((K8.set 0 (.slice none 0 0)).far (p := ⟨g9, 0, none⟩) (by simp; omega) (.slice none 0 0)).far (p := ⟨g10, 0, none⟩) (by simp; omega) (.int .i64 1)).cell (k := 0) rfl
      have q9 := (((K9.far (p := ⟨g8, 0, none⟩) (by simp; omega) (.slice none 0 0)).set 0 (.slice none 0 0)).far (p := ⟨g10, 0, none⟩) (by simp; omega) (.int .i64 1)).cell (k := 0) rfl
      have q10 := (((K10.far (p := ⟨g8, 0, none⟩) (by simp; omega) (.slice none 0 0)).far (p := ⟨g9, 0, none⟩) (by simp; omega) (.slice none 0 0)).set 0 (.int .i64 1)).cell (k := 0) rfl
      simp [results, Tryd.f23, go_sem, q8, q9, q10]
    · rw [hbad.out (.inr (.inl ht2))]
      exact DecR.none _ _ _ (((KB.setCell (p := ⟨g8, 0, none⟩) n8 _).setCell (p := ⟨g9, 0, none⟩) n9 _).setCell (p := ⟨g10, 0, none⟩) n10 _)
  by_cases hlen : l.length ≠ m.length
  · have hne : ((l.length : Int) != (m.length : Int)) = true := by simp; omega
    go_wp2
    refine ⟨.tuple #[.slice none 0 0, .slice none 0 0, .int .i64 1], ?_, ?_⟩
    · have q8 := (((K8.set 0 (.slice none 0 0)).far (p := ⟨g9, 0, none⟩) (by simp; omega) (.slice none 0 0)).far (p := ⟨g10, 0, none⟩) (by simp; omega) (.int .i64 1)).cell (k := 0) rfl
      have q9 := (((K9.far (p := ⟨g8, 0, none⟩) (by simp; omega) (.slice none 0 0)).set 0 (.slice none 0 0)).far (p := ⟨g10, 0, none⟩) (by simp; omega) (.int .i64 1)).cell (k := 0) rfl
      have q10 := (((K10.far (p := ⟨g8, 0, none⟩) (by simp; omega) (.slice none 0 0)).far (p := ⟨g9, 0, none⟩) (by simp; omega) (.slice none 0 0)).set 0 (.int .i64 1)).cell (k := 0) rfl
      simp [results, Tryd.f23, go_sem, q8, q9, q10]
    · rw [hbad.out (.inr (.inr (.inl hlen)))]
      exact DecR.none _ _ _ (((KB.setCell (p := ⟨g8, 0, none⟩) n8 _).setCell (p := ⟨g9, 0, none⟩) n9 _).setCell (p := ⟨g10, 0, none⟩) n10 _)
  have hlen2 : l.length = m.length := Decidable.of_not_not hlen
  have hne : ((l.length : Int) != (m.length : Int)) = false := by simp; omega
  have HLEN := hid hlen2
  clear hlen hlen2
  go_wp2_with (fail)
  refine (prime_c q hq _ (HT.out.below KB)).mono ?_
  rintro e w2 ⟨rfl, hd2⟩
  replace KX' := KX'.dr hd2
  replace KT := KT.dr hd2
  replace K8 := K8.dr hd2
  replace K9 := K9.dr hd2
  replace K10 := K10.dr hd2
  replace KB := below_dr KB hd2
  clear cX cT f8 f9 f10 c8 c9 c10
  have cX := KX'.cell (k := 0) rfl
  have cT := KT.cell (k := 0) rfl
  have f8 := K8.frozen 0
  have f9 := K9.frozen 0
  have f10 := K10.frozen 0
  have c8 := K8.cell (k := 0) rfl
  have c9 := K9.cell (k := 0) rfl
  have c10 := K10.cell (k := 0) rfl
  cases hpr : primeV q with
  | false =>
    go_wp2
    refine ⟨.tuple #[.slice none 0 0, .slice none 0 0, .int .i64 1], ?_, ?_⟩
    · have q8 := (((K8.set 0 (.slice none 0 0)).far (p := ⟨g9, 0, none⟩) (by simp; omega) (.slice none 0 0)).far (p := ⟨g10, 0, none⟩) (by simp; omega) (.int .i64 1)).cell (k := 0) rfl
      have q9 := (((K9.far (p := ⟨g8, 0, none⟩) (by simp; omega) (.slice none 0 0)).set 0 (.slice none 0 0)).far (p := ⟨g10, 0, none⟩) (by simp; omega) (.int .i64 1)).cell (k := 0) rfl
      have q10 := (((K10.far (p := ⟨g8, 0, none⟩) (by simp; omega) (.slice none 0 0)).far (p := ⟨g9, 0, none⟩) (by simp; omega) (.slice none 0 0)).set 0 (.int .i64 1)).cell (k := 0) rfl
      simp [results, Tryd.f23, go_sem, q8, q9, q10]
    · rw [hbad.out (.inr (.inr (.inr hpr)))]
      exact DecR.none _ _ _ (((KB.setCell (p := ⟨g8, 0, none⟩) n8 _).setCell (p := ⟨g9, 0, none⟩) n9 _).setCell (p := ⟨g10, 0, none⟩) n10 _)
  | true =>
    have HPR := hid hpr
    clear hpr hd2
    by_cases hl7 : l.length > 7
    · have hl7' : (l.length : Int) > 7 := by omega
      have hr : decR l m t q = ([], [], 40) := by
        unfold decR
        rw [if_neg (by rw [HPR.out, HLEN.out]; simp; omega), if_pos hl7]
      go_wp2
      refine ⟨.tuple #[.slice none 0 0, .slice none 0 0, .int .i64 40], ?_, ?_⟩
      · have q8 := (((K8.set 0 (.slice none 0 0)).far (p := ⟨g9, 0, none⟩) (by simp; omega) (.slice none 0 0)).far (p := ⟨g10, 0, none⟩) (by simp; omega) (.int .i64 40)).cell (k := 0) rfl
        have q9 := (((K9.far (p := ⟨g8, 0, none⟩) (by simp; omega) (.slice none 0 0)).set 0 (.slice none 0 0)).far (p := ⟨g10, 0, none⟩) (by simp; omega) (.int .i64 40)).cell (k := 0) rfl
        have q10 := (((K10.far (p := ⟨g8, 0, none⟩) (by simp; omega) (.slice none 0 0)).far (p := ⟨g9, 0, none⟩) (by simp; omega) (.slice none 0 0)).set 0 (.int .i64 40)).cell (k := 0) rfl
        simp [results, Tryd.f23, go_sem, q8, q9, q10]
      · rw [hr]
        exact DecR.none _ _ _ (((KB.setCell (p := ⟨g8, 0, none⟩) n8 _).setCell (p := ⟨g9, 0, none⟩) n9 _).setCell (p := ⟨g10, 0, none⟩) n10 _)
    · have hl7' : ¬ (l.length : Int) > 7 := by omega
      have hb5 := below_alloc w2 (.cells (ptsL A B l.length m.length c d q).toArray 92)
      have KP := row1_new w2 (ptsL A B l.length m.length c d q) 92
      have hgp : g10 < w2.heap.size := K10.lt
      go_upto_region 6 with (fail)
      replace KX' := KX'.below hb5
      replace KT := KT.below hb5
      replace K8 := K8.below hb5
      replace K9 := K9.below hb5
      replace K10 := K10.below hb5
      replace KB := below_next KB KB.size hb5
      clear cX cT f8 f9 f10 c8 c9 c10
      have cX := KX'.cell (k := 0) rfl
      have cT := KT.cell (k := 0) rfl
      have f8 := K8.frozen 0
      have f9 := K9.frozen 0
      have f10 := K10.frozen 0
      have c8 := K8.cell (k := 0) rfl
      have c9 := K9.cell (k := 0) rfl
      have c10 := K10.cell (k := 0) rfl
      simp only [List.toArray] at KX' KT K8 K9 K10 KB KP cX cT f8 f9 f10 c8 c9 c10
      generalize w2.alloc (.cells #[.slice A l.length c, .slice B m.length d, .int .u64 q] 92) = w3 at *
      obtain ⟨gp, hgpe⟩ : ∃ g, w2.heap.size = g := ⟨_, rfl⟩
      rw [hgpe] at KP hgp ⊢
      clear hb5 hgpe
      go_wp2_with (fail)
      refine (pweights_c A l c 0 q w3 (HA.out.below KB) (by omega) hu ⟨by decide, by decide⟩ hq).mono ?_
      rintro e w4 ⟨v4, rfl, _, hb4⟩
      replace KX' := KX'.below hb4
      replace KT := KT.below hb4
      replace K8 := K8.below hb4
      replace K9 := K9.below hb4
      replace K10 := K10.below hb4
      replace KB := below_next KB KB.size hb4
      clear cX cT f8 f9 f10 c8 c9 c10
      have cX := KX'.cell (k := 0) rfl
      have cT := KT.cell (k := 0) rfl
      have f8 := K8.frozen 0
      have f9 := K9.frozen 0
      have f10 := K10.frozen 0
      have c8 := K8.cell (k := 0) rfl
      have c9 := K9.cell (k := 0) rfl
      have c10 := K10.cell (k := 0) rfl
      replace KP := KP.below hb4
      have hgp4 : gp < w4.heap.size := KP.lt
      obtain ⟨E, hE⟩ : ∃ E, eAll l q = E := ⟨_, rfl⟩
      have HE := hid hE
      rw [hE]
      clear hE hb4
      by_cases hE0 : E ≠ 0
      · have hbe : (E != 0) = true := by simpa using hE0
        have hr : decR l m t q = ([], [], E) := by
          unfold decR
          rw [if_neg (by rw [HPR.out, HLEN.out]; simp; omega), if_neg hl7, if_pos (by rw [HE.out]; exact hE0), HE.out]
        go_wp2
        refine ⟨.tuple #[.slice none 0 0, .slice none 0 0, .int .i64 E], ?_, ?_⟩
        · have q8 := (((K8.set 0 (.slice none 0 0)).far (p := ⟨g9, 0, none⟩) (by simp; omega) (.slice none 0 0)).far (p := ⟨g10, 0, none⟩) (by simp; omega) (.int .i64 E)).cell (k := 0) rfl
          have q9 := (((K9.far (p := ⟨g8, 0, none⟩) (by simp; omega) (.slice none 0 0)).set 0 (.slice none 0 0)).far (p := ⟨g10, 0, none⟩) (by simp; omega) (.int .i64 E)).cell (k := 0) rfl
          have q10 := (((K10.far (p := ⟨g8, 0, none⟩) (by simp; omega) (.slice none 0 0)).far (p := ⟨g9, 0, none⟩) (by simp; omega) (.slice none 0 0)).set 0 (.int .i64 E)).cell (k := 0) rfl
          simp [results, Tryd.f23, go_sem, q8, q9, q10]
        · rw [hr]
          exact DecR.none _ _ _ (((KB.setCell (p := ⟨g8, 0, none⟩) n8 _).setCell (p := ⟨g9, 0, none⟩) n9 _).setCell (p := ⟨g10, 0, none⟩) n10 _)
      · have hE1 : E = 0 := Decidable.of_not_not hE0
        subst hE1
        obtain ⟨tn, htn⟩ : ∃ n : Nat, t = n := ⟨t.toNat, by omega⟩
        subst htn
        go_wp2_with (fail)
        refine (sets_c 0 l.length ((tn : Int) + 1) w4).mono ?_
        rintro e w5 ⟨gf, gn, gm, rfl, rm, rf, rn, l1, l2, l3, hb5⟩
        replace KX' := KX'.below hb5
        replace KT := KT.below hb5
        replace K8 := K8.below hb5
        replace K9 := K9.below hb5
        replace K10 := K10.below hb5
        replace KB := below_next KB KB.size hb5
        clear cX cT f8 f9 f10 c8 c9 c10
        have cX := KX'.cell (k := 0) rfl
        have cT := KT.cell (k := 0) rfl
        have f8 := K8.frozen 0
        have f9 := K9.frozen 0
        have f10 := K10.frozen 0
        have c8 := K8.cell (k := 0) rfl
        have c9 := K9.cell (k := 0) rfl
        have c10 := K10.cell (k := 0) rfl
        replace KP := KP.below hb5
        have S5 : DS gx gt g8 g9 g10 gp A B l.length m.length c d tn q w.heap.size w w5 := ⟨KX', KT, K8, K9, K10, KP, KB⟩
        have hdec := hid (show decR l m tn q = ((setsL (tn + 1) 0 l.length).findSome? (tryS l m tn q)).getD ([], [], 5) by
          unfold decR
          rw [if_neg (by rw [HPR.out, HLEN.out]; simp; omega), if_neg hl7, if_neg (by rw [HE.out]; simp)]
          rfl)
        go_wp2
        refine (wpIn_wide (n := 10)).1 ?_
        have hN5 := S5.b.size
        refine wpIn_rangeStop (n := 10) rfl (by decide) (gf := 90) (lb := #[.pointer (some ⟨gm, 0, none⟩), .pointer (some ⟨gf, 0, none⟩), .pointer (some ⟨gn, 0, none⟩)]) rfl trivial (enters_of Tryd.func90 (by kernel_rfl) rfl) (encs := encN) (fun _ => rfl)
          (fun xs W => DS gx gt g8 g9 g10 gp A B l.length m.length c d tn q w.heap.size w W ∧ ∀ s ∈ xs.map (·.2), tryS l m tn q s = none)
          (fun cc xs W => cc = .ret ∧ ∃ pre s r, xs.map (·.2) = pre ++ [s] ∧ (∀ s ∈ pre, tryS l m tn q s = none) ∧ tryS l m tn q s = some r ∧ DX g8 g9 g10 r w.heap.size w W)
          (RowN (tn + 1) l.length) _ _ ?ib ?ixb ?op ⟨S5, fun s h => by cases h⟩ (sets_ok (tn + 1) (by omega) 9 0 l.length gm gf gn w4.heap.size w5 (by omega) (by omega) l1 l2 l3 rm rf rn) ?a₁ ?assign ?body ?done ?stop
        case assign =>
          intro l y W K hK
          gi_wp2
          exact hK
        case ib => exact fun xs W1 W2 h hb => ⟨h.1.below S5 hN5 hb, h.2⟩
        case ixb => exact fun cc xs W1 W2 h hb hcu => ⟨h.1, by obtain ⟨pre, s, r, h1, h2, h3, h4⟩ := h.2; exact ⟨pre, s, r, h1, h2, h3, h4.cu hcu (h4.b.trans (hb.mono hN5))⟩⟩
        case op => exact fun x W1 l o o' h _ h1 h2 => ⟨h.1.put o' h1 h2, h.2⟩
        case body =>
          intro lp pre x W hszW hI hOk
          obtain ⟨v, s⟩ := x
          obtain ⟨SW, hno⟩ := hI
          obtain ⟨hrt, hlen, hlts⟩ := hOk
          dsimp only at hrt hlen hlts
          obtain ⟨A5, c5, rfl, hcs, hln⟩ := hrt.form
          rw [List.length_map] at hln ⊢
          have HSL := hid hlen
          clear hlen
          have p0 := SW.P.cell (k := 0) rfl
          have p1 := SW.P.cell (k := 1) rfl
          have p2 := SW.P.cell (k := 2) rfl
          have hWA := HA.out.below SW.b
          have hWB := HB.out.below SW.b
          have h45 := hb5.size
          have hbW : w.heap.size ≤ W.heap.size := SW.b.size
          clear cX cT f8 f9 f10 c8 c9 c10 hb5
          gi_wp2_with (fail)
          refine ⟨trivial, Rgb.calls_in_round ((rthrough_c A B A5 l m s c d c5 q W hWA hWB hcs (by omega) HLEN.out (by rw [HSL.out]; omega) hlts hu hu' hq).mono ?_)⟩
          rintro e W2 ⟨v2, rfl, ho2, hb2⟩
          have SW2 := SW.below S5 hN5 (hb2.mono (by omega))
          obtain ⟨TE, hTE⟩ : ∃ TE, tErr (pick l s) (pick m s) q = TE := ⟨_, rfl⟩
          obtain ⟨TV, hTV⟩ : ∃ TV, tVal (pick l s) (pick m s) q = TV := ⟨_, rfl⟩
          rw [hTV] at ho2
          rw [hTE]
          have HTE := hid hTE
          have HTV := hid hTV
          have hTVu := tVal_u64 (pick l s) (pick m s) q
          rw [hTV] at hTVu
          clear hTE hTV p0 p1 p2
          by_cases hT0 : TE ≠ 0
          · have hbe : (TE != 0) = true := by simpa using hT0
            have f8 := SW2.R8.frozen 0
            have f9 := SW2.R9.frozen 0
            have f10 := SW2.R10.frozen 0
            have c8 := SW2.R8.cell (k := 0) rfl
            have c9 := SW2.R9.cell (k := 0) rfl
            have c10 := SW2.R10.cell (k := 0) rfl
            have cX := SW2.X.cell (k := 0) rfl
            have cT := SW2.T.cell (k := 0) rfl
            have r8 := ((SW2.R8.set 0 (.slice none 0 0)).far (p := ⟨g9, 0, none⟩) (by simp; omega) (.slice none 0 0)).far (p := ⟨g10, 0, none⟩) (by simp; omega) (.int .i64 TE)
            have r9 := ((SW2.R9.far (p := ⟨g8, 0, none⟩) (by simp; omega) (.slice none 0 0)).set 0 (.slice none 0 0)).far (p := ⟨g10, 0, none⟩) (by simp; omega) (.int .i64 TE)
            have r10 := ((SW2.R10.far (p := ⟨g8, 0, none⟩) (by simp; omega) (.slice none 0 0)).far (p := ⟨g9, 0, none⟩) (by simp; omega) (.slice none 0 0)).set 0 (.int .i64 TE)
            have rb := ((SW2.b.setCell (p := ⟨g8, 0, none⟩) n8 (.slice none 0 0)).setCell (p := ⟨g9, 0, none⟩) n9 (.slice none 0 0)).setCell (p := ⟨g10, 0, none⟩) n10 (.int .i64 TE)
            have hup : Up w4.heap.size W (((W2.setCell ⟨g8, 0, none⟩ (.slice none 0 0)).setCell ⟨g9, 0, none⟩ (.slice none 0 0)).setCell ⟨g10, 0, none⟩ (.int .i64 TE)) := (((Up.below hb2).setCell (p := ⟨g8, 0, none⟩) (by simp; omega) _).setCell (p := ⟨g9, 0, none⟩) (by simp; omega) _).setCell (p := ⟨g10, 0, none⟩) (by simp; omega) _
            have htr : tryS l m tn q s = some ([], [], TE) := by unfold tryS; rw [HTE.out, if_neg hT0]
            gi_wp2
            exact ⟨⟨hup.from_ h45, .of_up hup⟩, rfl, pre.map (·.2), s, ([], [], TE), by simp, hno, htr, ⟨_, _, r8, r9, Own.nil _ _ _, Own.nil _ _ _⟩, r10, rb⟩
          · have hT1 : TE = 0 := Decidable.of_not_not hT0
            subst hT1
            obtain ⟨A2, c2, e2, hc2⟩ := ho2.form
            rw [List.length_map] at e2
            subst e2
            have p0 := SW2.P.cell (k := 0) rfl
            have p1 := SW2.P.cell (k := 1) rfl
            have p2 := SW2.P.cell (k := 2) rfl
            have htl : TV.length ≤ 1000 := by rw [← HTV.out, tVal_len HTE.out]; simp only [pick, List.length_map]; rw [HSL.out]; omega
            gi_wp2_with (fail)
            refine ⟨trivial, Rgb.calls_in_round ((roff_c A B A2 l m TV c d c2 q W2 (HA.out.below SW2.b) (HB.out.below SW2.b) hc2 (by omega) HLEN.out htl hu hu' hTVu hq (okm_prime HPR.out).1).mono ?_)⟩
            rintro e W3 ⟨v3, rfl, ho3, hb3⟩
            have SW3 := SW2.below S5 hN5 (hb3.mono (by have := hb2.size; omega))
            have ho2' := ho2.below hb3
            have ho3' := ho3.from_ hb2.size
            have hb13 := hb2.trans (hb3.mono hb2.size)
            obtain ⟨A3, c3, e3, hc3⟩ := ho3.form
            rw [List.length_map] at e3
            subst e3
            obtain ⟨K, hKl⟩ : ∃ K, (offL l m TV q).length = K := ⟨_, rfl⟩
            have HKL := hid hKl
            rw [hKl] at ho3 ho3' ⊢
            have hKle : K ≤ l.length := by rw [← hKl]; exact offK_len _ _ _ _ _
            clear hKl p0 p1 p2
            have f8 := SW3.R8.frozen 0
            have f9 := SW3.R9.frozen 0
            have f10 := SW3.R10.frozen 0
            have c8 := SW3.R8.cell (k := 0) rfl
            have c9 := SW3.R9.cell (k := 0) rfl
            have c10 := SW3.R10.cell (k := 0) rfl
            have cX := SW3.X.cell (k := 0) rfl
            have cT := SW3.T.cell (k := 0) rfl
            by_cases hgt : (l.length : Int) - (K : Int) > 2 * (tn : Int)
            · have o2 := (((ho2'.setCell (p := ⟨g8, 0, none⟩) (by simp; omega) (.slice A2 TV.length c2)).setCell (p := ⟨g9, 0, none⟩) (by simp; omega) (.slice A3 K c3)).setCell (p := ⟨g10, 0, none⟩) (by simp; omega) (.int .i64 0)).from_ hbW
              have o3 := (((ho3'.setCell (p := ⟨g8, 0, none⟩) (by simp; omega) (.slice A2 TV.length c2)).setCell (p := ⟨g9, 0, none⟩) (by simp; omega) (.slice A3 K c3)).setCell (p := ⟨g10, 0, none⟩) (by simp; omega) (.int .i64 0)).from_ hbW
              have r8 := ((SW3.R8.set 0 (.slice A2 TV.length c2)).far (p := ⟨g9, 0, none⟩) (by simp; omega) (.slice A3 K c3)).far (p := ⟨g10, 0, none⟩) (by simp; omega) (.int .i64 0)
              have r9 := ((SW3.R9.far (p := ⟨g8, 0, none⟩) (by simp; omega) (.slice A2 TV.length c2)).set 0 (.slice A3 K c3)).far (p := ⟨g10, 0, none⟩) (by simp; omega) (.int .i64 0)
              have r10 := ((SW3.R10.far (p := ⟨g8, 0, none⟩) (by simp; omega) (.slice A2 TV.length c2)).far (p := ⟨g9, 0, none⟩) (by simp; omega) (.slice A3 K c3)).set 0 (.int .i64 0)
              have rb := ((SW3.b.setCell (p := ⟨g8, 0, none⟩) n8 (.slice A2 TV.length c2)).setCell (p := ⟨g9, 0, none⟩) n9 (.slice A3 K c3)).setCell (p := ⟨g10, 0, none⟩) n10 (.int .i64 0)
              have hup : Up w4.heap.size W (((W3.setCell ⟨g8, 0, none⟩ (.slice A2 TV.length c2)).setCell ⟨g9, 0, none⟩ (.slice A3 K c3)).setCell ⟨g10, 0, none⟩ (.int .i64 0)) := (((Up.below hb13).setCell (p := ⟨g8, 0, none⟩) (by simp; omega) _).setCell (p := ⟨g9, 0, none⟩) (by simp; omega) _).setCell (p := ⟨g10, 0, none⟩) (by simp; omega) _
              have htr : tryS l m tn q s = some (TV, offL l m TV q, 0) := by unfold tryS; rw [HTE.out, if_pos rfl, HTV.out, HKL.out, if_pos hgt]
              gi_wp2
              exact ⟨⟨hup.from_ h45, .of_up hup⟩, rfl, pre.map (·.2), s, (TV, offL l m TV q, 0), by simp, hno, htr, ⟨_, _, r8, r9, o2, o3⟩, r10, rb⟩
            · have htr : tryS l m tn q s = none := by unfold tryS; rw [HTE.out, if_pos rfl, HTV.out, HKL.out, if_neg hgt]
              have hup : Up w4.heap.size W W3 := Up.below hb13
              gi_wp2
              exact ⟨⟨hup.from_ h45, .of_up hup⟩, SW3, fun s' a' hs' => by
                rcases List.mem_append.1 hs' with h | h
                · exact hno _ (List.mem_map.2 ⟨(a', s'), h, rfl⟩)
                · obtain ⟨_, rfl⟩ := Prod.mk.inj (List.mem_singleton.1 h)
                  exact htr⟩
        case done =>
          intro D xs W hD hWz hS hI hK
          obtain ⟨SW, hno⟩ := hI
          have hr : decR l m tn q = ([], [], 5) := by
            rw [hdec.out, find_no]
            · rfl
            · rw [← hS]; exact hno
          have hDl := (Array.getElem?_eq_some_iff.1 hK).1
          have h45 := hb5.size
          clear cX cT f8 f9 f10 c8 c9 c10
          have f8 := SW.R8.frozen 0
          have f9 := SW.R9.frozen 0
          have f10 := SW.R10.frozen 0
          have c8 := SW.R8.cell (k := 0) rfl
          have c9 := SW.R9.cell (k := 0) rfl
          have c10 := SW.R10.cell (k := 0) rfl
          have r8 := ((SW.R8.set 0 (.slice none 0 0)).far (p := ⟨g9, 0, none⟩) (by simp; omega) (.slice none 0 0)).far (p := ⟨g10, 0, none⟩) (by simp; omega) (.int .i64 5)
          have r9 := ((SW.R9.far (p := ⟨g8, 0, none⟩) (by simp; omega) (.slice none 0 0)).set 0 (.slice none 0 0)).far (p := ⟨g10, 0, none⟩) (by simp; omega) (.int .i64 5)
          have r10 := ((SW.R10.far (p := ⟨g8, 0, none⟩) (by simp; omega) (.slice none 0 0)).far (p := ⟨g9, 0, none⟩) (by simp; omega) (.slice none 0 0)).set 0 (.int .i64 5)
          have rb := ((SW.b.setCell (p := ⟨g8, 0, none⟩) n8 (.slice none 0 0)).setCell (p := ⟨g9, 0, none⟩) n9 (.slice none 0 0)).setCell (p := ⟨g10, 0, none⟩) n10 (.int .i64 5)
          have hK2 : (((W.setCell ⟨g8, 0, none⟩ (.slice none 0 0)).setCell ⟨g9, 0, none⟩ (.slice none 0 0)).setCell ⟨g10, 0, none⟩ (.int .i64 5)).heap[D]? = some (.deferred (some [])) := (Below.heap_setCell _ _ _ D (by simp; omega)).trans ((Below.heap_setCell _ _ _ D (by simp; omega)).trans ((Below.heap_setCell _ _ _ D (by simp; omega)).trans hK))
          go_wp2
          refine ⟨by simp, .inl ⟨_, _, rfl, run_takeDeferred hK2, ?_⟩⟩
          have q8 := (r8.put (.deferred none) hK2 rfl).cell (k := 0) rfl
          have q9 := (r9.put (.deferred none) hK2 rfl).cell (k := 0) rfl
          have q10 := (r10.put (.deferred none) hK2 rfl).cell (k := 0) rfl
          refine ⟨.tuple #[.slice none 0 0, .slice none 0 0, .int .i64 5], by simp [results, Tryd.f23, go_sem, q8, q9, q10], ?_⟩
          rw [hr]
          exact DecR.none _ _ _ (below_put _ rb (by omega))
        case stop =>
          intro D cc xs W hD hWz hSp hI hK
          obtain ⟨rfl, pre, s, r, h1, h2, h3, hX⟩ := hI
          obtain ⟨_, rest, hrest⟩ := hSp
          have hr : decR l m tn q = r := by
            rw [hdec.out, ← hrest, h1, List.append_assoc, List.singleton_append, find_at h2 h3]; rfl
          obtain ⟨v1, v2, r8, r9, o1, o2⟩ := hX.ex
          gi_wp2
          refine ⟨by simp, .inl ⟨_, _, rfl, run_takeDeferred hK, ?_⟩⟩
          have q8 := (r8.put (.deferred none) hK rfl).cell (k := 0) rfl
          have q9 := (r9.put (.deferred none) hK rfl).cell (k := 0) rfl
          have q10 := (hX.R10.put (.deferred none) hK rfl).cell (k := 0) rfl
          refine ⟨.tuple #[v1, v2, .int .i64 r.2.2], by simp [results, Tryd.f23, go_sem, q8, q9, q10], ?_⟩
          rw [hr]
          exact ⟨_, _, rfl, o1.cu (CellsUp.put hK rfl), o2.cu (CellsUp.put hK rfl), below_put _ hX.b (by omega)⟩
end Go.Proofs.YtmmmdidbnjcooaaDoor
