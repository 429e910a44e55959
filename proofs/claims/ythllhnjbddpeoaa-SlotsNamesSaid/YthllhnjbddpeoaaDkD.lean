/-
  What a disk's platter has; a sync.
-/
import Derived.Test.YthllhnjbddpeoaaDkC
namespace Go.Proofs.Ythllhnjbddpeoaa
open Go.RowKit Go.Maps

theorem nd_pt {w : World} {b : Nat} {L : List Pt} (h : MapAt dM w b L) : L.Pairwise fun a c => a.1 ≠ c.1 := h.nd.imp fun {a c} hne e => hne (by show Lit.int .i64 a.1 = Lit.int .i64 c.1; rw [e])
theorem getP_no {P : List Pt} {a : Int} (h : ∀ u ∈ P, u.1 ≠ a) : getP P a = blk := by
  unfold getP
  rw [List.find?_eq_none.2 fun u hu => by simpa using h u hu]
  rfl
theorem getP_yes : ∀ {P : List Pt} {u : Pt}, (P.Pairwise fun a c => a.1 ≠ c.1) → u ∈ P → getP P u.1 = u.2
  | [], _, _, h => by cases h
  | x :: P, u, hn, h => by
    obtain ⟨h1, h2⟩ := List.pairwise_cons.1 hn
    rcases List.mem_cons.1 h with rfl | h
    · simp [getP]
    · have hne := h1 u h
      have ih := getP_yes h2 h
      unfold getP at ih ⊢
      rw [List.find?_cons_of_neg (by simpa using hne)]
      exact ih
theorem wpList_look_pt (w : World) {ops : Array Oper} {rest : List Oper} {o : Oper} {a : Act} {Q : Exit → Act → World → Prop} {b : Nat} {L : List Pt} (hg : o.guard = none) (m x : Operand) (hop : o.op = Op.lookup 82 m x true) (hm : a.eval m = .map (some b)) (h : MapAt dM w b L)
    {k : Int} (hx : a.eval x = .int .i64 k) (hk : I64 k)
    (hNo : Hid (getP L k = blk) → wpList Try.prog ops Q rest (a.put o.dst (.tuple #[.string ⟨#[]⟩, .bool false])) w)
    (hYes : wpList Try.prog ops Q rest (a.put o.dst (.tuple #[.string (getP L k), .bool true])) w) :
    wpList Try.prog ops Q (o :: rest) a w := by
  refine wpList_look_tab w hg m x 82 true hop 9 Try.underlying82 (Try.zeroValue9 _) hm h hx (keyOf_int_mk Try.underlying3 (wf_i64 hk)) (fun hno => ?_) (fun u hu he => ?_)
  · exact hNo (getP_no fun u hu e => hno u hu (by show Lit.int .i64 u.1 = Lit.int .i64 k; rw [e]))
  · have he : Lit.int .i64 u.1 = Lit.int .i64 k := he
    injection he with _ he
    have : getP L k = u.2 := by rw [← he]; exact getP_yes (nd_pt h) hu
    rw [this] at hYes
    exact hYes
theorem OwnP.at_ {w : World} {base : Nat} {v : Value} {xs : List Pt} {k : Nat} {p : Pt} (h : OwnP w base v xs) (hk : xs[k]? = some p) :
    ∃ b cap, v = .slice (some ⟨b, 0, none⟩) xs.length cap ∧ w.cell? ⟨b, k * 2, none⟩ = some (.int .i64 p.1) ∧ w.cell? ⟨b, k * 2 + 1, none⟩ = some (.string p.2) := by
  have hkl := (List.getElem?_eq_some_iff.1 hk).1
  have flat : ∀ (l : List Pt) (k : Nat) (p : Pt), l[k]? = some p → (l.flatMap pcl)[k * 2]? = some (.int .i64 p.1) ∧ (l.flatMap pcl)[k * 2 + 1]? = some (.string p.2) := by
    intro l
    induction l with
    | nil => intro k p h; simp at h
    | cons x l ih =>
      intro k p h
      cases k with
      | zero => simp only [List.getElem?_cons_zero, Option.some.injEq] at h; subst h; simp
      | succ k =>
        have := ih k p (by simpa using h)
        rw [List.flatMap_cons]
        have e1 : (k + 1) * 2 = k * 2 + 2 := by omega
        rw [e1]
        exact ⟨by simpa using this.1, by simpa using this.2⟩
  obtain ⟨h1, h2⟩ := flat xs k p hk
  rcases h.2 with ⟨rfl, h0⟩ | ⟨g, cap, cur, rfl, hb, hg, hn, hm, hs, ht⟩
  · omega
  · have hadd : ∀ j, (⟨g, 0, none⟩ : Addr).add j = ⟨g, j, none⟩ := fun j => by unfold Addr.add; split <;> simp_all
    have c1 := World.ownsRow.cells (w := w) h (g := g) rfl _ _ h1
    have c2 := World.ownsRow.cells (w := w) h (g := g) rfl _ _ h2
    rw [hadd] at c1 c2
    exact ⟨g, cap, rfl, c1, c2⟩

set_option maxHeartbeats 1000000 in
theorem platter_c (g gm : Nat) (v : Value) (d : Dk) (a : Int) (w : World) (h : Dsk w g gm v d) (ha : I64 a) :
    Calls Try.prog 19 #[.pointer (some ⟨g, 0, none⟩), .int .i64 a] w fun e w' => e = .returned (.string (d.plat a)) ∧ Below w.heap.size w w' := by
  obtain ⟨c0, c1, c2, c3, c4⟩ := h.cells
  have hi := is_c a w ha
  cases his : isS a with
  | false =>
    have e1 : d.plat a = ⟨#[]⟩ := by simp [Dk.plat, his]
    rw [e1]
    rw [his] at hi
    clear e1 his
    go_enter Try.func19, Try.ntmps19
    go_wp2_with (fail)
    refine hi.mono ?_
    rintro e _ ⟨rfl, rfl⟩
    go_wp2
    go_ret
    exact ⟨rfl, Below.refl _ _⟩
  | true =>
    have e1 : d.plat a = getP d.P a := by simp [Dk.plat, his]
    rw [e1]
    rw [his] at hi
    have HM := hid h.map
    have HA := hid ha
    clear e1 his h ha
    go_enter Try.func19, Try.ntmps19
    go_wp2_with (fail)
    refine hi.mono ?_
    rintro e _ ⟨rfl, rfl⟩
    go_wp2_with (at_lookup; refine wpList_look_pt _ rfl _ _ (by rfl) (by rfl) HM.out (k := a) (by rfl) HA.out ?_ ?_)
    · intro HN
      go_wp2_with (fail)
      refine (blank_c _).mono ?_
      rintro e w1 ⟨rfl, hb⟩
      go_wp2
      go_ret
      exact ⟨by rw [HN.out]; rfl, hb⟩
    · go_wp2
      go_ret
      exact ⟨rfl, Below.refl _ _⟩
theorem platter_nil (a : Int) (w : World) : Calls Try.prog 19 #[.pointer none, .int .i64 a] w fun e w' => e = .returned (.string ⟨#[]⟩) ∧ w = w' := by
  go_enter Try.func19, Try.ntmps19
  go_wp2
  go_ret
  exact ⟨rfl, rfl⟩

set_option maxRecDepth 100000 in
set_option maxHeartbeats 2000000 in
theorem sync_c (g gm : Nat) (v : Value) (d : Dk) (m : Nat) (w : World) (h : Dsk w g gm v d) (hd : d.Ok m) (hm : m ≤ 1000000) [DecidableEq Lit] :
    Calls Try.prog 37 #[.pointer (some ⟨g, 0, none⟩)] w fun e w' => ∃ v', e = .returned (.int .i64 d.syncE) ∧ Dsk w' g gm v' d.sync ∧ Then w v v' ∧ Tch w w' g gm v := by
  obtain ⟨c0, c1, c2, c3, c4⟩ := h.cells
  cases hde : d.de with
  | true =>
    have e1 : d.syncE = 42 := by simp [Dk.syncE, hde]
    have e2 : d.sync = d := by simp [Dk.sync, hde]
    rw [e1, e2]
    rw [hde] at c4
    clear e1 e2 hde hm
    go_enter Try.func37, Try.ntmps37
    go_wp2
    go_ret
    exact ⟨v, rfl, h, Then.refl, Tch.refl⟩
  | false =>
    have C4 := c4
    rw [hde] at C4
    have hbc := burn_c g gm v d w h hd.fuse hd.le
    cases hbb : d.burnB with
    | false =>
      have e1 : d.syncE = 42 := by simp [Dk.syncE, hde, hbb]
      have e2 : d.sync = d.burn := by simp [Dk.sync, hde, hbb]
      rw [e1, e2]
      rw [hbb] at hbc
      clear e1 e2 hde hm c4 hbb
      go_enter Try.func37, Try.ntmps37
      go_wp2_with (fail)
      refine hbc.mono ?_
      rintro e w1 ⟨rfl, hD, hT⟩
      go_wp2
      go_ret
      exact ⟨v, rfl, hD, Then.refl, hT⟩
    | true =>
      have e1 : d.syncE = 0 := by simp [Dk.syncE, hde, hbb]
      have e2 : d.sync = { d.burn with P := d.C.foldl setP d.P, C := [] } := by simp [Dk.sync, hde, hbb]
      rw [e1, e2]
      rw [hbb] at hbc
      have HOK := hid hd
      have hlen : d.P.length + d.C.length ≤ 1000000 := by have := hd.len; omega
      have HB := hid d.burn_PC
      obtain ⟨A0, cap0, rfl⟩ := h.own.form
      have hcl : d.C.length ≤ 1000000 := by omega
      clear e1 e2 hde hm c4 hbb hd
      go_enter Try.func37, Try.ntmps37
      go_wp2_with (fail)
      refine hbc.mono ?_
      rintro e w1 ⟨rfl, hD, hTc⟩
      clear c0 c1 c2 c3 C4 h hbc
      obtain ⟨c0, c1, c2, c3, c4⟩ := hD.cells
      go_wp2
      go_loopw [23] (fun i wr => ∃ k : Nat, i = .int .i64 k ∧ k ≤ d.C.length ∧ Dsk wr g gm (.slice A0 d.C.length cap0) { d.burn with P := (d.C.take k).foldl setP d.P } ∧ Tch w wr g gm (.slice A0 d.C.length cap0)) (fun i _ => d.C.length - (intOf i).toNat)
      case atStart => exact ⟨0, rfl, by omega, by rw [List.take_zero, List.foldl_nil, ← HB.out.1]; exact hD, hTc⟩
      case round =>
        obtain ⟨k, rfl, hk, hDr, hTr⟩ := hrel
        clear hD hTc c0 c1 c2 c3 c4
        by_cases hkl : k < d.C.length
        · obtain ⟨p, hp⟩ := get_of_lt hkl
          have hpa := isS_iff.1 (HOK.out.C.at_ p (List.mem_of_getElem? hp))
          have hpI : I64 p.1 := ⟨by omega, by omega⟩
          have hown := hDr.own
          obtain ⟨b, cap, hv, c1, c2⟩ := hown.at_ (k := k) (p := p) (by show d.burn.C[k]? = some p; rw [HB.out.2]; exact hp)
          obtain rfl : A0 = some ⟨b, 0, none⟩ := by injection hv
          have HFL := hid (show ((d.C.take (k + 1)).foldl setP d.P) = setP ((d.C.take k).foldl setP d.P) p by rw [List.take_succ_eq_append_getElem hkl, List.foldl_append, List.foldl_cons, List.foldl_nil]; rw [(List.getElem?_eq_some_iff.1 hp).2])
          have hPl : ((d.C.take k).foldl setP d.P).length ≤ 1000000 := by
            have := fold_len (d.C.take k) d.P
            have : (d.C.take k).length ≤ d.C.length := List.length_take_le' _ _
            omega
          clear hp hv hown hpa
          go_wp2_with (fail)
          refine (set_c g gm _ _ p _ (hDr.below (below_alloc _ _)) hpI hPl).mono ?_
          rintro e w3 ⟨rfl, hD3, hT3⟩
          have hT4 := (hTr.next (below_alloc wr (.cells #[.int .i64 p.1, .string p.2] 80))).trans Then.refl hT3
          have hD4 : Dsk w3 g gm (.slice (some ⟨b, 0, none⟩) d.C.length cap0) { d.burn with P := (d.C.take (k + 1)).foldl setP d.P } := by rw [HFL.out]; exact hD3
          clear hD3 hT3
          go_wp2
          go_roundw
          case rel => exact ⟨k + 1, by go_num, by omega, hD4, hT4⟩
          case measure => simp [intOf]; omega
        · obtain rfl : k = d.C.length := by omega
          obtain ⟨c0, c1, c2, c3, c4⟩ := hDr.cells
          obtain ⟨f0, f1, f2, f3, f4⟩ := hDr.free
          go_wp2
          go_ret
          rw [List.take_length] at hDr
          exact ⟨rfl, _, ⟨hDr.row.set 1 _, hDr.map.far hDr.lt.2.2 _, OwnP.nil _ _⟩, (fun b hb => by cases hb), hTr.set _ _⟩
end Go.Proofs.Ythllhnjbddpeoaa
