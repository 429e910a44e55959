/-
  What is wrong with places: the program's.
-/
import Derived.Test.YtnmadmcegdpecaaPolA
import Derived.Test.YtnmadmcegdpecaaJoin
import Derived.Maps.OwnSet
namespace Go.Proofs.Ytnmadmcegdpecaa
open Go.RowKit Go.Maps

attribute [local go_sem] Oper.semAt_some

theorem key_u64 : Keyed Try.prog 23 := int_keyed Try.underlying23
theorem zero_i64 (w : World) : (zeroValue 3).run Try.prog w = .ok (.int .i64 0) w := by kernel_rfl
theorem wf_u64 {x : Int} (h : U64 x) : (Lit.int .u64 x).wf = true := by
  obtain ⟨h0, h1⟩ := h
  simp [Lit.wf, IntKind.min, IntKind.max, IntKind.signed, IntKind.bits]
  omega

theorem run_makeMap_hint {P : Program} (t k e : TypeId) (ht : P.underlying t = some (.map k e)) (q : IntKind) (n : Int) (w : World) : (Instr.makeMap t (some (.int q n))).run P w = .ok (.map (some w.heap.size)) (w.alloc (.map #[] 0)) := by
  simp [Instr.makeMap, run_underlying ht, asInt, asIntOf]

/-- the places modulo q. -/
def mods (xs : List Int) (q : Int) : List Int := xs.map (· % q)
def eUnlike (xs : List Int) (q : Int) : Int := if okm q then (if xs.length ≤ 1024 then (if (mods xs q).Nodup then 0 else 6) else 40) else 1

/-- what the map of k places holds. -/
structure Had (ys : List Int) (k : Nat) (D : DataW Unit) : Prop where
  tidy : Tidy D
  keys : ∀ z, has D (.int .u64 z) = true ↔ z ∈ ys.take k
  le : size D ≤ k
  eq : size D = k ↔ (ys.take k).Nodup
theorem Had.start (ys : List Int) : Had ys 0 (.map []) := ⟨tidy_empty, fun z => by simp [has], Nat.le_refl _, by simp [size]⟩
theorem Had.step {ys : List Int} {k : Nat} {D : DataW Unit} {y : Int} (h : Had ys k D) (hy : ys[k]? = some y) (d : DataW Unit) : Had ys (k + 1) (D.put (.int .u64 y) d) := by
  have hs := size_put (k := .int .u64 y) h.tidy d
  have ht := take_snoc' hy
  refine ⟨h.tidy.put (k := .int .u64 y) trivial d, fun z => ?_, ?_, ?_⟩
  · rw [ht, List.mem_append, List.mem_singleton]
    by_cases hz : z = y
    · subst hz
      rw [has_put_same (k := .int .u64 z) h.tidy.isMap trivial]
      simp
    · rw [has_put_other (fun e => hz (by simpa using e)), h.keys]
      simp [hz]
  · have := h.le
    rw [hs]; split <;> omega
  · rw [ht, hs]
    have h1 := h.le
    have h2 := h.eq
    have h3 := h.keys y
    by_cases hh : has D (.int .u64 y) = true
    · rw [if_pos hh]
      have := h3.1 hh
      constructor
      · intro; omega
      · intro hn
        exact absurd rfl ((List.nodup_append.1 hn).2.2 y this y (List.mem_singleton.2 rfl))
    · rw [if_neg hh]
      have hn : y ∉ ys.take k := fun hm => hh (h3.2 hm)
      constructor
      · intro he
        have := h2.1 (by omega)
        exact List.nodup_append.2 ⟨this, by simp, fun a ha b hb => by
          rw [List.mem_singleton] at hb
          subst hb
          exact fun e => hn (e ▸ ha)⟩
      · intro he
        have := h2.2 (List.nodup_append.1 he).1
        omega

set_option maxRecDepth 100000 in
set_option maxHeartbeats 2000000 in
theorem unlike_c (A : Option Addr) (l : List Int) (c : Nat) (q : Int) (w : World) (hA : Cells w A (l.map (.int .u64))) (hl : l.length ≤ 9223372036854775807) (hu : U64s l) (hq : U64 q) :
    Calls Try.prog 96 #[.slice A l.length c, .int .u64 q] w fun e w' => e = .returned (.int .i64 (eUnlike l q)) ∧ Below w.heap.size w w' := by
  have hmm := fun n w => run_makeMap_hint 112 23 3 Try.underlying112 .i64 n w
  cases h : okm q with
  | false =>
    have he := hid (show eUnlike l q = 1 by unfold eUnlike; rw [if_neg (by rw [h]; decide)])
    go_enter Try.func96, Try.ntmps96
    go_wp2_with (go_at_call 101; refine (pmay_c _ hq _).mono ?_; rintro e w' ⟨rfl, rfl⟩; rw [h])
    go_ret
    exact ⟨ret_int he.out.symm, Below.refl _ _⟩
  | true =>
    have h0 := okm_pos h
    have h1 := okm_le h
    by_cases hbig : l.length ≤ 1024
    · have he := hid (show eUnlike l q = if (mods l q).Nodup then 0 else 6 by unfold eUnlike; rw [if_pos h, if_pos hbig])
      go_enter Try.func96, Try.ntmps96
      go_wp2_with (go_at_call 101; refine (pmay_c _ hq _).mono ?_; rintro e w' ⟨rfl, rfl⟩; rw [h])
      go_loopw [7, 21] (fun _ i wr => ∃ (k : Nat) (D : DataW Unit), i = .int .i64 k ∧ k ≤ l.length ∧ Hid (Had (mods l q) k D) ∧ wr.ownsMap Try.prog 23 (plainElem Try.prog 3) w.heap.size k D ∧ Below w.heap.size w wr) (fun _ i _ => l.length - (intOf i).toNat)
      case atStart => exact ⟨0, _, rfl, Nat.zero_le _, Had.start _, World.ownsMap_made _ _ _ _, (Below.refl _ _).alloc (Nat.le_refl _) _⟩
      case round =>
        obtain ⟨k, D, rfl, hk, hD, hown, hb⟩ := hrel
        by_cases hlt : k < l.length
        · obtain ⟨z, hz⟩ := get_of_lt hlt
          obtain ⟨o2, off2, rfl, hcz⟩ := (hA.keep fun p hp => hb.cell hp).at_map hz
          obtain ⟨z0, z1⟩ := hu.at_ hz
          have hm0 := Int.emod_nonneg z (b := q) (by omega)
          have hm1 := Int.emod_lt_of_pos z h0
          have hkey : keyOf Try.prog 23 (.int .u64 (z % q)) = some (.int .u64 (z % q)) := keyOf_int_mk Try.underlying23 (wf_u64 (mod_u64 h))
          have hstep : ∀ d, Had (mods l q) (k + 1) (D.put (.int .u64 (z % q)) d) := fun d => hD.out.step (by unfold mods; rw [List.getElem?_map, hz]; rfl) d
          have HST := hid hstep
          clear hz hstep
          go_wp2_with (first
            | (at_lookup; refine wpList_lookup_own_int _ rfl _ _ 112 rfl 23 3 .i64 key_u64 Try.underlying112 Try.underlying3 (zero_i64 _) w.heap.size k _ rfl hown _ _ rfl hkey ?_; intro c hat hwc)
            | (at_mapUpdate; refine wpList_mapUpdate_own _ rfl _ _ _ 112 rfl 23 3 key_u64 Try.underlying112 _ w.heap.size k _ rfl hown (by unfold maxLen; omega) _ _ _ rfl rfl hkey _ [] (plainElem_int Try.underlying3 (wrap64_wf _)) ?_; intro w1 hown1 hgrow1))
          go_roundw
          case rel => exact ⟨k + 1, _, by go_num, by omega, HST.out _, hown1, hb.grown hgrow1 hb.size (fun j hj => by cases hj; exact Nat.le_refl _)⟩
          case measure => simp [intOf]; omega
        · obtain rfl : k = l.length := by omega
          have hle := hD.out.le
          have heq := hD.out.eq
          rw [List.take_of_length_le (by simp [mods])] at heq
          by_cases hn : (mods l q).Nodup
          · have hs := heq.2 hn
            rw [if_pos hn] at he
            clear heq hle hn
            go_wp2_with (at_len; refine wpList_len_own _ rfl _ 112 rfl 23 3 Try.underlying112 _ w.heap.size l.length D rfl hown ?_; rw [hs])
            go_ret
            exact ⟨ret_int he.out.symm, hb⟩
          · have hs : size D < l.length := by
              rcases Nat.lt_or_ge (size D) l.length with h9 | h9
              · exact h9
              · exact absurd (heq.1 (by omega)) hn
            rw [if_neg hn] at he
            clear heq hle hn
            go_wp2_with (at_len; refine wpList_len_own _ rfl _ 112 rfl 23 3 Try.underlying112 _ w.heap.size l.length D rfl hown ?_)
            go_ret
            exact ⟨ret_int he.out.symm, hb⟩
    · have he := hid (show eUnlike l q = 40 by unfold eUnlike; rw [if_pos h, if_neg hbig])
      go_enter Try.func96, Try.ntmps96
      go_wp2_with (go_at_call 101; refine (pmay_c _ hq _).mono ?_; rintro e w' ⟨rfl, rfl⟩; rw [h])
      go_ret
      exact ⟨ret_int he.out.symm, Below.refl _ _⟩

end Go.Proofs.Ytnmadmcegdpecaa
