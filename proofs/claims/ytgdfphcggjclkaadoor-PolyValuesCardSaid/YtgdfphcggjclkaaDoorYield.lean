/-
  Regions that draw their order and whose last operations may be guarded, or call a function value (a yield): inside the wide fence. (No program in sight.)
-/
import Derived.Test.YtgdfphcggjclkaaDoorRegionB
import Derived.OrdersIn
namespace Go.Rgb

section
variable {P : Program} {lv : Nat} {Y : Way} {ds : List (Option Tmp)} {a0 : Act} {Q : Act → World → Prop} {ops : Array Oper}

/-- from number n on each waits, at last, for all ahead of it. -/
def closesY (ops : Array Oper) (n : Nat) : Bool :=
  (List.range ops.size).all fun j => decide (j < n) || match ops[j]? with
    | none => true
    | some _ => (List.range j).all fun i => (List.range (j + 1)).any fun i' => decide (i < i') && match ops[i']? with
      | none => false
      | some o' => (predsOf o').contains i

theorem closes_specY {n : Nat} (h : closesY ops n = true) : ∀ j o, n ≤ j → ops[j]? = some o → ∀ i, i < j → ∃ i' o', i < i' ∧ i' ≤ j ∧ ops[i']? = some o' ∧ i ∈ predsOf o' := by
  intro j o hj ho
  simp only [closesY, List.all_eq_true, List.mem_range, Bool.or_eq_true, decide_eq_true_eq] at h
  have h1 := (h j (Array.getElem?_eq_some_iff.1 ho).1).resolve_left (by omega)
  simp only [ho, List.all_eq_true, List.mem_range, List.any_eq_true, Bool.and_eq_true, decide_eq_true_eq] at h1
  intro i hi
  obtain ⟨i', h2, h3, h4⟩ := h1 i hi
  cases h5 : ops[i']? with
  | none => rw [h5] at h4; simp at h4
  | some o' =>
    rw [h5] at h4
    exact ⟨i', o', h3, by omega, h5, List.contains_iff_mem.1 h4⟩

/-- the tail: one behind the other. -/
theorem wp_tailY {Q' : Exit → Act → World → Prop} {n : Nat} (S : Sane ops ds a0.tmps.size n) (hL : ∀ j o, n ≤ j → ops[j]? = some o → ∀ i, i < j → ∃ i' o', i < i' ∧ i' ≤ j ∧ ops[i']? = some o' ∧ i ∈ predsOf o') :
    ∀ (tail : List Oper) (m fuel : Nat) (listed : Array Bool) (a : Act) (w : World), n ≤ m → m + tail.length = ops.size → (∀ i, tail[i]? = ops[m + i]?) → tail.length ≤ fuel → (∀ i, i < ops.size → listed.getD i false = decide (i < m)) → listed.size = ops.size →
      wpListIn Fence.wide lv P ops Q' tail a w → wpAnyIn Fence.wide lv P .any ops Q' fuel listed a w
  | [], m, fuel, listed, a, w, hm, hlen, ht, hf, hl, hls, h => by
    refine wpAnyIn_done ?_ h fuel
    rw [List.eq_nil_iff_forall_not_mem]
    intro i hi
    obtain ⟨h0, oi, hoi, _⟩ := mem_ready.1 hi
    have his := (Array.getElem?_eq_some_iff.1 hoi).1
    have h2 := hl i his
    simp only [List.length_nil] at hlen
    have h3 : i < listed.size := by omega
    have h4 : i < m := by omega
    simp [h3] at h0 h2
    rw [h0] at h2; simp [h4] at h2
  | o :: tail, m, fuel, listed, a, w, hm, hlen, ht, hf, hl, hls, h => by
    simp only [List.length_cons] at hlen hf
    have ho : ops[m]? = some o := by simpa using (ht 0).symm
    have hms : m < ops.size := by omega
    obtain ⟨fuel, rfl⟩ : ∃ k, fuel = k + 1 := ⟨fuel - 1, by omega⟩
    have hlm : ∀ i, i < m → listed.getD i false = true := fun i hi => by rw [hl i (by omega)]; simpa using hi
    have hready : m ∈ Region.ready .any ops listed := mem_ready.2 ⟨by
      have := hl m hms
      have h3 : m < listed.size := by omega
      simp [h3] at this ⊢; exact this, o, ho, fun e he hb => hlm _ (S.before ho _ (mem_preds.2 ⟨e, he, hb, rfl⟩))⟩
    refine ⟨fun h0 => absurd hready (by rw [h0]; simp), fun j hj => ?_⟩
    obtain ⟨hun, oj, hoj, hall⟩ := mem_ready.1 hj
    have hjs := (Array.getElem?_eq_some_iff.1 hoj).1
    have hjm : j = m := by
      have h2 := hl j hjs
      have h3 : j < listed.size := by omega
      have hge : m ≤ j := by
        rcases Nat.lt_or_ge j m with h4 | h4
        · have h5 := hlm j h4
          simp [h3] at hun h5; rw [hun] at h5; cases h5
        · exact h4
      rcases Nat.lt_or_ge m j with h4 | h4
      · -- m < j ready: then all ahead of it are listed: m too
        exfalso
        -- the successor of j - 1 ..: it is j itself, as i' in (j-1, j]
        have key : ∀ i, m ≤ i → i < j → False ∨ listed.getD i false = true := by
          intro i hi hij
          obtain ⟨i', o', h5, h6, h7, h8⟩ := hL j oj (by omega) hoj (j - 1) (by omega)
          obtain rfl : i' = j := by omega
          rw [hoj] at h7
          obtain rfl := Option.some.inj h7
          obtain ⟨e, he, hb, heq⟩ := mem_preds.1 h8
          have h9 := hall e he hb
          rw [heq, hl _ (by omega)] at h9
          simp at h9; omega
        rcases key m (Nat.le_refl _) h4 with h5 | h5
        · exact h5
        · rw [hl m hms] at h5; simp at h5
      · omega
    subst hjm
    rw [ho] at hoj
    obtain rfl := Option.some.inj hoj
    have go : ∀ a' w', wpListIn Fence.wide lv P ops Q' tail a' w' → wpAnyIn Fence.wide lv P .any ops Q' fuel (listed.setIfInBounds j true) a' w' := by
      intro a' w' h'
      refine wp_tailY S hL tail (j + 1) fuel _ a' w' (by omega) (by omega) (fun i => by have := ht (i + 1); simpa [Nat.add_assoc, Nat.add_comm 1 i] using this) (by omega) (fun i hi => ?_) (by simp [hls]) h'
      by_cases hij : j = i
      · subst hij
        rw [getD_set_same (by omega)]; simp
      · rw [getD_set_ne false hij, hl i hi]
        by_cases h1 : i < j
        · simp [h1]; omega
        · simp [h1]; omega
    unfold wpOpIn
    simp only [ho]
    unfold wpListIn at h
    by_cases hw : Region.wanted o (yielded ops a.tmps) = true
    · rw [if_pos hw] at h ⊢
      exact Oper.wpIn_mono go h
    · rw [if_neg hw] at h ⊢
      exact ⟨h.1, go _ _ h.2⟩

theorem wp_anyY {F : Nat → Know} {n : Nat} {Q' : Exit → Act → World → Prop} (S : Sane ops ds a0.tmps.size n) (HY : Y.Fair) (hn : n ≤ ops.size)
    (hG : ∀ j o, j < n → ops[j]? = some o → Good P Y ds a0 F j o (F j))
    (hL : ∀ j o, n ≤ j → ops[j]? = some o → ∀ i, i < j → ∃ i' o', i < i' ∧ i' ≤ j ∧ ops[i']? = some o' ∧ i ∈ predsOf o')
    (hQ : ∀ w, Y.B w → from_ ds F (decide (n ≤ Y.s)) w (List.range n) a0 fun a => Q a w) 
    (tail : List Oper) (htl : n + tail.length = ops.size) (ht : ∀ i, tail[i]? = ops[n + i]?) (hQ' : ∀ a w, Q a w → wpListIn Fence.wide lv P ops Q' tail a w) :
    ∀ (fuel : Nat) (listed : Array Bool) (a : Act) (w : World), listed.size = ops.size → (List.range ops.size).countP (fun i => !listed.getD i true) ≤ fuel → Inv n ops ds Y a0 F listed a w → wpAnyIn Fence.wide lv P .any ops Q' fuel listed a w := by
  have full : ∀ (listed : Array Bool) (a : Act) (w : World), Inv n ops ds Y a0 F listed a w → (∀ i, i < n → listed.getD i false = true) → Q a w := by
    intro listed a w I all
    obtain ⟨f, hf⟩ := I.some_
    have hpre : (!listed.getD Y.s false) = decide (n ≤ Y.s) := by
      rcases Nat.lt_or_ge Y.s n with h | h
      · rw [all _ h]; simp; omega
      · rw [I.unlisted _ h]; simp; omega
    have h := from_at (f := f) (hQ w I.base) fun i hi => by
      have := (hf i (List.mem_range.1 hi) (all _ (List.mem_range.1 hi))).1
      rwa [hpre] at this
    have hea : putAll ds f (List.range n) a0 = a := by
      have ht : (putAll ds f (List.range n) a0).tmps = a.tmps := by
        apply Array.ext_getElem?
        intro t
        by_cases hex : ∃ i, i < n ∧ ds.getD i none = some t
        · obtain ⟨i, hi, hd⟩ := hex
          have ho : ops[i]? = some (ops[i]'(by omega)) := Array.getElem?_eq_getElem (by omega)
          have hod := S.dst ho
          rw [((hf i hi (all _ hi)).2 t hd)]
          refine putAll_at _ _ (S.small ho t (hod ▸ hd)) (List.mem_range.2 hi) hd fun j hj hdj => S.one ho hi j t (by have := List.mem_range.1 hj; omega) hdj (hod ▸ hd)
        · rw [putAll_ne _ _ fun i hi hd => hex ⟨i, List.mem_range.1 hi, hd⟩, I.other t fun i hi hd => absurd ⟨i, hi, hd⟩ hex]
      have hd := (putAll_defers (ds := ds) (f := f) (List.range n) a0).trans I.defers.symm
      generalize putAll ds f (List.range n) a0 = b at *
      cases a; cases b
      simp only at ht hd
      rw [ht, hd]
    rw [← hea]
    exact h
  -- all of the first n are listed: the tail
  have toTail : ∀ (fuel : Nat) (listed : Array Bool) (a : Act) (w : World), listed.size = ops.size → (List.range ops.size).countP (fun i => !listed.getD i true) ≤ fuel → Inv n ops ds Y a0 F listed a w → (∀ i, i < n → listed.getD i false = true) → wpAnyIn Fence.wide lv P .any ops Q' fuel listed a w := by
    intro fuel listed a w hls hc I all
    have hl : ∀ i, i < ops.size → listed.getD i false = decide (i < n) := fun i hi => by
      rcases Nat.lt_or_ge i n with h | h
      · rw [all i h]; simp [h]
      · rw [I.unlisted i h]; simp; omega
    refine wp_tailY S hL tail n fuel listed a w (Nat.le_refl _) htl ht ?_ hl hls (hQ' a w (full listed a w I all))
    -- as many are left as the tail is long
    have hcount : ∀ k, k ≤ ops.size → (List.range k).countP (fun i => !listed.getD i true) = k - n := by
      intro k
      induction k with
      | zero => intro _; simp
      | succ k ih =>
        intro hk
        rw [List.range_succ, List.countP_append, ih (by omega)]
        have h1 := hl k (by omega)
        have h2 : k < listed.size := by omega
        simp [h2] at h1
        rcases Nat.lt_or_ge k n with h | h
        · simp [h2, h1, h]; omega
        · have : ¬ k < n := by omega
          simp [h2, h1, this]; omega
    have := hcount ops.size (Nat.le_refl _)
    omega
  have stuck : ∀ (listed : Array Bool) (a : Act) (w : World), listed.size = ops.size → Inv n ops ds Y a0 F listed a w → Region.ready .any ops listed = [] → ∀ m j, j < m → j < ops.size → listed.getD j false = true := by
    intro listed a w hls I hr m
    induction m with
    | zero => intro j hj; omega
    | succ m ih =>
      intro j hj hjs
      have ho : ops[j]? = some ops[j] := Array.getElem?_eq_getElem hjs
      cases hl : listed.getD j true with
      | true =>
        have : j < listed.size := by omega
        simp [this] at hl ⊢; exact hl
      | false =>
        have : j ∈ Region.ready .any ops listed := mem_ready.2 ⟨hl, _, ho, fun e he hb => by
          have hlt := S.before ho e.on (mem_preds.2 ⟨e, he, hb, rfl⟩)
          exact ih e.on (by omega) (by omega)⟩
        rw [hr] at this; cases this
  intro fuel
  induction fuel with
  | zero =>
    intro listed a w hls hc I
    have hr : Region.ready .any ops listed = [] := by
      rw [List.eq_nil_iff_forall_not_mem]
      intro j hj
      obtain ⟨h0, o, ho, _⟩ := mem_ready.1 hj
      have := List.countP_eq_zero.1 (Nat.le_zero.1 hc) j (List.mem_range.2 (Array.getElem?_eq_some_iff.1 ho).1)
      rw [h0] at this; simp at this
    have all := stuck listed a w hls I hr
    exact toTail 0 listed a w hls hc I fun i hi => all _ i (Nat.lt_succ_self i) (by omega)
  | succ fuel ih =>
    intro listed a w hls hc I
    by_cases hfull : ∀ i, i < n → listed.getD i false = true
    case pos => exact toTail (fuel + 1) listed a w hls hc I hfull
    case neg =>
    refine ⟨fun hr => absurd (fun i hi => stuck listed a w hls I hr _ i (Nat.lt_succ_self i) (by omega)) hfull, fun j hj => ?_⟩
    obtain ⟨hun, o, ho, hall⟩ := mem_ready.1 hj
    have hjs : j < ops.size := (Array.getElem?_eq_some_iff.1 ho).1
    have hpl : ∀ i ∈ predsOf o, listed.getD i false = true := fun i hi => by
      obtain ⟨e, he, hb, rfl⟩ := mem_preds.1 hi
      exact hall e he hb
    have hjn : j < n := by
      rcases Nat.lt_or_ge j n with h | h
      · exact h
      · exfalso
        -- all ahead of it are listed
        have all : ∀ d i, i < j → j - i ≤ d → listed.getD i false = true := by
          intro d
          induction d with
          | zero => intro i hi hd; omega
          | succ d ihd =>
            intro i hi hd
            obtain ⟨i', o', h1, h2, h3, h4⟩ := hL j o h ho i hi
            rcases Nat.lt_or_ge i' j with h5 | h5
            · exact I.down i' o' h3 (ihd i' h5 (by omega)) i h4
            · obtain rfl : i' = j := by omega
              rw [ho] at h3
              obtain rfl := Option.some.inj h3
              exact hpl i h4
        exact hfull fun i hi => all _ i (by omega) (Nat.le_refl _)
    have hcount : (List.range ops.size).countP (fun i => !(listed.setIfInBounds j true).getD i true) ≤ fuel := by
      have := count_lt (List.range ops.size) (fun i => !listed.getD i true) (fun i => !(listed.setIfInBounds j true).getD i true) j (List.mem_range.2 hjs) (by rw [hun]; rfl) (by
        have : j < listed.size := by omega
        simp [this]) fun k hk => by
          by_cases hkj : j = k
          · subst hkj
            have : j < listed.size := by omega
            simp [this] at hk
          · rw [getD_set_ne true hkj] at hk; exact hk
      omega
    have hod := S.dst ho
    obtain ⟨f, hf⟩ := I.some_
    have hps : ∀ i ∈ predsOf o, i < n := fun i hi => by have := S.before ho i hi; omega
    have hjl : j < listed.size := by omega
    have hjun : listed.getD j false = false := by simp [hjl] at hun ⊢; exact hun
    have hGj := hG j o hjn ho
    -- whatever it leaves: the next state is one of ours
    have next : ∀ w' a' v, ((if j = Y.s then Y.M w w' else Y.K w w') ∨ w' = w) → (F j).holds true w' v → a' = a.put o.dst v → Inv n ops ds Y a0 F (listed.setIfInBounds j true) a' w' := by
      intro w' a' v hw' hv ha
      subst ha
      refine ⟨?_, fun hs => ?_, (put_defers' ..).trans I.defers, (put_size ..).trans I.size, fun k hk => ?_, fun k ok hok hk i hi => ?_, fun t ht => ?_, fun i => if i = j then v else f i, fun i hi hl => ?_⟩
      · rcases hw' with h | rfl
        · split at h
          · exact HY.bm _ _ I.base h
          · exact HY.bk _ _ I.base h
        · exact I.base
      · have hjs' : j ≠ Y.s := by
          rintro rfl
          rw [getD_set_same hjl] at hs; cases hs
        rw [getD_set_ne false hjs'] at hs
        rcases hw' with h | rfl
        · rw [if_neg hjs'] at h
          exact HY.b1 _ _ (I.base1 hs) h
        · exact I.base1 hs
      · rw [getD_set_ne false (by omega)]; exact I.unlisted k hk
      · by_cases hkj : j = k
        · subst hkj
          rw [ho] at hok
          obtain rfl := Option.some.inj hok
          exact getD_set_true (hpl i hi)
        · rw [getD_set_ne false hkj] at hk
          exact getD_set_true (I.down k ok hok hk i hi)
      · rw [put_at_ne, I.other]
        · intro i hi hd
          have h1 := ht i hi hd
          by_cases hij : j = i
          · subst hij
            rw [getD_set_same hjl] at h1; cases h1
          · rw [getD_set_ne false hij] at h1; exact h1
        · intro hd
          have h1 := ht j hjn (hod.trans hd)
          rw [getD_set_same hjl] at h1; cases h1
      · by_cases hij : i = j
        · subst hij
          simp only [if_true]
          refine ⟨?_, fun d hd => ?_⟩
          · cases hk : F i with
            | is u => rw [hk] at hv; exact hv
            | of r => rw [hk] at hv; exact hv
            | till r => rw [hk] at hv; exact fun _ => hv rfl
          · rw [hod] at hd
            rw [hd]
            exact put_at_same _ _ (by rw [I.size]; exact S.small ho d hd)
        · simp only [if_neg hij]
          rw [getD_set_ne false (Ne.symm hij)] at hl
          have h1 := hf i hi hl
          refine ⟨?_, fun d hd => ?_⟩
          · have hst := (hG i _ hi (Array.getElem?_eq_getElem (by omega))).1
            have h2 := h1.1
            cases hk : F i with
            | is u => rw [hk] at h2; exact h2
            | of r =>
              rw [hk] at h2 hst
              rcases hw' with h | rfl
              · split at h
                · rename_i hjs
                  refine hst.2 (by omega) ?_ _ _ _ h h2
                  cases hdep : (predsOf (ops[i]'(by omega))).contains Y.s with
                  | false => rfl
                  | true =>
                    have hdn := I.down i _ (Array.getElem?_eq_getElem (by omega)) hl Y.s (List.contains_iff_mem.1 hdep)
                    rw [← hjs, hjun] at hdn
                    cases hdn
                · exact hst.1 _ _ _ h h2
              · exact h2
            | till r =>
              rw [hk] at h2 hst
              intro hpre
              have hjs' : j ≠ Y.s := by
                rintro rfl
                rw [getD_set_same hjl] at hpre; cases hpre
              rw [getD_set_ne false hjs'] at hpre
              rcases hw' with h | rfl
              · rw [if_neg hjs'] at h
                exact hst.2 _ _ _ h (h2 hpre)
              · exact h2 hpre
          · rw [put_at_ne, h1.2 d hd]
            intro hd'
            exact hij (S.one ho hjn i d (by omega) hd hd')
    have goOn : ∀ w' a' v, ((if j = Y.s then Y.M w w' else Y.K w w') ∨ w' = w) → (F j).holds true w' v → a' = a.put o.dst v → wpAnyIn Fence.wide lv P .any ops Q' fuel (listed.setIfInBounds j true) a' w' := fun w' a' v h1 h2 h3 =>
      ih _ _ _ (by simp [hls]) hcount (next w' a' v h1 h2 h3)
    -- what the guard says
    have hwant : ∀ b, says F o = some b → Region.wanted o (yielded ops a.tmps) = b := by
      intro b hb
      unfold says at hb
      unfold Region.wanted
      cases hgu : o.guard with
      | none => simp only [hgu] at hb; simpa using hb
      | some gw =>
        obtain ⟨g, want⟩ := gw
        obtain ⟨hgp, hgd⟩ := S.guard ho g want hgu
        simp only [hgu] at hb ⊢
        obtain ⟨d, hd⟩ := Option.isSome_iff_exists.1 hgd
        have hg1 := hf g (hps g hgp) (hpl g hgp)
        have hgs : g < ops.size := by have := hps g hgp; omega
        have hog : ops[g]? = some (ops[g]'hgs) := Array.getElem?_eq_getElem hgs
        have hgd' := S.dst hog
        cases hkn : F g with
        | of r => rw [hkn] at hb; simp at hb
        | till r => rw [hkn] at hb; simp at hb
        | is v =>
          rw [hkn] at hb hg1
          simp only [Know.holds] at hg1
          have hy : yielded ops a.tmps g = boolOf v := by
            unfold yielded
            rw [hog]
            simp only [Option.bind_some]
            rw [← hgd', hd]
            simp only [Option.bind_some]
            rw [hg1.2 d hd, hg1.1]
            cases v <;> rfl
          rw [hy]
          simpa using hb
    unfold wpOpIn
    simp only [ho]
    rcases hGj.2 with ⟨hs, l, hl, hop⟩ | ⟨hs, hk⟩
    · obtain ⟨hl1, hl2⟩ := fits_spec hl
      rw [if_pos (hwant _ hs)]
      have hb1 : j = Y.s → Y.B1 w := fun h => I.base1 (h ▸ hjun)
      -- the frame that it is shown in
      have hc := from_at (f := f) (hop w I.base hb1) fun i hi => by
        have h1 := (hf i (hps i (hl1 i hi)) (hpl i (hl1 i hi))).1
        cases hk : F i with
        | is u => rw [hk] at h1; exact h1
        | of r => rw [hk] at h1; exact h1
        | till r =>
          rw [hk] at h1
          intro hpre
          have : j = Y.s := by simpa using hpre
          exact h1 (by rw [← this, hjun]; rfl)
      obtain ⟨c, hcdef⟩ : ∃ c, putAll ds f l a0 = c := ⟨_, rfl⟩
      have hcsize : c.tmps.size = a0.tmps.size := by rw [← hcdef]; exact putAll_size _ _
      have agree : ∀ t, Operand.tmp t ∈ o.op.operands → a.tmps[t]? = c.tmps[t]? := by
        intro t ht
        have htl : t ∈ o.looksAt ops := List.mem_append_left _ (List.mem_filterMap.2 ⟨.tmp t, by simpa using ht, rfl⟩)
        rw [← hcdef]
        by_cases hex : ∃ i, i < n ∧ ds.getD i none = some t
        · obtain ⟨i, hi, hd⟩ := hex
          have hoi : ops[i]? = some (ops[i]'(by omega)) := Array.getElem?_eq_getElem (by omega)
          have hip := S.looks ho hjn i t (by omega) hd htl
          rw [(hf i hi (hpl i hip)).2 t hd]
          exact (putAll_at _ _ (S.small hoi t (S.dst hoi ▸ hd)) (hl2 i hip t hd ht) hd fun k hk hdk => S.one hoi hi k t (by have := hps k (hl1 k hk); omega) hdk (S.dst hoi ▸ hd)).symm
        · rw [putAll_ne _ _ fun i hi hd => hex ⟨i, hps i (hl1 i hi), hd⟩, I.other t fun i hi hd => absurd ⟨i, hi, hd⟩ hex]
      have heval : ∀ x ∈ o.op.operands, a.eval x = c.eval x := by
        intro x hx
        cases x with
        | tmp t =>
          have := agree t hx
          simp only [Act.eval, Array.getD_eq_getD_getElem?]
          rw [this]
        | _ => rfl
      have hexec : execOp a.eval o = execOp c.eval o := execOp_congr o (fun cs b => S.nosel j o cs b ho) heval
      rw [hcdef] at hc
      have hcl := hc (fun e a' w' => e = .normal ∧ a'.defers = c.defers ∧ (if j = Y.s then Y.M w w' else Y.K w w') ∧ (F j).holds true w' (last a' o.dst)) fun a' w' h1 h2 h3 => ⟨rfl, h1, h2, h3⟩
      simp only [wpList, Region.wanted, if_true] at hcl
      rcases hcl with hcl | ⟨_, hout⟩
      · have hlast : ∀ v, last (c.put o.dst v) o.dst = v ∨ (o.dst = none ∧ last (c.put o.dst v) o.dst = undef) := by
          intro v
          cases hd : o.dst with
          | none => exact .inr ⟨rfl, rfl⟩
          | some d =>
            refine .inl ?_
            change ((c.put (some d) v).tmps[d]?).getD undef = v
            rw [put_at_same _ _ (by rw [hcsize]; exact S.small ho d hd)]
            rfl
        have fin : ∀ v w', (if j = Y.s then Y.M w w' else Y.K w w') → (F j).holds true w' (last (c.put o.dst v) o.dst) → wpAnyIn Fence.wide lv P .any ops Q' fuel (listed.setIfInBounds j true) (a.put o.dst v) w' := by
          intro v w' h1 h2
          rcases hlast v with h | ⟨hn, h⟩
          · rw [h] at h2
            exact goOn w' _ v (.inl h1) h2 rfl
          · rw [h] at h2
            refine goOn w' _ undef (.inl h1) h2 ?_
            rw [hn]; rfl
        unfold Oper.wp at hcl
        unfold Oper.wpIn
        refine ⟨fun _ _ => trivial, ?_⟩
        rw [show Fence.wide.round = none from rfl, Oper.semAt_none, hexec]
        have hx2 : execOp c.eval { o with guard := none } = execOp c.eval o := rfl
        rw [hx2] at hcl
        generalize (execOp c.eval o).run P w = r at hcl ⊢
        cases r with
        | halt x w' => cases x <;> simp [Oper.upon] at hcl
        | ok n w' =>
          cases n
          case value v => exact fin v w' hcl.2.2.1 hcl.2.2.2
          case skip => exact fin undef w' hcl.2.2.1 hcl.2.2.2
          case defer d =>
            have h1 := hcl.2.1
            rw [put_defers'] at h1
            have := congrArg List.length h1
            simp at this
          case row row args =>
            refine ⟨(fun hh => by cases hh), fun c cs _ => ?_⟩
            obtain ⟨v, w'', hR, hs⟩ := hcl c cs
            exact ⟨v, w'', fin v w'' hR.2.2.1 hR.2.2.2, stepsIn_wide.2 hs⟩
          case enter fn args =>
            refine ⟨(fun hh => by cases hh), callsIn_wide.2 (Calls.mono hcl fun e w'' h => ?_)⟩
            cases e with
            | returned v => exact fin v w'' h.2.2.1 h.2.2.2
            | panicked ch => simp at h
            | outgrown => obtain ⟨_, _, h, _⟩ := h; cases h
          all_goals exact hcl.elim
      · obtain ⟨_, _, h, _⟩ := hout
        cases h
    · rw [if_neg (by rw [hwant _ hs]; simp)]
      exact ⟨fun _ _ => trivial, goOn w _ undef (.inr rfl) (by rw [hk]; rfl) rfl⟩

/-- the first ones in whatever order, the tail behind them. -/
theorem any_regionY {Q' : Exit → Act → World → Prop} {l tail : List Oper} {a : Act} {w : World} (Y : Way) (ds : List (Option Tmp)) (size : Nat) (hs : sane (l ++ tail).toArray ds size l.length = true) (hc : closesY (l ++ tail).toArray l.length = true) (hz : a.tmps.size = size)
    (HY : Y.Fair) (hB : Y.B w.drew) (hB1 : Y.B1 w.drew) (h : walk P Y ds a (fun a w => wpListIn Fence.wide lv P (l ++ tail).toArray Q' tail a w) l []) : wpAnyIn Fence.wide lv P .any (l ++ tail).toArray Q' (l ++ tail).toArray.size (Array.replicate (l ++ tail).toArray.size false) a { w with drawn := w.drawn + 1 } := by
  subst hz
  have S := sane_spec hs
  have hpre : ∀ (j : Nat) (o : Oper), l[j]? = some o → (l ++ tail).toArray[j]? = some o := fun j o hj => by
    have := (List.getElem?_eq_some_iff.1 hj).1
    simpa [List.getElem?_append_left this] using hj
  obtain ⟨F, _, h2, h3⟩ := extract l [] (fun j o hj => ⟨fun i hi => by
    have := S.before (hpre j o hj) i hi
    simpa using this, fun g b hg => (S.guard (hpre j o hj) g b hg).1⟩) h
  have hsz : (l ++ tail).toArray.size = l.length + tail.length := by simp
  refine (wp_anyY (Q := fun a w => wpListIn Fence.wide lv P (l ++ tail).toArray Q' tail a w) (F := F) (a0 := a) (n := l.length) S HY (by omega) (fun j o hj ho => ?_) (closes_specY hc) (fun w' hw' => ?_) tail hsz.symm (fun i => ?_) (fun _ _ h => h) _ _ _ _ (by simp) ?_ ⟨hB, fun _ => hB1, rfl, rfl, fun j _ => ?_, fun j o _ hl => ?_, fun _ _ => rfl, fun _ => undef, fun i hi hl => ?_⟩)
  · have h4 : l[j]? = some l[j] := List.getElem?_eq_getElem hj
    have h5 := hpre j _ h4
    rw [h5] at ho
    obtain rfl := Option.some.inj ho
    have := h2 j _ h4
    simpa using this
  · have := h3 w' hw'
    simpa using this
  · rw [List.getElem?_toArray, List.getElem?_append_right (by omega), Nat.add_sub_cancel_left]
  · have := List.countP_le_length (p := fun i => !(Array.replicate (l ++ tail).toArray.size false).getD i true) (l := List.range (l ++ tail).toArray.size)
    simpa using this
  · by_cases hj : j < (l ++ tail).toArray.size
    · simp at hj; simp [hj]
    · simp at hj; simp [show ¬ j < l.length + tail.length by omega]
  · by_cases hj : j < (l ++ tail).toArray.size
    · simp at hj; simp [hj] at hl
    · simp at hj; simp [show ¬ j < l.length + tail.length by omega] at hl
  · have : i < l.length + tail.length := by omega
    simp [this] at hl
/-- **THE LAW**: at a region that draws its order: the first ones in whatever order, the tail behind them. -/
theorem wp_regionY {id : Nat} {Q' : Exit → Act → World → Prop} {l tail : List Oper} {ops : Array Oper} {a : Act} {w : World} (Y : Way) (ds : List (Option Tmp)) (size : Nat) (ho : ops = (l ++ tail).toArray) (hm : P.follows .mixedOrders = true) (hs : sane ops ds size l.length = true) (hc : closesY ops l.length = true) (hz : a.tmps.size = size)
    (HY : Y.Fair) (hB : Y.B w.drew) (hB1 : Y.B1 w.drew) (h : ∀ Q : Act → World → Prop, (∀ a w, wpListIn Fence.wide lv P ops Q' tail a w → Q a w) → walk P Y ds a Q l []) : (Code.region id ops true).wpIn Fence.wide lv P Q' a w := by
  subst ho
  exact wpIn_region_any hm (any_regionY Y ds size hs hc hz HY hB hB1 (h _ fun _ _ h => h))

end
end Go.Rgb
