/-
  Parts of these texts that the statement needs: Yield, PlyC, Ways, RoundY.
-/
import Derived.Test.YtlbhmoiicbhgkaaDoorRobQ5
import Derived.OrdersIn
import Derived.Test.YtlbhmoiicbhgkaaDoorRobQ6
import Derived.Test.YtlbhmoiicbhgkaaDoorRobQ1
import Derived.Maps.OwnSet
import Derived.Laws.EntriesVeiled
import Derived.RegionTactic
import Derived.ChangeAlike

section
namespace Go.Rgb
section
variable {P : Program} {lv : Nat} {Y : Way} {ds : List (Option Tmp)} {a0 : Act} {Q : Act → World → Prop} {ops : Array Oper}
/-- from number n on each waits, at last, for all ahead of it. -/
def closesY (ops : Array Oper) (n : Nat) : Bool :=
  (List.range ops.size).all fun j => decide (j < n) || match ops[j]? with
    | none => true
    | some _ => (List.range j).all fun i => (List.range (j + 1)).any fun i' => decide (i < i') && match ops[i']? with
      | none => false
      | some o' => (predsOf o').contains i
theorem closes_specY {n : Nat} (h : closesY ops n = true) : ∀ j o, n ≤ j → ops[j]? = some o → ∀ i, i < j → ∃ i' o', i < i' ∧ i' ≤ j ∧ ops[i']? = some o' ∧ i ∈ predsOf o' := by
  intro j o hj ho
  simp only [closesY, List.all_eq_true, List.mem_range, Bool.or_eq_true, decide_eq_true_eq] at h
  have h1 := (h j (Array.getElem?_eq_some_iff.1 ho).1).resolve_left (by omega)
  simp only [ho, List.all_eq_true, List.mem_range, List.any_eq_true, Bool.and_eq_true, decide_eq_true_eq] at h1
  intro i hi
  obtain ⟨i', h2, h3, h4⟩ := h1 i hi
  cases h5 : ops[i']? with
  | none => rw [h5] at h4; simp at h4
  | some o' =>
    rw [h5] at h4
    exact ⟨i', o', h3, by omega, h5, List.contains_iff_mem.1 h4⟩
/-- the tail: one behind the other. -/
theorem wp_tailY {Q' : Exit → Act → World → Prop} {n : Nat} (S : Sane ops ds a0.tmps.size n) (hL : ∀ j o, n ≤ j → ops[j]? = some o → ∀ i, i < j → ∃ i' o', i < i' ∧ i' ≤ j ∧ ops[i']? = some o' ∧ i ∈ predsOf o') :
    ∀ (tail : List Oper) (m fuel : Nat) (listed : Array Bool) (a : Act) (w : World), n ≤ m → m + tail.length = ops.size → (∀ i, tail[i]? = ops[m + i]?) → tail.length ≤ fuel → (∀ i, i < ops.size → listed.getD i false = decide (i < m)) → listed.size = ops.size →
      wpListIn Fence.wide lv P ops Q' tail a w → wpAnyIn Fence.wide lv P .any ops Q' fuel listed a w
  | [], m, fuel, listed, a, w, hm, hlen, ht, hf, hl, hls, h => by
    refine wpAnyIn_done ?_ h fuel
    rw [List.eq_nil_iff_forall_not_mem]
    intro i hi
    obtain ⟨h0, oi, hoi, _⟩ := mem_ready.1 hi
    have his := (Array.getElem?_eq_some_iff.1 hoi).1
    have h2 := hl i his
    simp only [List.length_nil] at hlen
    have h3 : i < listed.size := by omega
    have h4 : i < m := by omega
    simp [h3] at h0 h2
    rw [h0] at h2; simp [h4] at h2
  | o :: tail, m, fuel, listed, a, w, hm, hlen, ht, hf, hl, hls, h => by
    simp only [List.length_cons] at hlen hf
    have ho : ops[m]? = some o := by simpa using (ht 0).symm
    have hms : m < ops.size := by omega
    obtain ⟨fuel, rfl⟩ : ∃ k, fuel = k + 1 := ⟨fuel - 1, by omega⟩
    have hlm : ∀ i, i < m → listed.getD i false = true := fun i hi => by rw [hl i (by omega)]; simpa using hi
    have hready : m ∈ Region.ready .any ops listed := mem_ready.2 ⟨by
      have := hl m hms
      have h3 : m < listed.size := by omega
      simp [h3] at this ⊢; exact this, o, ho, fun e he hb => hlm _ (S.before ho _ (mem_preds.2 ⟨e, he, hb, rfl⟩))⟩
    refine ⟨fun h0 => absurd hready (by rw [h0]; simp), fun j hj => ?_⟩
    obtain ⟨hun, oj, hoj, hall⟩ := mem_ready.1 hj
    have hjs := (Array.getElem?_eq_some_iff.1 hoj).1
    have hjm : j = m := by
      have h2 := hl j hjs
      have h3 : j < listed.size := by omega
      have hge : m ≤ j := by
        rcases Nat.lt_or_ge j m with h4 | h4
        · have h5 := hlm j h4
          simp [h3] at hun h5; rw [hun] at h5; cases h5
        · exact h4
      rcases Nat.lt_or_ge m j with h4 | h4
      · -- m < j ready: then all ahead of it are listed: m too
        exfalso
        -- the successor of j - 1 ..: it is j itself, as i' in (j-1, j]
        have key : ∀ i, m ≤ i → i < j → False ∨ listed.getD i false = true := by
          intro i hi hij
          obtain ⟨i', o', h5, h6, h7, h8⟩ := hL j oj (by omega) hoj (j - 1) (by omega)
          obtain rfl : i' = j := by omega
          rw [hoj] at h7
          obtain rfl := Option.some.inj h7
          obtain ⟨e, he, hb, heq⟩ := mem_preds.1 h8
          have h9 := hall e he hb
          rw [heq, hl _ (by omega)] at h9
          simp at h9; omega
        rcases key m (Nat.le_refl _) h4 with h5 | h5
        · exact h5
        · rw [hl m hms] at h5; simp at h5
      · omega
    subst hjm
    rw [ho] at hoj
    obtain rfl := Option.some.inj hoj
    have go : ∀ a' w', wpListIn Fence.wide lv P ops Q' tail a' w' → wpAnyIn Fence.wide lv P .any ops Q' fuel (listed.setIfInBounds j true) a' w' := by
      intro a' w' h'
      refine wp_tailY S hL tail (j + 1) fuel _ a' w' (by omega) (by omega) (fun i => by have := ht (i + 1); simpa [Nat.add_assoc, Nat.add_comm 1 i] using this) (by omega) (fun i hi => ?_) (by simp [hls]) h'
      by_cases hij : j = i
      · subst hij
        rw [getD_set_same (by omega)]; simp
      · rw [getD_set_ne false hij, hl i hi]
        by_cases h1 : i < j
        · simp [h1]; omega
        · simp [h1]; omega
    unfold wpOpIn
    simp only [ho]
    unfold wpListIn at h
    by_cases hw : Region.wanted o (yielded ops a.tmps) = true
    · rw [if_pos hw] at h ⊢
      exact Oper.wpIn_mono go h
    · rw [if_neg hw] at h ⊢
      exact ⟨h.1, go _ _ h.2⟩
theorem wp_anyY {F : Nat → Know} {n : Nat} {Q' : Exit → Act → World → Prop} (S : Sane ops ds a0.tmps.size n) (HY : Y.Fair) (hn : n ≤ ops.size)
    (hG : ∀ j o, j < n → ops[j]? = some o → Good P Y ds a0 F j o (F j))
    (hL : ∀ j o, n ≤ j → ops[j]? = some o → ∀ i, i < j → ∃ i' o', i < i' ∧ i' ≤ j ∧ ops[i']? = some o' ∧ i ∈ predsOf o')
    (hQ : ∀ w, Y.B w → from_ ds F (decide (n ≤ Y.s)) w (List.range n) a0 fun a => Q a w) 
    (tail : List Oper) (htl : n + tail.length = ops.size) (ht : ∀ i, tail[i]? = ops[n + i]?) (hQ' : ∀ a w, Q a w → wpListIn Fence.wide lv P ops Q' tail a w) :
    ∀ (fuel : Nat) (listed : Array Bool) (a : Act) (w : World), listed.size = ops.size → (List.range ops.size).countP (fun i => !listed.getD i true) ≤ fuel → Inv n ops ds Y a0 F listed a w → wpAnyIn Fence.wide lv P .any ops Q' fuel listed a w := by
  have full : ∀ (listed : Array Bool) (a : Act) (w : World), Inv n ops ds Y a0 F listed a w → (∀ i, i < n → listed.getD i false = true) → Q a w := by
    intro listed a w I all
    obtain ⟨f, hf⟩ := I.some_
    have hpre : (!listed.getD Y.s false) = decide (n ≤ Y.s) := by
      rcases Nat.lt_or_ge Y.s n with h | h
      · rw [all _ h]; simp; omega
      · rw [I.unlisted _ h]; simp; omega
    have h := from_at (f := f) (hQ w I.base) fun i hi => by
      have := (hf i (List.mem_range.1 hi) (all _ (List.mem_range.1 hi))).1
      rwa [hpre] at this
    have hea : putAll ds f (List.range n) a0 = a := by
      have ht : (putAll ds f (List.range n) a0).tmps = a.tmps := by
        apply Array.ext_getElem?
        intro t
        by_cases hex : ∃ i, i < n ∧ ds.getD i none = some t
        · obtain ⟨i, hi, hd⟩ := hex
          have ho : ops[i]? = some (ops[i]'(by omega)) := Array.getElem?_eq_getElem (by omega)
          have hod := S.dst ho
          rw [((hf i hi (all _ hi)).2 t hd)]
          refine putAll_at _ _ (S.small ho t (hod ▸ hd)) (List.mem_range.2 hi) hd fun j hj hdj => S.one ho hi j t (by have := List.mem_range.1 hj; omega) hdj (hod ▸ hd)
        · rw [putAll_ne _ _ fun i hi hd => hex ⟨i, List.mem_range.1 hi, hd⟩, I.other t fun i hi hd => absurd ⟨i, hi, hd⟩ hex]
      have hd := (putAll_defers (ds := ds) (f := f) (List.range n) a0).trans I.defers.symm
      generalize putAll ds f (List.range n) a0 = b at *
      cases a; cases b
      simp only at ht hd
      rw [ht, hd]
    rw [← hea]
    exact h
  -- all of the first n are listed: the tail
  have toTail : ∀ (fuel : Nat) (listed : Array Bool) (a : Act) (w : World), listed.size = ops.size → (List.range ops.size).countP (fun i => !listed.getD i true) ≤ fuel → Inv n ops ds Y a0 F listed a w → (∀ i, i < n → listed.getD i false = true) → wpAnyIn Fence.wide lv P .any ops Q' fuel listed a w := by
    intro fuel listed a w hls hc I all
    have hl : ∀ i, i < ops.size → listed.getD i false = decide (i < n) := fun i hi => by
      rcases Nat.lt_or_ge i n with h | h
      · rw [all i h]; simp [h]
      · rw [I.unlisted i h]; simp; omega
    refine wp_tailY S hL tail n fuel listed a w (Nat.le_refl _) htl ht ?_ hl hls (hQ' a w (full listed a w I all))
    -- as many are left as the tail is long
    have hcount : ∀ k, k ≤ ops.size → (List.range k).countP (fun i => !listed.getD i true) = k - n := by
      intro k
      induction k with
      | zero => intro _; simp
      | succ k ih =>
        intro hk
        rw [List.range_succ, List.countP_append, ih (by omega)]
        have h1 := hl k (by omega)
        have h2 : k < listed.size := by omega
        simp [h2] at h1
        rcases Nat.lt_or_ge k n with h | h
        · simp [h2, h1, h]; omega
        · have : ¬ k < n := by omega
          simp [h2, h1, this]; omega
    have := hcount ops.size (Nat.le_refl _)
    omega
  have stuck : ∀ (listed : Array Bool) (a : Act) (w : World), listed.size = ops.size → Inv n ops ds Y a0 F listed a w → Region.ready .any ops listed = [] → ∀ m j, j < m → j < ops.size → listed.getD j false = true := by
    intro listed a w hls I hr m
    induction m with
    | zero => intro j hj; omega
    | succ m ih =>
      intro j hj hjs
      have ho : ops[j]? = some ops[j] := Array.getElem?_eq_getElem hjs
      cases hl : listed.getD j true with
      | true =>
        have : j < listed.size := by omega
        simp [this] at hl ⊢; exact hl
      | false =>
        have : j ∈ Region.ready .any ops listed := mem_ready.2 ⟨hl, _, ho, fun e he hb => by
          have hlt := S.before ho e.on (mem_preds.2 ⟨e, he, hb, rfl⟩)
          exact ih e.on (by omega) (by omega)⟩
        rw [hr] at this; cases this
  intro fuel
  induction fuel with
  | zero =>
    intro listed a w hls hc I
    have hr : Region.ready .any ops listed = [] := by
      rw [List.eq_nil_iff_forall_not_mem]
      intro j hj
      obtain ⟨h0, o, ho, _⟩ := mem_ready.1 hj
      have := List.countP_eq_zero.1 (Nat.le_zero.1 hc) j (List.mem_range.2 (Array.getElem?_eq_some_iff.1 ho).1)
      rw [h0] at this; simp at this
    have all := stuck listed a w hls I hr
    exact toTail 0 listed a w hls hc I fun i hi => all _ i (Nat.lt_succ_self i) (by omega)
  | succ fuel ih =>
    intro listed a w hls hc I
    by_cases hfull : ∀ i, i < n → listed.getD i false = true
    case pos => exact toTail (fuel + 1) listed a w hls hc I hfull
    case neg =>
    refine ⟨fun hr => absurd (fun i hi => stuck listed a w hls I hr _ i (Nat.lt_succ_self i) (by omega)) hfull, fun j hj => ?_⟩
    obtain ⟨hun, o, ho, hall⟩ := mem_ready.1 hj
    have hjs : j < ops.size := (Array.getElem?_eq_some_iff.1 ho).1
    have hpl : ∀ i ∈ predsOf o, listed.getD i false = true := fun i hi => by
      obtain ⟨e, he, hb, rfl⟩ := mem_preds.1 hi
      exact hall e he hb
    have hjn : j < n := by
      rcases Nat.lt_or_ge j n with h | h
      · exact h
      · exfalso
        -- all ahead of it are listed
        have all : ∀ d i, i < j → j - i ≤ d → listed.getD i false = true := by
          intro d
          induction d with
          | zero => intro i hi hd; omega
          | succ d ihd =>
            intro i hi hd
            obtain ⟨i', o', h1, h2, h3, h4⟩ := hL j o h ho i hi
            rcases Nat.lt_or_ge i' j with h5 | h5
            · exact I.down i' o' h3 (ihd i' h5 (by omega)) i h4
            · obtain rfl : i' = j := by omega
              rw [ho] at h3
              obtain rfl := Option.some.inj h3
              exact hpl i h4
        exact hfull fun i hi => all _ i (by omega) (Nat.le_refl _)
    have hcount : (List.range ops.size).countP (fun i => !(listed.setIfInBounds j true).getD i true) ≤ fuel := by
      have := count_lt (List.range ops.size) (fun i => !listed.getD i true) (fun i => !(listed.setIfInBounds j true).getD i true) j (List.mem_range.2 hjs) (by rw [hun]; rfl) (by
        have : j < listed.size := by omega
        simp [this]) fun k hk => by
          by_cases hkj : j = k
          · subst hkj
            have : j < listed.size := by omega
            simp [this] at hk
          · rw [getD_set_ne true hkj] at hk; exact hk
      omega
    have hod := S.dst ho
    obtain ⟨f, hf⟩ := I.some_
    have hps : ∀ i ∈ predsOf o, i < n := fun i hi => by have := S.before ho i hi; omega
    have hjl : j < listed.size := by omega
    have hjun : listed.getD j false = false := by simp [hjl] at hun ⊢; exact hun
    have hGj := hG j o hjn ho
    -- whatever it leaves: the next state is one of ours
    have next : ∀ w' a' v, ((if j = Y.s then Y.M w w' else Y.K w w') ∨ w' = w) → (F j).holds true w' v → a' = a.put o.dst v → Inv n ops ds Y a0 F (listed.setIfInBounds j true) a' w' := by
      intro w' a' v hw' hv ha
      subst ha
      refine ⟨?_, fun hs => ?_, (put_defers' ..).trans I.defers, (put_size ..).trans I.size, fun k hk => ?_, fun k ok hok hk i hi => ?_, fun t ht => ?_, fun i => if i = j then v else f i, fun i hi hl => ?_⟩
      · rcases hw' with h | rfl
        · split at h
          · exact HY.bm _ _ I.base h
          · exact HY.bk _ _ I.base h
        · exact I.base
      · have hjs' : j ≠ Y.s := by
          rintro rfl
          rw [getD_set_same hjl] at hs; cases hs
        rw [getD_set_ne false hjs'] at hs
        rcases hw' with h | rfl
        · rw [if_neg hjs'] at h
          exact HY.b1 _ _ (I.base1 hs) h
        · exact I.base1 hs
      · rw [getD_set_ne false (by omega)]; exact I.unlisted k hk
      · by_cases hkj : j = k
        · subst hkj
          rw [ho] at hok
          obtain rfl := Option.some.inj hok
          exact getD_set_true (hpl i hi)
        · rw [getD_set_ne false hkj] at hk
          exact getD_set_true (I.down k ok hok hk i hi)
      · rw [put_at_ne, I.other]
        · intro i hi hd
          have h1 := ht i hi hd
          by_cases hij : j = i
          · subst hij
            rw [getD_set_same hjl] at h1; cases h1
          · rw [getD_set_ne false hij] at h1; exact h1
        · intro hd
          have h1 := ht j hjn (hod.trans hd)
          rw [getD_set_same hjl] at h1; cases h1
      · by_cases hij : i = j
        · subst hij
          simp only [if_true]
          refine ⟨?_, fun d hd => ?_⟩
          · cases hk : F i with
            | is u => rw [hk] at hv; exact hv
            | of r => rw [hk] at hv; exact hv
            | till r => rw [hk] at hv; exact fun _ => hv rfl
          · rw [hod] at hd
            rw [hd]
            exact put_at_same _ _ (by rw [I.size]; exact S.small ho d hd)
        · simp only [if_neg hij]
          rw [getD_set_ne false (Ne.symm hij)] at hl
          have h1 := hf i hi hl
          refine ⟨?_, fun d hd => ?_⟩
          · have hst := (hG i _ hi (Array.getElem?_eq_getElem (by omega))).1
            have h2 := h1.1
            cases hk : F i with
            | is u => rw [hk] at h2; exact h2
            | of r =>
              rw [hk] at h2 hst
              rcases hw' with h | rfl
              · split at h
                · rename_i hjs
                  refine hst.2 (by omega) ?_ _ _ _ h h2
                  cases hdep : (predsOf (ops[i]'(by omega))).contains Y.s with
                  | false => rfl
                  | true =>
                    have hdn := I.down i _ (Array.getElem?_eq_getElem (by omega)) hl Y.s (List.contains_iff_mem.1 hdep)
                    rw [← hjs, hjun] at hdn
                    cases hdn
                · exact hst.1 _ _ _ h h2
              · exact h2
            | till r =>
              rw [hk] at h2 hst
              intro hpre
              have hjs' : j ≠ Y.s := by
                rintro rfl
                rw [getD_set_same hjl] at hpre; cases hpre
              rw [getD_set_ne false hjs'] at hpre
              rcases hw' with h | rfl
              · rw [if_neg hjs'] at h
                exact hst.2 _ _ _ h (h2 hpre)
              · exact h2 hpre
          · rw [put_at_ne, h1.2 d hd]
            intro hd'
            exact hij (S.one ho hjn i d (by omega) hd hd')
    have goOn : ∀ w' a' v, ((if j = Y.s then Y.M w w' else Y.K w w') ∨ w' = w) → (F j).holds true w' v → a' = a.put o.dst v → wpAnyIn Fence.wide lv P .any ops Q' fuel (listed.setIfInBounds j true) a' w' := fun w' a' v h1 h2 h3 =>
      ih _ _ _ (by simp [hls]) hcount (next w' a' v h1 h2 h3)
    -- what the guard says
    have hwant : ∀ b, says F o = some b → Region.wanted o (yielded ops a.tmps) = b := by
      intro b hb
      unfold says at hb
      unfold Region.wanted
      cases hgu : o.guard with
      | none => simp only [hgu] at hb; simpa using hb
      | some gw =>
        obtain ⟨g, want⟩ := gw
        obtain ⟨hgp, hgd⟩ := S.guard ho g want hgu
        simp only [hgu] at hb ⊢
        obtain ⟨d, hd⟩ := Option.isSome_iff_exists.1 hgd
        have hg1 := hf g (hps g hgp) (hpl g hgp)
        have hgs : g < ops.size := by have := hps g hgp; omega
        have hog : ops[g]? = some (ops[g]'hgs) := Array.getElem?_eq_getElem hgs
        have hgd' := S.dst hog
        cases hkn : F g with
        | of r => rw [hkn] at hb; simp at hb
        | till r => rw [hkn] at hb; simp at hb
        | is v =>
          rw [hkn] at hb hg1
          simp only [Know.holds] at hg1
          have hy : yielded ops a.tmps g = boolOf v := by
            unfold yielded
            rw [hog]
            simp only [Option.bind_some]
            rw [← hgd', hd]
            simp only [Option.bind_some]
            rw [hg1.2 d hd, hg1.1]
            cases v <;> rfl
          rw [hy]
          simpa using hb
    unfold wpOpIn
    simp only [ho]
    rcases hGj.2 with ⟨hs, l, hl, hop⟩ | ⟨hs, hk⟩
    · obtain ⟨hl1, hl2⟩ := fits_spec hl
      rw [if_pos (hwant _ hs)]
      have hb1 : j = Y.s → Y.B1 w := fun h => I.base1 (h ▸ hjun)
      -- the frame that it is shown in
      have hc := from_at (f := f) (hop w I.base hb1) fun i hi => by
        have h1 := (hf i (hps i (hl1 i hi)) (hpl i (hl1 i hi))).1
        cases hk : F i with
        | is u => rw [hk] at h1; exact h1
        | of r => rw [hk] at h1; exact h1
        | till r =>
          rw [hk] at h1
          intro hpre
          have : j = Y.s := by simpa using hpre
          exact h1 (by rw [← this, hjun]; rfl)
      obtain ⟨c, hcdef⟩ : ∃ c, putAll ds f l a0 = c := ⟨_, rfl⟩
      have hcsize : c.tmps.size = a0.tmps.size := by rw [← hcdef]; exact putAll_size _ _
      have agree : ∀ t, Operand.tmp t ∈ o.op.operands → a.tmps[t]? = c.tmps[t]? := by
        intro t ht
        have htl : t ∈ o.looksAt ops := List.mem_append_left _ (List.mem_filterMap.2 ⟨.tmp t, by simpa using ht, rfl⟩)
        rw [← hcdef]
        by_cases hex : ∃ i, i < n ∧ ds.getD i none = some t
        · obtain ⟨i, hi, hd⟩ := hex
          have hoi : ops[i]? = some (ops[i]'(by omega)) := Array.getElem?_eq_getElem (by omega)
          have hip := S.looks ho hjn i t (by omega) hd htl
          rw [(hf i hi (hpl i hip)).2 t hd]
          exact (putAll_at _ _ (S.small hoi t (S.dst hoi ▸ hd)) (hl2 i hip t hd ht) hd fun k hk hdk => S.one hoi hi k t (by have := hps k (hl1 k hk); omega) hdk (S.dst hoi ▸ hd)).symm
        · rw [putAll_ne _ _ fun i hi hd => hex ⟨i, hps i (hl1 i hi), hd⟩, I.other t fun i hi hd => absurd ⟨i, hi, hd⟩ hex]
      have heval : ∀ x ∈ o.op.operands, a.eval x = c.eval x := by
        intro x hx
        cases x with
        | tmp t =>
          have := agree t hx
          simp only [Act.eval, Array.getD_eq_getD_getElem?]
          rw [this]
        | _ => rfl
      have hexec : execOp a.eval o = execOp c.eval o := execOp_congr o (fun cs b => S.nosel j o cs b ho) heval
      rw [hcdef] at hc
      have hcl := hc (fun e a' w' => e = .normal ∧ a'.defers = c.defers ∧ (if j = Y.s then Y.M w w' else Y.K w w') ∧ (F j).holds true w' (last a' o.dst)) fun a' w' h1 h2 h3 => ⟨rfl, h1, h2, h3⟩
      simp only [wpList, Region.wanted, if_true] at hcl
      rcases hcl with hcl | ⟨_, hout⟩
      · have hlast : ∀ v, last (c.put o.dst v) o.dst = v ∨ (o.dst = none ∧ last (c.put o.dst v) o.dst = undef) := by
          intro v
          cases hd : o.dst with
          | none => exact .inr ⟨rfl, rfl⟩
          | some d =>
            refine .inl ?_
            change ((c.put (some d) v).tmps[d]?).getD undef = v
            rw [put_at_same _ _ (by rw [hcsize]; exact S.small ho d hd)]
            rfl
        have fin : ∀ v w', (if j = Y.s then Y.M w w' else Y.K w w') → (F j).holds true w' (last (c.put o.dst v) o.dst) → wpAnyIn Fence.wide lv P .any ops Q' fuel (listed.setIfInBounds j true) (a.put o.dst v) w' := by
          intro v w' h1 h2
          rcases hlast v with h | ⟨hn, h⟩
          · rw [h] at h2
            exact goOn w' _ v (.inl h1) h2 rfl
          · rw [h] at h2
            refine goOn w' _ undef (.inl h1) h2 ?_
            rw [hn]; rfl
        unfold Oper.wp at hcl
        unfold Oper.wpIn
        refine ⟨fun _ _ => trivial, ?_⟩
        rw [show Fence.wide.round = none from rfl, Oper.semAt_none, hexec]
        have hx2 : execOp c.eval { o with guard := none } = execOp c.eval o := rfl
        rw [hx2] at hcl
        generalize (execOp c.eval o).run P w = r at hcl ⊢
        cases r with
        | halt x w' => cases x <;> simp [Oper.upon] at hcl
        | ok n w' =>
          cases n
          case value v => exact fin v w' hcl.2.2.1 hcl.2.2.2
          case skip => exact fin undef w' hcl.2.2.1 hcl.2.2.2
          case defer d =>
            have h1 := hcl.2.1
            rw [put_defers'] at h1
            have := congrArg List.length h1
            simp at this
          case row row args =>
            refine ⟨(fun hh => by cases hh), fun c cs _ => ?_⟩
            obtain ⟨v, w'', hR, hs⟩ := hcl c cs
            exact ⟨v, w'', fin v w'' hR.2.2.1 hR.2.2.2, stepsIn_wide.2 hs⟩
          case enter fn args =>
            refine ⟨(fun hh => by cases hh), callsIn_wide.2 (Calls.mono hcl fun e w'' h => ?_)⟩
            cases e with
            | returned v => exact fin v w'' h.2.2.1 h.2.2.2
            | panicked ch => simp at h
            | outgrown => obtain ⟨_, _, h, _⟩ := h; cases h
          all_goals exact hcl.elim
      · obtain ⟨_, _, h, _⟩ := hout
        cases h
    · rw [if_neg (by rw [hwant _ hs]; simp)]
      exact ⟨fun _ _ => trivial, goOn w _ undef (.inr rfl) (by rw [hk]; rfl) rfl⟩
/-- the first ones in whatever order, the tail behind them. -/
theorem any_regionY {Q' : Exit → Act → World → Prop} {l tail : List Oper} {a : Act} {w : World} (Y : Way) (ds : List (Option Tmp)) (size : Nat) (hs : sane (l ++ tail).toArray ds size l.length = true) (hc : closesY (l ++ tail).toArray l.length = true) (hz : a.tmps.size = size)
    (HY : Y.Fair) (hB : Y.B w.drew) (hB1 : Y.B1 w.drew) (h : walk P Y ds a (fun a w => wpListIn Fence.wide lv P (l ++ tail).toArray Q' tail a w) l []) : wpAnyIn Fence.wide lv P .any (l ++ tail).toArray Q' (l ++ tail).toArray.size (Array.replicate (l ++ tail).toArray.size false) a { w with drawn := w.drawn + 1 } := by
  subst hz
  have S := sane_spec hs
  have hpre : ∀ (j : Nat) (o : Oper), l[j]? = some o → (l ++ tail).toArray[j]? = some o := fun j o hj => by
    have := (List.getElem?_eq_some_iff.1 hj).1
    simpa [List.getElem?_append_left this] using hj
  obtain ⟨F, _, h2, h3⟩ := extract l [] (fun j o hj => ⟨fun i hi => by
    have := S.before (hpre j o hj) i hi
    simpa using this, fun g b hg => (S.guard (hpre j o hj) g b hg).1⟩) h
  have hsz : (l ++ tail).toArray.size = l.length + tail.length := by simp
  refine (wp_anyY (Q := fun a w => wpListIn Fence.wide lv P (l ++ tail).toArray Q' tail a w) (F := F) (a0 := a) (n := l.length) S HY (by omega) (fun j o hj ho => ?_) (closes_specY hc) (fun w' hw' => ?_) tail hsz.symm (fun i => ?_) (fun _ _ h => h) _ _ _ _ (by simp) ?_ ⟨hB, fun _ => hB1, rfl, rfl, fun j _ => ?_, fun j o _ hl => ?_, fun _ _ => rfl, fun _ => undef, fun i hi hl => ?_⟩)
  · have h4 : l[j]? = some l[j] := List.getElem?_eq_getElem hj
    have h5 := hpre j _ h4
    rw [h5] at ho
    obtain rfl := Option.some.inj ho
    have := h2 j _ h4
    simpa using this
  · have := h3 w' hw'
    simpa using this
  · rw [List.getElem?_toArray, List.getElem?_append_right (by omega), Nat.add_sub_cancel_left]
  · have := List.countP_le_length (p := fun i => !(Array.replicate (l ++ tail).toArray.size false).getD i true) (l := List.range (l ++ tail).toArray.size)
    simpa using this
  · by_cases hj : j < (l ++ tail).toArray.size
    · simp at hj; simp [hj]
    · simp at hj; simp [show ¬ j < l.length + tail.length by omega]
  · by_cases hj : j < (l ++ tail).toArray.size
    · simp at hj; simp [hj] at hl
    · simp at hj; simp [show ¬ j < l.length + tail.length by omega] at hl
  · have : i < l.length + tail.length := by omega
    simp [this] at hl
/-- **THE LAW**: at a region that draws its order: the first ones in whatever order, the tail behind them. -/
theorem wp_regionY {id : Nat} {Q' : Exit → Act → World → Prop} {l tail : List Oper} {ops : Array Oper} {a : Act} {w : World} (Y : Way) (ds : List (Option Tmp)) (size : Nat) (ho : ops = (l ++ tail).toArray) (hm : P.follows .mixedOrders = true) (hs : sane ops ds size l.length = true) (hc : closesY ops l.length = true) (hz : a.tmps.size = size)
    (HY : Y.Fair) (hB : Y.B w.drew) (hB1 : Y.B1 w.drew) (h : ∀ Q : Act → World → Prop, (∀ a w, wpListIn Fence.wide lv P ops Q' tail a w → Q a w) → walk P Y ds a Q l []) : (Code.region id ops true).wpIn Fence.wide lv P Q' a w := by
  subst ho
  exact wpIn_region_any hm (any_regionY Y ds size hs hc hz HY hB hB1 (h _ fun _ _ h => h))
end
end Go.Rgb
end

section
namespace Go.Proofs.YtlbhmoiicbhgkaaDoor
open Go.RowKit Go.Maps
attribute [local go_sem] Oper.semAt_some
theorem key_u64 : Keyed Tryd.prog 24 := int_keyed Tryd.underlying24
theorem zero_i64 (w : World) : (zeroValue 3).run Tryd.prog w = .ok (.int .i64 0) w := by kernel_rfl
theorem wf_u64 {x : Int} (h : U64 x) : (Lit.int .u64 x).wf = true := by
  obtain ⟨h0, h1⟩ := h
  simp [Lit.wf, IntKind.min, IntKind.max, IntKind.signed, IntKind.bits]
  omega
theorem run_makeMap_hint {P : Program} (t k e : TypeId) (ht : P.underlying t = some (.map k e)) (q : IntKind) (n : Int) (w : World) : (Instr.makeMap t (some (.int q n))).run P w = .ok (.map (some w.heap.size)) (w.alloc (.map #[] 0)) := by
  simp [Instr.makeMap, run_underlying ht, asInt, asIntOf]
/-- the places modulo q. -/
def mods (xs : List Int) (q : Int) : List Int := xs.map (· % q)
def eUnlike (xs : List Int) (q : Int) : Int := if okm q then (if xs.length ≤ 1024 then (if (mods xs q).Nodup then 0 else 6) else 40) else 1
/-- what the map of k places holds. -/
structure Had (ys : List Int) (k : Nat) (D : DataW Unit) : Prop where
  tidy : Tidy D
  keys : ∀ z, has D (.int .u64 z) = true ↔ z ∈ ys.take k
  le : size D ≤ k
  eq : size D = k ↔ (ys.take k).Nodup
theorem Had.start (ys : List Int) : Had ys 0 (.map []) := ⟨tidy_empty, fun z => by simp [has], Nat.le_refl _, by simp [size]⟩
theorem Had.step {ys : List Int} {k : Nat} {D : DataW Unit} {y : Int} (h : Had ys k D) (hy : ys[k]? = some y) (d : DataW Unit) : Had ys (k + 1) (D.put (.int .u64 y) d) := by
  have hs := size_put (k := .int .u64 y) h.tidy d
  have ht := take_snocP hy
  refine ⟨h.tidy.put (k := .int .u64 y) trivial d, fun z => ?_, ?_, ?_⟩
  · rw [ht, List.mem_append, List.mem_singleton]
    by_cases hz : z = y
    · subst hz
      rw [has_put_same (k := .int .u64 z) h.tidy.isMap trivial]
      simp
    · rw [has_put_other (fun e => hz (by simpa using e)), h.keys]
      simp [hz]
  · have := h.le
    rw [hs]; split <;> omega
  · rw [ht, hs]
    have h1 := h.le
    have h2 := h.eq
    have h3 := h.keys y
    by_cases hh : has D (.int .u64 y) = true
    · rw [if_pos hh]
      have := h3.1 hh
      constructor
      · intro; omega
      · intro hn
        exact absurd rfl ((List.nodup_append.1 hn).2.2 y this y (List.mem_singleton.2 rfl))
    · rw [if_neg hh]
      have hn : y ∉ ys.take k := fun hm => hh (h3.2 hm)
      constructor
      · intro he
        have := h2.1 (by omega)
        exact List.nodup_append.2 ⟨this, by simp, fun a ha b hb => by
          rw [List.mem_singleton] at hb
          subst hb
          exact fun e => hn (e ▸ ha)⟩
      · intro he
        have := h2.2 (List.nodup_append.1 he).1
        omega
set_option maxRecDepth 100000 in
set_option maxHeartbeats 2000000 in
theorem unlike_c (A : Option Addr) (l : List Int) (c : Nat) (q : Int) (w : World) (hA : Cells w A (l.map (.int .u64))) (hl : l.length ≤ 9223372036854775807) (hu : U64s l) (hq : U64 q) :
    Calls Tryd.prog 90 #[.slice A l.length c, .int .u64 q] w fun e w' => e = .returned (.int .i64 (eUnlike l q)) ∧ Below w.heap.size w w' := by
  have hmm := fun n w => run_makeMap_hint 128 24 3 Tryd.underlying128 .i64 n w
  cases h : okm q with
  | false =>
    have he := hid (show eUnlike l q = 1 by unfold eUnlike; rw [if_neg (by rw [h]; decide)])
    go_enter Tryd.func90, Tryd.ntmps90
    go_wp2_with (go_at_call 109; refine (pmay_c _ hq _).mono ?_; rintro e w' ⟨rfl, rfl⟩; rw [h])
    go_ret
    exact ⟨ret_int he.out.symm, Below.refl _ _⟩
  | true =>
    have h0 := okm_pos h
    have h1 := okm_le h
    by_cases hbig : l.length ≤ 1024
    · have he := hid (show eUnlike l q = if (mods l q).Nodup then 0 else 6 by unfold eUnlike; rw [if_pos h, if_pos hbig])
      go_enter Tryd.func90, Tryd.ntmps90
      go_wp2_with (go_at_call 109; refine (pmay_c _ hq _).mono ?_; rintro e w' ⟨rfl, rfl⟩; rw [h])
      go_loopw [7, 21] (fun _ i wr => ∃ (k : Nat) (D : DataW Unit), i = .int .i64 k ∧ k ≤ l.length ∧ Hid (Had (mods l q) k D) ∧ wr.ownsMap Tryd.prog 24 (plainElem Tryd.prog 3) w.heap.size k D ∧ Below w.heap.size w wr) (fun _ i _ => l.length - (intOf i).toNat)
      case atStart => exact ⟨0, _, rfl, Nat.zero_le _, Had.start _, World.ownsMap_made _ _ _ _, (Below.refl _ _).alloc (Nat.le_refl _) _⟩
      case round =>
        obtain ⟨k, D, rfl, hk, hD, hown, hb⟩ := hrel
        by_cases hlt : k < l.length
        · obtain ⟨z, hz⟩ := get_of_lt hlt
          obtain ⟨o2, off2, rfl, hcz⟩ := (hA.keep fun p hp => hb.cell hp).at_map hz
          obtain ⟨z0, z1⟩ := hu.at_ hz
          have hm0 := Int.emod_nonneg z (b := q) (by omega)
          have hm1 := Int.emod_lt_of_pos z h0
          have hkey : keyOf Tryd.prog 24 (.int .u64 (z % q)) = some (.int .u64 (z % q)) := keyOf_int_mk Tryd.underlying24 (wf_u64 (mod_u64 h))
          have hstep : ∀ d, Had (mods l q) (k + 1) (D.put (.int .u64 (z % q)) d) := fun d => hD.out.step (by unfold mods; rw [List.getElem?_map, hz]; rfl) d
          have HST := hid hstep
          clear hz hstep
          go_wp2_with (first
            | (at_lookup; refine wpList_lookup_own_int _ rfl _ _ 128 rfl 24 3 .i64 key_u64 Tryd.underlying128 Tryd.underlying3 (zero_i64 _) w.heap.size k _ rfl hown _ _ rfl hkey ?_; intro c hat hwc)
            | (at_mapUpdate; refine wpList_mapUpdate_own _ rfl _ _ _ 128 rfl 24 3 key_u64 Tryd.underlying128 _ w.heap.size k _ rfl hown (by unfold maxLen; omega) _ _ _ rfl rfl hkey _ [] (plainElem_int Tryd.underlying3 (wrap64_wf _)) ?_; intro w1 hown1 hgrow1))
          go_roundw
          case rel => exact ⟨k + 1, _, by go_num, by omega, HST.out _, hown1, hb.grown hgrow1 hb.size (fun j hj => by cases hj; exact Nat.le_refl _)⟩
          case measure => simp [intOf]; omega
        · obtain rfl : k = l.length := by omega
          have hle := hD.out.le
          have heq := hD.out.eq
          rw [List.take_of_length_le (by simp [mods])] at heq
          by_cases hn : (mods l q).Nodup
          · have hs := heq.2 hn
            rw [if_pos hn] at he
            clear heq hle hn
            go_wp2_with (at_len; refine wpList_len_own _ rfl _ 128 rfl 24 3 Tryd.underlying128 _ w.heap.size l.length D rfl hown ?_; rw [hs])
            go_ret
            exact ⟨ret_int he.out.symm, hb⟩
          · have hs : size D < l.length := by
              rcases Nat.lt_or_ge (size D) l.length with h9 | h9
              · exact h9
              · exact absurd (heq.1 (by omega)) hn
            rw [if_neg hn] at he
            clear heq hle hn
            go_wp2_with (at_len; refine wpList_len_own _ rfl _ 128 rfl 24 3 Tryd.underlying128 _ w.heap.size l.length D rfl hown ?_)
            go_ret
            exact ⟨ret_int he.out.symm, hb⟩
    · have he := hid (show eUnlike l q = 40 by unfold eUnlike; rw [if_pos h, if_neg hbig])
      go_enter Tryd.func90, Tryd.ntmps90
      go_wp2_with (go_at_call 109; refine (pmay_c _ hq _).mono ?_; rintro e w' ⟨rfl, rfl⟩; rw [h])
      go_ret
      exact ⟨ret_int he.out.symm, Below.refl _ _⟩
open Go.RowKit Go.Shelf
attribute [local go_sem] Oper.semAt_some
section
variable {A : World} {l : Nat} {o : Obj} (o' : Obj)
theorem not_at {g : Nat} {arr : Array Value} {e : TypeId} {fz : Nat × Nat} (hl : A.heap[l]? = some o) (hc : o.isCells = false) (h : A.heap[g]? = some (Obj.cells arr e fz)) : g ≠ l := by
  rintro rfl
  rw [h] at hl
  obtain rfl := Option.some.inj hl
  cases hc
theorem Row1.put {g : Nat} {e : TypeId} {xs : List Value} (h : Row1 A g e xs) (hl : A.heap[l]? = some o) (hc : o.isCells = false) : Row1 (A.putObj l o') g e xs := h.keep (World.putObj_heap_other (not_at hl hc h))
theorem Cells.put {B : Option Addr} {xs : List Value} (h : Cells A B xs) (hl : A.heap[l]? = some o) (hc : o.isCells = false) : Cells (A.putObj l o') B xs := by
  rcases h with h | ⟨b, off, rfl, h⟩
  · exact .inl h
  · exact .inr ⟨b, off, rfl, fun i u hu => cell_kept (h i u hu) (grownBy_putObj' A l o') (fun r e => by cases e; exact ⟨o, hl, hc⟩)⟩
theorem Grid.put {B : Option Addr} {f : List (List Int)} (h : Grid A B f) (hl : A.heap[l]? = some o) (hc : o.isCells = false) : Grid (A.putObj l o') B f := by
  obtain ⟨vs, h1, h2, h3⟩ := h
  refine ⟨vs, h1.put o' hl hc, h2, fun i m hm => ?_⟩
  obtain ⟨v, hv, B2, c, rfl, h4, h5⟩ := h3 i m hm
  exact ⟨_, hv, B2, c, rfl, h4.put o' hl hc, h5⟩
theorem RowT.put {e : TypeId} {v : Value} {xs : List Value} (h : RowT A e v xs) (hl : A.heap[l]? = some o) (hc : o.isCells = false) : RowT (A.putObj l o') e v xs := h.block fun _ _ _ hb => World.putObj_heap_other (not_at hl hc hb)
theorem below_put {n0 : Nat} {w : World} (h : Below n0 w A) (hn : n0 ≤ l) : Below n0 w (A.putObj l o') :=
  h.trans ⟨rfl, rfl, rfl, by simp, fun k hk => World.putObj_heap_other (by omega)⟩
end
theorem row1_in (w : World) (xs : List Value) (e : TypeId) (g : Nat) (h : w.heap.size = g) : Row1 (w.alloc (.cells xs.toArray e)) g e xs := by
  subst h; exact heap_alloc_new w _
open Go.RowKit
attribute [local go_sem] Oper.semAt_some
/-- what the iterator has captured. -/
structure Oth (A : Option Addr) (l : List Int) (c : Nat) (i at_ q : Int) (g1 g2 g3 g4 : Nat) (w : World) : Prop where
  r1 : Row1 w g1 23 [.slice A l.length c]
  r2 : Row1 w g2 3 [.int .i64 i]
  r3 : Row1 w g3 24 [.int .u64 q]
  r4 : Row1 w g4 24 [.int .u64 at_]
  A : Cells w A (l.map (.int .u64))
theorem Oth.below {A : Option Addr} {l : List Int} {c : Nat} {i at_ q : Int} {g1 g2 g3 g4 : Nat} {w w' : World} (h : Oth A l c i at_ q g1 g2 g3 g4 w) (hb : Below w.heap.size w w') : Oth A l c i at_ q g1 g2 g3 g4 w' := ⟨h.r1.below hb, h.r2.below hb, h.r3.below hb, h.r4.below hb, h.A.keep fun _p hp => hb.cell hp⟩
set_option maxRecDepth 100000 in
theorem others_c (A : Option Addr) (l : List Int) (c : Nat) (i at_ q : Int) (w : World) (hA : Cells w A (l.map (.int .u64))) :
    Calls Tryd.prog 110 #[.slice A l.length c, .int .i64 i, .int .u64 at_, .int .u64 q] w fun e w' => ∃ g1 g2 g3 g4, e = .returned (.func (.func 121) #[] #[.pointer (some ⟨g1, 0, none⟩), .pointer (some ⟨g2, 0, none⟩), .pointer (some ⟨g3, 0, none⟩), .pointer (some ⟨g4, 0, none⟩)]) ∧ Oth A l c i at_ q g1 g2 g3 g4 w' ∧ Below w.heap.size w w' ∧ w.heap.size ≤ g1 ∧ w.heap.size ≤ g2 ∧ w.heap.size ≤ g3 ∧ w.heap.size ≤ g4 := by
  go_enter Tryd.func110, Tryd.ntmps110
  go_wp2
  go_ret
  have hb := (((below_alloc w (.cells #[.slice A l.length c] 23)).alloc (by simp) (.cells #[.int .i64 i] 3)).alloc (by simp; omega) (.cells #[.int .u64 at_] 24)).alloc (by simp; omega) (.cells #[.int .u64 q] 24)
  have h1 := (((row1_new w [.slice A l.length c] 23).alloc (.cells #[.int .i64 i] 3)).alloc (.cells #[.int .u64 at_] 24)).alloc (.cells #[.int .u64 q] 24)
  have h2 := ((row1_in (w.alloc (.cells #[.slice A l.length c] 23)) [.int .i64 i] 3 (w.heap.size + 1) (by simp)).alloc (.cells #[.int .u64 at_] 24)).alloc (.cells #[.int .u64 q] 24)
  have h4 := (row1_in ((w.alloc (.cells #[.slice A l.length c] 23)).alloc (.cells #[.int .i64 i] 3)) [.int .u64 at_] 24 (w.heap.size + 1 + 1) (by simp)).alloc (.cells #[.int .u64 q] 24)
  have h3 := row1_in (((w.alloc (.cells #[.slice A l.length c] 23)).alloc (.cells #[.int .i64 i] 3)).alloc (.cells #[.int .u64 at_] 24)) [.int .u64 q] 24 (w.heap.size + 1 + 1 + 1) (by simp)
  exact ⟨_, _, _, _, rfl, ⟨h1, h2, h3, h4, hA.keep fun p hp => hb.cell hp⟩, hb, by omega, by omega, by omega, by omega⟩
open Go.RowKit Go.Shelf
attribute [local go_sem] Oper.semAt_some
/-- what comes for the others: how far number i is, how far the other place is. -/
def oths (l : List Int) (i : Nat) (z at_ q : Int) : List (Int × Int) := (but l i).map fun x => (mSub z x q, mSub at_ x q)
theorem oths_nil (i : Nat) (z at_ q : Int) : oths [] i z at_ q = [] := by simp [oths, but]
theorem oths_ne {l : List Int} {x : Int} {k i : Nat} (hx : l[k]? = some x) (h : k ≠ i) (z at_ q : Int) : oths (l.take (k + 1)) i z at_ q = oths (l.take k) i z at_ q ++ [(mSub z x q, mSub at_ x q)] := by
  have hk := (List.getElem?_eq_some_iff.1 hx).1
  unfold oths
  rw [take_snocP hx, but_ne (by rw [List.length_take]; omega), List.map_append]; rfl
theorem oths_eq {l : List Int} {x : Int} {k i : Nat} (hx : l[k]? = some x) (h : k = i) (z at_ q : Int) : oths (l.take (k + 1)) i z at_ q = oths (l.take k) i z at_ q := by
  have hk := (List.getElem?_eq_some_iff.1 hx).1
  unfold oths
  rw [take_snocP hx, but_eq (by rw [List.length_take]; omega)]
set_option maxRecDepth 100000 in
set_option maxHeartbeats 4000000 in
theorem others1_c (A : Option Addr) (l : List Int) (c i : Nat) (z at_ q : Int) (g1 g2 g3 g4 lp n : Nat) (w : World) (J : List (Int × Int) → World → Prop) (hJ : ∀ xs A B, w.heap.size ≤ A.heap.size → J xs A → Below A.heap.size A B → J xs B)
    (hY : ∀ pre x W, w.heap.size ≤ W.heap.size → J pre W → U64 (Prod.fst x) → U64 (Prod.snd x) → YieldAt Fence.wide n Tryd.prog lp #[.int .u64 (Prod.fst x), .int .u64 (Prod.snd x)] W fun e B => e = .returned (.bool true) ∧ J (pre ++ [x]) B ∧ (Oth A l c i at_ q g1 g2 g3 g4 W → Oth A l c i at_ q g1 g2 g3 g4 B) ∧ W.heap.size ≤ B.heap.size)
    (hO : Oth A l c i at_ q g1 g2 g3 g4 w) (hi : l[i]? = some z) (hl : l.length ≤ 1000000) (hu : U64s l) (hat : U64 at_) (hq : U64 q) (h0 : J [] w) :
    Calls Tryd.prog 121 #[.func (.yield lp) #[] #[], .pointer (some ⟨g1, 0, none⟩), .pointer (some ⟨g2, 0, none⟩), .pointer (some ⟨g3, 0, none⟩), .pointer (some ⟨g4, 0, none⟩)] w fun e w' => (∃ v, e = .returned v) ∧ J (oths l i z at_ q) w' := by
  have hc1 := hO.r1.cell (k := 0) rfl
  have huz := hu.at_ hi
  have hil := (List.getElem?_eq_some_iff.1 hi).1
  go_enter Tryd.func121, Tryd.ntmps121
  go_wp2
  clear hc1
  go_loopw [6, 7, 10] (fun _ _ j wr => ∃ k : Nat, j = .int .i64 k ∧ k ≤ l.length ∧ w.heap.size ≤ wr.heap.size ∧ Oth A l c i at_ q g1 g2 g3 g4 wr ∧ J (oths (l.take k) i z at_ q) wr) (fun _ _ j _ => l.length - (intOf j).toNat)
  case atStart => exact ⟨0, rfl, by omega, Nat.le_refl _, hO, by rw [List.take_zero, oths_nil]; exact h0⟩
  case round =>
    obtain ⟨k, rfl, hk, hsz, hO2, hJx⟩ := hrel
    by_cases hlt : k < l.length
    · obtain ⟨x, hx⟩ := get_of_lt hlt
      obtain ⟨o2, off2, rfl, hcx⟩ := hO2.A.at_map hx
      have hux := hu.at_ hx
      obtain ⟨o3, off3, he3, hcz⟩ := hO2.A.at_map hi
      simp only [Option.some.injEq, Addr.mk.injEq, and_true] at he3
      obtain ⟨rfl, rfl⟩ := he3
      have c1 := hO2.r1.cell (k := 0) rfl
      have c2 := hO2.r2.cell (k := 0) rfl
      have c3 := hO2.r3.cell (k := 0) rfl
      have c4 := hO2.r4.cell (k := 0) rfl
      by_cases hki : k = i
      · have hst := hid (oths_eq hx hki z at_ q)
        subst hki
        have hd : ((k : Int) != (k : Int)) = false := by simp
        clear hx hi
        go_wp2
        go_quiet (fail)
        go_wp2
        go_roundw
        case rel => exact ⟨k + 1, by go_num, by omega, by simpa using hsz, hO2.below (below_of_dr ⟨_, rfl⟩), by rw [hst.out]; exact hJ _ _ _ hsz hJx (below_of_dr ⟨_, rfl⟩)⟩
        case measure => simp [intOf]; omega
      · have hst := hid (oths_ne hx hki z at_ q)
        have hd : ((k : Int) != (i : Int)) = true := by simp; omega
        have hd2 : (k != i) = true := by simp; omega
        clear hx hi
        go_upto_region 3 with (fail)
        refine (wpIn_wide (n := n + 1)).1 ?_
        refine Rgb.wp_regionY (lv := n + 1) (l := [_, _, _, _, _, _, _, _, _, _, _, _, _, _, _, _]) (tail := [_, _, _]) (Rgb.grows _ 19) [some 15, some 16, some 17, some 18, some 19, some 20, some 21, some 22, some 23, some 24, some 25, some 26, some 27, some 28, some 29, some 30, some 31, some 32, some 33] 35 rfl (by kernel_rfl) (by kernel_rfl) (by kernel_rfl) rfl (Rgb.grows_fair _ _) (Rgb.keep_drew _) (trivial) ?_
        intro QQ hQQ
        have HQQ := hid hQQ
        clear hQQ
        refine' Rgb.op_is _ [] rfl rfl (by kernel_rfl) ?_ ?_
        rotate_left
        · intro wx hb
          refine Rgb.from_nil fun T hT => ?_
          go_wp2
          refine hT _ _ rfl (by first | exact Rgb.Keep.refl _ | exact below_of_dr hw2 | exact hw2 | exact (Below.refl _ _).alloc (Nat.le_refl _) _) ?_
          simp only [Rgb.last, List.getElem?_toArray, List.getElem?_cons_succ, List.getElem?_cons_zero, Option.getD_some]
          rfl
        refine Rgb.op_is (.int .i64 i) [] rfl rfl (by kernel_rfl) ?_ ?_
        · intro wx hb
          refine Rgb.from_nil fun T hT => ?_
          have g1 := (hb.cell (lt_of_cell c2)).trans c2
          go_wp2
          exact hT _ _ rfl (by first | exact Rgb.Keep.refl _ | exact below_of_dr hw2 | exact hw2 | exact (Below.refl _ _).alloc (Nat.le_refl _) _) (by first | rfl | exact congrArg _ (by decide))
        refine Rgb.op_is (.bool true) [0, 1] rfl rfl (by kernel_rfl) ?_ ?_
        · intro wx hb
          refine Rgb.from_is (some 15) rfl rfl ?_
          refine Rgb.from_is (some 16) rfl rfl ?_
          refine Rgb.from_nil fun T hT => ?_
          go_wp2
          exact hT _ _ rfl (by first | exact Rgb.Keep.refl _ | exact below_of_dr hw2 | exact hw2 | exact (Below.refl _ _).alloc (Nat.le_refl _) _) (by first | rfl | exact congrArg _ (by decide))
        refine Rgb.op_is (.bool true) [2] rfl rfl (by kernel_rfl) ?_ ?_
        · intro wx hb
          refine Rgb.from_is (some 17) rfl rfl ?_
          refine Rgb.from_nil fun T hT => ?_
          go_wp2
          exact hT _ _ rfl (by first | exact Rgb.Keep.refl _ | exact below_of_dr hw2 | exact hw2 | exact (Below.refl _ _).alloc (Nat.le_refl _) _) (by first | rfl | exact congrArg _ (by decide))
        refine' Rgb.op_is _ [] rfl rfl (by kernel_rfl) ?_ ?_
        rotate_left
        · intro wx hb
          refine Rgb.from_nil fun T hT => ?_
          go_wp2
          refine hT _ _ rfl (by first | exact Rgb.Keep.refl _ | exact below_of_dr hw2 | exact hw2 | exact (Below.refl _ _).alloc (Nat.le_refl _) _) ?_
          simp only [Rgb.last, List.getElem?_toArray, List.getElem?_cons_succ, List.getElem?_cons_zero, Option.getD_some]
          rfl
        refine Rgb.op_is (.slice (some ⟨o2, off2, none⟩) l.length c) [] rfl rfl (by kernel_rfl) ?_ ?_
        · intro wx hb
          refine Rgb.from_nil fun T hT => ?_
          have g1 := (hb.cell (lt_of_cell c1)).trans c1
          go_wp2
          exact hT _ _ rfl (by first | exact Rgb.Keep.refl _ | exact below_of_dr hw2 | exact hw2 | exact (Below.refl _ _).alloc (Nat.le_refl _) _) (by first | rfl | exact congrArg _ (by decide))
        refine Rgb.op_is (.int .i64 i) [] rfl rfl (by kernel_rfl) ?_ ?_
        · intro wx hb
          refine Rgb.from_nil fun T hT => ?_
          have g1 := (hb.cell (lt_of_cell c2)).trans c2
          go_wp2
          exact hT _ _ rfl (by first | exact Rgb.Keep.refl _ | exact below_of_dr hw2 | exact hw2 | exact (Below.refl _ _).alloc (Nat.le_refl _) _) (by first | rfl | exact congrArg _ (by decide))
        refine Rgb.op_is (.pointer (some ⟨o2, off2 + i, none⟩)) [5, 6] rfl rfl (by kernel_rfl) ?_ ?_
        · intro wx hb
          refine Rgb.from_is (some 20) rfl rfl ?_
          refine Rgb.from_is (some 21) rfl rfl ?_
          refine Rgb.from_nil fun T hT => ?_
          go_wp2
          exact hT _ _ rfl (by first | exact Rgb.Keep.refl _ | exact below_of_dr hw2 | exact hw2 | exact (Below.refl _ _).alloc (Nat.le_refl _) _) (by first | rfl | exact congrArg _ (by decide))
        refine Rgb.op_is (.int .u64 z) [7] rfl rfl (by kernel_rfl) ?_ ?_
        · intro wx hb
          refine Rgb.from_is (some 22) rfl rfl ?_
          refine Rgb.from_nil fun T hT => ?_
          have g1 := (hb.cell (lt_of_cell hcz)).trans hcz
          go_wp2
          exact hT _ _ rfl (by first | exact Rgb.Keep.refl _ | exact below_of_dr hw2 | exact hw2 | exact (Below.refl _ _).alloc (Nat.le_refl _) _) (by first | rfl | exact congrArg _ (by decide))
        refine' Rgb.op_is _ [] rfl rfl (by kernel_rfl) ?_ ?_
        rotate_left
        · intro wx hb
          refine Rgb.from_nil fun T hT => ?_
          go_wp2
          refine hT _ _ rfl (by first | exact Rgb.Keep.refl _ | exact below_of_dr hw2 | exact hw2 | exact (Below.refl _ _).alloc (Nat.le_refl _) _) ?_
          simp only [Rgb.last, List.getElem?_toArray, List.getElem?_cons_succ, List.getElem?_cons_zero, Option.getD_some]
          rfl
        refine Rgb.op_is (.int .u64 q) [] rfl rfl (by kernel_rfl) ?_ ?_
        · intro wx hb
          refine Rgb.from_nil fun T hT => ?_
          have g1 := (hb.cell (lt_of_cell c3)).trans c3
          go_wp2
          exact hT _ _ rfl (by first | exact Rgb.Keep.refl _ | exact below_of_dr hw2 | exact hw2 | exact (Below.refl _ _).alloc (Nat.le_refl _) _) (by first | rfl | exact congrArg _ (by decide))
        refine Rgb.op_is (.int .u64 (mSub z x q)) [8, 9, 10] rfl rfl (by kernel_rfl) ?_ ?_
        · intro wx hb
          refine Rgb.from_is (some 23) rfl rfl ?_
          refine Rgb.from_is (some 24) rfl rfl ?_
          refine Rgb.from_is (some 25) rfl rfl ?_
          refine Rgb.from_nil fun T hT => ?_
          go_wp2_with (go_at_call 105; refine (sub_c _ _ _ huz hux hq _).mono ?_; rintro e w5 ⟨rfl, hw5⟩)
          exact hT _ _ rfl (below_of_dr hw5) rfl
        refine Rgb.op_is (.int .u64 at_) [] rfl rfl (by kernel_rfl) ?_ ?_
        · intro wx hb
          refine Rgb.from_nil fun T hT => ?_
          have g1 := (hb.cell (lt_of_cell c4)).trans c4
          go_wp2
          exact hT _ _ rfl (by first | exact Rgb.Keep.refl _ | exact below_of_dr hw2 | exact hw2 | exact (Below.refl _ _).alloc (Nat.le_refl _) _) (by first | rfl | exact congrArg _ (by decide))
        refine' Rgb.op_is _ [] rfl rfl (by kernel_rfl) ?_ ?_
        rotate_left
        · intro wx hb
          refine Rgb.from_nil fun T hT => ?_
          go_wp2
          refine hT _ _ rfl (by first | exact Rgb.Keep.refl _ | exact below_of_dr hw2 | exact hw2 | exact (Below.refl _ _).alloc (Nat.le_refl _) _) ?_
          simp only [Rgb.last, List.getElem?_toArray, List.getElem?_cons_succ, List.getElem?_cons_zero, Option.getD_some]
          rfl
        refine Rgb.op_is (.int .u64 q) [] rfl rfl (by kernel_rfl) ?_ ?_
        · intro wx hb
          refine Rgb.from_nil fun T hT => ?_
          have g1 := (hb.cell (lt_of_cell c3)).trans c3
          go_wp2
          exact hT _ _ rfl (by first | exact Rgb.Keep.refl _ | exact below_of_dr hw2 | exact hw2 | exact (Below.refl _ _).alloc (Nat.le_refl _) _) (by first | rfl | exact congrArg _ (by decide))
        refine Rgb.op_is (.int .u64 (mSub at_ x q)) [12, 13, 14] rfl rfl (by kernel_rfl) ?_ ?_
        · intro wx hb
          refine Rgb.from_is (some 27) rfl rfl ?_
          refine Rgb.from_is (some 28) rfl rfl ?_
          refine Rgb.from_is (some 29) rfl rfl ?_
          refine Rgb.from_nil fun T hT => ?_
          go_wp2_with (go_at_call 105; refine (sub_c _ _ _ hat hux hq _).mono ?_; rintro e w5 ⟨rfl, hw5⟩)
          exact hT _ _ rfl (below_of_dr hw5) rfl
        refine Rgb.walk_nil [0, 1, 2, 3, 4, 5, 6, 7, 8, 9, 10, 11, 12, 13, 14, 15] (by kernel_rfl) ?_
        intro wx hb
        refine Rgb.from_is (some 15) rfl rfl ?_
        refine Rgb.from_is (some 16) rfl rfl ?_
        refine Rgb.from_is (some 17) rfl rfl ?_
        refine Rgb.from_is (some 18) rfl rfl ?_
        refine Rgb.from_is (some 19) rfl rfl ?_
        refine Rgb.from_is (some 20) rfl rfl ?_
        refine Rgb.from_is (some 21) rfl rfl ?_
        refine Rgb.from_is (some 22) rfl rfl ?_
        refine Rgb.from_is (some 23) rfl rfl ?_
        refine Rgb.from_is (some 24) rfl rfl ?_
        refine Rgb.from_is (some 25) rfl rfl ?_
        refine Rgb.from_is (some 26) rfl rfl ?_
        refine Rgb.from_is (some 27) rfl rfl ?_
        refine Rgb.from_is (some 28) rfl rfl ?_
        refine Rgb.from_is (some 29) rfl rfl ?_
        refine Rgb.from_is (some 30) rfl rfl ?_
        refine Rgb.from_nil ?_
        refine HQQ.out _ _ ?_
        simp only [Act.put, List.setIfInBounds_toArray, List.set_cons_zero, List.set_cons_succ]
        clear HQQ
        have hO3 := hO2.below hb
        have hs3 := hb.size
        have hJ3 := hJ _ _ _ hsz hJx hb
        obtain ⟨fn, tmps, assign, body, hy, hR⟩ := hY _ (mSub z x q, mSub at_ x q) wx (by omega) hJ3 (mSub_u64 _ _ _) (mSub_u64 _ _ _)
        dsimp only at hy
        clear hJx c1 c2 c3 c4 hcx hcz
        gi_wp2
        refine hR.mono ?_
        rintro e B ⟨rfl, hJB, hKB, hszB⟩
        gi_wp2
        go_wp2
        go_roundw
        case rel => exact ⟨k + 1, by go_num, by omega, by omega, hKB hO3, by rw [hst.out]; exact hJB⟩
        case measure => simp [intOf]; omega
    · obtain rfl : k = l.length := by omega
      rw [List.take_length] at hJx
      go_wp2
      go_end0
      exact ⟨⟨_, rfl⟩, hJx⟩
open Go.RowKit Go.Shelf
attribute [local go_sem] Oper.semAt_some
theorem Oth.put {A : Option Addr} {l : List Int} {c : Nat} {i at_ q : Int} {g1 g2 g3 g4 m : Nat} {o : Obj} {w : World} (o' : Obj) (h : Oth A l c i at_ q g1 g2 g3 g4 w) (hl : w.heap[m]? = some o) (hc : o.isCells = false) : Oth A l c i at_ q g1 g2 g3 g4 (w.putObj m o') :=
  ⟨h.r1.put o' hl hc, h.r2.put o' hl hc, h.r3.put o' hl hc, h.r4.put o' hl hc, h.A.put o' hl hc⟩
/-- the products of those that have come. -/
def prU (q : Int) (pre : List (Int × Int)) : Int := pre.foldl (fun s p => mMul s p.1 q) (1 % q)
def prV (q : Int) (pre : List (Int × Int)) : Int := pre.foldl (fun s p => mMul s p.2 q) (1 % q)
theorem prU_snoc (q : Int) (pre : List (Int × Int)) (y : Int × Int) : prU q (pre ++ [y]) = mMul (prU q pre) y.1 q := by simp [prU]
theorem prV_snoc (q : Int) (pre : List (Int × Int)) (y : Int × Int) : prV q (pre ++ [y]) = mMul (prV q pre) y.2 q := by simp [prV]
theorem prU_u64 {q : Int} (h : okm q = true) (pre : List (Int × Int)) : U64 (prU q pre) := by
  unfold prU
  have key : ∀ (l : List (Int × Int)) (s : Int), U64 s → U64 (l.foldl (fun s p => mMul s p.1 q) s) := by
    intro l
    induction l with
    | nil => exact fun s h => h
    | cons z l ih => exact fun s _ => ih _ (mMul_u64 _ _ _)
  exact key _ _ (mod_u64 h)
theorem prV_u64 {q : Int} (h : okm q = true) (pre : List (Int × Int)) : U64 (prV q pre) := by
  unfold prV
  have key : ∀ (l : List (Int × Int)) (s : Int), U64 s → U64 (l.foldl (fun s p => mMul s p.2 q) s) := by
    intro l
    induction l with
    | nil => exact fun s h => h
    | cons z l ih => exact fun s _ => ih _ (mMul_u64 _ _ _)
  exact key _ _ (mod_u64 h)
theorem prU_oths (l : List Int) (i : Nat) (z at_ q : Int) : prU q (oths l i z at_ q) = mProd (but l i) z q := by
  unfold prU oths mProd
  rw [List.foldl_map]
theorem prV_oths (l : List Int) (i : Nat) (z at_ q : Int) : prV q (oths l i z at_ q) = mProd (but l i) at_ q := by
  unfold prV oths mProd
  rw [List.foldl_map]
/-- what lies in memory while the products are made. -/
structure Sw (A : Option Addr) (l : List Int) (c : Nat) (i at_ q : Int) (g1 g2 g3 g4 gq gu gv : Nat) (w0 : World) (pre : List (Int × Int)) (w : World) : Prop where
  F : Oth A l c i at_ q g1 g2 g3 g4 w
  Q : Row1 w gq 24 [.int .u64 q]
  U : Row1 w gu 24 [.int .u64 (prU q pre)]
  V : Row1 w gv 24 [.int .u64 (prV q pre)]
  b : Below w0.heap.size w0 w
set_option maxRecDepth 100000 in
set_option maxHeartbeats 4000000 in
theorem share_c (A : Option Addr) (l : List Int) (c i : Nat) (z at_ q : Int) (w : World) (hA : Cells w A (l.map (.int .u64))) (hl : l.length ≤ 1000000) (hi : l[i]? = some z) (hu : U64s l) (hat : U64 at_) (hq : U64 q) (hk : okm q = true) :
    Calls Tryd.prog 91 #[.slice A l.length c, .int .i64 i, .int .u64 at_, .int .u64 q] w fun e w' => e = .returned (.tuple #[.int .u64 (iVal (mProd (but l i) z q) q), .int .u64 (mProd (but l i) at_ q), .int .i64 (iErr (mProd (but l i) z q) q)]) ∧ Below w.heap.size w w' := by
  have h0 := okm_pos hk
  have h1 := okm_le hk
  refine (callsIn_wide (n := 10)).1 ?_
  refine callsIn_of_wp_marks Tryd.func91 rfl trivial ?_ rfl
  refine (wpIn_wide (n := 10)).2 ?_
  simp only [Tryd.ntmps91, List.size_toArray, List.length_cons, List.length_nil, Nat.reduceAdd, Nat.reduceSub, Array.replicate_succ, Array.replicate_zero, List.push_toArray, List.append_toArray, List.nil_append, List.cons_append]
  go_wp2
  go_region
  rotate_left
  all_goals
    have hQ : Row1 ((((w.alloc (.cells #[.int .u64 q] 24)).alloc (.cells #[.int .u64 (1 % q)] 24)).alloc (.cells #[.int .u64 (1 % q)] 24)).drew) w.heap.size 24 [.int .u64 q] := ((row1_new w [.int .u64 q] 24).alloc _).alloc _
    have h1r : Row1 ((((w.alloc (.cells #[.int .u64 q] 24)).alloc (.cells #[.int .u64 (1 % q)] 24)).alloc (.cells #[.int .u64 (1 % q)] 24)).drew) (w.heap.size + 1) 24 [.int .u64 (1 % q)] := (row1_in (w.alloc (.cells #[.int .u64 q] 24)) [.int .u64 (1 % q)] 24 (w.heap.size + 1) (by simp)).alloc _
    have h2r : Row1 ((((w.alloc (.cells #[.int .u64 q] 24)).alloc (.cells #[.int .u64 (1 % q)] 24)).alloc (.cells #[.int .u64 (1 % q)] 24)).drew) (w.heap.size + 1 + 1) 24 [.int .u64 (1 % q)] := row1_in ((w.alloc (.cells #[.int .u64 q] 24)).alloc (.cells #[.int .u64 (1 % q)] 24)) [.int .u64 (1 % q)] 24 (w.heap.size + 1 + 1) (by simp)
    have hb : Below w.heap.size w ((((w.alloc (.cells #[.int .u64 q] 24)).alloc (.cells #[.int .u64 (1 % q)] 24)).alloc (.cells #[.int .u64 (1 % q)] 24)).drew) := below_dr (((below_alloc w _).alloc (by simp) _).alloc (by simp; omega) _) ⟨1, rfl⟩
    have hlt2 := h2r.lt
    have hlt1 := h1r.lt
    have hgs : w.heap.size + 1 ≠ w.heap.size + 1 + 1 := by omega
    have hgs' : w.heap.size + 1 + 1 ≠ w.heap.size + 1 := by omega
    have hge1 : w.heap.size < w.heap.size + 1 := by omega
    have hge2 : w.heap.size < w.heap.size + 1 + 1 := by omega
    generalize (((w.alloc (.cells #[.int .u64 q] 24)).alloc (.cells #[.int .u64 (1 % q)] 24)).alloc (.cells #[.int .u64 (1 % q)] 24)).drew = w2 at *
  generalize w.heap.size + 1 + 1 = gu at *
  generalize w.heap.size + 1 = gv at *
  rotate_left
  generalize w.heap.size + 1 + 1 = gv at *
  generalize w.heap.size + 1 = gu at *
  rotate_left
  · have hU : Row1 w2 gu 24 [.int .u64 (1 % q)] := by assumption
    have hV : Row1 w2 gv 24 [.int .u64 (1 % q)] := by assumption
    have hne : gu ≠ gv := by assumption
    have hne' : gv ≠ gu := by assumption
    have hgu : w.heap.size < gu := by assumption
    have hgv : w.heap.size < gv := by assumption
    clear h1r h2r hlt1 hlt2 hgs hgs' hge1 hge2
    have HI := hid hi
    clear hi
    have hcQ0 := hQ.cell (k := 0) rfl
    go_wp2_with (fail)
    refine (others_c A l c i at_ q w2 (hA.keep fun p hp => hb.cell hp)).mono ?_
    rintro e w3 ⟨g1, g2, g3, g4, rfl, hF, hb3, hl1, hl2, hl3, hl4⟩
    have hlU := hU.lt
    have hlV := hV.lt
    have hlQ := hQ.lt
    have S : Sw A l c i at_ q g1 g2 g3 g4 w.heap.size gu gv w [] w3 := ⟨hF, hQ.below hb3, hU.below hb3, hV.below hb3, below_next hb hb.size hb3⟩
    clear hQ hU hV hF hb hb3 hcQ0
    go_wp2
    refine (wpIn_wide (n := 10)).1 ?_
    refine wpIn_rangeAll (n := 10) rfl (by decide) (gf := 121) (lb := #[.pointer (some ⟨g1, 0, none⟩), .pointer (some ⟨g2, 0, none⟩), .pointer (some ⟨g3, 0, none⟩), .pointer (some ⟨g4, 0, none⟩)]) rfl trivial (enters_of Tryd.func121 (by kernel_rfl) rfl) (encs := fun y : Int × Int => #[.int .u64 y.1, .int .u64 y.2]) (fun _ => rfl)
      (Sw A l c i at_ q g1 g2 g3 g4 w.heap.size gu gv w) (fun y _ => U64 y.1 ∧ U64 y.2) (fun xs => xs = oths l i z at_ q) (fun B1 B2 => Oth A l c i at_ q g1 g2 g3 g4 B1 → Oth A l c i at_ q g1 g2 g3 g4 B2)
      ?ib1 ?ip1 ?op1 (fun _ _ _ h1 h2 h3 => h2 (h1 h3)) (fun B1 l o o' _ h1 h2 h3 => h3.put o' h1 h2) S ?it1 ?a₁1 ?assign1 ?body1 ?done1
    case assign1 =>
      intro l y W K hK
      gi_wp2
      exact hK
    case ib1 => exact fun xs B1 B2 hs h hb => ⟨h.F.below hb, h.Q.below hb, h.U.below hb, h.V.below hb, below_next h.b h.b.size hb⟩
    case ip1 => exact fun xs B1 l o o' h hs h1 h2 => ⟨h.F.put o' h1 h2, h.Q.put o' h1 h2, h.U.put o' h1 h2, h.V.put o' h1 h2, below_put o' h.b (by have := S.b.size; omega)⟩
    case op1 => exact fun y B1 l o o' h hs h1 h2 => h
    case it1 =>
      intro l' J W hbW hJ hY h0
      exact callsIn_wide.2 ((others1_c A l c i z at_ q g1 g2 g3 g4 l' 8 W J hJ (fun pre y W' hs hj hy1 hy2 => hY pre y W' hs hj ⟨hy1, hy2⟩) (S.F.below hbW) HI.out hl hu hat hq h0).mono fun e w' h => ⟨h.1, _, rfl, h.2⟩)
    case body1 =>
      intro l' pre y W hsW hI hOk
      obtain ⟨y1, y2⟩ := y
      obtain ⟨hy1, hy2⟩ := hOk
      dsimp only at hy1 hy2
      have hcU := hI.U.cell (k := 0) rfl
      have hcV := hI.V.cell (k := 0) rfl
      have hcQ := hI.Q.cell (k := 0) rfl
      have huU := prU_u64 hk pre
      have huV := prV_u64 hk pre
      gi_wp2
      refine Rgb.round_region (by rintro ⟨a, w, h⟩; cases h.1) (L := [_, _, _, _, _, _, _, _]) (tail := [_, _]) (Rgb.grows _ 10) [some 28, some 29, some 30, some 31, some 32, some 33, some 34, some 35, none, none] 45 (by kernel_rfl) (by kernel_rfl) (by kernel_rfl) (by kernel_rfl) rfl (Rgb.grows_fair _ _) (Rgb.keep_drew _) (trivial) ?_
      refine Rgb.op_is (.int .u64 (prU q pre)) [] rfl rfl (by kernel_rfl) ?_ ?_
      · intro wx hb
        refine Rgb.from_nil fun T hT => ?_
        have g1 := (hb.cell (lt_of_cell hcU)).trans hcU
        go_wp2
        exact hT _ _ rfl (by first | exact Rgb.Keep.refl _ | exact below_of_dr hw2 | exact hw2 | exact (Below.refl _ _).alloc (Nat.le_refl _) _) (by first | rfl | exact congrArg _ (by decide))
      refine' Rgb.op_is _ [] rfl rfl (by kernel_rfl) ?_ ?_
      rotate_left
      · intro wx hb
        refine Rgb.from_nil fun T hT => ?_
        go_wp2
        refine hT _ _ rfl (by first | exact Rgb.Keep.refl _ | exact below_of_dr hw2 | exact hw2 | exact (Below.refl _ _).alloc (Nat.le_refl _) _) ?_
        simp only [Rgb.last, List.getElem?_toArray, List.getElem?_cons_succ, List.getElem?_cons_zero, Option.getD_some]
        rfl
      refine Rgb.op_is (.int .u64 q) [] rfl rfl (by kernel_rfl) ?_ ?_
      · intro wx hb
        refine Rgb.from_nil fun T hT => ?_
        have g1 := (hb.cell (lt_of_cell hcQ)).trans hcQ
        go_wp2
        exact hT _ _ rfl (by first | exact Rgb.Keep.refl _ | exact below_of_dr hw2 | exact hw2 | exact (Below.refl _ _).alloc (Nat.le_refl _) _) (by first | rfl | exact congrArg _ (by decide))
      refine Rgb.op_is (.int .u64 (mMul (prU q pre) y1 q)) [0, 1, 2] rfl rfl (by kernel_rfl) ?_ ?_
      · intro wx hb
        refine Rgb.from_is (some 28) rfl rfl ?_
        refine Rgb.from_is (some 29) rfl rfl ?_
        refine Rgb.from_is (some 30) rfl rfl ?_
        refine Rgb.from_nil fun T hT => ?_
        go_wp2_with (go_at_call 89; refine (mul_c _ _ _ huU hy1 hq _).mono ?_; rintro e w5 ⟨rfl, hw5⟩)
        exact hT _ _ rfl (below_of_dr hw5) rfl
      refine Rgb.op_is (.int .u64 (prV q pre)) [] rfl rfl (by kernel_rfl) ?_ ?_
      · intro wx hb
        refine Rgb.from_nil fun T hT => ?_
        have g1 := (hb.cell (lt_of_cell hcV)).trans hcV
        go_wp2
        exact hT _ _ rfl (by first | exact Rgb.Keep.refl _ | exact below_of_dr hw2 | exact hw2 | exact (Below.refl _ _).alloc (Nat.le_refl _) _) (by first | rfl | exact congrArg _ (by decide))
      refine' Rgb.op_is _ [] rfl rfl (by kernel_rfl) ?_ ?_
      rotate_left
      · intro wx hb
        refine Rgb.from_nil fun T hT => ?_
        go_wp2
        refine hT _ _ rfl (by first | exact Rgb.Keep.refl _ | exact below_of_dr hw2 | exact hw2 | exact (Below.refl _ _).alloc (Nat.le_refl _) _) ?_
        simp only [Rgb.last, List.getElem?_toArray, List.getElem?_cons_succ, List.getElem?_cons_zero, Option.getD_some]
        rfl
      refine Rgb.op_is (.int .u64 q) [] rfl rfl (by kernel_rfl) ?_ ?_
      · intro wx hb
        refine Rgb.from_nil fun T hT => ?_
        have g1 := (hb.cell (lt_of_cell hcQ)).trans hcQ
        go_wp2
        exact hT _ _ rfl (by first | exact Rgb.Keep.refl _ | exact below_of_dr hw2 | exact hw2 | exact (Below.refl _ _).alloc (Nat.le_refl _) _) (by first | rfl | exact congrArg _ (by decide))
      refine Rgb.op_is (.int .u64 (mMul (prV q pre) y2 q)) [4, 5, 6] rfl rfl (by kernel_rfl) ?_ ?_
      · intro wx hb
        refine Rgb.from_is (some 32) rfl rfl ?_
        refine Rgb.from_is (some 33) rfl rfl ?_
        refine Rgb.from_is (some 34) rfl rfl ?_
        refine Rgb.from_nil fun T hT => ?_
        go_wp2_with (go_at_call 89; refine (mul_c _ _ _ huV hy2 hq _).mono ?_; rintro e w5 ⟨rfl, hw5⟩)
        exact hT _ _ rfl (below_of_dr hw5) rfl
      refine Rgb.walk_nil [0, 1, 2, 3, 4, 5, 6, 7] (by kernel_rfl) ?_
      intro wx hb
      refine Rgb.from_is (some 28) rfl rfl ?_
      refine Rgb.from_is (some 29) rfl rfl ?_
      refine Rgb.from_is (some 30) rfl rfl ?_
      refine Rgb.from_is (some 31) rfl rfl ?_
      refine Rgb.from_is (some 32) rfl rfl ?_
      refine Rgb.from_is (some 33) rfl rfl ?_
      refine Rgb.from_is (some 34) rfl rfl ?_
      refine Rgb.from_is (some 35) rfl rfl ?_
      refine Rgb.from_nil ?_
      simp only [List.map, Act.put, List.setIfInBounds_toArray, List.set_cons_zero, List.set_cons_succ]
      have hU2 := hI.U.below hb
      have hV2 := hI.V.below hb
      have hcU2 := hU2.cell (k := 0) rfl
      have hfU2 := hU2.frozen 0
      have hV3 := hV2.far (p := ⟨gu, 0, none⟩) hne (.int .u64 (mMul (prU q pre) y1 q))
      have hcV3 := hV3.cell (k := 0) rfl
      have hfV3 := hV3.frozen 0
      have hb2 := below_next hI.b hI.b.size hb
      have hF2 := hI.F.below hb
      have hQ2 := hI.Q.below hb
      have hU3 := (hU2.set 0 (.int .u64 (mMul (prU q pre) y1 q))).far (p := ⟨gv, 0, none⟩) hne' (.int .u64 (mMul (prV q pre) y2 q))
      have hV4 := hV3.set 0 (.int .u64 (mMul (prV q pre) y2 q))
      clear hcU hcV hcQ huU huV hU2 hV2
      go_wp2
      have hb4 : Below w.heap.size w ((wx.setCell ⟨gu, 0, none⟩ (.int .u64 (mMul (prU q pre) y1 q))).setCell ⟨gv, 0, none⟩ (.int .u64 (mMul (prV q pre) y2 q))) := (hb2.setCell (p := ⟨gu, 0, none⟩) (Nat.le_of_lt hgu) _).setCell (p := ⟨gv, 0, none⟩) (Nat.le_of_lt hgv) _
      have hFk : ∀ B1, Oth A l c i at_ q g1 g2 g3 g4 B1 → Oth A l c i at_ q g1 g2 g3 g4 wx → Oth A l c i at_ q g1 g2 g3 g4 ((wx.setCell ⟨gu, 0, none⟩ (.int .u64 (mMul (prU q pre) y1 q))).setCell ⟨gv, 0, none⟩ (.int .u64 (mMul (prV q pre) y2 q))) := fun B1 _ h2 =>
        ⟨(h2.r1.far (by simp; omega) _).far (by simp; omega) _, (h2.r2.far (by simp; omega) _).far (by simp; omega) _, (h2.r3.far (by simp; omega) _).far (by simp; omega) _, (h2.r4.far (by simp; omega) _).far (by simp; omega) _, hA.keep fun p hp => hb4.cell hp⟩
      refine (show GoesOn _ _ _ _ _ _ _ from ⟨rfl, ?_, fun h => hFk _ h (h.below hb), ?_, ?_⟩)
      · exact ((KeepsOthers.mk hb.size fun k o hk _ => (hb.block k (Array.getElem?_eq_some_iff.1 hk).1).trans hk).trans (KeepsOthers.setCell _ _ _)).trans (KeepsOthers.setCell _ _ _)
      · exact Nat.le_trans hb.size (Nat.le_trans (KeepsOthers.setCell wx ⟨gu, 0, none⟩ (.int .u64 (mMul (prU q pre) y1 q))).size (KeepsOthers.setCell _ ⟨gv, 0, none⟩ (.int .u64 (mMul (prV q pre) y2 q))).size)
      · refine ⟨hFk _ hF2 hF2, (hQ2.far (by simp; omega) _).far (by simp; omega) _, ?_, ?_, hb4⟩
        · rw [prU_snoc]; exact hU3
        · rw [prV_snoc]; exact hV4
    case done1 =>
      intro D xs W hD hS hI hK
      subst hS
      have hcU := hI.U.cell (k := 0) rfl
      have hcV := hI.V.cell (k := 0) rfl
      have hcQ := hI.Q.cell (k := 0) rfl
      rw [prU_oths] at hcU
      rw [prV_oths] at hcV
      have hmU := mProd_u64 hk (but l i) z
      have hBW := hI.b
      clear hI
      obtain ⟨pu, hpu⟩ : ∃ p, mProd (but l i) z q = p := ⟨_, rfl⟩
      obtain ⟨pv, hpv⟩ : ∃ p, mProd (but l i) at_ q = p := ⟨_, rfl⟩
      have HP := hid (⟨hpu, hpv⟩ : _ ∧ _)
      rw [hpu] at hcU hmU
      rw [hpv] at hcV
      clear hpu hpv
      go_wp2_with (go_at_call 104; refine (inv_c _ _ hmU hq _).mono ?_; rintro e w5 ⟨rfl, hw5⟩; have hcV5 := (hw5.cell _).trans hcV)
      go_quiet (fail)
      go_wp2
      refine ⟨by simp, .inl ⟨_, _, rfl, run_takeDeferred ?_, ?_⟩⟩
      · obtain ⟨n5, rfl⟩ := hw5; exact hK
      · refine ⟨_, results_tmp3 (t := 8) (u := 9) (v := 10) rfl _ _ _, by rw [HP.out.1, HP.out.2]; rfl, ?_⟩
        refine below_put _ (below_dr (below_dr hBW hw5) ⟨_, rfl⟩) (Nat.le_trans S.b.size hD)
  · have hU : Row1 w2 gu 24 [.int .u64 (1 % q)] := by assumption
    have hV : Row1 w2 gv 24 [.int .u64 (1 % q)] := by assumption
    have hne : gu ≠ gv := by assumption
    have hne' : gv ≠ gu := by assumption
    have hgu : w.heap.size < gu := by assumption
    have hgv : w.heap.size < gv := by assumption
    clear h1r h2r hlt1 hlt2 hgs hgs' hge1 hge2
    have HI := hid hi
    clear hi
    have hcQ0 := hQ.cell (k := 0) rfl
    go_wp2_with (fail)
    refine (others_c A l c i at_ q w2 (hA.keep fun p hp => hb.cell hp)).mono ?_
    rintro e w3 ⟨g1, g2, g3, g4, rfl, hF, hb3, hl1, hl2, hl3, hl4⟩
    have hlU := hU.lt
    have hlV := hV.lt
    have hlQ := hQ.lt
    have S : Sw A l c i at_ q g1 g2 g3 g4 w.heap.size gu gv w [] w3 := ⟨hF, hQ.below hb3, hU.below hb3, hV.below hb3, below_next hb hb.size hb3⟩
    clear hQ hU hV hF hb hb3 hcQ0
    go_wp2
    refine (wpIn_wide (n := 10)).1 ?_
    refine wpIn_rangeAll (n := 10) rfl (by decide) (gf := 121) (lb := #[.pointer (some ⟨g1, 0, none⟩), .pointer (some ⟨g2, 0, none⟩), .pointer (some ⟨g3, 0, none⟩), .pointer (some ⟨g4, 0, none⟩)]) rfl trivial (enters_of Tryd.func121 (by kernel_rfl) rfl) (encs := fun y : Int × Int => #[.int .u64 y.1, .int .u64 y.2]) (fun _ => rfl)
      (Sw A l c i at_ q g1 g2 g3 g4 w.heap.size gu gv w) (fun y _ => U64 y.1 ∧ U64 y.2) (fun xs => xs = oths l i z at_ q) (fun B1 B2 => Oth A l c i at_ q g1 g2 g3 g4 B1 → Oth A l c i at_ q g1 g2 g3 g4 B2)
      ?ib2 ?ip2 ?op2 (fun _ _ _ h1 h2 h3 => h2 (h1 h3)) (fun B1 l o o' _ h1 h2 h3 => h3.put o' h1 h2) S ?it2 ?a₁2 ?assign2 ?body2 ?done2
    case assign2 =>
      intro l y W K hK
      gi_wp2
      exact hK
    case ib2 => exact fun xs B1 B2 hs h hb => ⟨h.F.below hb, h.Q.below hb, h.U.below hb, h.V.below hb, below_next h.b h.b.size hb⟩
    case ip2 => exact fun xs B1 l o o' h hs h1 h2 => ⟨h.F.put o' h1 h2, h.Q.put o' h1 h2, h.U.put o' h1 h2, h.V.put o' h1 h2, below_put o' h.b (by have := S.b.size; omega)⟩
    case op2 => exact fun y B1 l o o' h hs h1 h2 => h
    case it2 =>
      intro l' J W hbW hJ hY h0
      exact callsIn_wide.2 ((others1_c A l c i z at_ q g1 g2 g3 g4 l' 8 W J hJ (fun pre y W' hs hj hy1 hy2 => hY pre y W' hs hj ⟨hy1, hy2⟩) (S.F.below hbW) HI.out hl hu hat hq h0).mono fun e w' h => ⟨h.1, _, rfl, h.2⟩)
    case body2 =>
      intro l' pre y W hsW hI hOk
      obtain ⟨y1, y2⟩ := y
      obtain ⟨hy1, hy2⟩ := hOk
      dsimp only at hy1 hy2
      have hcU := hI.U.cell (k := 0) rfl
      have hcV := hI.V.cell (k := 0) rfl
      have hcQ := hI.Q.cell (k := 0) rfl
      have huU := prU_u64 hk pre
      have huV := prV_u64 hk pre
      gi_wp2
      refine Rgb.round_region (by rintro ⟨a, w, h⟩; cases h.1) (L := [_, _, _, _, _, _, _, _]) (tail := [_, _]) (Rgb.grows _ 10) [some 28, some 29, some 30, some 31, some 32, some 33, some 34, some 35, none, none] 45 (by kernel_rfl) (by kernel_rfl) (by kernel_rfl) (by kernel_rfl) rfl (Rgb.grows_fair _ _) (Rgb.keep_drew _) (trivial) ?_
      refine Rgb.op_is (.int .u64 (prU q pre)) [] rfl rfl (by kernel_rfl) ?_ ?_
      · intro wx hb
        refine Rgb.from_nil fun T hT => ?_
        have g1 := (hb.cell (lt_of_cell hcU)).trans hcU
        go_wp2
        exact hT _ _ rfl (by first | exact Rgb.Keep.refl _ | exact below_of_dr hw2 | exact hw2 | exact (Below.refl _ _).alloc (Nat.le_refl _) _) (by first | rfl | exact congrArg _ (by decide))
      refine' Rgb.op_is _ [] rfl rfl (by kernel_rfl) ?_ ?_
      rotate_left
      · intro wx hb
        refine Rgb.from_nil fun T hT => ?_
        go_wp2
        refine hT _ _ rfl (by first | exact Rgb.Keep.refl _ | exact below_of_dr hw2 | exact hw2 | exact (Below.refl _ _).alloc (Nat.le_refl _) _) ?_
        simp only [Rgb.last, List.getElem?_toArray, List.getElem?_cons_succ, List.getElem?_cons_zero, Option.getD_some]
        rfl
      refine Rgb.op_is (.int .u64 q) [] rfl rfl (by kernel_rfl) ?_ ?_
      · intro wx hb
        refine Rgb.from_nil fun T hT => ?_
        have g1 := (hb.cell (lt_of_cell hcQ)).trans hcQ
        go_wp2
        exact hT _ _ rfl (by first | exact Rgb.Keep.refl _ | exact below_of_dr hw2 | exact hw2 | exact (Below.refl _ _).alloc (Nat.le_refl _) _) (by first | rfl | exact congrArg _ (by decide))
      refine Rgb.op_is (.int .u64 (mMul (prU q pre) y1 q)) [0, 1, 2] rfl rfl (by kernel_rfl) ?_ ?_
      · intro wx hb
        refine Rgb.from_is (some 28) rfl rfl ?_
        refine Rgb.from_is (some 29) rfl rfl ?_
        refine Rgb.from_is (some 30) rfl rfl ?_
        refine Rgb.from_nil fun T hT => ?_
        go_wp2_with (go_at_call 89; refine (mul_c _ _ _ huU hy1 hq _).mono ?_; rintro e w5 ⟨rfl, hw5⟩)
        exact hT _ _ rfl (below_of_dr hw5) rfl
      refine Rgb.op_is (.int .u64 (prV q pre)) [] rfl rfl (by kernel_rfl) ?_ ?_
      · intro wx hb
        refine Rgb.from_nil fun T hT => ?_
        have g1 := (hb.cell (lt_of_cell hcV)).trans hcV
        go_wp2
        exact hT _ _ rfl (by first | exact Rgb.Keep.refl _ | exact below_of_dr hw2 | exact hw2 | exact (Below.refl _ _).alloc (Nat.le_refl _) _) (by first | rfl | exact congrArg _ (by decide))
      refine' Rgb.op_is _ [] rfl rfl (by kernel_rfl) ?_ ?_
      rotate_left
      · intro wx hb
        refine Rgb.from_nil fun T hT => ?_
        go_wp2
        refine hT _ _ rfl (by first | exact Rgb.Keep.refl _ | exact below_of_dr hw2 | exact hw2 | exact (Below.refl _ _).alloc (Nat.le_refl _) _) ?_
        simp only [Rgb.last, List.getElem?_toArray, List.getElem?_cons_succ, List.getElem?_cons_zero, Option.getD_some]
        rfl
      refine Rgb.op_is (.int .u64 q) [] rfl rfl (by kernel_rfl) ?_ ?_
      · intro wx hb
        refine Rgb.from_nil fun T hT => ?_
        have g1 := (hb.cell (lt_of_cell hcQ)).trans hcQ
        go_wp2
        exact hT _ _ rfl (by first | exact Rgb.Keep.refl _ | exact below_of_dr hw2 | exact hw2 | exact (Below.refl _ _).alloc (Nat.le_refl _) _) (by first | rfl | exact congrArg _ (by decide))
      refine Rgb.op_is (.int .u64 (mMul (prV q pre) y2 q)) [4, 5, 6] rfl rfl (by kernel_rfl) ?_ ?_
      · intro wx hb
        refine Rgb.from_is (some 32) rfl rfl ?_
        refine Rgb.from_is (some 33) rfl rfl ?_
        refine Rgb.from_is (some 34) rfl rfl ?_
        refine Rgb.from_nil fun T hT => ?_
        go_wp2_with (go_at_call 89; refine (mul_c _ _ _ huV hy2 hq _).mono ?_; rintro e w5 ⟨rfl, hw5⟩)
        exact hT _ _ rfl (below_of_dr hw5) rfl
      refine Rgb.walk_nil [0, 1, 2, 3, 4, 5, 6, 7] (by kernel_rfl) ?_
      intro wx hb
      refine Rgb.from_is (some 28) rfl rfl ?_
      refine Rgb.from_is (some 29) rfl rfl ?_
      refine Rgb.from_is (some 30) rfl rfl ?_
      refine Rgb.from_is (some 31) rfl rfl ?_
      refine Rgb.from_is (some 32) rfl rfl ?_
      refine Rgb.from_is (some 33) rfl rfl ?_
      refine Rgb.from_is (some 34) rfl rfl ?_
      refine Rgb.from_is (some 35) rfl rfl ?_
      refine Rgb.from_nil ?_
      simp only [List.map, Act.put, List.setIfInBounds_toArray, List.set_cons_zero, List.set_cons_succ]
      have hU2 := hI.U.below hb
      have hV2 := hI.V.below hb
      have hcU2 := hU2.cell (k := 0) rfl
      have hfU2 := hU2.frozen 0
      have hV3 := hV2.far (p := ⟨gu, 0, none⟩) hne (.int .u64 (mMul (prU q pre) y1 q))
      have hcV3 := hV3.cell (k := 0) rfl
      have hfV3 := hV3.frozen 0
      have hb2 := below_next hI.b hI.b.size hb
      have hF2 := hI.F.below hb
      have hQ2 := hI.Q.below hb
      have hU3 := (hU2.set 0 (.int .u64 (mMul (prU q pre) y1 q))).far (p := ⟨gv, 0, none⟩) hne' (.int .u64 (mMul (prV q pre) y2 q))
      have hV4 := hV3.set 0 (.int .u64 (mMul (prV q pre) y2 q))
      clear hcU hcV hcQ huU huV hU2 hV2
      go_wp2
      have hb4 : Below w.heap.size w ((wx.setCell ⟨gu, 0, none⟩ (.int .u64 (mMul (prU q pre) y1 q))).setCell ⟨gv, 0, none⟩ (.int .u64 (mMul (prV q pre) y2 q))) := (hb2.setCell (p := ⟨gu, 0, none⟩) (Nat.le_of_lt hgu) _).setCell (p := ⟨gv, 0, none⟩) (Nat.le_of_lt hgv) _
      have hFk : ∀ B1, Oth A l c i at_ q g1 g2 g3 g4 B1 → Oth A l c i at_ q g1 g2 g3 g4 wx → Oth A l c i at_ q g1 g2 g3 g4 ((wx.setCell ⟨gu, 0, none⟩ (.int .u64 (mMul (prU q pre) y1 q))).setCell ⟨gv, 0, none⟩ (.int .u64 (mMul (prV q pre) y2 q))) := fun B1 _ h2 =>
        ⟨(h2.r1.far (by simp; omega) _).far (by simp; omega) _, (h2.r2.far (by simp; omega) _).far (by simp; omega) _, (h2.r3.far (by simp; omega) _).far (by simp; omega) _, (h2.r4.far (by simp; omega) _).far (by simp; omega) _, hA.keep fun p hp => hb4.cell hp⟩
      refine (show GoesOn _ _ _ _ _ _ _ from ⟨rfl, ?_, fun h => hFk _ h (h.below hb), ?_, ?_⟩)
      · exact ((KeepsOthers.mk hb.size fun k o hk _ => (hb.block k (Array.getElem?_eq_some_iff.1 hk).1).trans hk).trans (KeepsOthers.setCell _ _ _)).trans (KeepsOthers.setCell _ _ _)
      · exact Nat.le_trans hb.size (Nat.le_trans (KeepsOthers.setCell wx ⟨gu, 0, none⟩ (.int .u64 (mMul (prU q pre) y1 q))).size (KeepsOthers.setCell _ ⟨gv, 0, none⟩ (.int .u64 (mMul (prV q pre) y2 q))).size)
      · refine ⟨hFk _ hF2 hF2, (hQ2.far (by simp; omega) _).far (by simp; omega) _, ?_, ?_, hb4⟩
        · rw [prU_snoc]; exact hU3
        · rw [prV_snoc]; exact hV4
    case done2 =>
      intro D xs W hD hS hI hK
      subst hS
      have hcU := hI.U.cell (k := 0) rfl
      have hcV := hI.V.cell (k := 0) rfl
      have hcQ := hI.Q.cell (k := 0) rfl
      rw [prU_oths] at hcU
      rw [prV_oths] at hcV
      have hmU := mProd_u64 hk (but l i) z
      have hBW := hI.b
      clear hI
      obtain ⟨pu, hpu⟩ : ∃ p, mProd (but l i) z q = p := ⟨_, rfl⟩
      obtain ⟨pv, hpv⟩ : ∃ p, mProd (but l i) at_ q = p := ⟨_, rfl⟩
      have HP := hid (⟨hpu, hpv⟩ : _ ∧ _)
      rw [hpu] at hcU hmU
      rw [hpv] at hcV
      clear hpu hpv
      go_wp2_with (go_at_call 104; refine (inv_c _ _ hmU hq _).mono ?_; rintro e w5 ⟨rfl, hw5⟩; have hcV5 := (hw5.cell _).trans hcV)
      go_quiet (fail)
      go_wp2
      refine ⟨by simp, .inl ⟨_, _, rfl, run_takeDeferred ?_, ?_⟩⟩
      · obtain ⟨n5, rfl⟩ := hw5; exact hK
      · refine ⟨_, results_tmp3 (t := 8) (u := 9) (v := 10) rfl _ _ _, by rw [HP.out.1, HP.out.2]; rfl, ?_⟩
        refine below_put _ (below_dr (below_dr hBW hw5) ⟨_, rfl⟩) (Nat.le_trans S.b.size hD)
end Go.Proofs.YtlbhmoiicbhgkaaDoor
end

section
namespace Go.Rgb
open Go.RowKit
/-- operation s writes beyond what lay in w0; the others make memory. -/
def freshWay (w0 : World) (s : Nat) : Way := ⟨Keep, fun w w' => Below w0.heap.size w w', fun w => Below w0.heap.size w0 w, fun _ => True, s⟩
theorem freshWay_fair (w0 : World) (s : Nat) : (freshWay w0 s).Fair := ⟨fun _ _ h k => h.trans (k.mono h.size), fun _ _ h k => h.trans k, fun _ _ _ _ => trivial⟩
end Go.Rgb
end

section
namespace Go.Rgb
section
variable {P : Program} {l m : Nat} {ops : Array Oper} {Q : Exit → Act → World → Prop}
theorem operIn_in_round {o : Oper} {a : Act} {w : World} {K K' : Act → World → Prop} (hK : ∀ a w, K a w → K' a w) (hd : ∀ c, o.op ≠ .defer c) (h : o.wpIn Fence.wide m P a w K Q) : o.wpIn (Fence.wide.inRound l) m P a w K' Q := by
  refine Oper.wpIn_mono hK ⟨fun _ _ => trivial, ?_⟩
  have h2 := h.2
  rw [show Fence.wide.round = none from rfl, Oper.semAt_none] at h2
  rw [show (Fence.wide.inRound l).round = some l from rfl, Oper.semAt_some l a.eval o hd]
  generalize (execOp a.eval o).run P w = r at h2 ⊢
  cases r with
  | halt x w' => cases x <;> exact h2
  | ok n w' => cases n <;> exact h2
theorem anyIn_in_round {md : Region.Mode} (hc : calm ops.toList = true) : ∀ (fuel : Nat) (listed : Array Bool) (a : Act) (w : World), wpAnyIn Fence.wide m P md ops Q fuel listed a w → wpAnyIn (Fence.wide.inRound l) m P md ops Q fuel listed a w
  | 0, _, _, _, h => h
  | fuel + 1, listed, a, w, h => by
    refine ⟨h.1, fun i hi => ?_⟩
    have h1 := h.2 i hi
    unfold wpOpIn at h1 ⊢
    cases ho : ops[i]? with
    | none =>
      rw [ho] at h1
      exact anyIn_in_round hc fuel _ a w h1
    | some o =>
      rw [ho] at h1
      simp only at h1 ⊢
      have hd := calm_spec hc (Array.mem_toList_iff.2 (Array.mem_of_getElem? ho))
      by_cases hw : Region.wanted o (yielded ops a.tmps) = true
      · rw [if_pos hw] at h1 ⊢
        exact operIn_in_round (fun a w h => anyIn_in_round hc fuel _ a w h) hd h1
      · rw [if_neg hw] at h1 ⊢
        exact ⟨h1.1, anyIn_in_round hc fuel _ _ w h1.2⟩
/-- the law of drawn regions that hold a yield, in a round: the tail is walked as outside of it. -/
theorem round_regionY {id : Nat} {Q' : Exit → Act → World → Prop} {L tail : List Oper} {ops : Array Oper} {a : Act} {w : World} (Y : Way) (ds : List (Option Tmp)) (size : Nat) (ho : ops = (L ++ tail).toArray) (hm : P.follows .mixedOrders = true) (hcalm : calm (L ++ tail) = true) (hs : sane ops ds size L.length = true) (hc : closesY ops L.length = true) (hz : a.tmps.size = size)
    (HY : Y.Fair) (hB : Y.B w.drew) (hB1 : Y.B1 w.drew) (h : ∀ Q : Act → World → Prop, (∀ a w, wpListIn Fence.wide m P ops Q' tail a w → Q a w) → walk P Y ds a Q L []) : (Code.region id ops true).wpIn (Fence.wide.inRound l) m P Q' a w := by
  subst ho
  exact wpIn_region_any hm (anyIn_in_round (by simpa using hcalm) _ _ _ _ (any_regionY Y ds size hs hc hz HY hB hB1 (h _ fun _ _ h => h)))
end
end Go.Rgb
end
