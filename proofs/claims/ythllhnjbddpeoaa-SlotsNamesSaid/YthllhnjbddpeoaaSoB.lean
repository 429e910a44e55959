/-
  What a crash leaves of a disk on which this layer alone wrote; plainly.
-/
import Derived.Test.YthllhnjbddpeoaaSoA
namespace Go.Proofs.Ythllhnjbddpeoaa
open Go Go.RowKit Go.Maps Go.Shelf Go.Proofs

/-- the platter behind a crash. -/
abbrev Out (x : Pc) (ks : List Bool) (n : Nat) : List Pt := (crashS x.2 ks n x.1 x.2.length).2
theorem out_none (P : List Pt) (ks : List Bool) (n : Nat) : Out (P, []) ks n = P := rfl
theorem crashS_far {C P : List Pt} {ks : List Bool} {n : Nat} {a : Int} (h : ∀ q ∈ C, q.at_ ≠ a) : ∀ k, getP (crashS C ks n P k).2 a = getP P a
  | 0 => rfl
  | k + 1 => by
    have ih := crashS_far (ks := ks) (n := n) (P := P) h k
    rw [crashS]
    cases hk : C[k]? with
    | none => exact ih
    | some p =>
      have hp := h p (List.mem_of_getElem? hk)
      simp only
      split
      · simp only [getP_set]; rw [if_neg hp]; exact ih
      · split
        · exact ih
        · simp only [getP_set]; rw [if_neg hp]; exact ih
theorem out_one (P : List Pt) (q : Pt) (ks : List Bool) (n : Nat) : Out (P, [q]) ks n = setP P q ∨ Out (P, [q]) ks n = setP P ⟨q.at_, cut q.s (getP P q.at_) n⟩ := by
  show (crashS [q] ks n P 1).2 = setP P q ∨ (crashS [q] ks n P 1).2 = setP P ⟨q.at_, cut q.s (getP P q.at_) n⟩
  rw [crashS]
  simp only [List.getElem?_cons_zero, crashS]
  by_cases h : (ks[0]?).getD false = true
  · left; rw [if_pos h]
  · right; rw [if_neg h]; rfl
theorem out_all (x : Pc) (n : Nat) (a : Int) : getP (Out x (List.replicate x.2.length true) n) a = vw x a := by
  unfold Out
  rw [crashS_all x.2 x.1 n _ (Nat.le_refl _), List.take_length]
  exact plat_sync x a
/-- whatever a crash does: what is told then, and no head but such as no cut makes whole. -/
structure Inv (x : Pc) (c : Nat) (M : ByteArray × Bool → Prop) : Prop where
  txt : ∀ ks n, n ≤ 512 → M (readP (getP (Out x ks n)))
  good : ∀ ks n, n ≤ 512 → ∀ p, Pl p → Good c (getP (Out x ks n) p)
theorem Inv.mono {x : Pc} {c c' : Nat} {M M' : ByteArray × Bool → Prop} (h : Inv x c M) (hc : c ≤ c') (hM : ∀ t, M t → M' t) : Inv x c' M' :=
  ⟨fun ks n hn => hM _ (h.txt ks n hn), fun ks n hn p hp => (h.good ks n hn p hp).mono hc⟩
theorem Inv.now {x : Pc} {c : Nat} {M : ByteArray × Bool → Prop} (h : Inv x c M) : M (readP (vw x)) ∧ ∀ p, Pl p → Good c (vw x p) := by
  have e : getP (Out x (List.replicate x.2.length true) 0) = vw x := funext (out_all x 0)
  have h1 := h.txt (List.replicate x.2.length true) 0 (by omega)
  have h2 := h.good (List.replicate x.2.length true) 0 (by omega)
  rw [e] at h1 h2
  exact ⟨h1, h2⟩
theorem Inv.flat {P : List Pt} {c : Nat} {M : ByteArray × Bool → Prop} (h1 : M (readP (getP P))) (h2 : ∀ p, Pl p → Good c (getP P p)) : Inv (P, []) c M := ⟨fun _ _ _ => h1, fun _ _ _ => h2⟩
theorem inv_new : Inv ([], []) 0 (fun t => t = (⟨#[]⟩, false)) := by
  refine .flat ?_ fun p _ => good_blk 0
  have h := (live_newest (d := dk0) rfl).2
  exact h.symm.trans dk0_txt
/-- how old what is told is. -/
abbrev ageX (x : Pc) : Nat := (newP (vw x 32768) (vw x 0)).2.1
abbrev plX (x : Pc) : Int := if 0 < ageX x then 32768 - (newP (vw x 32768) (vw x 0)).1 else (newP (vw x 32768) (vw x 0)).1
theorem plX_pl (x : Pc) : Pl (plX x) := by
  have h := (newP_pl (vw x 32768) (vw x 0)).1
  unfold plX
  split
  · rcases h with h | h <;> rw [h]
    · exact .inr (by omega)
    · exact .inl (by omega)
  · exact h
theorem ageX_le {x : Pc} {c : Nat} (h : ∀ p, Pl p → Good c (vw x p)) : ageX x ≤ c := by
  have h1 := (h 32768 (.inr rfl)).le
  have h2 := (h 0 (.inl rfl)).le
  unfold ageX newP
  split
  · exact h2
  · split
    · exact h1
    · exact Nat.zero_le _
theorem pl_two {p p' : Int} (h : Pl p) (h' : Pl p') (hne : p' ≠ p) : ¬ (p ≤ p' ∧ p' < p + 32768) := by
  rcases h with rfl | rfl <;> rcases h' with rfl | rfl <;> omega
/-- the older place alone was touched, and no new head is there. -/
theorem keep_done {x : Pc} {c c' : Nat} {M : ByteArray × Bool → Prop} {r : Int → ByteArray} (h : M (readP (vw x)) ∧ ∀ p, Pl p → Good c (vw x p)) (hc : c ≤ c') (hs : Same x (plX x) r) (hg : Good c' (r (plX x))) :
    M (readP r) ∧ ∀ p, Pl p → Good c' (r p) := by
  refine ⟨?_, fun p hp => ?_⟩
  · rw [(same_text (p := plX x) rfl hs).2]; exact h.1
  · by_cases e : p = plX x
    · rw [e]; exact hg
    · rw [hs.out p (pl_two (plX_pl x) hp e)]; exact (h.2 p hp).mono hc
/-- the new text is told. -/
theorem newer {x : Pc} {s : ByteArray} {r : Int → ByteArray} (_ : s.size ≤ roomN) (hn : ageX x + 1 ≤ maxN) (hh : hd (r (plX x)) = (ageX x + 1, s.size))
    (hc : ∀ k, k < secs_of s.size → r (plX x + 1 + k) = pad (s.extract (512 * k) (512 * k + 512))) (ho : ∀ a, ¬ (plX x ≤ a ∧ a < plX x + 32768) → r a = vw x a) : readP r = (s, true) := by
  have e1 : newP (r 32768) (r 0) = (plX x, ageX x + 1, s.size) := by
    refine newP_new (b := vw x 32768) (c := vw x 0) (p := plX x) rfl hn (fun e => ?_) (fun e => ?_)
    · rw [e] at hh
      exact ⟨hh, by rw [ho 32768 (by omega)]⟩
    · rw [e] at hh
      exact ⟨hh, by rw [ho 0 (by omega)]⟩
  unfold readP
  rw [e1]
  unfold textP
  simp only
  rw [if_neg (by omega)]
  have hlen : s.data.toList.length = s.size := ba_len s
  have h2 : s.size ≤ 512 * secs_of s.size := by unfold secs_of; omega
  rw [cat_wrote hc _ (Nat.le_refl _), List.take_of_length_le (i := 512 * secs_of s.size) (by omega), List.take_append_of_le_length (by omega), List.take_of_length_le (by omega)]
theorem newer_done {x : Pc} {c : Nat} {s : ByteArray} {r : Int → ByteArray} (h : ∀ p, Pl p → Good c (vw x p)) (hs : s.size ≤ roomN) (hn : ageX x + 1 ≤ maxN) (hh : hd (r (plX x)) = (ageX x + 1, s.size)) (hg : Good (c + 1) (r (plX x)))
    (hc : ∀ k, k < secs_of s.size → r (plX x + 1 + k) = pad (s.extract (512 * k) (512 * k + 512))) (ho : ∀ a, ¬ (plX x ≤ a ∧ a < plX x + 32768) → r a = vw x a) : readP r = (s, true) ∧ ∀ p, Pl p → Good (c + 1) (r p) := by
  refine ⟨newer hs hn hh hc ho, fun p hp => ?_⟩
  by_cases e : p = plX x
  · rw [e]; exact hg
  · rw [ho p (pl_two (plX_pl x) hp e)]; exact (h p hp).mono (by omega)
theorem out_far {P C : List Pt} {ks : List Bool} {n : Nat} {a : Int} (h : ∀ q ∈ C, q.at_ ≠ a) : getP (Out (P, C) ks n) a = getP P a := crashS_far h C.length
/-- a Write that is stopped. -/
theorem st_inv {x y : Pc} {s : ByteArray} {c k : Nat} {M : ByteArray × Bool → Prop} (hx : Inv x c M) (hs : s.size ≤ roomN) (hc : c + 1 ≤ maxN)
    (hst : StAt x (plX x) (headS (ageX x + 1) s.size) (wOf (plX x) s (usW x (plX x) s)) k y) (hk : k ≤ 5 + (wOf (plX x) s (usW x (plX x) s)).length) : Inv y (c + 1) (fun t => M t ∨ t = (s, true)) := by
  have hN := hx.now
  have hage := ageX_le hN.2
  have hpl := plX_pl x
  have hgp := hN.2 _ hpl
  have kd := fun r => keep_done (c' := c + 1) (r := r) hN (by omega)
  have key : ∀ (y : Pc), (∀ ks n, n ≤ 512 → (M (readP (getP (Out y ks n))) ∨ readP (getP (Out y ks n)) = (s, true)) ∧ ∀ p, Pl p → Good (c + 1) (getP (Out y ks n) p)) → Inv y (c + 1) (fun t => M t ∨ t = (s, true)) :=
    fun y h => ⟨fun ks n hn => (h ks n hn).1, fun ks n hn => (h ks n hn).2⟩
  have old : ∀ (P' : List Pt), (Same x (plX x) (getP P') ∧ Good (c + 1) (getP P' (plX x))) → (M (readP (getP P')) ∨ readP (getP P') = (s, true)) ∧ ∀ p, Pl p → Good (c + 1) (getP P' p) := by
    intro P' h
    have := kd (getP P') h.1 h.2
    exact ⟨.inl this.1, this.2⟩
  generalize hp : plX x = p at *
  cases hst with
  | s0 => exact hx.mono (by omega) fun t h => .inl h
  | s1 =>
    refine key _ fun ks n hn => old _ ⟨⟨fun a _ => plat_sync x a, .inr (by rw [out_none, plat_sync])⟩, ?_⟩
    rw [out_none, plat_sync]; exact hgp.mono (by omega)
  | s2 =>
    refine key _ fun ks n hn => old _ ?_
    rcases out_one (x.2.foldl setP x.1) ⟨p, blk⟩ ks n with e | e <;> rw [e]
    · refine ⟨⟨fun a ha => ?_, .inl ?_⟩, ?_⟩
      · rw [getP_set, if_neg (by simp only; omega), plat_sync]
      · rw [getP_set, if_pos rfl]; exact hd_blk
      · rw [getP_set, if_pos rfl]; exact good_blk _
    · rw [plat_sync]
      refine ⟨⟨fun a ha => ?_, ?_⟩, ?_⟩
      · rw [getP_set, if_neg (by simp only; omega), plat_sync]
      · rw [getP_set, if_pos rfl]; exact hgp.hd_cut hn
      · rw [getP_set, if_pos rfl]; exact (hgp.cutb hn).mono (by omega)
  | s3 j hj =>
    refine key _ fun ks n hn => old _ ?_
    have hf : ∀ a, ¬ (p + 1 ≤ a ∧ a < p + 32768) → getP (Out (setP (x.2.foldl setP x.1) ⟨p, blk⟩, (wOf p s (usW x p s)).take j) ks n) a = if p = a then blk else vw x a := by
      intro a ha
      have hfar : ∀ q ∈ (wOf p s (usW x p s)).take j, q.at_ ≠ a := fun q hq => by have := w_mem hs (List.mem_of_mem_take hq); omega
      rw [← p3_at x p a]
      exact out_far hfar
    refine ⟨⟨fun a ha => ?_, .inl ?_⟩, ?_⟩
    · rw [hf a (by omega), if_neg (by omega)]
    · rw [hf p (by omega), if_pos rfl]; exact hd_blk
    · rw [hf p (by omega), if_pos rfl]; exact good_blk _
  | s4 =>
    refine key _ fun ks n hn => old _ ?_
    rw [out_none]
    refine ⟨⟨fun a ha => ?_, .inl ?_⟩, ?_⟩
    · rw [w_out hs (by omega), if_neg (by omega)]
    · rw [w_out hs (by omega), if_pos rfl]; exact hd_blk
    · rw [w_out hs (by omega), if_pos rfl]; exact good_blk _
  | s5 =>
    refine key _ fun ks n hn => ?_
    have hP : getP ((wOf p s (usW x p s)).foldl setP (setP (x.2.foldl setP x.1) ⟨p, blk⟩)) p = blk := by rw [w_out hs (by omega), if_pos rfl]
    have hsec := secs_le hs
    have fin : ∀ H : ByteArray, (hd H = (0, 0) ∨ hd H = (ageX x + 1, s.size)) → Good (c + 1) H → (M (readP (getP (setP ((wOf p s (usW x p s)).foldl setP (setP (x.2.foldl setP x.1) ⟨p, blk⟩)) ⟨p, H⟩))) ∨ readP (getP (setP ((wOf p s (usW x p s)).foldl setP (setP (x.2.foldl setP x.1) ⟨p, blk⟩)) ⟨p, H⟩)) = (s, true)) ∧ ∀ q, Pl q → Good (c + 1) (getP (setP ((wOf p s (usW x p s)).foldl setP (setP (x.2.foldl setP x.1) ⟨p, blk⟩)) ⟨p, H⟩) q) := by
      intro H hH hg
      have hout : ∀ a, ¬ (p ≤ a ∧ a < p + 32768) → getP (setP ((wOf p s (usW x p s)).foldl setP (setP (x.2.foldl setP x.1) ⟨p, blk⟩)) ⟨p, H⟩) a = vw x a := by
        intro a ha
        rw [getP_set, if_neg (by simp only; omega), w_out hs (by omega), if_neg (by omega)]
      have hhd : getP (setP ((wOf p s (usW x p s)).foldl setP (setP (x.2.foldl setP x.1) ⟨p, blk⟩)) ⟨p, H⟩) p = H := by rw [getP_set, if_pos rfl]
      rcases hH with hH | hH
      · exact old _ ⟨⟨hout, .inl (by rw [hhd]; exact hH)⟩, by rw [hhd]; exact hg⟩
      · have := newer_done (c := c) (r := getP (setP ((wOf p s (usW x p s)).foldl setP (setP (x.2.foldl setP x.1) ⟨p, blk⟩)) ⟨p, H⟩)) hN.2 hs (by omega) (by rw [hp, hhd]; exact hH) (by rw [hp, hhd]; exact hg) (fun k hk => by
          rw [hp, getP_set, if_neg (by simp only; omega), w_chunk hk]) (by rw [hp]; exact hout)
        exact ⟨.inr this.1, this.2⟩
    rcases out_one ((wOf p s (usW x p s)).foldl setP (setP (x.2.foldl setP x.1) ⟨p, blk⟩)) ⟨p, pad (headS (ageX x + 1) s.size)⟩ ks n with e | e <;> rw [e]
    · exact fin _ (.inr (hd_pad (by omega) (by omega) hs)) (good_head (by omega) hs (by omega))
    · rw [hP]
      exact fin _ (torn_hd (by omega) hs hn) (good_torn (by omega) hs (by omega) hn)
  | s6 => omega
/-- a Write that is done. -/
theorem done_inv {x : Pc} {P' : List Pt} {s : ByteArray} {c : Nat} {M : ByteArray × Bool → Prop} (hx : Inv x c M) (hs : s.size ≤ roomN) (hc : c + 1 ≤ maxN) (hW : Wrote x (plX x) s (headS (ageX x + 1) s.size) (getP P')) : Inv (P', []) (c + 1) (fun t => t = (s, true)) := by
  have hN := hx.now
  have hage := ageX_le hN.2
  have h := newer_done (c := c) (r := getP P') hN.2 hs (by omega) (by rw [hW.head]; exact hd_pad (by omega) (by omega) hs) (by rw [hW.head]; exact good_head (by omega) hs (by omega)) hW.chunk hW.out
  exact .flat h.1 h.2
theorem live_pl {d : Dk} (h : d.de = false) : d.place = plX d.pc ∧ d.age = ageX d.pc := by
  have e := (live_newest h).1
  refine ⟨place_vw h, ?_⟩
  unfold Dk.age
  rw [e]
/-- a Write, done or stopped. -/
theorem slw_inv {d : Dk} {s : ByteArray} {c : Nat} {M : ByteArray × Bool → Prop} (hL : Live d) (hI : Inv d.pc c M) (hs : s.size ≤ roomN) (hc : c + 1 ≤ maxN) :
    ((d.slw s).1 = 0 ∧ Live (d.slw s).2 ∧ Inv (d.slw s).2.pc (c + 1) (fun t => t = (s, true))) ∨ ((d.slw s).1 = 42 ∧ Inv (d.slw s).2.pc (c + 1) (fun t => M t ∨ t = (s, true))) := by
  obtain ⟨e1, e2⟩ := live_pl hL.de
  have hage := ageX_le hI.now.2
  have ha : d.age ≠ maxN := by omega
  have hh : hdD d s = headS (ageX d.pc + 1) s.size := by unfold hdD; rw [e2]
  by_cases hf : d.fu = false ∨ (lenD d s : Int) ≤ d.le
  · obtain ⟨P', e, hW⟩ := slw_all hL hs ha hf
    rw [hh, e1] at hW
    left
    rw [e]
    refine ⟨rfl, ⟨rfl, fun h => ?_⟩, done_inv hI hs hc hW⟩
    have h : d.fu = true := h
    rcases hf with h2 | h2
    · rw [h] at h2; cases h2
    · show 0 ≤ (if d.fu then d.le - lenD d s else d.le)
      rw [h]; simp only [if_true]; omega
  · have hfu : d.fu = true := by
      cases hfu : d.fu with
      | true => rfl
      | false => exact absurd (.inl hfu) hf
    have hle : d.le < lenD d s := by
      rcases Int.lt_or_le d.le (lenD d s) with h | h
      · exact h
      · exact absurd (.inr h) hf
    obtain ⟨y, e, hst, hk⟩ := slw_dies hL hs ha hfu hle
    right
    rw [e]
    refine ⟨rfl, ?_⟩
    have hlw : lenD d s = 6 + (wOf d.place s (usD d s)).length := by unfold lenD wOf; rw [List.length_map]
    have hus : usD d s = usW d.pc (plX d.pc) s := by unfold usD; rw [e1]
    rw [hh, hus, e1] at hst
    rw [hus, e1] at hlw
    exact st_inv hI hs hc hst (by omega)
/-- a text, once or twice. -/
def tdo (d : Dk) (tw : Bool) (s : ByteArray) : Int × Dk := if tw then d.twice s else d.slw s
theorem tdo_inv {d : Dk} {tw : Bool} {s : ByteArray} {c : Nat} {M : ByteArray × Bool → Prop} (hL : Live d) (hI : Inv d.pc c M) (hs : s.size ≤ roomN) (hc : c + 2 ≤ maxN) :
    ((tdo d tw s).1 = 0 ∧ Live (tdo d tw s).2 ∧ Inv (tdo d tw s).2.pc (c + 2) (fun t => t = (s, true))) ∨ ((tdo d tw s).1 = 42 ∧ Inv (tdo d tw s).2.pc (c + 2) (fun t => M t ∨ t = (s, true))) := by
  have h1 := slw_inv hL hI hs (by omega)
  unfold tdo
  cases tw with
  | false =>
    simp only [Bool.false_eq_true, if_false]
    rcases h1 with ⟨a, b, h⟩ | ⟨a, h⟩
    · exact .inl ⟨a, b, h.mono (by omega) fun _ h => h⟩
    · exact .inr ⟨a, h.mono (by omega) fun _ h => h⟩
  | true =>
    simp only [if_true]
    unfold Dk.twice
    rcases h1 with ⟨a, b, h⟩ | ⟨a, h⟩
    · rw [if_pos a]
      rcases slw_inv b h hs (by omega) with ⟨a2, b2, h2⟩ | ⟨a2, h2⟩
      · exact .inl ⟨a2, b2, h2⟩
      · exact .inr ⟨a2, h2.mono (by omega) fun t ht => .inr (by rcases ht with h | h <;> exact h)⟩
    · rw [if_neg (by rw [a]; decide)]
      exact .inr ⟨a, h.mono (by omega) fun _ h => h⟩
theorem inv_crash {d : Dk} {c : Nat} {M : ByteArray × Bool → Prop} (hI : Inv d.pc c M) (ks : List Bool) (n : Int) : Inv (d.crash ks n).start.pc c (fun t => t = (d.crash ks n).start.txt) ∧ M (d.crash ks n).start.txt := by
  have hn := clamp_le n
  have e : (d.crash ks n).start.pc = (Out d.pc ks (clamp n).toNat, []) := rfl
  have ht := (live_newest (d := (d.crash ks n).start) rfl).2
  rw [e] at ht ⊢
  rw [ht]
  exact ⟨.flat rfl (hI.good ks _ (by omega)), hI.txt ks _ (by omega)⟩
theorem inv_txt {d : Dk} {c : Nat} {M : ByteArray × Bool → Prop} (hd : d.de = false) (hI : Inv d.pc c M) : M d.txt := by
  rw [(live_newest hd).2]; exact hI.now.1
/-- how long the cache is. -/
theorem body_len {p : Int} {s : ByteArray} {us : List Int} (hp : Pl p) (hs : s.size ≤ roomN) (hu : us.Pairwise (· < ·)) : (bodyW p s us).length ≤ 98303 := by
  have h1 := secs_le hs
  have h2 := pigeon 65536 (us.filter (inB (p + 1 + secs_of s.size) (p + 32768))) ((hu.imp fun h => by omega : us.Nodup).filter _) fun a ha => by
    have h := (List.mem_filter.1 ha).2
    simp only [inB, Bool.and_eq_true, decide_eq_true_eq] at h
    rcases hp with rfl | rfl <;> omega
  unfold bodyW blanks
  rw [List.length_append, chunks_len, List.length_map]
  omega
theorem slw_C {d : Dk} {s : ByteArray} {c : Nat} (hf : d.fu = true → 0 ≤ d.le) (hc : d.C.length ≤ c) (hc2 : 98303 ≤ c) : (d.slw s).2.C.length ≤ c := by
  by_cases hde : d.de = true
  · have e : d.slw s = (42, d) := by unfold Dk.slw; rw [hde]; rfl
    rw [e]; exact hc
  · have hde2 : d.de = false := by simpa using hde
    by_cases hr : roomN < s.size
    · have e : d.slw s = (10, d) := by unfold Dk.slw; rw [hde2, if_pos hr]; rfl
      rw [e]; exact hc
    · by_cases ha : d.age = maxN
      · have e : d.slw s = (41, d) := by unfold Dk.slw; rw [hde2, if_neg hr, if_pos ha]; rfl
        rw [e]; exact hc
      · have hL : Live d := ⟨hde2, hf⟩
        have hs : s.size ≤ roomN := by omega
        by_cases hf : d.fu = false ∨ (lenD d s : Int) ≤ d.le
        · obtain ⟨P', e, _⟩ := slw_all hL hs ha hf
          rw [e]; exact Nat.zero_le _
        · have hfu : d.fu = true := by
            cases hfu : d.fu with
            | true => rfl
            | false => exact absurd (.inl hfu) hf
          have hle : d.le < lenD d s := by
            rcases Int.lt_or_le d.le (lenD d s) with h | h
            · exact h
            · exact absurd (.inr h) hf
          obtain ⟨y, e, hst, _⟩ := slw_dies hL hs ha hfu hle
          rw [e]
          show y.2.length ≤ c
          have hb : (wOf d.place s (usD d s)).length ≤ 98303 := by
            unfold wOf
            rw [List.length_map]
            refine body_len (place_pl d) hs ?_
            unfold usD usW usedPc
            exact (used_up _).1
          generalize wOf d.place s (usD d s) = W at hst hb
          generalize d.le.toNat = kk at hst
          have hC : d.pc.2.length ≤ c := hc
          cases hst with
          | s0 => exact hC
          | s1 => exact Nat.zero_le _
          | s2 => simp only [List.length_cons, List.length_nil]; omega
          | s3 j hj => simp only [List.length_take]; omega
          | s4 => exact Nat.zero_le _
          | s5 => simp only [List.length_cons, List.length_nil]; omega
          | s6 => exact Nat.zero_le _
end Go.Proofs.Ythllhnjbddpeoaa
