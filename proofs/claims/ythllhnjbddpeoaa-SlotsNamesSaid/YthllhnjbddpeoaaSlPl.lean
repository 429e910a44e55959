/-
  What some writes and syncs make of a disk, plainly: with no fuse, or as far as it goes.
  What a text's writing does, one after the other, and what then is read; plainly.
  What is read behind a text's writing; plainly.
  A Write that is done, and one that is stopped; plainly.
-/
import Derived.Test.YthllhnjbddpeoaaSlHs

section
namespace Go.Proofs.Ythllhnjbddpeoaa
open Go Go.RowKit Go.Maps Go.Shelf Go.Proofs

/-- what is on the platter, and in the cache. -/
abbrev Pc := List Pt × List Pt
def Dk.pc (d : Dk) : Pc := (d.P, d.C)
def effP (x : Pc) : Wr → Pc
  | .sync => (x.2.foldl setP x.1, [])
  | .put a s => (x.1, x.2 ++ [⟨a, pad s⟩])
def Wr.ok : Wr → Prop
  | .sync => True
  | .put a s => isS a = true ∧ s.size ≤ 512
/-- some are done, or as many as the fuse lets by. -/
inductive Goes (d : Dk) (L : List Wr) : Prop
  | all (h : d.fu = false ∨ (L.length : Int) ≤ d.le) (e : d.go L = (0, ⟨(L.foldl effP d.pc).1, (L.foldl effP d.pc).2, d.fu, if d.fu then d.le - L.length else d.le, false⟩))
  | some (k : Nat) (hk : k < L.length) (hf : d.fu = true) (hl : d.le = k) (e : d.go L = (42, ⟨((L.take k).foldl effP d.pc).1, ((L.take k).foldl effP d.pc).2, true, 0, true⟩))
theorem op_no {d : Dk} {x : Wr} (hde : d.de = false) (hf : d.fu = true) (hl : d.le = 0) (hx : x.ok) : d.op x = (42, ⟨d.P, d.C, true, 0, true⟩) := by
  have hb : d.burnB = false := by simp [Dk.burnB, hf, hl]
  have hbr : d.burn = ⟨d.P, d.C, true, 0, true⟩ := by
    cases d
    simp_all [Dk.burn]
  cases x with
  | sync =>
    simp only [Dk.op, Dk.syncE, Dk.sync]
    rw [hde, hb, hbr]
    rfl
  | put a s =>
    simp only [Dk.op, Dk.writeE, Dk.write]
    obtain ⟨h1, h2⟩ := hx
    simp [hde, hb, hbr, h1, Nat.not_lt.2 h2]
theorem op_yes {d : Dk} {x : Wr} (hde : d.de = false) (hf : d.fu = false ∨ d.le ≠ 0) (hx : x.ok) : d.op x = (0, ⟨(effP d.pc x).1, (effP d.pc x).2, d.fu, if d.fu then d.le - 1 else d.le, false⟩) := by
  have hb : d.burnB = true := by
    unfold Dk.burnB
    rcases hf with h | h
    · rw [h]; rfl
    · simp [h]
  have hbr : d.burn = ⟨d.P, d.C, d.fu, if d.fu then d.le - 1 else d.le, false⟩ := by
    unfold Dk.burn
    rcases hf with h | h
    · rw [h]
      simp only [Bool.false_eq_true, if_false]
      cases d
      simp_all
    · rw [if_neg h]
      split
      · cases d
        simp_all
      · cases d
        simp_all
  cases x with
  | sync =>
    simp only [Dk.op, Dk.syncE, Dk.sync]
    rw [hde, hb, hbr]
    rfl
  | put a s =>
    simp only [Dk.op, Dk.writeE, Dk.write]
    obtain ⟨h1, h2⟩ := hx
    simp [hde, hb, hbr, h1, Nat.not_lt.2 h2, effP, Dk.pc]
theorem goes (L : List Wr) : ∀ (d : Dk), d.de = false → (d.fu = true → 0 ≤ d.le) → (∀ x ∈ L, x.ok) → Goes d L := by
  induction L with
  | nil =>
    intro d hde hf _
    refine .all ?_ ?_
    · by_cases h : d.fu = true
      · exact .inr (by have := hf h; simpa using this)
      · exact .inl (by simpa using h)
    · cases d
      simp_all [Dk.go, Dk.pc]
  | cons x L ih =>
    intro d hde hf hL
    have hx := hL x (List.mem_cons_self ..)
    by_cases h0 : d.fu = true ∧ d.le = 0
    · refine .some 0 (by simp) h0.1 h0.2 ?_
      simp only [Dk.go]
      rw [op_no hde h0.1 h0.2 hx]
      rfl
    · have hy := op_yes (d := d) (x := x) hde (by
        by_cases h : d.fu = true
        · exact .inr fun e => h0 ⟨h, e⟩
        · exact .inl (by simpa using h)) hx
      have hg : d.go (x :: L) = (Dk.mk (effP d.pc x).1 (effP d.pc x).2 d.fu (if d.fu then d.le - 1 else d.le) false).go L := by
        simp only [Dk.go]
        rw [hy]
        rfl
      have := ih (Dk.mk (effP d.pc x).1 (effP d.pc x).2 d.fu (if d.fu then d.le - 1 else d.le) false) rfl (by
        intro h
        have h : d.fu = true := h
        have h1 := hf h
        have h2 : d.le ≠ 0 := fun e => h0 ⟨h, e⟩
        show 0 ≤ (if d.fu then d.le - 1 else d.le)
        rw [h]; simp only [if_true]; omega) fun y hy => hL y (List.mem_cons_of_mem _ hy)
      cases this with
      | all h e =>
        refine .all ?_ ?_
        · rcases h with h | h
          · exact .inl h
          · by_cases hh : d.fu = true
            · have h : (L.length : Int) ≤ (if d.fu then d.le - 1 else d.le) := h
              rw [hh] at h
              simp only [if_true] at h
              exact .inr (by simp only [List.length_cons]; omega)
            · exact .inl (by simpa using hh)
        · rw [hg, e]
          simp only [List.foldl_cons, List.length_cons, Dk.pc]
          by_cases hh : d.fu = true
          · rw [hh]; simp only [if_true]; congr 2; omega
          · have hh2 : d.fu = false := by simpa using hh
            rw [hh2]; simp
      | some k hk hf' hl e =>
        have hf2 : d.fu = true := hf'
        have hl2 : (if d.fu then d.le - 1 else d.le) = k := hl
        rw [hf2] at hl2
        simp only [if_true] at hl2
        refine .some (k + 1) (by simp; omega) hf2 (by omega) ?_
        rw [hg, e]
        simp only [List.take_succ_cons, List.foldl_cons, Dk.pc]
/-- a sector, as it reads. -/
def vw (x : Pc) (a : Int) : ByteArray := match lastC x.2 a with | some p => p.s | none => getP x.1 a
theorem read_vw {d : Dk} (hde : d.de = false) {a : Int} (ha : isS a = true) : d.read a = vw d.pc a := by
  unfold Dk.read vw Dk.plat Dk.pc
  rw [hde, ha]
  rfl
theorem lastC_append (C W : List Pt) (a : Int) : lastC (C ++ W) a = match lastC W a with | some p => some p | none => lastC C a := by
  unfold lastC
  rw [List.reverse_append, List.find?_append]
  cases List.find? (fun p => p.1 == a) W.reverse <;> rfl
theorem vw_append (P C W : List Pt) (a : Int) : vw (P, C ++ W) a = match lastC W a with | some p => p.s | none => vw (P, C) a := by
  unfold vw
  simp only [lastC_append]
  cases lastC W a <;> rfl
theorem lastC_one (p : Pt) (a : Int) : lastC [p] a = if p.1 = a then some p else none := by
  unfold lastC
  by_cases h : p.1 = a
  · rw [if_pos h]; simp [h]
  · rw [if_neg h]; simp [h]
theorem plat_sync (x : Pc) (a : Int) : getP (x.2.foldl setP x.1) a = vw x a := getP_fold x.2 x.1 a
theorem vw_nil (P : List Pt) (a : Int) : vw (P, []) a = getP P a := rfl
/-- some writes, one behind the other. -/
def ptOf : Wr → Pt
  | .sync => ⟨0, blk⟩
  | .put a s => ⟨a, pad s⟩
def isPut : Wr → Prop
  | .sync => False
  | .put _ _ => True
theorem fold_puts : ∀ (B : List Wr) (x : Pc), (∀ y ∈ B, isPut y) → B.foldl effP x = (x.1, x.2 ++ B.map ptOf)
  | [], x, _ => by simp
  | y :: B, x, h => by
    have h1 := h y (List.mem_cons_self ..)
    rw [List.foldl_cons, fold_puts B _ fun z hz => h z (List.mem_cons_of_mem _ hz)]
    cases y with
    | sync => exact h1.elim
    | put a s => simp [effP, ptOf]
end Go.Proofs.Ythllhnjbddpeoaa
end

section
namespace Go.Proofs.Ythllhnjbddpeoaa
open Go Go.RowKit Go.Maps Go.Shelf Go.Proofs

abbrev e0 : ByteArray := ⟨#[]⟩
/-- the text's sectors, and those that are written over. -/
def bodyW (p : Int) (s : ByteArray) (us : List Int) : List Wr := chunks p s (secs_of s.size) ++ blanks us (p + 1 + secs_of s.size) (p + 32768)
def preW (p : Int) : List Wr := [.sync, .put p e0, .sync]
def postW (p : Int) (hs : ByteArray) : List Wr := [.sync, .put p hs, .sync]
def opsW (p : Int) (s hs : ByteArray) (us : List Int) : List Wr := preW p ++ (bodyW p s us ++ postW p hs)
def usedPc (x : Pc) : List Int := Lib.compact (srt (x.1.map Pt.at_ ++ x.2.map Pt.at_))
def usW (x : Pc) (p : Int) (s : ByteArray) : List Int := usedPc ((chunks p s (secs_of s.size)).foldl effP ((preW p).foldl effP x))
theorem used_pc (d : Dk) : used d = usedPc d.pc := rfl
/-- a place: 0, or the half. -/
def Pl (p : Int) : Prop := p = 0 ∨ p = 32768
theorem newP_pl (b c : ByteArray) : Pl (newP b c).1 ∧ ((newP b c).2.1 = 0 → newP b c = (0, 0, 0)) := by
  unfold newP
  split
  · rename_i h
    exact ⟨.inl rfl, fun e => absurd h.1 (by simp only at e; omega)⟩
  · split
    · rename_i h
      exact ⟨.inr rfl, fun e => absurd h (by simp only at e; omega)⟩
    · exact ⟨.inl rfl, fun _ => rfl⟩
theorem place_pl (d : Dk) : Pl d.place := by
  have h := (newP_pl (d.read 32768) (d.read 0)).1
  unfold Dk.place
  have e : d.newest.1 = (newP (d.read 32768) (d.read 0)).1 := rfl
  rw [e]
  split
  · rcases h with h | h <;> rw [h]
    · exact .inr (by omega)
    · exact .inl (by omega)
  · exact h
theorem pl_is {p : Int} (h : Pl p) : isS p = true := isS_iff.2 (by rcases h with rfl | rfl <;> omega)
theorem secs_le {n : Nat} (h : n ≤ roomN) : secs_of n ≤ 32767 := by unfold secs_of; unfold roomN at h; omega
theorem chunks_ok {p : Int} {s : ByteArray} (hp : Pl p) (hs : s.size ≤ roomN) : ∀ x ∈ chunks p s (secs_of s.size), x.ok ∧ isPut x := by
  intro x hx
  have := secs_le hs
  unfold chunks at hx
  obtain ⟨k, hk, rfl⟩ := List.mem_map.1 hx
  rw [List.mem_range] at hk
  refine ⟨⟨isS_iff.2 ?_, ?_⟩, trivial⟩
  · rcases hp with rfl | rfl <;> omega
  · rw [ByteArray.size_extract]; omega
theorem blanks_ok {p : Int} {n : Nat} (us : List Int) (hp : Pl p) : ∀ x ∈ blanks us (p + 1 + n) (p + 32768), x.ok ∧ isPut x := by
  intro x hx
  unfold blanks at hx
  obtain ⟨a, ha, rfl⟩ := List.mem_map.1 hx
  have h2 := (List.mem_filter.1 ha).2
  simp only [inB, Bool.and_eq_true, decide_eq_true_eq] at h2
  exact ⟨⟨isS_iff.2 (by rcases hp with rfl | rfl <;> omega), by decide⟩, trivial⟩
theorem body_ok {p : Int} {s : ByteArray} (us : List Int) (hp : Pl p) (hs : s.size ≤ roomN) : ∀ x ∈ bodyW p s us, x.ok ∧ isPut x := by
  intro x hx
  rcases List.mem_append.1 hx with h | h
  · exact chunks_ok hp hs x h
  · exact blanks_ok us hp x h
theorem pre_ok {p : Int} (hp : Pl p) : ∀ x ∈ preW p, x.ok := by
  intro x hx
  simp only [preW, List.mem_cons, List.not_mem_nil, or_false] at hx
  rcases hx with rfl | rfl | rfl
  · trivial
  · exact ⟨pl_is hp, by decide⟩
  · trivial
theorem post_ok {p : Int} {hs : ByteArray} (hp : Pl p) (hh : hs.size ≤ 512) : ∀ x ∈ postW p hs, x.ok := by
  intro x hx
  simp only [postW, List.mem_cons, List.not_mem_nil, or_false] at hx
  rcases hx with rfl | rfl | rfl
  · trivial
  · exact ⟨pl_is hp, hh⟩
  · trivial
theorem ops_ok {p : Int} {s hs : ByteArray} (us : List Int) (hp : Pl p) (hs1 : s.size ≤ roomN) (hh : hs.size ≤ 512) : ∀ x ∈ opsW p s hs us, x.ok := by
  intro x hx
  rcases List.mem_append.1 hx with h | h
  · exact pre_ok hp x h
  · rcases List.mem_append.1 h with h | h
    · exact (body_ok us hp hs1 x h).1
    · exact post_ok hp hh x h
theorem goes_pc {d : Dk} {L : List Wr} (hde : d.de = false) (hf : d.fu = true → 0 ≤ d.le) (hL : ∀ x ∈ L, x.ok) (h : (d.go L).1 = 0) : (d.go L).2.pc = L.foldl effP d.pc ∧ (d.go L).2.de = false ∧ ((d.go L).2.fu = true → 0 ≤ (d.go L).2.le) := by
  cases goes L d hde hf hL with
  | all h2 e =>
    rw [e]
    refine ⟨rfl, rfl, fun hh => ?_⟩
    have hh : d.fu = true := hh
    show 0 ≤ (if d.fu then d.le - L.length else d.le)
    rw [hh]
    simp only [if_true]
    rcases h2 with h2 | h2
    · rw [h2] at hh; cases hh
    · omega
  | some k hk hf hl e => rw [e] at h; simp at h
theorem slw_go {d : Dk} {s : ByteArray} (hde : d.de = false) (hf : d.fu = true → 0 ≤ d.le) (hs : s.size ≤ roomN) (hage : d.age ≠ maxN) : d.slw s = d.go (opsW d.place s (headS (d.age + 1) s.size) (usW d.pc d.place s)) := by
  have hp := place_pl d
  unfold Dk.slw
  rw [hde]
  simp only [Bool.false_eq_true, if_false]
  rw [if_neg (by omega), if_neg hage]
  unfold opsW
  rw [go_append]
  have e1 : ([.sync, .put d.place ⟨#[]⟩, .sync] : List Wr) = preW d.place := rfl
  have e2 : ([.sync, .put d.place (headS (d.age + 1) s.size), .sync] : List Wr) = postW d.place (headS (d.age + 1) s.size) := rfl
  rw [e1, e2]
  by_cases h1 : (d.go (preW d.place)).1 = 0
  · simp only [if_pos h1]
    obtain ⟨a1, a2, a3⟩ := goes_pc hde hf (pre_ok hp) h1
    generalize (d.go (preW d.place)).2 = d1 at *
    rw [go_append]
    have key : d1.go (bodyW d.place s (usW d.pc d.place s)) = d1.text d.place s := by
      unfold bodyW Dk.text
      rw [go_append]
      by_cases h2 : (d1.go (chunks d.place s (secs_of s.size))).1 = 0
      · rw [if_pos h2, if_pos h2]
        have b1 := (goes_pc a2 a3 (fun x hx => (chunks_ok hp hs x hx).1) h2).1
        rw [used_pc, b1, a1]
        rfl
      · rw [if_neg h2, if_neg h2]
    rw [key]
  · simp only [if_neg h1]
/-- what it comes to, after so many. -/
inductive StAt (x : Pc) (p : Int) (hs : ByteArray) (W : List Pt) : Nat → Pc → Prop
  | s0 : StAt x p hs W 0 x
  | s1 : StAt x p hs W 1 (x.2.foldl setP x.1, [])
  | s2 : StAt x p hs W 2 (x.2.foldl setP x.1, [⟨p, blk⟩])
  | s3 (j : Nat) (hj : j ≤ W.length) : StAt x p hs W (3 + j) (setP (x.2.foldl setP x.1) ⟨p, blk⟩, W.take j)
  | s4 : StAt x p hs W (4 + W.length) (W.foldl setP (setP (x.2.foldl setP x.1) ⟨p, blk⟩), [])
  | s5 : StAt x p hs W (5 + W.length) (W.foldl setP (setP (x.2.foldl setP x.1) ⟨p, blk⟩), [⟨p, pad hs⟩])
  | s6 : StAt x p hs W (6 + W.length) (setP (W.foldl setP (setP (x.2.foldl setP x.1) ⟨p, blk⟩)) ⟨p, pad hs⟩, [])
theorem ops_len (p : Int) (s hs : ByteArray) (us : List Int) : (opsW p s hs us).length = 6 + (bodyW p s us).length := by
  unfold opsW
  simp only [List.length_append, preW, postW, List.length_cons, List.length_nil]; omega
theorem post1 (A B : List Pt) (p : Int) (hs : ByteArray) : ((postW p hs).take 1).foldl effP (A, B) = (B.foldl setP A, []) := rfl
theorem post2 (A B : List Pt) (p : Int) (hs : ByteArray) : ((postW p hs).take 2).foldl effP (A, B) = (B.foldl setP A, [⟨p, pad hs⟩]) := rfl
theorem post3 (A B : List Pt) (p : Int) (hs : ByteArray) : ((postW p hs).take 3).foldl effP (A, B) = (setP (B.foldl setP A) ⟨p, pad hs⟩, []) := rfl
theorem stAt (x : Pc) (p : Int) (s hs : ByteArray) (us : List Int) (hb : ∀ y ∈ bodyW p s us, isPut y) (k : Nat) (hk : k ≤ (opsW p s hs us).length) :
    StAt x p hs ((bodyW p s us).map ptOf) k (((opsW p s hs us).take k).foldl effP x) := by
  rw [ops_len] at hk
  have e : opsW p s hs us = .sync :: .put p e0 :: .sync :: (bodyW p s us ++ postW p hs) := rfl
  rw [e]
  have hW : ((bodyW p s us).map ptOf).length = (bodyW p s us).length := List.length_map ..
  match k, hk with
  | 0, _ => exact .s0
  | 1, _ => exact .s1
  | 2, _ =>
    have := StAt.s2 (x := x) (p := p) (hs := hs) (W := (bodyW p s us).map ptOf)
    simpa [effP, pad_nil] using this
  | k + 3, hk =>
    have e3 : (((.sync :: .put p e0 :: .sync :: (bodyW p s us ++ postW p hs) : List Wr)).take (k + 3)).foldl effP x = ((bodyW p s us ++ postW p hs).take k).foldl effP (setP (x.2.foldl setP x.1) ⟨p, blk⟩, []) := by
      simp [effP, pad_nil]
    rw [e3]
    by_cases h1 : k ≤ (bodyW p s us).length
    · rw [List.take_append_of_le_length h1, fold_puts _ _ fun y hy => hb y (List.mem_of_mem_take hy)]
      have := StAt.s3 (x := x) (p := p) (hs := hs) (W := (bodyW p s us).map ptOf) k (by omega)
      rw [Nat.add_comm k 3]
      simpa [List.map_take] using this
    · have hfull : ∀ j, ((bodyW p s us ++ postW p hs).take ((bodyW p s us).length + j)).foldl effP (setP (x.2.foldl setP x.1) ⟨p, blk⟩, []) = ((postW p hs).take j).foldl effP (setP (x.2.foldl setP x.1) ⟨p, blk⟩, (bodyW p s us).map ptOf) := by
        intro j
        rw [List.take_length_add_append, List.foldl_append, fold_puts _ _ hb, List.nil_append]
      obtain ⟨j, rfl⟩ := Nat.exists_eq_add_of_le (show (bodyW p s us).length ≤ k by omega)
      rw [hfull]
      match j, h1, hk with
      | 0, h1, _ => omega
      | 1, _, _ =>
        have := StAt.s4 (x := x) (p := p) (hs := hs) (W := (bodyW p s us).map ptOf)
        rw [hW] at this
        rw [show (bodyW p s us).length + 1 + 3 = 4 + (bodyW p s us).length by omega, post1]
        exact this
      | 2, _, _ =>
        have := StAt.s5 (x := x) (p := p) (hs := hs) (W := (bodyW p s us).map ptOf)
        rw [hW] at this
        rw [show (bodyW p s us).length + 2 + 3 = 5 + (bodyW p s us).length by omega, post2]
        exact this
      | 3, _, _ =>
        have := StAt.s6 (x := x) (p := p) (hs := hs) (W := (bodyW p s us).map ptOf)
        rw [hW] at this
        rw [show (bodyW p s us).length + 3 + 3 = 6 + (bodyW p s us).length by omega, post3]
        exact this
      | j + 4, _, hk => omega
end Go.Proofs.Ythllhnjbddpeoaa
end

section
namespace Go.Proofs.Ythllhnjbddpeoaa
open Go Go.RowKit Go.Maps Go.Shelf Go.Proofs

abbrev wOf (p : Int) (s : ByteArray) (us : List Int) : List Pt := (bodyW p s us).map ptOf
theorem w_eq (p : Int) (s : ByteArray) (us : List Int) : wOf p s us = (chunks p s (secs_of s.size)).map ptOf ++ (blanks us (p + 1 + secs_of s.size) (p + 32768)).map ptOf := by
  unfold wOf bodyW
  rw [List.map_append]
theorem wc_mem {p : Int} {s : ByteArray} {n : Nat} {q : Pt} (h : q ∈ (chunks p s n).map ptOf) : p + 1 ≤ q.at_ ∧ q.at_ < p + 1 + n := by
  unfold chunks at h
  rw [List.map_map] at h
  obtain ⟨k, hk, rfl⟩ := List.mem_map.1 h
  rw [List.mem_range] at hk
  show p + 1 ≤ p + 1 + (k : Int) ∧ p + 1 + (k : Int) < p + 1 + n
  omega
theorem wb_mem {us : List Int} {lo hi : Int} {q : Pt} (h : q ∈ (blanks us lo hi).map ptOf) : lo ≤ q.at_ ∧ q.at_ < hi ∧ q.s = blk ∧ q.at_ ∈ us := by
  unfold blanks at h
  rw [List.map_map] at h
  obtain ⟨a, ha, rfl⟩ := List.mem_map.1 h
  obtain ⟨h1, h2⟩ := List.mem_filter.1 ha
  simp only [inB, Bool.and_eq_true, decide_eq_true_eq] at h2
  exact ⟨h2.1, h2.2, pad_nil, h1⟩
theorem wb_has {us : List Int} {lo hi a : Int} (ha : a ∈ us) (h1 : lo ≤ a) (h2 : a < hi) : ∃ q ∈ (blanks us lo hi).map ptOf, q.at_ = a := by
  refine ⟨⟨a, pad e0⟩, ?_, rfl⟩
  unfold blanks
  rw [List.map_map]
  refine List.mem_map.2 ⟨a, List.mem_filter.2 ⟨ha, ?_⟩, rfl⟩
  simp [inB, h1, h2]
theorem w_mem {p : Int} {s : ByteArray} {us : List Int} {q : Pt} (hs : s.size ≤ roomN) (h : q ∈ wOf p s us) : p + 1 ≤ q.at_ ∧ q.at_ < p + 32768 := by
  have := secs_le hs
  rw [w_eq] at h
  rcases List.mem_append.1 h with h | h
  · have := wc_mem h; omega
  · have := wb_mem h; omega
theorem lastC_none {W : List Pt} {a : Int} (h : ∀ q ∈ W, q.at_ ≠ a) : lastC W a = none := by
  unfold lastC
  rw [List.find?_eq_none]
  intro q hq
  simpa using h q (by simpa using hq)
theorem lastC_some {W : List Pt} {a : Int} {q : Pt} (h : lastC W a = some q) : q ∈ W ∧ q.at_ = a := by
  unfold lastC at h
  have h1 := List.mem_of_find?_eq_some h
  have h2 := List.find?_some h
  exact ⟨by simpa using h1, by simpa using h2⟩
theorem lastC_has {W : List Pt} {a : Int} (h : ∃ q ∈ W, q.at_ = a) : ∃ q, lastC W a = some q := by
  unfold lastC
  obtain ⟨q, hq, e⟩ := h
  cases hf : W.reverse.find? fun p => p.1 == a with
  | some q2 => exact ⟨q2, rfl⟩
  | none =>
    rw [List.find?_eq_none] at hf
    have := hf q (by simpa using hq)
    rw [e] at this
    simp at this
theorem lastC_chunks (p : Int) (s : ByteArray) : ∀ (n k : Nat), k < n → lastC ((chunks p s n).map ptOf) (p + 1 + k) = some ⟨p + 1 + k, pad (s.extract (512 * k) (512 * k + 512))⟩
  | 0, _, h => by omega
  | n + 1, k, h => by
    rw [chunks_succ, List.map_append, lastC_append]
    have e : ([chunk p s n] : List Wr).map ptOf = [⟨p + 1 + n, pad (s.extract (512 * n) (512 * n + 512))⟩] := rfl
    rw [e, lastC_one]
    by_cases hk : k = n
    · subst hk
      rw [if_pos rfl]
    · rw [if_neg (by simp only; omega)]
      exact lastC_chunks p s n k (by omega)
theorem p3_at (x : Pc) (p a : Int) : getP (setP (x.2.foldl setP x.1) ⟨p, blk⟩) a = if p = a then blk else vw x a := by
  rw [getP_set, plat_sync]
/-- what lies behind the text. -/
theorem w_rest {x : Pc} {p a : Int} {s : ByteArray} (hs : s.size ≤ roomN) (h1 : p + 1 + secs_of s.size ≤ a) (h2 : a < p + 32768) :
    getP ((wOf p s (usW x p s)).foldl setP (setP (x.2.foldl setP x.1) ⟨p, blk⟩)) a = blk := by
  rw [getP_fold, w_eq, lastC_append]
  cases hb : lastC ((blanks (usW x p s) (p + 1 + secs_of s.size) (p + 32768)).map ptOf) a with
  | some q =>
    simp only
    exact (wb_mem (lastC_some hb).1).2.2.1
  | none =>
    simp only
    rw [lastC_none fun q hq => by have := wc_mem hq; omega]
    simp only
    apply getP_no
    intro u hu e
    have hus : a ∈ usW x p s := by
      unfold usW usedPc
      refine (used_up _).2 a |>.2 (List.mem_append.2 (.inl ?_))
      rw [fold_puts _ _ fun y hy => ?_]
      · refine List.mem_map.2 ⟨u, ?_, e⟩
        have : ((preW p).foldl effP x).1 = setP (x.2.foldl setP x.1) ⟨p, blk⟩ := by simp [preW, effP, pad_nil]
        rw [this]; exact hu
      · unfold chunks at hy
        obtain ⟨k, _, rfl⟩ := List.mem_map.1 hy
        trivial
    obtain ⟨q, hq⟩ := lastC_has (wb_has hus h1 h2)
    rw [hb] at hq
    cases hq
theorem w_chunk {x : Pc} {p : Int} {s : ByteArray} {us : List Int} {k : Nat} (hk : k < secs_of s.size) :
    getP ((wOf p s us).foldl setP (setP (x.2.foldl setP x.1) ⟨p, blk⟩)) (p + 1 + k) = pad (s.extract (512 * k) (512 * k + 512)) := by
  rw [getP_fold, w_eq, lastC_append]
  rw [lastC_none (W := (blanks us (p + 1 + secs_of s.size) (p + 32768)).map ptOf) fun q hq => by have := wb_mem hq; omega]
  simp only
  rw [lastC_chunks p s _ k hk]
theorem w_out {x : Pc} {p a : Int} {s : ByteArray} {us : List Int} (hs : s.size ≤ roomN) (h : ¬ (p + 1 ≤ a ∧ a < p + 32768)) :
    getP ((wOf p s us).foldl setP (setP (x.2.foldl setP x.1) ⟨p, blk⟩)) a = if p = a then blk else vw x a := by
  rw [getP_fold, lastC_none fun q hq => by have := w_mem hs hq; omega]
  simp only
  exact p3_at x p a
/-- a place in which a text was written; all else stands. -/
structure Wrote (x : Pc) (p : Int) (s hs : ByteArray) (r : Int → ByteArray) : Prop where
  head : r p = pad hs
  chunk : ∀ k, k < secs_of s.size → r (p + 1 + k) = pad (s.extract (512 * k) (512 * k + 512))
  rest : ∀ a, p + 1 + secs_of s.size ≤ a → a < p + 32768 → r a = blk
  out : ∀ a, ¬ (p ≤ a ∧ a < p + 32768) → r a = vw x a
theorem wrote_end (x : Pc) (p : Int) (s hs : ByteArray) (h : s.size ≤ roomN) : Wrote x p s hs (vw (setP ((wOf p s (usW x p s)).foldl setP (setP (x.2.foldl setP x.1) ⟨p, blk⟩)) ⟨p, pad hs⟩, [])) := by
  have hsec := secs_le h
  refine ⟨?_, fun k hk => ?_, fun a h1 h2 => ?_, fun a ha => ?_⟩
  · rw [vw_nil, getP_set, if_pos rfl]
  · rw [vw_nil, getP_set, if_neg (by simp only; omega), w_chunk hk]
  · rw [vw_nil, getP_set, if_neg (by simp only; omega), w_rest h h1 h2]
  · rw [vw_nil, getP_set, if_neg (by simp only; omega), w_out h (by omega), if_neg (by omega)]
/-- the same, while the head is in the cache alone. -/
theorem wrote_wait (x : Pc) (p : Int) (s hs : ByteArray) (h : s.size ≤ roomN) : Wrote x p s hs (vw ((wOf p s (usW x p s)).foldl setP (setP (x.2.foldl setP x.1) ⟨p, blk⟩), [⟨p, pad hs⟩])) := by
  have hsec := secs_le h
  have key : ∀ a, p ≠ a → vw ((wOf p s (usW x p s)).foldl setP (setP (x.2.foldl setP x.1) ⟨p, blk⟩), [⟨p, pad hs⟩]) a = getP ((wOf p s (usW x p s)).foldl setP (setP (x.2.foldl setP x.1) ⟨p, blk⟩)) a := by
    intro a ha
    unfold vw
    rw [lastC_one, if_neg ha]
  refine ⟨?_, fun k hk => ?_, fun a h1 h2 => ?_, fun a ha => ?_⟩
  · unfold vw
    rw [lastC_one, if_pos rfl]
  · rw [key _ (by omega), w_chunk hk]
  · rw [key _ (by omega), w_rest h h1 h2]
  · rw [key _ (by omega), w_out h (by omega), if_neg (by omega)]
theorem chunk_data (s : ByteArray) (k : Nat) : (s.extract (512 * k) (512 * k + 512)).data.toList = (s.data.toList.drop (512 * k)).take 512 := by
  simp only [ByteArray.data_extract, Array.toList_extract, List.extract_eq_take_drop]
  congr 1; omega
theorem cat_wrote {r : Int → ByteArray} {p : Int} {s : ByteArray} (h : ∀ k, k < secs_of s.size → r (p + 1 + k) = pad (s.extract (512 * k) (512 * k + 512))) :
    ∀ k, k ≤ secs_of s.size → catS r p k = s.data.toList.take (512 * k) ++ List.replicate (512 * k - s.size) 0
  | 0, _ => by simp [catS]
  | k + 1, hk => by
    have hlen : s.data.toList.length = s.size := by rw [Array.length_toList]; rfl
    have hlt : 512 * k < s.size := by unfold secs_of at hk; omega
    rw [catS, cat_wrote h k (by omega), h k (by omega), pad_data, chunk_data, ByteArray.size_extract]
    rw [show 512 * k - s.size = 0 by omega, List.replicate_zero, List.append_nil]
    rw [← List.append_assoc]
    have e : s.data.toList.take (512 * k) ++ (s.data.toList.drop (512 * k)).take 512 = s.data.toList.take (512 * (k + 1)) := by
      rw [show 512 * (k + 1) = 512 * k + 512 by omega, List.take_add]
    rw [e]
    congr 2; omega
theorem text_wrote {x : Pc} {p : Int} {s hs : ByteArray} {r : Int → ByteArray} (h : Wrote x p s hs r) : (⟨((catS r p (secs_of s.size)).take s.size).toArray⟩ : ByteArray) = s := by
  have hlen : s.data.toList.length = s.size := by rw [Array.length_toList]; rfl
  have h2 : s.size ≤ 512 * secs_of s.size := by unfold secs_of; omega
  rw [cat_wrote h.chunk _ (Nat.le_refl _), List.take_of_length_le (i := 512 * secs_of s.size) (by omega), List.take_append_of_le_length (by omega), List.take_of_length_le (by omega)]
/-- the place of what is newest, and the other one. -/
theorem newP_new {b c : ByteArray} {p : Int} (hp : p = if 0 < (newP b c).2.1 then 32768 - (newP b c).1 else (newP b c).1) {b' c' : ByteArray} {n : Nat} (hn : (newP b c).2.1 + 1 ≤ maxN)
    (h1 : p = 0 → hd c' = ((newP b c).2.1 + 1, n) ∧ hd b' = hd b) (h2 : p = 32768 → hd b' = ((newP b c).2.1 + 1, n) ∧ hd c' = hd c) : newP b' c' = (p, (newP b c).2.1 + 1, n) := by
  unfold newP at hp hn h1 h2 ⊢
  by_cases a : 0 < (hd c).1 ∧ (hd b).1 ≤ (hd c).1
  · simp only [if_pos a] at hp hn h1 h2 ⊢
    rw [if_pos a.1] at hp
    subst hp
    obtain ⟨e1, e2⟩ := h2 (by omega)
    rw [e1, e2]
    rw [if_neg (by simp only; omega), if_pos (by simp only; omega)]
    simp
  · simp only [if_neg a] at hp hn h1 h2 ⊢
    by_cases b0 : 0 < (hd b).1
    · simp only [if_pos b0] at hp hn h1 h2 ⊢
      subst hp
      obtain ⟨e1, e2⟩ := h1 (by omega)
      rw [e1, e2]
      rw [if_pos ⟨by simp only; omega, by simp only; omega⟩]
      simp
    · simp only [if_neg b0] at hp hn h1 h2 ⊢
      simp only [Nat.lt_irrefl, if_false] at hp
      subst hp
      obtain ⟨e1, e2⟩ := h1 rfl
      rw [e1, e2]
      rw [if_pos ⟨by simp only; omega, by simp only; omega⟩]
end Go.Proofs.Ythllhnjbddpeoaa
end

section
namespace Go.Proofs.Ythllhnjbddpeoaa
open Go Go.RowKit Go.Maps Go.Shelf Go.Proofs

def usD (d : Dk) (s : ByteArray) : List Int := usW d.pc d.place s
def hdD (d : Dk) (s : ByteArray) : ByteArray := headS (d.age + 1) s.size
def lenD (d : Dk) (s : ByteArray) : Nat := 6 + (bodyW d.place s (usD d s)).length
theorem hdD_size (d : Dk) (s : ByteArray) : (hdD d s).size ≤ 512 := by unfold hdD; rw [headS_size]; omega
theorem age_le (d : Dk) : d.age ≤ maxN := (newP_le _ _).2.2.1
/-- a disk that goes on: what may be asked of it. -/
structure Live (d : Dk) : Prop where
  de : d.de = false
  fu : d.fu = true → 0 ≤ d.le
/-- a Write that is done. -/
theorem slw_all {d : Dk} {s : ByteArray} (hL : Live d) (hs : s.size ≤ roomN) (hage : d.age ≠ maxN) (hf : d.fu = false ∨ (lenD d s : Int) ≤ d.le) :
    ∃ P', d.slw s = (0, ⟨P', [], d.fu, if d.fu then d.le - lenD d s else d.le, false⟩) ∧ Wrote d.pc d.place s (hdD d s) (vw (P', [])) := by
  have hp := place_pl d
  rw [slw_go hL.de hL.fu hs hage]
  have hlen : (opsW d.place s (hdD d s) (usD d s)).length = lenD d s := ops_len ..
  have hb := fun y hy => (body_ok (usD d s) hp hs y hy).2
  cases goes (opsW d.place s (hdD d s) (usD d s)) d hL.de hL.fu (ops_ok _ hp hs (hdD_size d s)) with
  | all h e =>
    have hst := stAt d.pc d.place s (hdD d s) (usD d s) hb _ (Nat.le_refl _)
    rw [List.take_length] at hst
    have e6 : (opsW d.place s (hdD d s) (usD d s)).length = 6 + ((bodyW d.place s (usD d s)).map ptOf).length := by rw [hlen, List.length_map]; rfl
    rw [hlen] at e
    rw [e6] at hst
    have key : (opsW d.place s (hdD d s) (usD d s)).foldl effP d.pc = (setP (((bodyW d.place s (usD d s)).map ptOf).foldl setP (setP (d.pc.2.foldl setP d.pc.1) ⟨d.place, blk⟩)) ⟨d.place, pad (hdD d s)⟩, []) := by
      generalize (opsW d.place s (hdD d s) (usD d s)).foldl effP d.pc = z at hst
      generalize hn : 6 + ((bodyW d.place s (usD d s)).map ptOf).length = n at hst
      cases hst with
      | s0 => omega
      | s1 => omega
      | s2 => omega
      | s3 j hj => omega
      | s4 => omega
      | s5 => omega
      | s6 => rfl
    rw [key] at e
    have hw := wrote_end d.pc d.place s (hdD d s) hs
    have eW : wOf d.place s (usW d.pc d.place s) = (bodyW d.place s (usD d s)).map ptOf := rfl
    rw [eW] at hw
    generalize setP (((bodyW d.place s (usD d s)).map ptOf).foldl setP (setP (d.pc.2.foldl setP d.pc.1) ⟨d.place, blk⟩)) ⟨d.place, pad (hdD d s)⟩ = P' at e hw
    exact ⟨P', e, hw⟩
  | some k hk hfu hl e =>
    rw [hlen] at hk
    rcases hf with hf | hf
    · rw [hf] at hfu; cases hfu
    · omega
/-- one that a fuse stops. -/
theorem slw_dies {d : Dk} {s : ByteArray} (hL : Live d) (hs : s.size ≤ roomN) (hage : d.age ≠ maxN) (hf : d.fu = true) (hl : d.le < lenD d s) :
    ∃ y : Pc, d.slw s = (42, ⟨y.1, y.2, true, 0, true⟩) ∧ StAt d.pc d.place (hdD d s) (wOf d.place s (usD d s)) d.le.toNat y ∧ d.le.toNat < lenD d s := by
  have hp := place_pl d
  rw [slw_go hL.de hL.fu hs hage]
  have hlen : (opsW d.place s (hdD d s) (usD d s)).length = lenD d s := ops_len ..
  have hb := fun y hy => (body_ok (usD d s) hp hs y hy).2
  cases goes (opsW d.place s (hdD d s) (usD d s)) d hL.de hL.fu (ops_ok _ hp hs (hdD_size d s)) with
  | all h e =>
    rw [hlen] at h
    rcases h with h | h
    · rw [hf] at h; cases h
    · omega
  | some k hk hfu hk2 e =>
    have ek : d.le.toNat = k := by omega
    refine ⟨((opsW d.place s (hdD d s) (usD d s)).take k).foldl effP d.pc, e, ?_, by omega⟩
    rw [ek]
    exact stAt d.pc d.place s (hdD d s) (usD d s) hb k (by omega)
theorem catS_congr {r r' : Int → ByteArray} {p : Int} : ∀ n : Nat, (∀ k : Nat, k < n → r (p + 1 + k) = r' (p + 1 + k)) → catS r p n = catS r' p n
  | 0, _ => rfl
  | n + 1, h => by rw [catS, catS, catS_congr n fun k hk => h k (by omega), h n (by omega)]
/-- what is read hangs on the sectors alone. -/
theorem readP_congr {r r' : Int → ByteArray} (h : ∀ a, isS a = true → r a = r' a) : newP (r 32768) (r 0) = newP (r' 32768) (r' 0) ∧ readP r = readP r' := by
  have e1 : newP (r 32768) (r 0) = newP (r' 32768) (r' 0) := by rw [h 32768 (by decide), h 0 (by decide)]
  refine ⟨e1, ?_⟩
  unfold readP
  rw [e1]
  have hle := newP_le (r' 32768) (r' 0)
  generalize newP (r' 32768) (r' 0) = N at *
  unfold textP
  split
  · rfl
  · rw [catS_congr _ fun k hk => h _ (isS_iff.2 ?_)]
    have := secs_le hle.2.2.2
    omega
theorem live_newest {d : Dk} (h : d.de = false) : d.newest = newP (vw d.pc 32768) (vw d.pc 0) ∧ d.txt = readP (vw d.pc) := readP_congr (r := d.read) (r' := vw d.pc) fun _ ha => read_vw h ha
/-- the new text is told. -/
theorem wrote_new {d : Dk} {s : ByteArray} {r : Int → ByteArray} (hL : d.de = false) (hs : s.size ≤ roomN) (hage : d.age ≠ maxN) (h : Wrote d.pc d.place s (hdD d s) r) :
    newP (r 32768) (r 0) = (d.place, d.age + 1, s.size) ∧ readP r = (s, true) := by
  have hal := age_le d
  have e0 := (live_newest hL).1
  have hpad : hd (pad (hdD d s)) = (d.age + 1, s.size) := hd_pad (by omega) (by omega) hs
  have e1 : newP (r 32768) (r 0) = (d.place, (newP (vw d.pc 32768) (vw d.pc 0)).2.1 + 1, s.size) := by
    refine newP_new (b := vw d.pc 32768) (c := vw d.pc 0) (p := d.place) ?_ ?_ (fun e => ?_) (fun e => ?_)
    · rw [← e0]; rfl
    · rw [← e0]; show d.age + 1 ≤ maxN; omega
    · rw [← e0]
      refine ⟨?_, ?_⟩
      · have := h.head; rw [e] at this; rw [this]; exact hpad
      · rw [h.out 32768 (by omega)]
    · rw [← e0]
      refine ⟨?_, ?_⟩
      · have := h.head; rw [e] at this; rw [this]; exact hpad
      · rw [h.out 0 (by omega)]
  rw [← e0] at e1
  refine ⟨e1, ?_⟩
  unfold readP
  rw [e1]
  unfold textP
  simp only
  rw [if_neg (by omega), text_wrote h]
theorem done_new {d : Dk} {s P' : _} {f : Bool} {l : Int} (hL : d.de = false) (hs : ByteArray.size s ≤ roomN) (hage : d.age ≠ maxN) (h : Wrote d.pc d.place s (hdD d s) (vw (P', []))) :
    (Dk.mk P' [] f l false).newest = (d.place, d.age + 1, s.size) ∧ (Dk.mk P' [] f l false).txt = (s, true) := by
  obtain ⟨h1, h2⟩ := wrote_new hL hs hage h
  obtain ⟨h3, h4⟩ := live_newest (d := Dk.mk P' [] f l false) rfl
  exact ⟨h3.trans h1, h4.trans h2⟩
/-- all but the older place stands. -/
structure Same (x : Pc) (p : Int) (r : Int → ByteArray) : Prop where
  out : ∀ a, ¬ (p ≤ a ∧ a < p + 32768) → r a = vw x a
  head : hd (r p) = (0, 0) ∨ hd (r p) = hd (vw x p)
theorem same_text {x : Pc} {p : Int} {r : Int → ByteArray} (hp : p = if 0 < (newP (vw x 32768) (vw x 0)).2.1 then 32768 - (newP (vw x 32768) (vw x 0)).1 else (newP (vw x 32768) (vw x 0)).1) (h : Same x p r) :
    newP (r 32768) (r 0) = newP (vw x 32768) (vw x 0) ∧ readP r = readP (vw x) := by
  have e1 : newP (r 32768) (r 0) = newP (vw x 32768) (vw x 0) := by
    have hh := h.head
    have ho := h.out
    unfold newP at hp ⊢
    by_cases a : 0 < (hd (vw x 0)).1 ∧ (hd (vw x 32768)).1 ≤ (hd (vw x 0)).1
    · simp only [if_pos a] at hp ⊢
      rw [if_pos a.1] at hp
      have hp : p = 32768 := by omega
      subst hp
      rw [ho 0 (by omega)]
      rcases hh with hh | hh <;> rw [hh]
      · rw [if_pos ⟨a.1, by simp⟩]
      · rw [if_pos a]
    · simp only [if_neg a] at hp ⊢
      by_cases b0 : 0 < (hd (vw x 32768)).1
      · simp only [if_pos b0] at hp ⊢
        have hp : p = 0 := by omega
        subst hp
        rw [ho 32768 (by omega)]
        rcases hh with hh | hh <;> rw [hh]
        · rw [if_neg (by simp), if_pos b0]
        · rw [if_neg a, if_pos b0]
      · simp only [if_neg b0] at hp ⊢
        simp only [Nat.lt_irrefl, if_false] at hp
        subst hp
        rw [ho 32768 (by omega)]
        have c0 : ¬ 0 < (hd (vw x 0)).1 := fun h => a ⟨h, by omega⟩
        rcases hh with hh | hh <;> rw [hh]
        · rw [if_neg (by simp), if_neg b0]
        · rw [if_neg a, if_neg b0]
  refine ⟨e1, ?_⟩
  unfold readP
  rw [e1]
  have hle := newP_le (vw x 32768) (vw x 0)
  have hpl := (newP_pl (vw x 32768) (vw x 0)).1
  generalize newP (vw x 32768) (vw x 0) = N at *
  unfold textP
  split
  · rfl
  · rename_i hn
    rw [if_pos (by omega)] at hp
    rw [catS_congr _ fun k hk => h.out _ ?_]
    have := secs_le hle.2.2.2
    rcases hpl with e | e <;> rw [e] at hp ⊢ <;> omega
theorem place_vw {d : Dk} (h : d.de = false) : d.place = if 0 < (newP (vw d.pc 32768) (vw d.pc 0)).2.1 then 32768 - (newP (vw d.pc 32768) (vw d.pc 0)).1 else (newP (vw d.pc 32768) (vw d.pc 0)).1 := by
  rw [← (live_newest h).1]; rfl
/-- ahead of the new head nothing is told otherwise. -/
theorem st_same {x : Pc} {p : Int} {s hs : ByteArray} {us : List Int} {k : Nat} {y : Pc} (hs1 : s.size ≤ roomN) (h : StAt x p hs (wOf p s us) k y) (hk : k ≤ 4 + (wOf p s us).length) : Same x p (vw y) := by
  cases h with
  | s0 => exact ⟨fun _ _ => rfl, .inr rfl⟩
  | s1 => exact ⟨fun a _ => plat_sync x a, .inr (by rw [vw_nil, plat_sync])⟩
  | s2 =>
    refine ⟨fun a ha => ?_, .inl ?_⟩
    · unfold vw
      rw [lastC_one, if_neg (by simp only; omega)]
      exact plat_sync x a
    · unfold vw
      rw [lastC_one, if_pos rfl]
      exact hd_blk
  | s3 j hj =>
    have hn : ∀ a, ¬ (p + 1 ≤ a ∧ a < p + 32768) → vw (setP (x.2.foldl setP x.1) ⟨p, blk⟩, (wOf p s us).take j) a = if p = a then blk else vw x a := by
      intro a ha
      unfold vw
      rw [lastC_none fun q hq => by have := w_mem hs1 (List.mem_of_mem_take hq); omega]
      simp only
      exact p3_at x p a
    refine ⟨fun a ha => ?_, .inl ?_⟩
    · rw [hn a (by omega), if_neg (by omega)]
    · rw [hn p (by omega), if_pos rfl]; exact hd_blk
  | s4 =>
    refine ⟨fun a ha => ?_, .inl ?_⟩
    · rw [vw_nil, w_out hs1 (by omega), if_neg (by omega)]
    · rw [vw_nil, w_out hs1 (by omega), if_pos rfl]; exact hd_blk
  | s5 => omega
  | s6 => omega
end Go.Proofs.Ythllhnjbddpeoaa
end
