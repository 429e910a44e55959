/-
  The document's disk, plainly; beside the program's. (No program in sight.)
-/
import Derived.Test.YtnniiokpngdgkaaDkW
namespace Go.Proofs.Ytnniiokpngdgkaa
open Go.Proofs

structure Rk where
  P : List Pt
  C : List Pt
  hs : Bool
  lf : Int
  ov : Bool
def rk0 : Rk := ⟨[], [], false, 0, false⟩
def sOf : Option Pt → ByteArray
  | some p => p.s
  | none => ⟨#[]⟩
def Rk.plat (r : Rk) (a : Int) : ByteArray := if isS a then pad (sOf (lastC r.P a)) else ⟨#[]⟩
def Rk.read (r : Rk) (a : Int) : ByteArray := if r.ov then ⟨#[]⟩ else if isS a then (match lastC r.C a with | some p => pad p.s | none => r.plat a) else ⟨#[]⟩
def Rk.spendB (r : Rk) : Bool := !(r.hs && r.lf == 0)
def Rk.spend (r : Rk) : Rk := if r.hs then (if r.lf = 0 then { r with ov := true } else { r with lf := r.lf - 1 }) else r
def Rk.writeE (r : Rk) (a : Int) (s : ByteArray) : Int := if r.ov then 42 else if isS a then (if 512 < s.size then 10 else if r.spendB then 0 else 42) else 1
def Rk.write (r : Rk) (a : Int) (s : ByteArray) : Rk := if r.ov then r else if isS a then (if 512 < s.size then r else if r.spendB then { r.spend with C := r.C ++ [⟨a, s⟩] } else r.spend) else r
def Rk.syncE (r : Rk) : Int := if r.ov then 42 else if r.spendB then 0 else 42
def Rk.sync (r : Rk) : Rk := if r.ov then r else if r.spendB then { r.spend with P := r.P ++ r.C, C := [] } else r.spend
def Rk.fuse (r : Rk) (n : Int) : Rk := { r with hs := decide (0 ≤ n), lf := n }
def padP (p : Pt) : Pt := ⟨p.at_, pad p.s⟩
def crashR (C : List Pt) (keep : List Bool) (n : Nat) (P : List Pt) : Nat → Bool × List Pt
  | 0 => (false, P)
  | k + 1 => match C[k]? with
    | none => crashR C keep n P k
    | some p => if (keep[k]?).getD false then ((crashR C keep n P k).1, (crashR C keep n P k).2 ++ [p])
      else if (crashR C keep n P k).1 then crashR C keep n P k
      else (true, (crashR C keep n P k).2 ++ [⟨p.at_, cut (pad p.s) (pad (sOf (lastC (crashR C keep n P k).2 p.at_))) n⟩])
def Rk.crash (r : Rk) (keep : List Bool) (n : Int) : Rk := { r with P := (crashR r.C keep (clamp n).toNat r.P r.C.length).2, C := [], ov := true }
def Rk.start (r : Rk) : Rk := { r with ov := false, hs := false }

def Fine (L : List Pt) : Prop := ∀ p ∈ L, isS p.at_ = true ∧ p.s.size ≤ 512
theorem Fine.nil : Fine [] := fun p h => by cases h
theorem Fine.append {A B : List Pt} (h : Fine A) (k : Fine B) : Fine (A ++ B) := fun p hp => (List.mem_append.1 hp).elim (h p) (k p)
theorem Fine.one {p : Pt} (h : isS p.at_ = true) (k : p.s.size ≤ 512) : Fine [p] := fun q hq => by rw [List.mem_singleton.1 hq]; exact ⟨h, k⟩
/-- how the two stand to one another. -/
structure Sim (d : Dk) (r : Rk) : Prop where
  de : d.de = r.ov
  fu : d.fu = r.hs
  le : d.le = r.lf
  C : d.C = r.C.map padP
  P : ∀ x, isS x = true → getP d.P x = pad (sOf (lastC r.P x))
  oC : Fine r.C
  oP : Fine r.P
  nz : ∀ p ∈ d.P, p.s ≠ blk
theorem pad_empty : pad ⟨#[]⟩ = blk := by
  apply bytes_ext
  rw [pad_data, blk_data]
  rfl
theorem pad_full {s : ByteArray} (h : s.size = 512) : pad s = s := by
  apply bytes_ext
  rw [pad_data, h]
  simp
theorem sim0 : Sim dk0 rk0 := ⟨rfl, rfl, rfl, rfl, fun x _ => by
  rw [show sOf (lastC rk0.P x) = ⟨#[]⟩ from rfl, pad_empty]; rfl, Fine.nil, Fine.nil, fun p h => by cases h⟩
theorem lastC_map (C : List Pt) (x : Int) : lastC (C.map padP) x = (lastC C x).map padP := by
  unfold lastC
  rw [← List.map_reverse, List.find?_map]
  rfl
theorem lastC_append (A B : List Pt) (x : Int) : lastC (A ++ B) x = match lastC B x with | some p => some p | none => lastC A x := by
  unfold lastC
  rw [List.reverse_append, List.find?_append]
  cases B.reverse.find? fun p => p.at_ == x <;> rfl
theorem lastC_one (p : Pt) (x : Int) : lastC [p] x = if p.at_ = x then some p else none := by
  unfold lastC
  by_cases h : p.at_ = x
  · rw [if_pos h]; simp [h]
  · rw [if_neg h]; simp [h]
theorem lastC_mem {C : List Pt} {x : Int} {p : Pt} (h : lastC C x = some p) : p ∈ C ∧ p.at_ = x := by
  unfold lastC at h
  exact ⟨by simpa using List.mem_of_find?_eq_some h, by simpa using List.find?_some h⟩
theorem setP_nz {P : List Pt} {p : Pt} (h : ∀ q ∈ P, q.s ≠ blk) : ∀ q ∈ setP P p, q.s ≠ blk := by
  intro q hq
  unfold setP at hq
  split at hq
  · exact h q (List.mem_filter.1 hq).1
  · rename_i hp
    rcases List.mem_cons.1 hq with rfl | hq
    · exact hp
    · exact h q (List.mem_filter.1 hq).1
theorem foldl_nz (C : List Pt) : ∀ {P : List Pt}, (∀ q ∈ P, q.s ≠ blk) → ∀ q ∈ C.foldl setP P, q.s ≠ blk := by
  induction C with
  | nil => intro P h; exact h
  | cons p C ih => intro P h; exact ih (setP_nz h)
section
variable {d : Dk} {r : Rk}
theorem Sim.plat (h : Sim d r) (x : Int) : d.plat x = r.plat x := by
  unfold Dk.plat Rk.plat
  cases his : isS x with
  | true => simp only [if_true]; exact h.P x his
  | false => rfl
theorem Sim.read {m : Nat} (h : Sim d r) (hd : d.Ok m) (x : Int) : d.read x = r.read x := by
  unfold Dk.read Rk.read
  rw [h.de]
  cases r.ov with
  | true => rfl
  | false =>
    simp only [Bool.false_eq_true, if_false]
    cases his : isS x with
    | true =>
      simp only [if_true]
      rw [h.C, lastC_map]
      cases lastC r.C x with
      | some p => rfl
      | none => exact h.plat x
    | false =>
      rw [lastC_is hd.C his]
      simp [Dk.plat, his]
theorem Sim.burnB (h : Sim d r) : d.burnB = r.spendB := by unfold Dk.burnB Rk.spendB; rw [h.fu, h.le]
theorem Sim.burn (h : Sim d r) : Sim d.burn r.spend := by
  unfold Dk.burn Rk.spend
  rw [h.fu, h.le]
  split
  · split
    · exact ⟨rfl, rfl, rfl, h.C, h.P, h.oC, h.oP, h.nz⟩
    · exact ⟨h.de, rfl, rfl, h.C, h.P, h.oC, h.oP, h.nz⟩
  · exact h
theorem Sim.writeE (h : Sim d r) (a : Int) (s : ByteArray) : d.writeE a s = r.writeE a s := by
  unfold Dk.writeE Rk.writeE
  rw [h.de, h.burnB]
theorem Sim.syncE (h : Sim d r) : d.syncE = r.syncE := by
  unfold Dk.syncE Rk.syncE
  rw [h.de, h.burnB]
theorem Rk.spend_PC (r : Rk) : r.spend.P = r.P ∧ r.spend.C = r.C := by
  unfold Rk.spend
  split
  · split <;> exact ⟨rfl, rfl⟩
  · exact ⟨rfl, rfl⟩
theorem Sim.write (h : Sim d r) (a : Int) (s : ByteArray) : Sim (d.write a s) (r.write a s) := by
  have hb := h.burn
  unfold Dk.write Rk.write
  rw [h.de, h.burnB]
  split
  · exact h
  · split
    · rename_i his
      split
      · exact h
      · rename_i hs
        split
        · refine ⟨hb.de, hb.fu, hb.le, ?_, fun x hx => hb.P x hx, ?_, hb.oP, hb.nz⟩
          · simp only [h.C, List.map_append]; rfl
          · exact h.oC.append (Fine.one his (by show s.size ≤ 512; omega))
        · exact hb
    · exact h
theorem Sim.sync (h : Sim d r) : Sim d.sync r.sync := by
  have hb := h.burn
  unfold Dk.sync Rk.sync
  rw [h.de, h.burnB]
  split
  · exact h
  · split
    · refine ⟨hb.de, hb.fu, hb.le, rfl, fun x hx => ?_, Fine.nil, h.oP.append h.oC, foldl_nz _ h.nz⟩
      simp only
      rw [getP_fold, lastC_append, h.C, lastC_map]
      cases lastC r.C x with
      | some p => rfl
      | none => exact h.P x hx
    · exact hb
theorem Sim.fuse (h : Sim d r) (n : Int) : Sim (d.fuse n) (r.fuse n) := ⟨h.de, rfl, rfl, h.C, h.P, h.oC, h.oP, h.nz⟩
theorem Sim.start (h : Sim d r) : Sim d.start r.start := ⟨rfl, rfl, h.le, h.C, h.P, h.oC, h.oP, h.nz⟩
theorem crash_sim (h : Sim d r) (keep : List Bool) (n : Nat) (hn : n ≤ 512) : ∀ k, (crashS d.C keep n d.P k).1 = (crashR r.C keep n r.P k).1 ∧ (∀ x, isS x = true → getP (crashS d.C keep n d.P k).2 x = pad (sOf (lastC (crashR r.C keep n r.P k).2 x))) ∧ Fine (crashR r.C keep n r.P k).2 ∧ ∀ p ∈ (crashS d.C keep n d.P k).2, p.s ≠ blk
  | 0 => ⟨rfl, h.P, h.oP, h.nz⟩
  | k + 1 => by
    obtain ⟨h1, h2, h3, h4⟩ := crash_sim h keep n hn k
    rw [crashS, crashR, h.C, List.getElem?_map]
    rw [← h.C]
    cases hp : r.C[k]? with
    | none => exact ⟨h1, h2, h3, h4⟩
    | some p =>
      obtain ⟨hpa, hps⟩ := h.oC p (List.mem_of_getElem? hp)
      simp only [Option.map_some]
      rw [h1]
      split
      · refine ⟨rfl, fun x hx => ?_, h3.append (Fine.one hpa hps), setP_nz h4⟩
        rw [getP_set, lastC_append, lastC_one]
        show (if p.at_ = x then pad p.s else _) = _
        split
        · rfl
        · exact h2 x hx
      · split
        · rename_i e
          exact ⟨h1.trans rfl, h2, h3, h4⟩
        · have hps2 : (pad p.s).size = 512 := pad_size hps
          have hq : (pad (sOf (lastC (crashR r.C keep n r.P k).2 p.at_))).size = 512 := pad_size (by
            cases hl : lastC (crashR r.C keep n r.P k).2 p.at_ with
            | none => exact Nat.zero_le _
            | some q => exact (h3 q (lastC_mem hl).1).2)
          have hcs : (cut (pad p.s) (pad (sOf (lastC (crashR r.C keep n r.P k).2 p.at_))) n).size = 512 := cut_size hps2 hq hn
          refine ⟨rfl, fun x hx => ?_, h3.append (Fine.one hpa (Nat.le_of_eq hcs)), setP_nz h4⟩
          rw [getP_set, lastC_append, lastC_one]
          show (if p.at_ = x then cut (pad p.s) (getP _ p.at_) n else _) = _
          rw [h2 p.at_ hpa]
          split
          · exact (pad_full hcs).symm
          · exact h2 x hx
theorem Sim.crash (h : Sim d r) (keep : List Bool) (n : Int) : Sim (d.crash keep n) (r.crash keep n) := by
  have hl : d.C.length = r.C.length := by rw [h.C, List.length_map]
  have hc := crash_sim h keep (clamp n).toNat (by have := clamp_le n; omega) r.C.length
  unfold Dk.crash Rk.crash
  rw [hl]
  exact ⟨rfl, h.fu, h.le, rfl, hc.2.1, Fine.nil, hc.2.2.1, hc.2.2.2⟩
end
end Go.Proofs.Ytnniiokpngdgkaa
