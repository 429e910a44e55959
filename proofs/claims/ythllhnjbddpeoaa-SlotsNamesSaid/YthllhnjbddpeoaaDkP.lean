/-
  A disk, plainly. (No program in sight.)
-/
import Derived.Test.YthllhnjbddpeoaaRows
import Derived.WalkKit
namespace Go.Proofs.Ythllhnjbddpeoaa

/-- a write, as it lies in the cache. -/
structure Pt where
  at_ : Int
  s : ByteArray
def zs (n : Nat) : ByteArray := ⟨(List.replicate n 0).toArray⟩
theorem zs_size (n : Nat) : (zs n).size = n := by simp [zs, ByteArray.size]
def blk : ByteArray := zs 512
theorem blk_size : blk.size = 512 := zs_size 512
/-- with 00s behind it. -/
def pad (s : ByteArray) : ByteArray := s ++ zs (512 - s.size)
theorem pad_size {s : ByteArray} (h : s.size ≤ 512) : (pad s).size = 512 := by
  unfold pad
  rw [ByteArray.size_append, zs_size]; omega

structure Dk where
  P : List Pt
  C : List Pt
  fu : Bool
  le : Int
  de : Bool

def dk0 : Dk := ⟨[], [], false, 0, false⟩
def isS (a : Int) : Bool := decide (0 ≤ a) && decide (a < 65536)
theorem isS_iff {a : Int} : isS a = true ↔ 0 ≤ a ∧ a < 65536 := by simp [isS]
/-- the last thing on the platter at a place. -/
def getP (P : List Pt) (a : Int) : ByteArray := ((P.find? fun p => p.1 == a).map (·.2)).getD blk
def Dk.plat (d : Dk) (a : Int) : ByteArray := if isS a then getP d.P a else ⟨#[]⟩
def lastC (C : List Pt) (a : Int) : Option Pt := C.reverse.find? fun p => p.1 == a
def Dk.read (d : Dk) (a : Int) : ByteArray := if d.de then ⟨#[]⟩ else match lastC d.C a with | some p => p.2 | none => d.plat a
def setP (P : List Pt) (p : Pt) : List Pt := if p.2 = blk then P.filter (fun c => decide (c.1 ≠ p.1)) else p :: P.filter fun c => decide (c.1 ≠ p.1)
def Dk.burn (d : Dk) : Dk := if d.fu then (if d.le = 0 then { d with de := true } else { d with le := d.le - 1 }) else d
def Dk.burnB (d : Dk) : Bool := !(d.fu && d.le == 0)
def Dk.writeE (d : Dk) (a : Int) (s : ByteArray) : Int := if d.de then 42 else if isS a then (if 512 < s.size then 10 else if d.burnB then 0 else 42) else 1
def Dk.write (d : Dk) (a : Int) (s : ByteArray) : Dk := if d.de then d else if isS a then (if 512 < s.size then d else if d.burnB then { d.burn with C := d.C ++ [⟨a, pad s⟩] } else d.burn) else d
def Dk.syncE (d : Dk) : Int := if d.de then 42 else if d.burnB then 0 else 42
def Dk.sync (d : Dk) : Dk := if d.de then d else if d.burnB then { d.burn with P := d.C.foldl setP d.P, C := [] } else d.burn
def Dk.fuse (d : Dk) (n : Int) : Dk := { d with fu := decide (0 ≤ n), le := n }
def cut (s t : ByteArray) (n : Nat) : ByteArray := s.extract 0 n ++ t.extract n 512
/-- a crash, as far as k writes go. -/
def crashS (C : List Pt) (keep : List Bool) (n : Nat) (P : List Pt) : Nat → Bool × List Pt
  | 0 => (false, P)
  | k + 1 => match C[k]? with
    | none => crashS C keep n P k
    | some p => if (keep[k]?).getD false then ((crashS C keep n P k).1, setP (crashS C keep n P k).2 p)
      else if (crashS C keep n P k).1 then crashS C keep n P k
      else (true, setP (crashS C keep n P k).2 ⟨p.1, cut p.2 (getP (crashS C keep n P k).2 p.1) n⟩)
def clamp (n : Int) : Int := max 0 (min n 512)
def Dk.crash (d : Dk) (keep : List Bool) (n : Int) : Dk := { d with P := (crashS d.C keep (clamp n).toNat d.P d.C.length).2, C := [], de := true }
def Dk.start (d : Dk) : Dk := { d with de := false, fu := false }

/-- what lies on it is whole. -/
structure PtsOk (L : List Pt) : Prop where
  at_ : ∀ p ∈ L, isS p.1 = true
  size : ∀ p ∈ L, p.2.size = 512
theorem PtsOk.nil : PtsOk [] := ⟨(fun p h => by cases h), (fun p h => by cases h)⟩
theorem PtsOk.cons {L : List Pt} {p : Pt} (h : PtsOk L) (h1 : isS p.1 = true) (h2 : p.2.size = 512) : PtsOk (p :: L) :=
  ⟨fun q hq => by rcases List.mem_cons.1 hq with rfl | hq; exact h1; exact h.at_ q hq, fun q hq => by rcases List.mem_cons.1 hq with rfl | hq; exact h2; exact h.size q hq⟩
theorem PtsOk.sub {L L' : List Pt} (h : PtsOk L) (hs : ∀ p ∈ L', p ∈ L) : PtsOk L' := ⟨fun p hp => h.at_ p (hs p hp), fun p hp => h.size p (hs p hp)⟩
theorem PtsOk.snoc {L : List Pt} {p : Pt} (h : PtsOk L) (h1 : isS p.1 = true) (h2 : p.2.size = 512) : PtsOk (L ++ [p]) :=
  (h.cons h1 h2).sub fun q hq => by simp at hq ⊢; rcases hq with h | h <;> simp [h]
theorem setP_ok {P : List Pt} {p : Pt} (h : PtsOk P) (h1 : isS p.1 = true) (h2 : p.2.size = 512) : PtsOk (setP P p) := by
  unfold setP
  have hf : PtsOk (P.filter fun c => decide (c.1 ≠ p.1)) := h.sub fun q hq => (List.mem_filter.1 hq).1
  split
  · exact hf
  · exact hf.cons h1 h2
theorem setP_len (P : List Pt) (p : Pt) : (setP P p).length ≤ P.length + 1 := by
  unfold setP
  have := List.length_filter_le (fun c : Pt => decide (c.1 ≠ p.1)) P
  split
  · omega
  · simp only [List.length_cons]; omega
theorem fold_ok {P : List Pt} : ∀ {L : List Pt}, PtsOk P → PtsOk L → PtsOk (L.foldl setP P)
  | [], h, _ => h
  | p :: L, h, hL => fold_ok (L := L) (setP_ok h (hL.at_ p (List.mem_cons_self ..)) (hL.size p (List.mem_cons_self ..))) (hL.sub fun q hq => List.mem_cons_of_mem _ hq)
theorem fold_len : ∀ (L P : List Pt), (L.foldl setP P).length ≤ P.length + L.length
  | [], P => by simp
  | p :: L, P => by
    have h1 := fold_len L (setP P p)
    have h2 := setP_len P p
    simp only [List.foldl_cons, List.length_cons]
    omega
theorem getP_size {P : List Pt} (h : PtsOk P) (a : Int) : (getP P a).size = 512 := by
  unfold getP
  cases hf : P.find? fun p => p.1 == a with
  | none => exact blk_size
  | some p => exact h.size p (List.mem_of_find?_eq_some hf)
theorem cut_size {s t : ByteArray} {n : Nat} (hs : s.size = 512) (ht : t.size = 512) (hn : n ≤ 512) : (cut s t n).size = 512 := by
  unfold cut
  rw [ByteArray.size_append, ByteArray.size_extract, ByteArray.size_extract]; omega
theorem crashS_ok {C P : List Pt} {keep : List Bool} {n : Nat} (hC : PtsOk C) (hP : PtsOk P) (hn : n ≤ 512) : ∀ k, PtsOk (crashS C keep n P k).2
  | 0 => hP
  | k + 1 => by
    have ih := crashS_ok (keep := keep) hC hP hn k
    unfold crashS
    cases hk : C[k]? with
    | none => exact ih
    | some p =>
      have hp := List.mem_of_getElem? hk
      simp only
      split
      · exact setP_ok ih (hC.at_ p hp) (hC.size p hp)
      · split
        · exact ih
        · exact setP_ok ih (hC.at_ p hp) (cut_size (hC.size p hp) (getP_size ih _) hn)
theorem crashS_len (C P : List Pt) (keep : List Bool) (n : Nat) : ∀ k, (crashS C keep n P k).2.length ≤ P.length + k
  | 0 => by simp [crashS]
  | k + 1 => by
    have ih := crashS_len C P keep n k
    unfold crashS
    cases hk : C[k]? with
    | none => simp only; omega
    | some p =>
      simp only
      split
      · have := setP_len (crashS C keep n P k).2 p; simp only; omega
      · split
        · omega
        · have := setP_len (crashS C keep n P k).2 ⟨p.1, cut p.2 (getP (crashS C keep n P k).2 p.1) n⟩; simp only; omega
theorem clamp_le (n : Int) : 0 ≤ clamp n ∧ clamp n ≤ 512 := by unfold clamp; omega

/-- a disk that may be: of m writes at most. -/
structure Dk.Ok (d : Dk) (m : Nat) : Prop where
  P : PtsOk d.P
  C : PtsOk d.C
  le : -9223372036854775808 ≤ d.le ∧ d.le ≤ 9223372036854775807
  fuse : d.fu = true → 0 ≤ d.le
  len : d.P.length + d.C.length ≤ m
theorem dk0_ok : dk0.Ok 0 := ⟨.nil, .nil, by decide, by decide, by decide⟩
theorem Dk.Ok.mono {d : Dk} {m m' : Nat} (h : d.Ok m) (hm : m ≤ m') : d.Ok m' := ⟨h.P, h.C, h.le, h.fuse, Nat.le_trans h.len hm⟩
theorem Dk.burn_PC (d : Dk) : d.burn.P = d.P ∧ d.burn.C = d.C := by unfold Dk.burn; split <;> (try split) <;> exact ⟨rfl, rfl⟩
theorem Dk.Ok.burn {d : Dk} {m : Nat} (h : d.Ok m) : d.burn.Ok m := by
  obtain ⟨e1, e2⟩ := d.burn_PC
  refine ⟨e1 ▸ h.P, e2 ▸ h.C, ?_, ?_, by rw [e1, e2]; exact h.len⟩
  · have h1 := h.le; have h2 := h.fuse
    unfold Dk.burn
    split
    · rename_i hf
      have h3 := h2 hf
      split
      · exact h1
      · simp only; omega
    · exact h1
  · have h1 := h.le; have h2 := h.fuse
    unfold Dk.burn
    split
    · rename_i hf
      have h3 := h2 hf
      split
      · exact h2
      · intro _; simp only; omega
    · exact h2
theorem Dk.Ok.write {d : Dk} {m : Nat} (h : d.Ok m) (a : Int) (s : ByteArray) : (d.write a s).Ok (m + 1) := by
  unfold Dk.write
  have hb := h.burn
  obtain ⟨e1, e2⟩ := d.burn_PC
  split
  · exact h.mono (by omega)
  · split
    · rename_i ha
      split
      · exact h.mono (by omega)
      · rename_i hs
        split
        · refine ⟨hb.P, (e2 ▸ hb.C : PtsOk d.C).snoc ha (pad_size (by omega)), hb.le, hb.fuse, ?_⟩
          have := h.len
          simp only [e1, List.length_append, List.length_cons, List.length_nil]; omega
        · exact hb.mono (by omega)
    · exact h.mono (by omega)
theorem Dk.Ok.sync {d : Dk} {m : Nat} (h : d.Ok m) : d.sync.Ok m := by
  unfold Dk.sync
  have hb := h.burn
  split
  · exact h
  · split
    · refine ⟨fold_ok h.P h.C, .nil, hb.le, hb.fuse, ?_⟩
      have := fold_len d.C d.P
      have := h.len
      simp only [List.length_nil]; omega
    · exact hb
theorem Dk.Ok.fuse_ {d : Dk} {m : Nat} (h : d.Ok m) {n : Int} (hn : -9223372036854775808 ≤ n ∧ n ≤ 9223372036854775807) : (d.fuse n).Ok m := ⟨h.P, h.C, hn, fun hf => by simpa [Dk.fuse] using hf, h.len⟩
theorem Dk.Ok.crash {d : Dk} {m : Nat} (h : d.Ok m) (keep : List Bool) (n : Int) : (d.crash keep n).Ok m := by
  have hc := clamp_le n
  refine ⟨crashS_ok h.C h.P (by omega) _, .nil, h.le, h.fuse, ?_⟩
  have := crashS_len d.C d.P keep (clamp n).toNat d.C.length
  have := h.len
  simp only [Dk.crash, List.length_nil]; omega
theorem Dk.Ok.start {d : Dk} {m : Nat} (h : d.Ok m) : d.start.Ok m := ⟨h.P, h.C, h.le, fun hf => by simp [Dk.start] at hf, h.len⟩
end Go.Proofs.Ythllhnjbddpeoaa
