/-
  The tally: what lies in memory of it.
-/
import Derived.Test.YtnngnekfgijejaaTalC
import Derived.Test.YtnngnekfgijejaaTab
namespace Go.Proofs.Ytnngnekfgijejaa
open Go.RowKit Go.Maps

/-- the vote that a value is. -/
def vof : Value → Option Vt
  | .agg ⟨[.int .i64 a, .int .i64 b, .int .u8 c, .int .i64 d, .string s]⟩ => some ⟨a, b, c, d, s⟩
  | _ => none
theorem vof_vval (v : Vt) : vof (vval v) = some v := rfl
theorem vof_inv {x : Value} {v : Vt} (h : vof x = some v) : x = vval v := by
  unfold vof at h
  split at h
  · obtain rfl := Option.some.inj h; rfl
  · cases h
/-- how an element reads. -/
def vR (x : Value) : Option (DataW Vt × List MemPlace) := (vof x).map fun v => (.held v, [])
theorem vR_inv {x : Value} {v : Vt} {ps : List MemPlace} (h : vR x = some (.held v, ps)) : x = vval v := by
  unfold vR at h
  obtain ⟨u, h1, h2⟩ := Option.map_eq_some_iff.1 h
  simp only [Prod.mk.injEq, DataW.held.injEq] at h2
  rw [← h2.1]
  exact vof_inv h1

/-- what a place reads as. -/
noncomputable def plit (r f k : Int) : Lit := (keyOf Try.prog 70 (pval r f k)).getD (.bool false)
theorem plit_eq {r f k : Int} (hr : I64 r) (hf : I64 f) (hk : 0 ≤ k ∧ k < 256) : keyOf Try.prog 70 (pval r f k) = some (plit r f k) := by
  obtain ⟨l, hl⟩ := place_key r f k hr hf hk
  unfold plit
  rw [hl, Option.getD_some]
theorem plit_inj {r f k r' f' k' : Int} (hr : I64 r) (hf : I64 f) (hk : 0 ≤ k ∧ k < 256) (hr' : I64 r') (hf' : I64 f') (hk' : 0 ≤ k' ∧ k' < 256) (h : plit r f k = plit r' f' k') : r = r' ∧ f = f' ∧ k = k' := by
  have e1 := plit_eq hr hf hk
  have e2 := plit_eq hr' hf' hk'
  rw [← h] at e2
  have e3 : pval r f k = pval r' f' k' := place_keyed.inj e1 e2
  simp only [Value.agg.injEq, Array.mk.injEq, List.cons.injEq, Value.int.injEq, true_and, and_true] at e3
  exact e3

/-- votes in a map, each at its place. -/
noncomputable def tM : MK Try.prog 70 Vt Vt where
  R := vR
  key v := plit v.rd v.fr v.kd
  tok v := v
  kv v := pval v.rd v.fr v.kd
  val v := vval v
  ok v := v.Ok
  K := place_keyed
  hkey _ h := plit_eq h.rd h.fr h.kd
  hval _ _ := rfl
  inv _ _ _ h := vR_inv h

/-- a tally of n members, at block g, its map at block gm. -/
structure Tly (w : World) (g gm : Nat) (n : Int) (L : List Vt) : Prop where
  row : Row1 w g 72 [.int .i64 n, .map (some gm)]
  map : MapAt tM w gm L
  srt : Srt L
  mays : Mays n L
  n : 1 ≤ n ∧ n ≤ 7
section
variable {w w' : World} {g gm : Nat} {n : Int} {L : List Vt}
theorem Tly.keep (h : Tly w g gm n L) (h1 : w'.heap[g]? = w.heap[g]?) (h2 : w'.heap[gm]? = w.heap[gm]?) : Tly w' g gm n L := ⟨h.row.keep h1, h.map.keep h2, h.srt, h.mays, h.n⟩
theorem Tly.lt (h : Tly w g gm n L) : g < w.heap.size ∧ gm < w.heap.size ∧ g ≠ gm := ⟨h.row.lt, h.map.lt, h.map.ne_row h.row⟩
theorem Tly.below (h : Tly w g gm n L) (hb : Below w.heap.size w w') : Tly w' g gm n L := h.keep (hb.block g h.lt.1) (hb.block gm h.lt.2.1)
theorem Tly.dr (h : Tly w g gm n L) (hd : Dr w w') : Tly w' g gm n L := by
  obtain ⟨m, rfl⟩ := hd; exact h.keep rfl rfl
theorem Tly.grown (h : Tly w g gm n L) {r : Nat} (hg : w.grownBy w' (some r)) (h1 : r ≠ g) (h2 : r ≠ gm) : Tly w' g gm n L :=
  h.keep (hg.block g h.lt.1 (fun e => h1 (Option.some.inj e).symm)) (hg.block gm h.lt.2.1 (fun e => h2 (Option.some.inj e).symm))
theorem Tly.ok (h : Tly w g gm n L) {v : Vt} (hv : v ∈ L) : v.Ok := h.map.ok v hv
end
set_option maxRecDepth 100000 in
theorem tM_key (v : Vt) : tM.key v = plit v.rd v.fr v.kd := rfl
/-- the same place, as keys. -/
theorem key_iff {u v : Vt} (hu : u.Ok) (hv : v.Ok) : tM.key u = tM.key v ↔ u.rd = v.rd ∧ u.fr = v.fr ∧ u.kd = v.kd := by
  rw [tM_key, tM_key]
  obtain ⟨h2, h1, h3, _, _⟩ := hu
  obtain ⟨k2, k1, k3, _, _⟩ := hv
  constructor
  · exact plit_inj h1 h2 h3 k1 k2 k3
  · rintro ⟨h1, h2, h3⟩
    rw [h1, h2, h3]
theorem filter_no {L : List Vt} {v : Vt} [DecidableEq Lit] (hL : ∀ u ∈ L, u.Ok) (hv : v.Ok) (hno : hasV L v = false) : (L.filter fun c => decide (tM.key c ≠ tM.key v)) = L := by
  rw [hasV_no] at hno
  refine List.filter_eq_self.2 fun u hu => decide_eq_true fun e => hno u hu ?_
  exact (key_iff (hL u hu) hv).1 e

def zeroVt : Vt := ⟨0, 0, 0, 0, ⟨#[]⟩⟩
theorem zero_vote (w : World) : (zeroValue 30).run Try.prog w = .ok (vval zeroVt) w := Try.zeroValue30 w
/-- a look-up of a place, with 'ok'. -/
theorem wpList_look_vote (w : World) {ops : Array Oper} {rest : List Oper} {o : Oper} {a : Act} {Q : Exit → Act → World → Prop} {b : Nat} {L : List Vt} (hg : o.guard = none) (m x : Operand) (hop : o.op = Op.lookup 68 m x true) (hm : a.eval m = .map (some b)) (h : MapAt tM w b L)
    {r f k : Int} (hx : a.eval x = pval r f k) (hr : I64 r) (hf : I64 f) (hk : 0 ≤ k ∧ k < 256)
    (hNo : (∀ u ∈ L, u.at_ r f k = false) → wpList Try.prog ops Q rest (a.put o.dst (.tuple #[vval zeroVt, .bool false])) w)
    (hYes : ∀ u ∈ L, u.at_ r f k = true → wpList Try.prog ops Q rest (a.put o.dst (.tuple #[vval u, .bool true])) w) :
    wpList Try.prog ops Q (o :: rest) a w := by
  have hkey := plit_eq hr hf hk
  refine wpList_look_tab w hg m x _ true hop 30 Try.underlying68 (zero_vote w) hm h hx hkey (fun hno => hNo fun u hu => ?_) (fun u hu he => hYes u hu ?_)
  · have h1 := hno u hu
    have ho := h.ok u hu
    rw [tM_key] at h1
    rw [← Bool.not_eq_true, Vt.at_iff]
    rintro ⟨rfl, rfl, rfl⟩
    exact h1 rfl
  · have ho := h.ok u hu
    rw [tM_key] at he
    exact Vt.at_iff.2 (plit_inj ho.rd ho.fr ho.kd hr hf hk he)
theorem Tly.len {w : World} {g gm : Nat} {n : Int} {L : List Vt} (h : Tly w g gm n L) : L.length ≤ 10000 := tly_len h.n.2 L h.srt h.mays
/-- a vote's cells. -/
abbrev vcl (v : Vt) : List Value := [.int .i64 v.fr, .int .i64 v.rd, .int .u8 v.kd, .int .i64 v.va, .string v.tx]
theorem Row1.five {w : World} {g : Nat} {e : TypeId} {v : Vt} (h : Row1 w g e (vcl v)) :
    w.cell? ⟨g, 0, none⟩ = some (.int .i64 v.fr) ∧ w.cell? ⟨g, 1, none⟩ = some (.int .i64 v.rd) ∧ w.cell? ⟨g, 2, none⟩ = some (.int .u8 v.kd) ∧ w.cell? ⟨g, 3, none⟩ = some (.int .i64 v.va) ∧ w.cell? ⟨g, 4, none⟩ = some (.string v.tx) :=
  ⟨h.cell (k := 0) rfl, h.cell (k := 1) rfl, h.cell (k := 2) rfl, h.cell (k := 3) rfl, h.cell (k := 4) rfl⟩
theorem Row1.free5 {w : World} {g : Nat} {e : TypeId} {xs : List Value} (h : Row1 w g e xs) : w.frozen? ⟨g, 0, none⟩ = false ∧ w.frozen? ⟨g, 1, none⟩ = false ∧ w.frozen? ⟨g, 2, none⟩ = false ∧ w.frozen? ⟨g, 3, none⟩ = false ∧ w.frozen? ⟨g, 4, none⟩ = false :=
  ⟨h.frozen 0, h.frozen 1, h.frozen 2, h.frozen 3, h.frozen 4⟩
theorem Row1.set5 {w : World} {g : Nat} {e : TypeId} {u : Vt} (h : Row1 w g e (vcl u)) (v : Vt) : Row1 (((((w.setCell ⟨g, 0, none⟩ (.int .i64 v.fr)).setCell ⟨g, 1, none⟩ (.int .i64 v.rd)).setCell ⟨g, 2, none⟩ (.int .u8 v.kd)).setCell ⟨g, 3, none⟩ (.int .i64 v.va)).setCell ⟨g, 4, none⟩ (.string v.tx)) g e (vcl v) :=
  ((((h.set 0 (.int .i64 v.fr)).set 1 (.int .i64 v.rd)).set 2 (.int .u8 v.kd)).set 3 (.int .i64 v.va)).set 4 (.string v.tx)
theorem look_no {w : World} {b : Nat} {L : List Vt} (h : MapAt tM w b L) {r f k : Int} (hr : I64 r) (hf : I64 f) (hk : 0 ≤ k ∧ k < 256) (hno : ∀ u ∈ L, u.at_ r f k = false) :
    (Instr.lookup 68 (.map (some b)) (pval r f k) true).run Try.prog w = .ok (.tuple #[vval zeroVt, .bool false]) w := by
  rcases h.look true Try.underlying68 (zero_vote w) (plit_eq hr hf hk) with ⟨_, hrun⟩ | ⟨u, hu, he, _⟩
  · exact hrun
  · rw [tM_key] at he
    have ho := h.ok u hu
    have := hno u hu
    rw [Vt.at_iff.2 (plit_inj ho.rd ho.fr ho.kd hr hf hk he)] at this
    cases this
theorem look_yes {w : World} {b : Nat} {L : List Vt} (h : MapAt tM w b L) {u : Vt} (hu : u ∈ L) :
    (Instr.lookup 68 (.map (some b)) (pval u.rd u.fr u.kd) true).run Try.prog w = .ok (.tuple #[vval u, .bool true]) w := by
  have ho := h.ok u hu
  rcases h.look true Try.underlying68 (zero_vote w) (plit_eq ho.rd ho.fr ho.kd) with ⟨hno, _⟩ | ⟨u', hu', he, hrun⟩
  · exact absurd (tM_key u) (hno u hu)
  · have : u' = u := key_inj h.ok h.nd hu' hu (he.trans (tM_key u).symm)
    subst this
    exact hrun
theorem has_no {L : List Vt} {v : Vt} (h : hasV L v = false) : ∀ u ∈ L, u.at_ v.rd v.fr v.kd = false := fun u hu => by
  have := List.any_eq_false.1 h u hu
  simpa using this
end Go.Proofs.Ytnngnekfgijejaa
