/-
  A list of rows of the call's own, each in a block of its own, onto which numbers are put one by one.
-/
import Derived.Test.YtnmadmcegdpecaaBivG
import Derived.Test.YtnmadmcegdpecaaMany
namespace Go.Rgb
open Go.RowKit

theorem grown_refl (w : World) (r : Option Nat) : w.grownBy w r := ⟨rfl, rfl, rfl, Nat.le_refl _, fun _ _ _ => rfl⟩
theorem grown_trans {a b c : World} {r : Option Nat} (h : a.grownBy b r) (k : b.grownBy c r) : a.grownBy c r :=
  ⟨k.os.trans h.os, k.tape.trans h.tape, k.output.trans h.output, Nat.le_trans h.size k.size, fun i hi hr => (k.block i (Nat.lt_of_lt_of_le hi h.size) hr).trans (h.block i hi hr)⟩
theorem keep_grown {a b : World} (r : Option Nat) (h : Keep a b) : a.grownBy b r := ⟨h.os, h.tape, h.output, h.size, fun i hi _ => h.block i hi⟩
/-- one operation (number s) puts something onto a row. -/
def growWay (w0 : World) (r : Option Nat) (s : Nat) : Way := ⟨Keep, fun w w' => w.grownBy w' r, fun w => w0.grownBy w r, fun w => Keep w0 w, s⟩
theorem growWay_fair (w0 : World) (r : Option Nat) (s : Nat) : (growWay w0 r s).Fair := ⟨fun _ _ h k => grown_trans h (keep_grown r k), fun _ _ h k => grown_trans h k, fun _ _ h k => h.trans k⟩
theorem grow_drew (w : World) (r : Option Nat) : w.grownBy w.drew r := ⟨rfl, rfl, rfl, Nat.le_refl _, fun _ _ _ => rfl⟩
theorem grow_cell {w w' : World} {r : Option Nat} {p : Addr} {u : Value} (h : w.grownBy w' r) (hp : w.cell? p = some u) (hr : some p.block ≠ r) : w'.cell? p = some u := by
  have hlt := Go.Proofs.Ytnmadmcegdpecaa.lt_of_cell hp
  exact (World.cell?_of_block (h.block _ hlt hr)).trans hp
end Go.Rgb

namespace Go.Proofs.Ytnmadmcegdpecaa
open Go.RowKit

/-- rows vs, held in block go; D: from this block on they lie. -/
structure Rws (go D : Nat) (vs : List Value) (f : List (List Int)) (w : World) : Prop where
  O : Row1 w go 26 vs
  len : vs.length = f.length
  R : ∀ (i : Nat) v l, vs[i]? = some v → f[i]? = some l → Own w D 23 v (l.map (.int .u64))
  A : ∀ (i j : Nat) v v' g, i ≠ j → vs[i]? = some v → vs[j]? = some v' → v.ownBlock = some g → v'.ownBlock ≠ some g
section
variable {go D : Nat} {vs : List Value} {f : List (List Int)} {w w' : World}
theorem Rws.keep (h : Rws go D vs f w) (hk : ∀ k, (k = go ∨ ∃ (i : Nat) (v : Value), vs[i]? = some v ∧ v.ownBlock = some k) → w'.heap[k]? = w.heap[k]?) : Rws go D vs f w' :=
  ⟨h.O.keep (hk go (.inl rfl)), h.len, fun i v l hv hl => (h.R i v l hv hl).keep fun g hg => hk g (.inr ⟨i, v, hv, hg⟩), h.A⟩
theorem Rws.below (h : Rws go D vs f w) (hb : Below w.heap.size w w') : Rws go D vs f w' := by
  refine h.keep fun k hk => hb.block k ?_
  rcases hk with rfl | ⟨i, v, hv, hg⟩
  · exact h.O.lt
  · have hi : i < f.length := by rw [← h.len]; exact (List.getElem?_eq_some_iff.1 hv).1
    exact ((h.R i v f[i] hv (List.getElem?_eq_getElem hi)).block k hg).2
theorem Rws.put {l : Nat} {o : Obj} (o' : Obj) (h : Rws go D vs f w) (hl : w.heap[l]? = some o) (hc : o.isCells = false) : Rws go D vs f (w.putObj l o') := by
  refine ⟨h.O.put o' hl hc, h.len, fun i v l' hv hl' => ?_, h.A⟩
  refine (h.R i v l' hv hl').keep fun g hg => World.putObj_heap_other ?_
  rcases (h.R i v l' hv hl').2 with ⟨rfl, _⟩ | ⟨g', cap, cur, rfl, _, hgg, _⟩
  · cases hg
  · simp only [Value.ownBlock, Option.some.injEq] at hg
    subst hg
    exact not_at hl hc hgg
theorem Rws.nils {n : Nat} (h : Row1 w go 26 (List.replicate n (.slice none 0 0))) : Rws go D (List.replicate n (.slice none 0 0)) (List.replicate n []) w := by
  refine ⟨h, by simp, fun i v l hv hl => ?_, fun i j v v' g _ hv _ hg => ?_⟩
  · rw [List.getElem?_replicate] at hv hl
    split at hv
    · rename_i hin
      rw [if_pos hin] at hl
      obtain rfl := Option.some.inj hv
      obtain rfl := Option.some.inj hl
      exact Own.nil _ _ _
    · cases hv
  · rw [List.getElem?_replicate] at hv
    split at hv
    · obtain rfl := Option.some.inj hv
      cases hg
    · cases hv
/-- one more number on row i, and the row is laid back. -/
theorem Rws.push {i : Nat} {v v' : Value} {l : List Int} {z : Int} {w1 : World} (h : Rws go D vs f w) (hv : vs[i]? = some v) (_ : f[i]? = some l) (hgo : go < D) (hg : w.grownBy w1 v.ownBlock) (hown : Own w1 D 23 v' ((l ++ [z]).map (.int .u64))) (hb : v'.ownBlock = v.ownBlock ∨ ∃ g, v'.ownBlock = some g ∧ w.heap.size ≤ g) :
    Rws go D (vs.set i v') (f.set i (l ++ [z])) (w1.setCell ⟨go, i, none⟩ v') := by
  have hi := (List.getElem?_eq_some_iff.1 hv).1
  have hblk : ∀ (j : Nat) u g, vs[j]? = some u → u.ownBlock = some g → D ≤ g ∧ g < w.heap.size := fun j u g hu hgu => by
    have hj : j < f.length := by rw [← h.len]; exact (List.getElem?_eq_some_iff.1 hu).1
    exact (h.R j u f[j] hu (List.getElem?_eq_getElem hj)).block g hgu
  have hO1 : Row1 w1 go 26 vs := h.O.keep (hg.block go h.O.lt fun e => by
    have := hblk i v go hv e.symm
    omega)
  have hnew : ∀ g, v'.ownBlock = some g → v.ownBlock = some g ∨ w.heap.size ≤ g := fun g hgv => by
    rcases hb with h1 | ⟨g2, h1, h2⟩
    · exact .inl (h1 ▸ hgv)
    · rw [h1] at hgv
      obtain rfl := Option.some.inj hgv
      exact .inr h2
  refine ⟨hO1.set i v', by simp [h.len], fun j u m hu hm => ?_, fun j k u u' g hjk hu hu' hgu => ?_⟩
  · rw [List.getElem?_set] at hu hm
    have far : ∀ {u : Value} {ys : List Value}, Own w1 D 23 u ys → Own (w1.setCell ⟨go, i, none⟩ v') D 23 u ys := fun h9 => h9.keep fun g hgu => Below.heap_setCell w1 ⟨go, i, none⟩ v' g (fun e => by have := (h9.block g hgu).1; simp at e; omega)
    by_cases hji : i = j
    · subst hji
      rw [if_pos rfl, if_pos hi] at hu
      rw [if_pos rfl, if_pos (by rw [← h.len]; exact hi)] at hm
      obtain rfl := Option.some.inj hu
      obtain rfl := Option.some.inj hm
      exact far hown
    · rw [if_neg hji] at hu hm
      refine far ((h.R j u m hu hm).keep fun g hgu => hg.block g (hblk j u g hu hgu).2 fun e => ?_)
      exact h.A j i u v g (Ne.symm hji) hu hv hgu e.symm
  · rw [List.getElem?_set] at hu hu'
    intro hgu'
    by_cases hji : i = j
    · subst hji
      rw [if_pos rfl, if_pos hi] at hu
      rw [if_neg hjk] at hu'
      obtain rfl := Option.some.inj hu
      have h1 := hblk k u' g hu' hgu'
      rcases hnew g hgu with h2 | h2
      · exact h.A i k v u' g hjk hv hu' h2 hgu'
      · omega
    · rw [if_neg hji] at hu
      have h1 := hblk j u g hu hgu
      by_cases hki : i = k
      · subst hki
        rw [if_pos rfl, if_pos hi] at hu'
        obtain rfl := Option.some.inj hu'
        rcases hnew g hgu' with h2 | h2
        · exact h.A i j v u g hji hv hu h2 hgu
        · omega
      · rw [if_neg hki] at hu'
        exact h.A j k u u' g hjk hu hu' hgu hgu'
theorem Rws.ownRows {base : Nat} (h : Rws go D vs f w) (hgo : base ≤ go) (_ : base ≤ D) (hl : f.length ≤ 9223372036854775807) : OwnRows w base 26 23 (.slice (some ⟨go, 0, none⟩) f.length f.length) (f.map (·.map (.int .u64))) := by
  have h1 := h.O.own hgo (by rw [h.len]; exact hl)
  rw [h.len] at h1
  refine ⟨vs, h1, by rw [h.len, List.length_map], fun j u xs hu hx => ?_⟩
  rw [List.getElem?_map] at hx
  cases hfj : f[j]? with
  | none => rw [hfj] at hx; cases hx
  | some l =>
    rw [hfj] at hx
    obtain rfl := Option.some.inj hx
    exact (h.R j u l hu hfj).rowT
end

/-- 'append(v, u)': u lies in a block of its own. -/
theorem wpList_push_at {P : Program} {t e : TypeId} {z : Value} {bytes : Nat} (E : Elt P t e z bytes) (wr : World) {ops : Array Oper} {rest : List Oper} {o : Oper} {a : Act} {Q : Exit → Act → World → Prop}
    (hg : o.guard = none) (s x : Operand) (hop : o.op = .call { callee := .builtin .append, args := #[s, x], argTypes := #[t, t] })
    (base : Nat) {v : Value} {xs : List Value} (hown : Own wr base e v xs) (hs : a.eval s = v) (u : Value) (g : Nat) (hx : a.eval x = .slice (some ⟨g, 0, none⟩) 1 1) (hu : Row1 wr g e [u]) (h1 : u.oneCell' = true)
    (hb : (xs.length + 1) * bytes ≤ 140737488355328) (hm : xs.length + 1 ≤ 9223372036854775807) (hbase : base ≤ wr.heap.size)
    (hK : ∀ v' w', Own w' base e v' (xs ++ [u]) → wr.grownBy w' v.ownBlock → (v'.ownBlock = v.ownBlock ∨ v'.ownBlock = some wr.heap.size) → wpList P ops Q rest (a.put o.dst v') w') :
    wpList P ops Q (o :: rest) a wr := by
  obtain ⟨i, hi, hz, hsz, hby⟩ := E.info
  refine wpList_append_own_at (P := P) wr hg s x t hop base e i z 1 bytes E.under hi hz hsz hby E.one (by decide) v xs.length xs hs hown ⟨g, 0, none⟩ 1 1 [u] hx rfl (fun j u' hj => ?_) (by simpa using h1) (by unfold maxLen; omega) hb hbase ?_
  · have hadd : (⟨g, 0, none⟩ : Addr).add j = ⟨g, 0 + j, none⟩ := by unfold Addr.add; split <;> simp_all
    rw [hadd, Nat.zero_add]
    exact hu.cell hj
  · intro v' w' h2 h3 _ h5
    refine hK v' w' ?_ h3 h5
    unfold Own; rw [List.length_append]; exact h2

end Go.Proofs.Ytnmadmcegdpecaa
