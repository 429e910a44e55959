/-
  Parts of these texts that the statement needs: BvC, OwnGrid, BvD, PoA, Lin, RaQ, PoP.
-/
import Derived.Test.YtcojnjhffmhbiaaDoorBivQ6
import Derived.Test.YtcojnjhffmhbiaaDoorBivQ2
import Derived.Test.YtcojnjhffmhbiaaDoorBivQ1
import Derived.Test.YtcojnjhffmhbiaaDoorPsA

section
namespace Go.Proofs.YtcojnjhffmhbiaaDoor
end Go.Proofs.YtcojnjhffmhbiaaDoor
namespace Go.Rgb
open Go.RowKit
theorem grown_trans {a b c : World} {r : Option Nat} (h : a.grownBy b r) (k : b.grownBy c r) : a.grownBy c r :=
  ⟨k.os.trans h.os, k.tape.trans h.tape, k.output.trans h.output, Nat.le_trans h.size k.size, fun i hi hr => (k.block i (Nat.lt_of_lt_of_le hi h.size) hr).trans (h.block i hi hr)⟩
theorem keep_grown {a b : World} (r : Option Nat) (h : Keep a b) : a.grownBy b r := ⟨h.os, h.tape, h.output, h.size, fun i hi _ => h.block i hi⟩
/-- one operation (number s) puts something onto a row. -/
def growWay (w0 : World) (r : Option Nat) (s : Nat) : Way := ⟨Keep, fun w w' => w.grownBy w' r, fun w => w0.grownBy w r, fun w => Keep w0 w, s⟩
theorem growWay_fair (w0 : World) (r : Option Nat) (s : Nat) : (growWay w0 r s).Fair := ⟨fun _ _ h k => grown_trans h (keep_grown r k), fun _ _ h k => grown_trans h k, fun _ _ h k => h.trans k⟩
theorem grow_drew (w : World) (r : Option Nat) : w.grownBy w.drew r := ⟨rfl, rfl, rfl, Nat.le_refl _, fun _ _ _ => rfl⟩
theorem grow_cell {w w' : World} {r : Option Nat} {p : Addr} {u : Value} (h : w.grownBy w' r) (hp : w.cell? p = some u) (hr : some p.block ≠ r) : w'.cell? p = some u := by
  have hlt := Go.Proofs.YtcojnjhffmhbiaaDoor.lt_of_cell hp
  exact (World.cell?_of_block (h.block _ hlt hr)).trans hp
end Go.Rgb
namespace Go.Proofs.YtcojnjhffmhbiaaDoor
open Go.RowKit
/-- rows vs, held in block go; D: from this block on they lie. -/
structure Rws (go D : Nat) (vs : List Value) (f : List (List Int)) (w : World) : Prop where
  O : Row1 w go 23 vs
  len : vs.length = f.length
  R : ∀ (i : Nat) v l, vs[i]? = some v → f[i]? = some l → Own w D 24 v (l.map (.int .u64))
  A : ∀ (i j : Nat) v v' g, i ≠ j → vs[i]? = some v → vs[j]? = some v' → v.ownBlock = some g → v'.ownBlock ≠ some g
section
variable {go D : Nat} {vs : List Value} {f : List (List Int)} {w w' : World}
theorem Rws.keep (h : Rws go D vs f w) (hk : ∀ k, (k = go ∨ ∃ (i : Nat) (v : Value), vs[i]? = some v ∧ v.ownBlock = some k) → w'.heap[k]? = w.heap[k]?) : Rws go D vs f w' :=
  ⟨h.O.keep (hk go (.inl rfl)), h.len, fun i v l hv hl => (h.R i v l hv hl).keep fun g hg => hk g (.inr ⟨i, v, hv, hg⟩), h.A⟩
theorem Rws.below (h : Rws go D vs f w) (hb : Below w.heap.size w w') : Rws go D vs f w' := by
  refine h.keep fun k hk => hb.block k ?_
  rcases hk with rfl | ⟨i, v, hv, hg⟩
  · exact h.O.lt
  · have hi : i < f.length := by rw [← h.len]; exact (List.getElem?_eq_some_iff.1 hv).1
    exact ((h.R i v f[i] hv (List.getElem?_eq_getElem hi)).block k hg).2
theorem Rws.put {l : Nat} {o : Obj} (o' : Obj) (h : Rws go D vs f w) (hl : w.heap[l]? = some o) (hc : o.isCells = false) : Rws go D vs f (w.putObj l o') := by
  refine ⟨h.O.put o' hl hc, h.len, fun i v l' hv hl' => ?_, h.A⟩
  refine (h.R i v l' hv hl').keep fun g hg => World.putObj_heap_other ?_
  rcases (h.R i v l' hv hl').2 with ⟨rfl, _⟩ | ⟨g', cap, cur, rfl, _, hgg, _⟩
  · cases hg
  · simp only [Value.ownBlock, Option.some.injEq] at hg
    subst hg
    exact not_at hl hc hgg
theorem Rws.nils {n : Nat} (h : Row1 w go 23 (List.replicate n (.slice none 0 0))) : Rws go D (List.replicate n (.slice none 0 0)) (List.replicate n []) w := by
  refine ⟨h, by simp, fun i v l hv hl => ?_, fun i j v v' g _ hv _ hg => ?_⟩
  · rw [List.getElem?_replicate] at hv hl
    split at hv
    · rename_i hin
      rw [if_pos hin] at hl
      obtain rfl := Option.some.inj hv
      obtain rfl := Option.some.inj hl
      exact Own.nil _ _ _
    · cases hv
  · rw [List.getElem?_replicate] at hv
    split at hv
    · obtain rfl := Option.some.inj hv
      cases hg
    · cases hv
/-- one more number on row i, and the row is laid back. -/
theorem Rws.push {i : Nat} {v v' : Value} {l : List Int} {z : Int} {w1 : World} (h : Rws go D vs f w) (hv : vs[i]? = some v) (_ : f[i]? = some l) (hgo : go < D) (hg : w.grownBy w1 v.ownBlock) (hown : Own w1 D 24 v' ((l ++ [z]).map (.int .u64))) (hb : v'.ownBlock = v.ownBlock ∨ ∃ g, v'.ownBlock = some g ∧ w.heap.size ≤ g) :
    Rws go D (vs.set i v') (f.set i (l ++ [z])) (w1.setCell ⟨go, i, none⟩ v') := by
  have hi := (List.getElem?_eq_some_iff.1 hv).1
  have hblk : ∀ (j : Nat) u g, vs[j]? = some u → u.ownBlock = some g → D ≤ g ∧ g < w.heap.size := fun j u g hu hgu => by
    have hj : j < f.length := by rw [← h.len]; exact (List.getElem?_eq_some_iff.1 hu).1
    exact (h.R j u f[j] hu (List.getElem?_eq_getElem hj)).block g hgu
  have hO1 : Row1 w1 go 23 vs := h.O.keep (hg.block go h.O.lt fun e => by
    have := hblk i v go hv e.symm
    omega)
  have hnew : ∀ g, v'.ownBlock = some g → v.ownBlock = some g ∨ w.heap.size ≤ g := fun g hgv => by
    rcases hb with h1 | ⟨g2, h1, h2⟩
    · exact .inl (h1 ▸ hgv)
    · rw [h1] at hgv
      obtain rfl := Option.some.inj hgv
      exact .inr h2
  refine ⟨hO1.set i v', by simp [h.len], fun j u m hu hm => ?_, fun j k u u' g hjk hu hu' hgu => ?_⟩
  · rw [List.getElem?_set] at hu hm
    have far : ∀ {u : Value} {ys : List Value}, Own w1 D 24 u ys → Own (w1.setCell ⟨go, i, none⟩ v') D 24 u ys := fun h9 => h9.keep fun g hgu => Below.heap_setCell w1 ⟨go, i, none⟩ v' g (fun e => by have := (h9.block g hgu).1; simp at e; omega)
    by_cases hji : i = j
    · subst hji
      rw [if_pos rfl, if_pos hi] at hu
      rw [if_pos rfl, if_pos (by rw [← h.len]; exact hi)] at hm
      obtain rfl := Option.some.inj hu
      obtain rfl := Option.some.inj hm
      exact far hown
    · rw [if_neg hji] at hu hm
      refine far ((h.R j u m hu hm).keep fun g hgu => hg.block g (hblk j u g hu hgu).2 fun e => ?_)
      exact h.A j i u v g (Ne.symm hji) hu hv hgu e.symm
  · rw [List.getElem?_set] at hu hu'
    intro hgu'
    by_cases hji : i = j
    · subst hji
      rw [if_pos rfl, if_pos hi] at hu
      rw [if_neg hjk] at hu'
      obtain rfl := Option.some.inj hu
      have h1 := hblk k u' g hu' hgu'
      rcases hnew g hgu with h2 | h2
      · exact h.A i k v u' g hjk hv hu' h2 hgu'
      · omega
    · rw [if_neg hji] at hu
      have h1 := hblk j u g hu hgu
      by_cases hki : i = k
      · subst hki
        rw [if_pos rfl, if_pos hi] at hu'
        obtain rfl := Option.some.inj hu'
        rcases hnew g hgu' with h2 | h2
        · exact h.A i j v u g hji hv hu h2 hgu
        · omega
      · rw [if_neg hki] at hu'
        exact h.A j k u u' g hjk hu hu' hgu hgu'
theorem Rws.ownRows {base : Nat} (h : Rws go D vs f w) (hgo : base ≤ go) (_ : base ≤ D) (hl : f.length ≤ 9223372036854775807) : OwnRows w base 23 24 (.slice (some ⟨go, 0, none⟩) f.length f.length) (f.map (·.map (.int .u64))) := by
  have h1 := h.O.own hgo (by rw [h.len]; exact hl)
  rw [h.len] at h1
  refine ⟨vs, h1, by rw [h.len, List.length_map], fun j u xs hu hx => ?_⟩
  rw [List.getElem?_map] at hx
  cases hfj : f[j]? with
  | none => rw [hfj] at hx; cases hx
  | some l =>
    rw [hfj] at hx
    obtain rfl := Option.some.inj hx
    exact (h.R j u l hu hfj).rowT
end
/-- 'append(v, u)': u lies in a block of its own. -/
theorem wpList_push_at {P : Program} {t e : TypeId} {z : Value} {bytes : Nat} (E : Elt P t e z bytes) (wr : World) {ops : Array Oper} {rest : List Oper} {o : Oper} {a : Act} {Q : Exit → Act → World → Prop}
    (hg : o.guard = none) (s x : Operand) (hop : o.op = .call { callee := .builtin .append, args := #[s, x], argTypes := #[t, t] })
    (base : Nat) {v : Value} {xs : List Value} (hown : Own wr base e v xs) (hs : a.eval s = v) (u : Value) (g : Nat) (hx : a.eval x = .slice (some ⟨g, 0, none⟩) 1 1) (hu : Row1 wr g e [u]) (h1 : u.oneCell' = true)
    (hb : (xs.length + 1) * bytes ≤ 140737488355328) (hm : xs.length + 1 ≤ 9223372036854775807) (hbase : base ≤ wr.heap.size)
    (hK : ∀ v' w', Own w' base e v' (xs ++ [u]) → wr.grownBy w' v.ownBlock → (v'.ownBlock = v.ownBlock ∨ v'.ownBlock = some wr.heap.size) → wpList P ops Q rest (a.put o.dst v') w') :
    wpList P ops Q (o :: rest) a wr := by
  obtain ⟨i, hi, hz, hsz, hby⟩ := E.info
  refine wpList_append_own_at (P := P) wr hg s x t hop base e i z 1 bytes E.under hi hz hsz hby E.one (by decide) v xs.length xs hs hown ⟨g, 0, none⟩ 1 1 [u] hx rfl (fun j u' hj => ?_) (by simpa using h1) (by unfold maxLen; omega) hb hbase ?_
  · have hadd : (⟨g, 0, none⟩ : Addr).add j = ⟨g, 0 + j, none⟩ := by unfold Addr.add; split <;> simp_all
    rw [hadd, Nat.zero_add]
    exact hu.cell hj
  · intro v' w' h2 h3 _ h5
    refine hK v' w' ?_ h3 h5
    unfold Own; rw [List.length_append]; exact h2
open Go.RowKit Go.Shelf
theorem wpIn_rangeRow {α : Type} {F : Fence} {n : Nat} {P : Program} {g : Operand} {ps : Array Tmp} {assign body : Code} {Q : Exit → Act → World → Prop} {a : Act} {w : World}
    (hro : F.round = none) (h1 : 1 ≤ n) {gf : Nat} {lb : Array Value} (hg : a.eval g = .func (.func gf) #[] lb) (hFg : F.fn gf) (eg : ∀ args w, (callFunc gf args).run P w = .ok (.enter gf args) w)
    {encs : α → Array Value} (hps : ∀ x, (encs x).size = ps.size) (I : List α → World → Prop) (Ok : List α → α → World → Prop) (S : List α → Prop) (Kp : World → World → Prop)
    (hIb : ∀ xs A B, w.heap.size ≤ A.heap.size → I xs A → Below A.heap.size A B → I xs B)
    (hIp : ∀ xs A l o o', I xs A → w.heap.size ≤ l → A.heap[l]? = some o → o.isCells = false → I xs (A.putObj l o'))
    (hOp : ∀ pre x A l o o', Ok pre x A → w.heap.size ≤ l → A.heap[l]? = some o → o.isCells = false → Ok pre x (A.putObj l o'))
    (hKt : ∀ A B C : World, Kp A B → Kp B C → Kp A C)
    (hKp : ∀ (A : World) l o o', w.heap.size ≤ l → A.heap[l]? = some o → o.isCells = false → Kp A (A.putObj l o'))
    (h0 : I [] w)
    (hit : ∀ (l : Nat) (J : List α → World → Prop) (W : World), Below w.heap.size w W → (∀ xs A B, W.heap.size ≤ A.heap.size → J xs A → Below A.heap.size A B → J xs B) →
      (∀ pre x A, W.heap.size ≤ A.heap.size → J pre A → Ok pre x A → YieldAt F (n - 1 - 1) P l (encs x) A fun e B => e = .returned (.bool true) ∧ J (pre ++ [x]) B ∧ Kp A B ∧ A.heap.size ≤ B.heap.size) → J [] W →
      CallsIn F (n - 1) P gf (#[.func (.yield l) #[] #[]] ++ lb) W fun e B => (∃ v, e = .returned v) ∧ ∃ xs, S xs ∧ J xs B)
    (a₁ : α → Act)
    (hassign : ∀ (l : Nat) (x : α) (W : World) (K : Act → World → Prop), K (a₁ x) W →
      assign.wpIn (F.inRound l) (n - 1 - 1) P (Exit.then K (fun _ _ _ => False)) { tmps := (ps.zip (encs x)).foldl (fun t (p, v) => t.setIfInBounds p v) a.tmps, defers := [] } W)
    (hbody : ∀ (l : Nat) (pre : List α) (x : α) (A : World), w.heap.size ≤ A.heap.size → I pre A → Ok pre x A → body.wpIn (F.inRound l) (n - 1 - 1) P (GoesOn Kp I (pre ++ [x]) A) (a₁ x) A)
    (hdone : ∀ (D : Nat) (xs : List α) (A : World), w.heap.size ≤ D → S xs → I xs A → A.heap[D]? = some (.deferred (some [])) → Q .normal { a with defers := { target := .collected D, args := #[] } :: a.defers } A) :
    (Code.rangeFunc g ps assign body).wpIn F n P Q a w := by
  refine wpIn_rangeFunc fun fn hfn => ?_
  rw [hro]
  -- the record, in each of its states
  let R : LoopState → Loop := fun st => { state := st, pending := none, fn, tmps := a.tmps, params := ps, assign, body, defers := w.heap.size }
  let d := w.heap.size
  let l := w.heap.size + 1
  let W0 := (w.alloc (.deferred (some []))).alloc (.loop (R .ready))
  have hL0 : W0.heap[l]? = some (.loop (R .ready)) := by
    have := World.alloc_heap_new (w.alloc (.deferred (some []))) (.loop (R .ready))
    rwa [World.size_alloc] at this
  have hD0 : W0.heap[d]? = some (.deferred (some [])) := (Below.heap_alloc _ _ _ (by simp [d])).trans (World.alloc_heap_new w _)
  have hb0 : Below w.heap.size w W0 := ((Below.refl _ w).alloc (Nat.le_refl _) _).alloc (by simp) _
  have hI0 : I [] W0 := hIb _ _ _ (by simp) (hIb _ _ _ (Nat.le_refl _) h0 ((Below.refl _ w).alloc (Nat.le_refl _) _)) ((Below.refl _ _).alloc (Nat.le_refl _) _)
  have hs0 : W0.heap.size = w.heap.size + 2 := by simp [W0]
  refine ⟨l, [{ target := .collected d, args := #[] }], W0, { target := .fn (.func gf) lb, args := #[.func (.yield l) #[] #[]] }, W0, gf, #[.func (.yield l) #[] #[]] ++ lb, W0, run_enterLoop_outer _ _ _ _ _, ?_, ?_, ?_, fun _ => h1, ?_⟩
  · simp only [resolve, hg]
    simp [go_sem]
  · intro f' hf'
    simp [Target.leads] at hf'
    subst hf'
    exact hFg
  · simp [invoke, go_sem, eg]
  · refine (hit l (fun xs A => I xs A ∧ A.heap[l]? = some (.loop (R .ready)) ∧ A.heap[d]? = some (.deferred (some []))) W0 hb0 (fun xs A B hA hJ hb => ?_) (fun pre x A hA hJ hx => ?_) ⟨hI0, hL0, hD0⟩).mono ?_
    · exact ⟨hIb _ _ _ (by omega) hJ.1 hb, (hb.block _ (by omega)).trans hJ.2.1, (hb.block _ (by omega)).trans hJ.2.2⟩
    · obtain ⟨hi, hl, hd⟩ := hJ
      have hy := run_yield (P := P) (args := encs x) hl (hps x)
      refine ⟨fn, _, assign, body, hy, roundIn_of_wpIn hfn (hassign l x A _ ⟨_, run_beginRound hl rfl, ?_⟩)⟩
      have hll : l < A.heap.size := by omega
      have hi2 := hIp _ _ _ _ (.loop { R .ready with state := .busy }) hi (by omega) hl rfl
      have hx2 := hOp _ _ _ _ _ (.loop { R .ready with state := .busy }) hx (by omega) hl rfl
      have hk2 := hKp A l _ (.loop { R .ready with state := .busy }) (by omega) hl rfl
      have hl2 : (A.putObj l (.loop { R .ready with state := .busy })).heap[l]? = some (.loop { R .ready with state := .busy }) := World.putObj_heap_same hll
      have hd2 : (A.putObj l (.loop { R .ready with state := .busy })).heap[d]? = some (.deferred (some [])) := (World.putObj_heap_other (by omega)).trans hd
      refine wpIn_mono (hbody l pre x _ (by simp; omega) hi2 hx2) ?_
      rintro e a3 B ⟨rfl, ho, hkb, hsz, hib⟩
      rw [World.putObj_size] at hsz
      have hl3 := ho.same _ _ hl2 rfl
      have hd3 := ho.same _ _ hd2 rfl
      refine ⟨_, _, run_endRound none hl3, rfl, ⟨hIp _ _ _ _ _ hib (by omega) hl3 rfl, World.putObj_heap_same (by omega), (World.putObj_heap_other (by omega)).trans hd3⟩, hKt _ _ _ (hKt _ _ _ hk2 hkb) (hKp B l _ _ (by omega) hl3 rfl), by simp; omega⟩
    · rintro e B ⟨⟨v, rfl⟩, xs, hS, hi, hl, hd⟩
      have hll := (Array.getElem?_eq_some_iff.1 hl).1
      exact ⟨none, _, run_endLoop hl (by simp [R]), hdone d xs _ (Nat.le_refl _) hS (hIp _ _ _ _ _ hi (by omega) hl rfl) ((World.putObj_heap_other (by omega)).trans hd)⟩
attribute [local go_sem] Oper.semAt_some
set_option maxRecDepth 100000 in
set_option maxHeartbeats 2000000 in
theorem columns2_c (A : Option Addr) (f : List (List Int)) (c g1 g2 g3 l n : Nat) (w : World) (J : List (Nat × Value) → World → Prop) (hJ : ∀ xs A B, w.heap.size ≤ A.heap.size → J xs A → Below A.heap.size A B → J xs B)
    (hY : ∀ pre x W, w.heap.size ≤ W.heap.size → J pre W → pre.map Prod.fst = List.range x.1 → x.1 < wide f → RowT W 24 x.2 ((colJ f x.1).map (.int .u64)) → YieldAt Fence.wide n Tryd.prog l #[.int .i64 (x.1 : Int), x.2] W fun e B => e = .returned (.bool true) ∧ J (pre ++ [x]) B ∧ (Fit A f c g1 g2 g3 W → Fit A f c g1 g2 g3 B) ∧ W.heap.size ≤ B.heap.size)
    (hF : Fit A f c g1 g2 g3 w) (hl : f.length ≤ 1000000) (hwd : wide f ≤ 1000000) (h0 : J [] w) :
    Calls Tryd.prog 147 #[.func (.yield l) #[] #[], .pointer (some ⟨g1, 0, none⟩), .pointer (some ⟨g3, 0, none⟩)] w fun e w' => (∃ v, e = .returned v) ∧ ∃ xs, xs.map Prod.fst = List.range (wide f) ∧ J xs w' := by
  have hc1 := hF.r1.cell (k := 0) rfl
  go_enter Tryd.func147, Tryd.ntmps147
  have hpw := pwide_c A f c w hF.A (by omega)
  obtain ⟨m, hm⟩ : ∃ m, wide f = m := ⟨_, rfl⟩
  rw [hm] at hpw hwd hY ⊢
  have HPW := hid hpw
  clear hpw hm
  go_wp2_with (go_at_call 111; refine HPW.out.mono ?_; rintro e w2 ⟨rfl, rfl⟩)
  clear hc1
  go_loopw [4, 5, 6, 9] (fun _ _ _ j wr => ∃ k : Nat, j = .int .i64 k ∧ k ≤ m ∧ w.heap.size ≤ wr.heap.size ∧ Fit A f c g1 g2 g3 wr ∧ ∃ xs : List (Nat × Value), xs.map Prod.fst = List.range k ∧ J xs wr) (fun _ _ _ j _ => m - (intOf j).toNat)
  case atStart => exact ⟨0, rfl, by omega, Nat.le_refl _, hF, [], rfl, h0⟩
  case round =>
    obtain ⟨k, rfl, hk, hsz, hF2, xs, hxs, hJx⟩ := hrel
    have HXS := hid hxs
    clear hxs
    by_cases hlt : k < m
    · have hc1 := hF2.r1.cell (k := 0) rfl
      go_wp2
      generalize wr = wo at *
      clear hc1
      go_loopw [5, 6, 14] (fun o _ i w4 => ∃ i' : Nat, i = .int .i64 i' ∧ i' ≤ f.length ∧ Own w4 wo.heap.size 24 o (((colJ f k).take i').map (.int .u64)) ∧ Below wo.heap.size wo w4) (fun _ _ i _ => f.length - (intOf i).toNat)
      case atStart => exact ⟨0, rfl, by omega, by simpa using Own.nil wo wo.heap.size 24, Below.refl _ _⟩
      case round =>
        obtain ⟨i, rfl, hi, hown4, hb4⟩ := hrel
        have hF4 := hF2.below hb4
        by_cases hlt2 : i < f.length
        · obtain ⟨l2, hxl⟩ := get_of_lt hlt2
          have hcj := colJ_at hxl k
          have hs : ((colJ f k).take i).map (Value.int .u64) ++ [Value.int .u64 (l2.getD k 0)] = ((colJ f k).take (i + 1)).map (Value.int .u64) := by
            rw [take_snocP hcj]; simp
          have hlen : (((colJ f k).take i).map (Value.int .u64)).length = i := by simp [colJ_len]; omega
          have HS := hid (⟨hs, hlen, hxl⟩ : _ ∧ _ ∧ _)
          clear hs hlen hcj hxl
          have hc3 := hF4.r3.cell (k := 0) rfl
          go_wp2_with (first | (go_at_call 158; refine (reads1_c A f c g2 i k l2 _ hF4.A hF4.r2 (by omega) HS.out.2.2 (by omega)).mono ?_; rintro e w2 ⟨rfl, rfl⟩) | (at_builtin; refine wpList_push elt_u64 wr rfl _ _ rfl wo.heap.size hown4 rfl (.int .u64 (l2.getD k 0)) rfl rfl (by rw [HS.out.2.1]; omega) (by rw [HS.out.2.1]; omega) hb4.size ?_; intro v' w3 hown5 _ hb5))
          go_roundw
          case rel =>
            rw [HS.out.1] at hown5
            exact ⟨i + 1, by go_num, by omega, hown5, hb4.trans hb5⟩
          case measure => simp [intOf]; omega
        · obtain rfl : i = f.length := by omega
          rw [List.take_of_length_le (by rw [colJ_len]; exact Nat.le_refl _)] at hown4
          have hrt := hown4.rowT
          obtain ⟨A5, c5, rfl, _⟩ := hown4.form
          rw [List.length_map] at hrt
          have hs4 := hb4.size
          have hJ4 := hJ _ _ _ hsz hJx hb4
          obtain ⟨fn, tmps, assign, body, hy, hR⟩ := hY xs (k, .slice A5 (colJ f k).length c5) wr (by omega) hJ4 HXS.out hlt hrt
          dsimp only at hy
          clear hown4 hJx
          go_upto_region 9 with (fail)
          refine (wpIn_wide (n := n + 1)).1 ?_
          gi_wp2
          refine hR.mono ?_
          rintro e B ⟨rfl, hJB, hKB, hszB⟩
          gi_wp2
          go_wp2
          go_roundw
          case rel => exact ⟨k + 1, by go_num, by omega, by omega, hKB hF4, xs ++ [(k, .slice A5 (colJ f k).length c5)], by rw [List.map_append, HXS.out, List.range_succ]; rfl, hJB⟩
          case measure => simp [intOf]; omega
    · obtain rfl : k = m := by omega
      go_wp2
      go_end0
      exact ⟨⟨_, rfl⟩, xs, HXS.out, hJx⟩
open Go.RowKit Go.Shelf
attribute [local go_sem] Oper.semAt_some
/-- rows of the call's own, and what is wrong. -/
def RowsR (w : World) (base : Nat) (v : Value) (F : List (List Int)) : Prop := (v = .slice none 0 0 ∧ F = []) ∨ ∃ go D vs, v = .slice (some ⟨go, 0, none⟩) F.length F.length ∧ base ≤ go ∧ base ≤ D ∧ go < D ∧ Rws go D vs F w
def NewTwoRows (F : List (List Int)) (err : Int) (w : World) (e : Ending) (w' : World) : Prop := ∃ v, e = .returned (.tuple #[v, .int .i64 err]) ∧ RowsR w' w.heap.size v F ∧ Below w.heap.size w w'
noncomputable def bErr (xs : List Int) (f : List (List Int)) (q : Int) : Int := if xs.length = f.length then eAll xs q else 1
/-- of k columns. -/
noncomputable def bPart (xs : List Int) (f : List (List Int)) (q : Int) (k : Nat) : List (List Int) := (List.range xs.length).map fun i => (List.range k).map fun j => (tVal xs (colJ f j) q).getD i 0
noncomputable def bVal (xs : List Int) (f : List (List Int)) (q : Int) : List (List Int) := if bErr xs f q = 0 then bPart xs f q (wide f) else []
theorem tErr_any {xs ys : List Int} {f : List (List Int)} {q : Int} (h : ys.length = f.length) : tErr xs ys q = bErr xs f q := by unfold tErr bErr; rw [h]
theorem bPart_zero (xs : List Int) (f : List (List Int)) (q : Int) : bPart xs f q 0 = List.replicate xs.length [] := by
  unfold bPart
  rw [List.eq_replicate_iff]
  refine ⟨by simp, fun b hb => ?_⟩
  obtain ⟨j, _, rfl⟩ := List.mem_map.1 hb
  rfl
/-- while the numbers of column k are put to the rows: i of them have it. -/
noncomputable def bMid (xs : List Int) (f : List (List Int)) (q : Int) (k i : Nat) : List (List Int) := (List.range xs.length).map fun r => (List.range (if r < i then k + 1 else k)).map fun j => (tVal xs (colJ f j) q).getD r 0
theorem bMid_len (xs : List Int) (f : List (List Int)) (q : Int) (k i : Nat) : (bMid xs f q k i).length = xs.length := by simp [bMid]
theorem bMid_zero (xs : List Int) (f : List (List Int)) (q : Int) (k : Nat) : bMid xs f q k 0 = bPart xs f q k := rfl
theorem bMid_all (xs : List Int) (f : List (List Int)) (q : Int) (k : Nat) : bMid xs f q k xs.length = bPart xs f q (k + 1) := by
  unfold bMid bPart
  apply List.map_congr_left
  intro r hr
  rw [if_pos (List.mem_range.1 hr)]
theorem bMid_at {xs : List Int} {f : List (List Int)} {q : Int} {k i : Nat} (h : i < xs.length) : (bMid xs f q k i)[i]? = some ((List.range k).map fun j => (tVal xs (colJ f j) q).getD i 0) := by
  unfold bMid
  rw [List.getElem?_map, List.getElem?_range h, Option.map_some, if_neg (by omega)]
theorem bMid_set {xs : List Int} {f : List (List Int)} {q : Int} {k i : Nat} (h : i < xs.length) : (bMid xs f q k i).set i (((List.range k).map fun j => (tVal xs (colJ f j) q).getD i 0) ++ [(tVal xs (colJ f k) q).getD i 0]) = bMid xs f q k (i + 1) := by
  apply List.ext_getElem?
  intro r
  rw [List.getElem?_set]
  split
  · rename_i hr
    subst hr
    rw [if_pos (by rw [bMid_len]; exact h)]
    unfold bMid
    rw [List.getElem?_map, List.getElem?_range h, Option.map_some, if_pos (by omega), List.range_succ, List.map_append]; rfl
  · rename_i hr
    unfold bMid
    rw [List.getElem?_map, List.getElem?_map]
    rcases Nat.lt_or_ge r xs.length with h1 | h1
    · rw [List.getElem?_range h1, Option.map_some, Option.map_some]
      by_cases hri : r < i
      · rw [if_pos hri, if_pos (by omega)]
      · rw [if_neg hri, if_neg (by omega)]
    · rw [List.getElem?_eq_none (by simpa using h1)]; rfl
theorem tVal_len {xs ys : List Int} {q : Int} (h : tErr xs ys q = 0) : (tVal xs ys q).length = xs.length := by
  have he : eAll xs q = 0 := by
    unfold tErr at h
    split at h
    · exact h
    · omega
  have hk : okm q = true := by
    by_cases h0 : eUnlike xs q = 0
    · exact unlike_okm h0
    · rw [eAll_bad h0] at he; exact absurd he h0
  rw [tVal_ok h, pOut_len hk]
theorem tVal_u64 (xs ys : List Int) (q : Int) : U64s (tVal xs ys q) := by
  unfold tVal
  split
  · exact pOut_u64 _ _ _ _
  · intro z hz; cases hz
/-- what lies in memory while the columns come. -/
structure Bs (B : Option Addr) (f : List (List Int)) (d g1 g2 g3 : Nat) (l : List Int) (q : Int) (D go : Nat) (w0 w3 : World) (pre : List (Nat × Value)) (w : World) : Prop where
  fix : ∀ k, k < D → k ≠ go → w.heap[k]? = w3.heap[k]?
  rows : ∃ vs, Rws go D vs (bPart l f q pre.length) w
  b : Below w0.heap.size w0 w
  sz : D ≤ w.heap.size
/-- while a column is put to the rows. -/
structure Mi (A6 : Option Addr) (l : List Int) (f : List (List Int)) (q : Int) (k D go : Nat) (w0 w3 W : World) (vs : List Value) (i : Nat) (w : World) : Prop where
  fix : ∀ j, j < D → j ≠ go → w.heap[j]? = w3.heap[j]?
  rows : Rws go D vs (bMid l f q k i) w
  b : Below w0.heap.size w0 w
  sz : D ≤ w.heap.size
  c : ∀ (j : Nat) z, (tVal l (colJ f k) q)[j]? = some z → ∃ b off, A6 = some ⟨b, off, none⟩ ∧ w.cell? ⟨b, off + j, none⟩ = some (.int .u64 z)
  lo : ∀ a, A6 = some a → D ≤ a.block ∧ a.block < w.heap.size
  ap : ∀ (j : Nat) v a, vs[j]? = some v → A6 = some a → v.ownBlock ≠ some a.block
  ko : KeepsOthers W w
theorem Mi.step {A6 : Option Addr} {l : List Int} {f : List (List Int)} {q : Int} {k D go : Nat} {w0 w3 W : World} {vs : List Value} {i : Nat} {w w1 : World} {v v' : Value} {z : Int} (h : Mi A6 l f q k D go w0 w3 W vs i w) (hi : i < l.length) (hv : vs[i]? = some v) (hz : (tVal l (colJ f k) q)[i]? = some z) (hgo : go < D) (h0 : w0.heap.size ≤ go)
    (hg : w.grownBy w1 v.ownBlock) (hown : Own w1 D 24 v' ((((List.range k).map fun j => (tVal l (colJ f j) q).getD i 0) ++ [z]).map (.int .u64))) (hb : v'.ownBlock = v.ownBlock ∨ ∃ g, v'.ownBlock = some g ∧ w.heap.size ≤ g) :
    Mi A6 l f q k D go w0 w3 W (vs.set i v') (i + 1) (w1.setCell ⟨go, i, none⟩ v') := by
  have hrow := h.rows.R i v _ hv (bMid_at hi)
  have hblk : ∀ g, v.ownBlock = some g → D ≤ g ∧ g < w.heap.size := fun g hgv => hrow.block g hgv
  have hzd : z = (tVal l (colJ f k) q).getD i 0 := by rw [List.getD_eq_getElem?_getD, hz]; rfl
  have hp := h.rows.push hv (bMid_at hi) hgo hg hown hb
  rw [hzd, bMid_set hi] at hp
  refine ⟨fun j h1 h2 => ?_, hp, ?_, ?_, fun j y hy => ?_, fun a ha => ?_, fun j u a hu ha => ?_, ?_⟩
  · refine (Below.heap_setCell w1 ⟨go, i, none⟩ v' j h2).trans ((hg.block j (by have := h.sz; omega) fun e => ?_).trans (h.fix j h1 h2))
    have := hblk j e.symm
    omega
  · exact (h.b.grown hg h.b.size fun j hj => by have := hblk j hj; omega).setCell (p := ⟨go, i, none⟩) h0 _
  · have h9 := (KeepsOthers.setCell w1 ⟨go, i, none⟩ v').size
    have h8 := hg.size
    have h7 := h.sz
    omega
  · obtain ⟨b, off, ha, hc⟩ := h.c j y hy
    refine ⟨b, off, ha, ?_⟩
    have h1 := Rgb.grow_cell hg hc fun e => h.ap i v _ hv ha e.symm
    have h2 := (h.lo _ ha).1
    exact (World.cell?_of_block (a := ⟨b, off + j, none⟩) (Below.heap_setCell w1 ⟨go, i, none⟩ v' b (by simp at h2 ⊢; omega))).trans h1
  · have h1 := h.lo a ha
    have h9 := (KeepsOthers.setCell w1 ⟨go, i, none⟩ v').size
    have h8 := hg.size
    omega
  · rw [List.getElem?_set] at hu
    split at hu
    · split at hu
      · obtain rfl := Option.some.inj hu
        rcases hb with h1 | ⟨g, h1, h2⟩
        · rw [h1]; exact h.ap i v a hv ha
        · rw [h1]
          have := (h.lo a ha).2
          intro e
          have := Option.some.inj e
          omega
      · cases hu
    · exact h.ap j u a hu ha
  · refine (h.ko.trans (KeepsOthers.of_grownBy hg fun j o hj ho => ?_)).trans (KeepsOthers.setCell _ _ _)
    rcases hrow.2 with ⟨rfl, _⟩ | ⟨g, cap, cur, rfl, _, hgg, _⟩
    · cases hj
    · simp only [Value.ownBlock, Option.some.injEq] at hj
      subst hj
      rw [hgg] at ho
      obtain rfl := Option.some.inj ho
      rfl
set_option maxRecDepth 100000 in
set_option maxHeartbeats 4000000 in
theorem bthrough_c (A B : Option Addr) (l : List Int) (f : List (List Int)) (c d : Nat) (q : Int) (w : World) (hA : Cells w A (l.map (.int .u64))) (hB : Grid w B f) (hl : l.length ≤ 100000) (hlf : f.length ≤ 100000) (hwd : wide f ≤ 100000) (hu : U64s l) (hw : Words f) (hq : U64 q) :
    Calls Tryd.prog 47 #[.slice A l.length c, .slice B f.length d, .int .u64 q] w (NewTwoRows (bVal l f q) (bErr l f q) w) := by
  refine (callsIn_wide (n := 10)).1 ?_
  refine callsIn_of_wp_marks Tryd.func47 rfl trivial ?_ rfl
  refine (wpIn_wide (n := 10)).2 ?_
  simp only [Tryd.ntmps47, List.size_toArray, List.length_cons, List.length_nil, Nat.reduceAdd, Nat.reduceSub, Array.replicate_succ, Array.replicate_zero, List.push_toArray, List.append_toArray, List.nil_append, List.cons_append]
  go_wp2
  have hX := (((row1_new w [.slice A l.length c] 23).alloc (.cells #[.int .u64 q] 24)).alloc (.cells #[.slice none 0 0] 22)).alloc (.cells #[.int .i64 0] 29)
  have hQ := ((row1_in (w.alloc (.cells #[.slice A l.length c] 23)) [.int .u64 q] 24 (w.heap.size + 1) (by simp)).alloc (.cells #[.slice none 0 0] 22)).alloc (.cells #[.int .i64 0] 29)
  have hR1 := (row1_in ((w.alloc (.cells #[.slice A l.length c] 23)).alloc (.cells #[.int .u64 q] 24)) [.slice none 0 0] 22 (w.heap.size + 1 + 1) (by simp)).alloc (.cells #[.int .i64 0] 29)
  have hR2 := row1_in (((w.alloc (.cells #[.slice A l.length c] 23)).alloc (.cells #[.int .u64 q] 24)).alloc (.cells #[.slice none 0 0] 22)) [.int .i64 0] 29 (w.heap.size + 1 + 1 + 1) (by simp)
  have hb0 := (((below_alloc w (.cells #[.slice A l.length c] 23)).alloc (by simp) (.cells #[.int .u64 q] 24)).alloc (by simp; omega) (.cells #[.slice none 0 0] 22)).alloc (by simp; omega) (.cells #[.int .i64 0] 29)
  simp only [List.toArray] at hX hQ hR1 hR2
  have hc1 := hX.cell (k := 0) rfl
  have hc2 := hQ.cell (k := 0) rfl
  have hz64 : U64s (List.replicate f.length (0 : Int)) := fun z hz => by rw [(List.mem_replicate.1 hz).2]; exact ⟨by omega, by omega⟩
  have hte := tErr_any (xs := l) (ys := List.replicate f.length 0) (q := q) (f := f) List.length_replicate
  have HZ := hid (⟨hz64, hte⟩ : _ ∧ _)
  clear hz64 hte
  obtain ⟨be, hbe⟩ : ∃ b, bErr l f q = b := ⟨_, rfl⟩
  rw [hbe] at HZ
  obtain ⟨w1, hw1⟩ : ∃ w1, (((w.alloc (.cells #[.slice A l.length c] 23)).alloc (.cells #[.int .u64 q] 24)).alloc (.cells #[.slice none 0 0] 22)).alloc (.cells #[.int .i64 0] 29) = w1 := ⟨_, rfl⟩
  rw [hw1] at hX hQ hR1 hR2 hb0 hc1 hc2 ⊢
  have HBE := hid hbe
  clear hw1 hbe
  refine Rgb.wp_region (l := [_, _, _, _, _, _, _, _, _, _]) (tail := [_]) (Rgb.grows _ 11) [some 17, some 18, some 19, some 20, some 21, some 22, some 16, some 23, some 24, some 8, some 9] 65 (by kernel_rfl) (by kernel_rfl) (by kernel_rfl) rfl (Rgb.grows_fair _ _) (Rgb.keep_drew _) (trivial) ?_
  refine Rgb.op_is (.slice A l.length c) [] rfl rfl (by kernel_rfl) ?_ ?_
  · intro wx hb
    refine Rgb.from_nil fun T hT => ?_
    have g1 := (hb.cell (lt_of_cell hc1)).trans hc1
    go_wp2
    exact hT _ _ rfl (by first | exact Rgb.Keep.refl _ | exact below_of_dr hw2 | exact hw2 | exact (Below.refl _ _).alloc (Nat.le_refl _) _) (by first | rfl | exact congrArg _ (by decide))
  refine' Rgb.op_is _ [] rfl rfl (by kernel_rfl) ?_ ?_
  rotate_left
  · intro wx hb
    refine Rgb.from_nil fun T hT => ?_
    go_wp2
    refine hT _ _ rfl (by first | exact Rgb.Keep.refl _ | exact below_of_dr hw2 | exact hw2 | exact (Below.refl _ _).alloc (Nat.le_refl _) _) ?_
    simp only [Rgb.last, List.getElem?_toArray, List.getElem?_cons_succ, List.getElem?_cons_zero, Option.getD_some]
    rfl
  refine Rgb.op_is (.int .i64 (f.length : Int)) [1] rfl rfl (by kernel_rfl) ?_ ?_
  · intro wx hb
    refine Rgb.from_is (some 18) rfl rfl ?_
    refine Rgb.from_nil fun T hT => ?_
    go_wp2
    exact hT _ _ rfl (by first | exact Rgb.Keep.refl _ | exact below_of_dr hw2 | exact hw2 | exact (Below.refl _ _).alloc (Nat.le_refl _) _) (by first | rfl | exact congrArg _ (by decide))
  refine Rgb.op_of (fun w' v => Own w' w1.heap.size 24 v ((List.replicate f.length (0 : Int)).map (.int .u64))) [2] rfl ?_ ?_ rfl (by kernel_rfl) ?_ ?_
  · exact fun w1 w2 v hk h => h.below hk
  · exact fun w1 w2 v hk h => h.below hk
  · intro wx hb
    refine Rgb.from_is (some 19) rfl rfl ?_
    refine Rgb.from_nil fun T hT => ?_
    refine wpList_make_row elt_u64 _ rfl _ _ rfl .i64 .i64 _ _ f.length rfl rfl rfl rfl (by omega) (by omega) ?_
    intro w' h1 h2 h3
    go_wp2
    have h9 := (h1.own (Nat.le_refl _) (by rw [List.length_replicate]; omega)).from_ hb.size
    rw [List.length_replicate] at h9
    exact hT _ _ rfl h3 (by rw [List.map_replicate]; exact h9)
  refine Rgb.op_is (.int .u64 q) [] rfl rfl (by kernel_rfl) ?_ ?_
  · intro wx hb
    refine Rgb.from_nil fun T hT => ?_
    have g1 := (hb.cell (lt_of_cell hc2)).trans hc2
    go_wp2
    exact hT _ _ rfl (by first | exact Rgb.Keep.refl _ | exact below_of_dr hw2 | exact hw2 | exact (Below.refl _ _).alloc (Nat.le_refl _) _) (by first | rfl | exact congrArg _ (by decide))
  refine Rgb.op_of (fun _ v => ∃ u, v = Value.tuple #[u, .int .i64 be]) [0, 3, 4] rfl ?_ ?_ rfl (by kernel_rfl) ?_ ?_
  · exact fun _ _ _ _ h => h
  · exact fun _ _ _ _ h => h
  · intro wx hb
    refine Rgb.from_is (some 17) rfl rfl ?_
    refine Rgb.from_of (some 20) rfl rfl fun v20 h20 => ?_
    refine Rgb.from_is (some 21) rfl rfl ?_
    refine Rgb.from_nil fun T hT => ?_
    obtain ⟨A5, c5, rfl, g5⟩ := h20.form
    rw [List.length_map, List.length_replicate]
    have hp := pthrough_c A A5 l (List.replicate f.length 0) c c5 q wx ((hA.keep fun p hp => hb0.cell hp).below hb) g5 hl (by simp; omega) hu HZ.out.1 hq
    rw [List.length_replicate, HZ.out.2] at hp
    have HP := hid hp
    clear hp
    go_wp2_with (fail)
    refine HP.out.mono ?_
    rintro e w8 ⟨v, rfl, hown8, hb8⟩
    go_wp2
    exact hT _ _ rfl hb8 ⟨_, rfl⟩
  refine Rgb.op_of (fun _ v => ∃ u, v = Value.tuple #[u, .int .i64 be]) [5] rfl ?_ ?_ rfl (by kernel_rfl) ?_ ?_
  · exact fun _ _ _ _ h => h
  · exact fun _ _ _ _ h => h
  · intro wx hb
    refine Rgb.from_of (some 22) rfl rfl fun v22 h22 => ?_
    refine Rgb.from_nil fun T hT => ?_
    obtain ⟨u, rfl⟩ := h22
    go_wp2
    exact hT _ _ rfl (Rgb.Keep.refl _) ⟨_, rfl⟩
  refine Rgb.op_of (fun _ _ => True) [6] rfl ?_ ?_ rfl (by kernel_rfl) ?_ ?_
  · exact fun _ _ _ _ h => h
  · exact fun _ _ _ _ h => h
  · intro wx hb
    refine Rgb.from_of (some 16) rfl rfl fun v16 h16 => ?_
    refine Rgb.from_nil fun T hT => ?_
    obtain ⟨u, rfl⟩ := h16
    go_wp2
    exact hT _ _ rfl (Rgb.Keep.refl _) trivial
  refine Rgb.op_is (.int .i64 be) [6] rfl rfl (by kernel_rfl) ?_ ?_
  · intro wx hb
    refine Rgb.from_of (some 16) rfl rfl fun v16 h16 => ?_
    refine Rgb.from_nil fun T hT => ?_
    obtain ⟨u, rfl⟩ := h16
    go_wp2
    exact hT _ _ rfl (Rgb.Keep.refl _) rfl
  refine Rgb.op_of (fun _ _ => True) [7] rfl ?_ ?_ rfl (by kernel_rfl) ?_ ?_
  · exact fun _ _ _ _ h => h
  · exact fun _ _ _ _ h => h
  · intro wx hb
    refine Rgb.from_of (some 23) rfl rfl fun v23 h23 => ?_
    refine Rgb.from_nil fun T hT => ?_
    go_wp2
    exact hT _ _ rfl (Rgb.Keep.refl _) trivial
  refine Rgb.walk_nil [0, 1, 2, 3, 4, 5, 6, 7, 8, 9] (by kernel_rfl) ?_
  intro wx hb
  refine Rgb.from_is (some 17) rfl rfl ?_
  refine Rgb.from_is (some 18) rfl rfl ?_
  refine Rgb.from_is (some 19) rfl rfl ?_
  refine Rgb.from_of (some 20) rfl rfl fun v20 h20 => ?_
  refine Rgb.from_is (some 21) rfl rfl ?_
  refine Rgb.from_of (some 22) rfl rfl fun v22 h22 => ?_
  refine Rgb.from_of (some 16) rfl rfl fun v16 h16 => ?_
  refine Rgb.from_of (some 23) rfl rfl fun v23 h23 => ?_
  refine Rgb.from_is (some 24) rfl rfl ?_
  refine Rgb.from_of (some 8) rfl rfl fun v8 h8 => ?_
  refine Rgb.from_nil ?_
  simp only [List.map, Act.put, List.setIfInBounds_toArray, List.set_cons_zero, List.set_cons_succ]
  have hR1x := hR1.below hb
  have hR2x := hR2.below hb
  have hb1 := below_next hb0 hb0.size hb
  by_cases he : be = 0
  · have hbn : (be != 0) = false := by rw [he]; rfl
    have hcX := (hX.below hb).cell (k := 0) rfl
    have hXx := hX.below hb
    have hQx := hQ.below hb
    have HE0 := hid he
    have hz0 := hb1.size
    clear he hX hQ hR1 hR2 hb0 hb hc1 hc2 h8 h16 h20 h22 h23 HZ
    go_wp2_with (at_make; refine wpList_make_row elt_rows _ rfl _ _ rfl .i64 .i64 _ _ l.length rfl rfl rfl rfl (by omega) (by omega) ?_; intro w2 hr2 hs2 hb2)
    have hX3 := (hXx.below hb2).alloc (.cells #[.slice (some ⟨wx.heap.size, 0, none⟩) l.length l.length] 22)
    have hQ3 := (hQx.below hb2).alloc (.cells #[.slice (some ⟨wx.heap.size, 0, none⟩) l.length l.length] 22)
    have hR13 := (hR1x.below hb2).alloc (.cells #[.slice (some ⟨wx.heap.size, 0, none⟩) l.length l.length] 22)
    have hR23 := (hR2x.below hb2).alloc (.cells #[.slice (some ⟨wx.heap.size, 0, none⟩) l.length l.length] 22)
    have hO3 := hr2.alloc (.cells #[.slice (some ⟨wx.heap.size, 0, none⟩) l.length l.length] 22)
    have hC3 := row1_in w2 [.slice (some ⟨wx.heap.size, 0, none⟩) l.length l.length] 22 (wx.heap.size + 1) (by rw [hs2])
    have hb3 := below_next (below_next hb1 hb1.size hb2) (by omega) (below_alloc w2 (.cells #[.slice (some ⟨wx.heap.size, 0, none⟩) l.length l.length] 22))
    have hlx := hXx.lt
    have hlq := hQx.lt
    have hl1 := hR1x.lt
    have hl2 := hR2x.lt
    obtain ⟨w3, hw3⟩ : ∃ w3, w2.alloc (.cells #[.slice (some ⟨wx.heap.size, 0, none⟩) l.length l.length] 22) = w3 := ⟨_, rfl⟩
    try simp only [List.toArray] at hC3
    rw [hw3] at hX3 hQ3 hR13 hR23 hO3 hC3 hb3
    have hs3 := hC3.lt
    obtain ⟨go, hgo⟩ : ∃ go, wx.heap.size = go := ⟨_, rfl⟩
    try rw [hs2]
    rw [hw3]
    rw [hgo] at hO3 hC3 hlx hlq hl1 hl2 hs3 hz0 ⊢
    clear hw3 hr2 hb2 hb1 hcX hXx hQx hR1x hR2x hs2 hgo
    refine (columns_c B f d w3 (hB.below hb3)).mono ?_
    rintro e w4 ⟨g1, g2, g3, rfl, hF, hb4, hg1, hg2, hg3⟩
    have hX4 := hX3.below hb4
    have hQ4 := hQ3.below hb4
    have hR14 := hR13.below hb4
    have hR24 := hR23.below hb4
    have hC4 := hC3.below hb4
    have hs4 := hb4.size
    have hlF1 := hF.r1.lt
    have hlF2 := hF.r2.lt
    have hlF3 := hF.r3.lt
    have hlgo : go < w4.heap.size := by omega
    have S : Bs B f d g1 g2 g3 l q w4.heap.size go w w4 [] w4 := ⟨fun _ _ _ => rfl, ⟨_, by rw [List.length_nil, bPart_zero]; exact Rws.nils (hO3.below hb4)⟩, below_next hb3 hb3.size hb4, Nat.le_refl _⟩
    have hFit : ∀ W, (∀ k, k < w4.heap.size → k ≠ go → W.heap[k]? = w4.heap[k]?) → Below w.heap.size w W → Fit B f d g1 g2 g3 W := fun W h1 h2 => ⟨hF.r1.keep (h1 _ hlF1 (by omega)), hF.r2.keep (h1 _ hlF2 (by omega)), hF.r3.keep (h1 _ hlF3 (by omega)), hB.below h2⟩
    have HFIT := hid hFit
    clear hX3 hQ3 hR13 hR23 hC3 hb3 hO3 hb4 hFit
    go_wp2
    refine (wpIn_wide (n := 10)).1 ?_
    refine wpIn_rangeRow (n := 10) rfl (by decide) (gf := 147) (lb := #[.pointer (some ⟨g1, 0, none⟩), .pointer (some ⟨g3, 0, none⟩)]) rfl trivial (enters_of Tryd.func147 (by kernel_rfl) rfl) (encs := fun y : Nat × Value => #[.int .i64 (y.1 : Int), y.2]) (fun _ => rfl)
      (Bs B f d g1 g2 g3 l q w4.heap.size go w w4) (fun pre y W => pre.map Prod.fst = List.range y.1 ∧ y.1 < wide f ∧ RowT W 24 y.2 ((colJ f y.1).map (.int .u64))) (fun xs => xs.map Prod.fst = List.range (wide f)) (fun B1 B2 => Fit B f d g1 g2 g3 B1 → Fit B f d g1 g2 g3 B2)
      ?ib ?ip ?op (fun _ _ _ h1 h2 h3 => h2 (h1 h3)) (fun B1 l o o' _ h1 h2 h3 => h3.put o' h1 h2) S ?it ?a₁ ?assign ?body ?done
    case assign =>
      intro l y W K hK
      gi_wp2
      exact hK
    case ib =>
      rintro xs B1 B2 hs h hb
      obtain ⟨vs, hr⟩ := h.rows
      exact ⟨fun k h1 h2 => (hb.block k (by omega)).trans (h.fix k h1 h2), ⟨vs, hr.below hb⟩, below_next h.b h.b.size hb, Nat.le_trans h.sz hb.size⟩
    case ip =>
      rintro xs B1 m o o' h hs h1 h2
      obtain ⟨vs, hr⟩ := h.rows
      exact ⟨fun k h3 h4 => (World.putObj_heap_other (by omega)).trans (h.fix k h3 h4), ⟨vs, hr.put o' h1 h2⟩, below_put o' h.b (by have := S.b.size; omega), by simpa using h.sz⟩
    case op => exact fun pre y B1 m o o' h hs h1 h2 => ⟨h.1, h.2.1, h.2.2.put o' h1 h2⟩
    case it =>
      intro m J W hbW hJ hY h0
      exact callsIn_wide.2 (columns2_c B f d g1 g2 g3 m 8 W J hJ (fun pre y W' hs hj hpre hlt hrt => hY pre y W' hs hj ⟨hpre, hlt, hrt⟩) (hF.below hbW) (by omega) (by omega) h0)
    case body =>
      rintro m pre ⟨k, v⟩ W hsW hI ⟨hpre, hlt, hrt⟩
      dsimp only at hlt hrt hpre
      obtain ⟨A5, c5, rfl, hcs, hln⟩ := hrt.form
      rw [List.length_map] at hln ⊢
      have hcX := (hX4.keep (hI.fix _ hX4.lt (by omega))).cell (k := 0) rfl
      have hcQ := (hQ4.keep (hI.fix _ hQ4.lt (by omega))).cell (k := 0) rfl
      have huc : U64s (colJ f k) := colJ_u64 hw k
      have hcl : (colJ f k).length = f.length := colJ_len f k
      have hte : tErr l (colJ f k) q = 0 := by rw [tErr_any (f := f) hcl, HBE.out, HE0.out]
      have hp := pthrough_c A A5 l (colJ f k) c c5 q W (hA.keep fun p hp => hI.b.cell hp) hcs hl (by omega) hu huc hq
      rw [hte] at hp
      have htl := tVal_len hte
      have htu := tVal_u64 l (colJ f k) q
      have HP := hid (⟨hp, htl, htu⟩ : _ ∧ _ ∧ _)
      clear hp htl htu hte hcl huc
      gi_wp2_with (fail)
      refine ⟨trivial, Rgb.calls_in_round (HP.out.1.mono ?_)⟩
      rintro e W1 ⟨v13, rfl, ho13, hb13⟩
      have hnb : ((0 : Int) != 0) = false := by decide
      obtain ⟨A6, c6, rfl, hc6⟩ := ho13.form
      rw [List.length_map, HP.out.2.1]
      have hpl : pre.length = k := by have := congrArg List.length hpre; simpa using this
      obtain ⟨vs, hr⟩ := hI.rows
      have hszW := hI.sz
      have hM : Mi A6 l f q k w4.heap.size go w w4 W vs 0 W1 := by
        have hr1 := hr.below hb13
        rw [hpl, ← bMid_zero] at hr1
        refine ⟨fun j h1 h2 => (hb13.block j (by omega)).trans (hI.fix j h1 h2), hr1, below_next hI.b hI.b.size hb13, Nat.le_trans hI.sz hb13.size, fun j z hz => hc6.at_map hz, fun a ha => ?_, fun j v a hv ha hva => ?_, KeepsOthers.mk hb13.size fun k o hk _ => (hb13.block k (Array.getElem?_eq_some_iff.1 hk).1).trans hk⟩
        · have := ho13.block a.block (by rw [ha]; rfl)
          omega
        · have h1 := ho13.block a.block (by rw [ha]; rfl)
          have hj : j < (bPart l f q pre.length).length := by rw [← hr.len]; exact (List.getElem?_eq_some_iff.1 hv).1
          have h2 := (hr.R j v _ hv (List.getElem?_eq_getElem hj)).block _ hva
          omega
      have hcO := (hC4.keep (hM.fix _ hC4.lt (by omega))).cell (k := 0) rfl
      have HTU := HP.out.2.2
      have HTL := hid HP.out.2.1
      have hkw : k < wide f := hlt
      clear hc6 ho13 hcs hcX hcQ hI hr hrt HP hb13 hlt hpre
      gi_wp2
      clear hcO
      gi_loopw [15, 47] (fun _ i wr => ∃ (k' : Nat) (vs : List Value), i = .int .i64 k' ∧ k' ≤ l.length ∧ Mi A6 l f q k w4.heap.size go w w4 W vs k' wr) (fun _ i _ => l.length - (intOf i).toNat)
      case atStart => exact ⟨0, vs, rfl, by omega, hM⟩
      case round =>
        obtain ⟨k', vs, rfl, hk', hM⟩ := hrel
        have hcO := (hC4.keep (hM.fix _ hC4.lt (by omega))).cell (k := 0) rfl
        by_cases hlt2 : k' < l.length
        · obtain ⟨z, hz⟩ := get_of_lt (l := tVal l (colJ f k) q) (show k' < _ by rw [HTL.out]; exact hlt2)
          obtain ⟨v, hv⟩ := get_of_lt (l := vs) (show k' < vs.length by rw [hM.rows.len, bMid_len]; exact hlt2)
          have huz := HTU.at_ hz
          have hown := hM.rows.R k' v _ hv (bMid_at hlt2)
          obtain ⟨b6, off6, rfl, hcz⟩ := hM.c k' z hz
          have hcv := hM.rows.O.cell hv
          have hneg : some go ≠ v.ownBlock := fun e => by have := hown.block go e.symm; omega
          have hneO : some (go + 1) ≠ v.ownBlock := fun e => by have := hown.block (go + 1) e.symm; have := hC4.lt; omega
          have hnez : some b6 ≠ v.ownBlock := fun e => hM.ap k' v _ hv rfl e.symm
          have hrl : ((((List.range k).map fun j => (tVal l (colJ f j) q).getD k' 0)).map (Value.int .u64)).length = k := by simp
          have HZ := hid (⟨hz, hv, hrl⟩ : _ ∧ _ ∧ _)
          clear hz hv hrl
          gi_wp2
          refine Rgb.round_region (by rintro ⟨a, w, h⟩; cases h.1) (L := [_, _, _, _, _, _, _, _, _, _, _, _]) (tail := [_, _]) (Rgb.growWay wr v.ownBlock 11) [some 50, some 51, some 52, some 53, some 54, some 55, some 56, some 57, some 58, some 59, some 60, some 61, some 62, none] 65 (by kernel_rfl) (by kernel_rfl) (by kernel_rfl) (by kernel_rfl) rfl (Rgb.growWay_fair _ _ _) (Rgb.grow_drew _ _) (Rgb.keep_drew _) ?_
          refine Rgb.op_is (.slice (some ⟨go, 0, none⟩) l.length l.length) [] rfl rfl (by kernel_rfl) ?_ ?_
          · intro wx hb
            refine Rgb.from_nil fun T hT => ?_
            have g1 := Rgb.grow_cell hb hcO hneO
            go_wp2
            exact hT _ _ rfl (by first | exact Rgb.Keep.refl _ | exact below_of_dr hw2 | exact hw2 | exact (Below.refl _ _).alloc (Nat.le_refl _) _) (by first | rfl | exact congrArg _ (by decide))
          refine' Rgb.op_is _ [] rfl rfl (by kernel_rfl) ?_ ?_
          rotate_left
          · intro wx hb
            refine Rgb.from_nil fun T hT => ?_
            go_wp2
            refine hT _ _ rfl (by first | exact Rgb.Keep.refl _ | exact below_of_dr hw2 | exact hw2 | exact (Below.refl _ _).alloc (Nat.le_refl _) _) ?_
            simp only [Rgb.last, List.getElem?_toArray, List.getElem?_cons_succ, List.getElem?_cons_zero, Option.getD_some]
            rfl
          refine Rgb.op_is (.slice (some ⟨go, 0, none⟩) l.length l.length) [] rfl rfl (by kernel_rfl) ?_ ?_
          · intro wx hb
            refine Rgb.from_nil fun T hT => ?_
            have g1 := Rgb.grow_cell hb hcO hneO
            go_wp2
            exact hT _ _ rfl (by first | exact Rgb.Keep.refl _ | exact below_of_dr hw2 | exact hw2 | exact (Below.refl _ _).alloc (Nat.le_refl _) _) (by first | rfl | exact congrArg _ (by decide))
          refine' Rgb.op_is _ [] rfl rfl (by kernel_rfl) ?_ ?_
          rotate_left
          · intro wx hb
            refine Rgb.from_nil fun T hT => ?_
            go_wp2
            refine hT _ _ rfl (by first | exact Rgb.Keep.refl _ | exact below_of_dr hw2 | exact hw2 | exact (Below.refl _ _).alloc (Nat.le_refl _) _) ?_
            simp only [Rgb.last, List.getElem?_toArray, List.getElem?_cons_succ, List.getElem?_cons_zero, Option.getD_some]
            rfl
          refine Rgb.op_is (.pointer (some ⟨go, k', none⟩)) [2, 3] rfl rfl (by kernel_rfl) ?_ ?_
          · intro wx hb
            refine Rgb.from_is (some 52) rfl rfl ?_
            refine Rgb.from_is (some 53) rfl rfl ?_
            refine Rgb.from_nil fun T hT => ?_
            go_wp2
            exact hT _ _ rfl (by first | exact Rgb.Keep.refl _ | exact below_of_dr hw2 | exact hw2 | exact (Below.refl _ _).alloc (Nat.le_refl _) _) (by first | rfl | exact congrArg _ (by decide))
          refine Rgb.op_is (v) [4] rfl rfl (by kernel_rfl) ?_ ?_
          · intro wx hb
            refine Rgb.from_is (some 54) rfl rfl ?_
            refine Rgb.from_nil fun T hT => ?_
            have g1 := Rgb.grow_cell hb hcv hneg
            go_wp2
            exact hT _ _ rfl (by first | exact Rgb.Keep.refl _ | exact below_of_dr hw2 | exact hw2 | exact (Below.refl _ _).alloc (Nat.le_refl _) _) (by first | rfl | exact congrArg _ (by decide))
          refine' Rgb.op_is _ [] rfl rfl (by kernel_rfl) ?_ ?_
          rotate_left
          · intro wx hb
            refine Rgb.from_nil fun T hT => ?_
            go_wp2
            refine hT _ _ rfl (by first | exact Rgb.Keep.refl _ | exact below_of_dr hw2 | exact hw2 | exact (Below.refl _ _).alloc (Nat.le_refl _) _) ?_
            simp only [Rgb.last, List.getElem?_toArray, List.getElem?_cons_succ, List.getElem?_cons_zero, Option.getD_some]
            rfl
          refine' Rgb.op_is _ [] rfl rfl (by kernel_rfl) ?_ ?_
          rotate_left
          · intro wx hb
            refine Rgb.from_nil fun T hT => ?_
            go_wp2
            refine hT _ _ rfl (by first | exact Rgb.Keep.refl _ | exact below_of_dr hw2 | exact hw2 | exact (Below.refl _ _).alloc (Nat.le_refl _) _) ?_
            simp only [Rgb.last, List.getElem?_toArray, List.getElem?_cons_succ, List.getElem?_cons_zero, Option.getD_some]
            rfl
          refine Rgb.op_is (.pointer (some ⟨b6, off6 + k', none⟩)) [6, 7] rfl rfl (by kernel_rfl) ?_ ?_
          · intro wx hb
            refine Rgb.from_is (some 56) rfl rfl ?_
            refine Rgb.from_is (some 57) rfl rfl ?_
            refine Rgb.from_nil fun T hT => ?_
            go_wp2
            exact hT _ _ rfl (by first | exact Rgb.Keep.refl _ | exact below_of_dr hw2 | exact hw2 | exact (Below.refl _ _).alloc (Nat.le_refl _) _) (by first | rfl | exact congrArg _ (by decide))
          refine Rgb.op_is (.int .u64 z) [8] rfl rfl (by kernel_rfl) ?_ ?_
          · intro wx hb
            refine Rgb.from_is (some 58) rfl rfl ?_
            refine Rgb.from_nil fun T hT => ?_
            have g1 := Rgb.grow_cell hb hcz hnez
            go_wp2
            exact hT _ _ rfl (by first | exact Rgb.Keep.refl _ | exact below_of_dr hw2 | exact hw2 | exact (Below.refl _ _).alloc (Nat.le_refl _) _) (by first | rfl | exact congrArg _ (by decide))
          refine Rgb.op_till (fun w' u => ∃ g, u = Value.slice (some ⟨g, 0, none⟩) 1 1 ∧ Row1 w' g 24 [.int .u64 z]) [9] rfl ?_ rfl (by kernel_rfl) ?_ ?_
          · exact fun w1 w2 v hk ⟨g, e, h⟩ => ⟨g, e, h.below hk⟩
          · intro wx hb
            refine Rgb.from_is (some 59) rfl rfl ?_
            refine Rgb.from_nil fun T hT => ?_
            go_wp2
            exact hT _ _ rfl (below_alloc _ _) ⟨_, rfl, row1_new wx [_] 24⟩
          refine Rgb.op_turn (fun w' u => Own w' w4.heap.size 24 u ((((List.range k).map fun j => (tVal l (colJ f j) q).getD k' 0) ++ [z]).map (.int .u64)) ∧ (u.ownBlock = v.ownBlock ∨ ∃ g, u.ownBlock = some g ∧ wr.heap.size ≤ g)) [5, 10] rfl ?_ rfl (by kernel_rfl) ?_ ?_
          · exact fun w1 w2 v hk h => ⟨h.1.below hk, h.2⟩
          · intro wx hb hb1
            refine Rgb.from_is (some 55) rfl rfl ?_
            refine Rgb.from_till (some 60) rfl rfl fun v60 h60 => ?_
            refine Rgb.from_nil fun T hT => ?_
            obtain ⟨g, rfl, hg⟩ := h60
            refine wpList_push_at elt_u64 _ rfl _ _ rfl w4.heap.size (hown.below hb1) rfl (.int .u64 z) g rfl hg rfl (by rw [HZ.out.2.2]; omega) (by rw [HZ.out.2.2]; omega) (Nat.le_trans hM.sz hb1.size) ?_
            intro v' w' hown' hgr hbl
            go_wp2
            exact hT _ _ rfl hgr ⟨by rw [List.map_append]; exact hown', hbl.imp id fun h => ⟨_, h, hb1.size⟩⟩
          refine Rgb.walk_nil [0, 1, 2, 3, 4, 5, 6, 7, 8, 9, 10, 11] (by kernel_rfl) ?_
          intro wx hb
          refine Rgb.from_is (some 50) rfl rfl ?_
          refine Rgb.from_is (some 51) rfl rfl ?_
          refine Rgb.from_is (some 52) rfl rfl ?_
          refine Rgb.from_is (some 53) rfl rfl ?_
          refine Rgb.from_is (some 54) rfl rfl ?_
          refine Rgb.from_is (some 55) rfl rfl ?_
          refine Rgb.from_is (some 56) rfl rfl ?_
          refine Rgb.from_is (some 57) rfl rfl ?_
          refine Rgb.from_is (some 58) rfl rfl ?_
          refine Rgb.from_is (some 59) rfl rfl ?_
          refine Rgb.from_gone (some 60) rfl rfl fun v60 => ?_
          refine Rgb.from_of (some 61) rfl rfl fun v61 h61 => ?_
          refine Rgb.from_nil ?_
          simp only [List.map, Act.put, List.setIfInBounds_toArray, List.set_cons_zero, List.set_cons_succ]
          obtain ⟨h61a, h61b⟩ := h61
          obtain ⟨A9, c9, h9e, _⟩ := h61a.form
          rw [show ((((List.range k).map fun j => (tVal l (colJ f j) q).getD k' 0) ++ [z]).map (Value.int .u64)).length = k + 1 by simp] at h9e
          subst h9e
          have hM2 := hM.step hlt2 HZ.out.2.1 HZ.out.1 hlgo (by omega) hb h61a h61b
          have hOx : Row1 wx go 23 vs := hM.rows.O.keep (hb.block go hM.rows.O.lt hneg)
          have hcx := hOx.cell HZ.out.2.1
          have hfx := hOx.frozen k'
          clear hM hcO hcv hcz hOx
          go_wp2
          gi_wp2
          go_roundw
          case rel => exact ⟨k' + 1, _, by go_num, by omega, hM2⟩
          case measure => simp [intOf]; omega
        · obtain rfl : k' = l.length := by omega
          gi_wp2
          refine (show GoesOn _ _ _ _ _ _ _ from ⟨rfl, hM.ko, fun _ => HFIT.out wr hM.fix hM.b, hM.ko.size, hM.fix, ⟨vs, ?_⟩, hM.b, hM.sz⟩)
          have h9 := hM.rows
          rw [bMid_all, ← hpl] at h9
          simpa using h9
    case done =>
      intro E xs W hD hS hI hK
      obtain ⟨vs, hr⟩ := hI.rows
      have hxl : xs.length = wide f := by have := congrArg List.length hS; simpa using this
      rw [hxl] at hr
      have hcO := (hC4.keep (hI.fix _ hC4.lt (by omega))).cell (k := 0) rfl
      have hR15 := hR14.keep (hI.fix _ hR14.lt (by omega))
      have hR25 := hR24.keep (hI.fix _ hR24.lt (by omega))
      have hc3 := hR15.cell (k := 0) rfl
      have hf3 := hR15.frozen 0
      have hR26 := hR25.far (p := ⟨w.heap.size + 1 + 1, 0, none⟩) (by simp) (.slice (some ⟨go, 0, none⟩) l.length l.length)
      have hc4 := hR26.cell (k := 0) rfl
      have hf4 := hR26.frozen 0
      have hR27 := hR26.set 0 (.int .i64 0)
      have hR17 := (hR15.set 0 (.slice (some ⟨go, 0, none⟩) l.length l.length)).far (p := ⟨w.heap.size + 1 + 1 + 1, 0, none⟩) (by simp) (.int .i64 0)
      have hc5 := hR17.cell (k := 0) rfl
      have hc6 := hR27.cell (k := 0) rfl
      have hE : w4.heap.size ≤ E := hD
      have hK1 : (W.setCell ⟨w.heap.size + 1 + 1, 0, none⟩ (.slice (some ⟨go, 0, none⟩) l.length l.length)).heap[E]? = some (.deferred (some [])) := (Below.heap_setCell W ⟨w.heap.size + 1 + 1, 0, none⟩ _ E (by simp; omega)).trans hK
      have hK2 : ((W.setCell ⟨w.heap.size + 1 + 1, 0, none⟩ (.slice (some ⟨go, 0, none⟩) l.length l.length)).setCell ⟨w.heap.size + 1 + 1 + 1, 0, none⟩ (.int .i64 0)).heap[E]? = some (.deferred (some [])) := (Below.heap_setCell _ ⟨w.heap.size + 1 + 1 + 1, 0, none⟩ _ E (by simp; omega)).trans hK1
      have hc5 := (hR17.put (.deferred none) hK2 rfl).cell (k := 0) rfl
      have hc6 := (hR27.put (.deferred none) hK2 rfl).cell (k := 0) rfl
      have hrk : ∀ (p : Addr) (u : Value) (W' : World), p.block < go → Rws go w4.heap.size vs (bPart l f q (wide f)) W' → Rws go w4.heap.size vs (bPart l f q (wide f)) (W'.setCell p u) := fun p u W' hp h9 => h9.keep fun k hk => Below.heap_setCell W' p u k (by
        rcases hk with rfl | ⟨j, v, hv, hg⟩
        · omega
        · have hj : j < (bPart l f q (wide f)).length := by rw [← h9.len]; exact (List.getElem?_eq_some_iff.1 hv).1
          have := (h9.R j v _ hv (List.getElem?_eq_getElem hj)).block k hg
          omega)
      have hr2 := (hrk ⟨w.heap.size + 1 + 1 + 1, 0, none⟩ (.int .i64 0) _ (by simp; omega) (hrk ⟨w.heap.size + 1 + 1, 0, none⟩ (.slice (some ⟨go, 0, none⟩) l.length l.length) _ (by simp; omega) hr)).put (.deferred none) hK2 rfl
      have hbW := below_put (.deferred none) ((hI.b.setCell (p := ⟨w.heap.size + 1 + 1, 0, none⟩) (by simp; omega) (.slice (some ⟨go, 0, none⟩) l.length l.length)).setCell (p := ⟨w.heap.size + 1 + 1 + 1, 0, none⟩) (by simp; omega) (.int .i64 0)) (Nat.le_trans S.b.size hE)
      have hbl : (bPart l f q (wide f)).length = l.length := by simp [bPart]
      have HR := hid hr2
      have HBW := hid hbW
      have hbv : bVal l f q = bPart l f q (wide f) := by unfold bVal; rw [HBE.out, HE0.out, if_pos rfl]
      have HBV := hid (⟨hbv, hbl⟩ : _ ∧ _)
      clear hbv hbl hR25 hR26 hR27 hR15 hR17 hI hr hr2 hrk hK1 hbW
      go_wp2
      refine ⟨by simp, .inl ⟨_, _, rfl, run_takeDeferred hK2, ?_⟩⟩
      refine ⟨.tuple #[.slice (some ⟨go, 0, none⟩) l.length l.length, .int .i64 0], by simp [results, Tryd.results47, go_sem, hc5, hc6], _, by rw [HBE.out, HE0.out], .inr ⟨go, w4.heap.size, vs, ?_, by omega, by omega, hlgo, ?_⟩, HBW.out⟩
      · rw [HBV.out.1, HBV.out.2]
      · rw [HBV.out.1]; exact HR.out
  · have hbn : (be != 0) = true := bne_iff_ne.2 he
    have hc3 := hR1x.cell (k := 0) rfl
    have hf3 := hR1x.frozen 0
    have hR2y := hR2x.far (p := ⟨w.heap.size + 1 + 1, 0, none⟩) (by simp) (.slice none 0 0)
    have hc4 := hR2y.cell (k := 0) rfl
    have hf4 := hR2y.frozen 0
    have hbv : bVal l f q = [] := by unfold bVal; rw [HBE.out, if_neg he]
    have HBV := hid hbv
    have hbw := (hb1.setCell (p := ⟨w.heap.size + 1 + 1, 0, none⟩) (by simp; omega) (.slice none 0 0)).setCell (p := ⟨w.heap.size + 1 + 1 + 1, 0, none⟩) (by simp; omega) (.int .i64 be)
    have hR1z := (hR1x.set 0 (.slice none 0 0)).far (p := ⟨w.heap.size + 1 + 1 + 1, 0, none⟩) (by simp) (.int .i64 be)
    have hR2z := hR2y.set 0 (.int .i64 be)
    have hc5 := hR1z.cell (k := 0) rfl
    have hc6 := hR2z.cell (k := 0) rfl
    clear hbv he hX hQ hR1 hR2 hb0 hb hR1x hR2x hR2y hR1z hR2z h8 h16 h20 h22 h23
    go_wp2
    exact ⟨.tuple #[.slice none 0 0, .int .i64 be], by simp [results, Tryd.results47, go_sem, hc5, hc6], _, by rw [HBE.out], .inl ⟨rfl, HBV.out⟩, hbw⟩
end Go.Proofs.YtcojnjhffmhbiaaDoor
end

section
namespace Go.Proofs.YtcojnjhffmhbiaaDoor
open Go Go.RowKit
theorem OwnRows.grid {w : World} {base : Nat} {v : Value} {f : List (List Int)} (h : OwnRows w base 23 24 v (f.map (·.map (.int .u64)))) : ∃ A c, v = .slice A f.length c ∧ Grid w A f ∧ f.length ≤ 9223372036854775807 := by
  obtain ⟨vs, h1, h2, h3⟩ := h
  have hl := h1.len_le
  rw [List.length_map] at h2
  obtain ⟨A, c, rfl, hc⟩ := h1.form
  rw [h2]
  refine ⟨A, c, rfl, ⟨vs, hc, h2, fun i l hl => ?_⟩, by omega⟩
  obtain ⟨u, hu⟩ := get_of_lt (l := vs) (show i < vs.length by have := (List.getElem?_eq_some_iff.1 hl).1; omega)
  refine ⟨u, hu, ?_⟩
  obtain ⟨A', c', rfl, h4, h5⟩ := (h3 i u (l.map (.int .u64)) hu (by rw [List.getElem?_map, hl]; rfl)).form
  exact ⟨A', c', by rw [List.length_map], h4, by simpa using h5⟩
end Go.Proofs.YtcojnjhffmhbiaaDoor
end

section
namespace Go.Proofs.YtcojnjhffmhbiaaDoor
open Go.RowKit
attribute [local go_sem] Oper.semAt_some
theorem ev_pad (l : List Int) (W : Nat) (y : Int) (h : l.length ≤ W) : ev ((List.range W).map fun j => l.getD j 0) y = ev l y := by
  have e : ((List.range W).map fun j => l.getD j 0) = l ++ List.replicate (W - l.length) 0 := by
    apply List.ext_getElem?
    intro i
    rw [List.getElem?_map]
    rcases Nat.lt_or_ge i W with h1 | h1
    · rw [List.getElem?_range h1, Option.map_some, List.getD_eq_getElem?_getD]
      rcases Nat.lt_or_ge i l.length with h2 | h2
      · rw [List.getElem?_append_left h2, List.getElem?_eq_getElem h2]; rfl
      · rw [List.getElem?_append_right h2, List.getElem?_replicate, if_pos (by omega), List.getElem?_eq_none h2]; rfl
    · rw [List.getElem?_eq_none (by simpa using h1), List.getElem?_eq_none (by simp; omega)]; rfl
  have e0 : ∀ m, ev (List.replicate m 0) y = 0 := by
    intro m
    induction m with
    | zero => rfl
    | succ m ih => rw [List.replicate_succ, ev_cons, ih]; simp
  rw [e, ev_append, e0]; simp
theorem ev_two (a b : Nat → Int) (x y : Int) : ∀ (l : List Nat), ev (l.map fun j => a j + x * b j) y = ev (l.map a) y + x * ev (l.map b) y
  | [] => by simp [ev]
  | j :: l => by simp only [List.map_cons, ev_cons, ev_two a b x y l]; grind
theorem rows_cols (x y : Int) (W : Nat) : ∀ (f : List (List Int)), (∀ l ∈ f, l.length ≤ W) → ev ((List.range W).map fun j => ev (colJ f j) x) y = ev (f.map fun l => ev l y) x
  | [], _ => by
    have := ev_pad [] W y (by simp)
    simpa [colJ, ev] using this
  | l :: f, h => by
    have e : ((List.range W).map fun j => ev (colJ (l :: f) j) x) = (List.range W).map fun j => l.getD j 0 + x * ev (colJ f j) x := by
      apply List.map_congr_left
      intro j _
      simp only [colJ, List.map_cons, ev_cons]
    rw [e, ev_two, ev_pad l W y (h l (List.mem_cons_self ..)), rows_cols x y W f fun l' h' => h l' (List.mem_cons_of_mem _ h'), List.map_cons, ev_cons]
theorem cross_val (f : List (List Int)) (x y q : Int) : mEval (mRow f x q) y q = mAt f x y q := by
  unfold mAt
  by_cases hq : okm q = true
  · rw [mEval_ok hq, mEval_ok hq]
    have h1 : (mRow f x q).map (· % q) = ((List.range (wide f)).map fun j => ev (colJ f j) x).map (· % q) := by
      unfold mRow
      rw [List.map_map, List.map_map]
      apply List.map_congr_left
      intro j _
      simp [mEval_ok hq]
    have h2 : (mCol f y q).map (· % q) = (f.map fun l => ev l y).map (· % q) := by
      unfold mCol
      rw [List.map_map, List.map_map]
      apply List.map_congr_left
      intro j _
      simp [mEval_ok hq]
    rw [ev_congr rfl h1, ev_congr rfl h2, rows_cols x y (wide f) f fun l hl => le_wide hl]
  · rw [mEval_no (by simpa using hq), mEval_no (by simpa using hq)]
theorem bVal_eval {xs : List Int} {f : List (List Int)} {q : Int} (ivs : List Int) (h : unitsB xs q ivs = true) (hl : xs.length = f.length) : bErr xs f q = 0 ∧ bVal xs f q = (List.range xs.length).map fun i => (List.range (wide f)).map fun j => (pOutC xs (colJ f j) q ivs xs.length).getD i 0 := by
  obtain ⟨_, _, h1, _⟩ := units_ok h
  have he : bErr xs f q = 0 := by unfold bErr; rw [if_pos hl, h1]
  refine ⟨he, ?_⟩
  unfold bVal bPart
  rw [if_pos he]
  apply List.map_congr_left
  intro i _
  apply List.map_congr_left
  intro j _
  rw [(tVal_eval (ys := colJ f j) ivs h (by rw [colJ_len, hl])).2]
theorem ex_w1 : bErr [1, 2] [[4, 6], [7, 10]] 11 = 0 := (bVal_eval (xs := [1, 2]) (f := [[4, 6], [7, 10]]) (q := 11) [10, 1] (by decide) rfl).1
theorem ex_w1v : bVal [1, 2] [[4, 6], [7, 10]] 11 = [[1, 2], [3, 4]] := by rw [(bVal_eval (xs := [1, 2]) (f := [[4, 6], [7, 10]]) (q := 11) [10, 1] (by decide) rfl).2]; decide
theorem ex_w2 : bErr [1, 12] [[4, 6], [7, 10]] 11 = 6 := by
  have h1 : eUnlike [1, 12] 11 = 6 := by decide
  unfold bErr
  rw [if_pos (by decide), eAll_bad (by rw [h1]; decide), h1]
theorem ex_w3 : bErr [1, 2] [[4]] 11 = 1 := by unfold bErr; rw [if_neg (by decide)]
/-- lists that have just been laid. -/
theorem grid_ofW {w : World} {A : Option Addr} (rows : List (Nat × List Int)) (hA : Cells w A (rows.map fun r => Value.slice (some ⟨r.1, 0, none⟩) r.2.length r.2.length)) (hl : ∀ r ∈ rows, r.2.length ≤ 9223372036854775807) (hr : ∀ r ∈ rows, Row1 w r.1 24 (r.2.map (.int .u64))) : Grid w A (rows.map Prod.snd) := by
  refine ⟨_, hA, by simp, fun i l hi => ?_⟩
  rw [List.getElem?_map] at hi
  cases h : rows[i]? with
  | none => rw [h] at hi; cases hi
  | some r =>
    rw [h] at hi
    obtain rfl := Option.some.inj hi
    have hm := List.mem_of_getElem? h
    exact ⟨_, by rw [List.getElem?_map, h]; rfl, _, _, rfl, (hr r hm).cells, hl r hm⟩
theorem grid_two {w : World} {g g1 g2 : Nat} (l1 l2 : List Int) (hO : Row1 w g 23 [.slice (some ⟨g1, 0, none⟩) l1.length l1.length, .slice (some ⟨g2, 0, none⟩) l2.length l2.length]) (h1 : Row1 w g1 24 (l1.map (.int .u64))) (h2 : Row1 w g2 24 (l2.map (.int .u64))) (n1 : l1.length ≤ 1000) (n2 : l2.length ≤ 1000) : Grid w (some ⟨g, 0, none⟩) [l1, l2] :=
  grid_ofW [(g1, l1), (g2, l2)] hO.cells (by simp; omega) (by simp [h1, h2])
theorem grid_oneW {w : World} {g g1 : Nat} (l1 : List Int) (hO : Row1 w g 23 [.slice (some ⟨g1, 0, none⟩) l1.length l1.length]) (h1 : Row1 w g1 24 (l1.map (.int .u64))) (n1 : l1.length ≤ 1000) : Grid w (some ⟨g, 0, none⟩) [l1] :=
  grid_ofW [(g1, l1)] hO.cells (by simp; omega) (by simp [h1])
theorem words_of {f : List (List Int)} (h : (f.all fun l => l.all fun z => decide (0 ≤ z) && decide (z < 18446744073709551616)) = true) : Words f := by
  intro l hl z hz
  have := List.all_eq_true.1 (List.all_eq_true.1 h l hl) z hz
  simp only [Bool.and_eq_true, decide_eq_true_eq] at this
  exact this
theorem RowsR.grid {w : World} {base : Nat} {v : Value} {F : List (List Int)} (h : RowsR w base v F) (hl : F.length ≤ 1000000) : ∃ A c, v = .slice A F.length c ∧ Grid w A F := by
  rcases h with ⟨rfl, rfl⟩ | ⟨go, D, vs, rfl, h1, h2, _, h3⟩
  · exact ⟨none, 0, rfl, [], .inl rfl, rfl, fun i l h => by simp at h⟩
  · have h9 := h3.ownRows h1 h2 (by omega)
    obtain ⟨A, c, he, hg, _⟩ := OwnRows.grid (f := F) h9
    exact ⟨A, c, he, hg⟩
open Go.RowKit
attribute [local go_sem] Oper.semAt_some
set_option maxRecDepth 100000 in
set_option maxHeartbeats 4000000 in
theorem works06_c (w : World) : Calls Tryd.prog 43 #[] w fun e w' => e = .returned (.bool true) ∧ Below w.heap.size w w' := by
  have hq : U64 11 := ⟨by decide, by decide⟩
  have hB := Bun.nil w
  go_enter Tryd.func43, Tryd.ntmps43
  go_wp2_with (refine wpList_named hB rfl ?_; clear hB; intro wn gn hB hbn hg; (try rw [hg]); clear hg)
  have hf := grid_two [1, 2] [3, 4] (hB.row (i := 4) rfl) (hB.row (i := 6) rfl) (hB.row (i := 5) rfl) (by decide) (by decide)
  have hbw := hB.b
  refine (bthrough_c _ _ [1, 2] [[4, 6], [7, 10]] 2 2 11 wn (hB.row (i := 3) rfl).cells (grid_two [4, 6] [7, 10] (hB.row (i := 0) rfl) (hB.row (i := 2) rfl) (hB.row (i := 1) rfl) (by decide) (by decide)) (by decide) (by decide) (by decide) (u64s_of (by decide)) (words_of (by decide)) hq).mono ?_
  rintro e x1 ⟨v1, rfl, hr1, hb⟩
  rw [ex_w1]
  rw [ex_w1v] at hr1
  obtain ⟨A1, k1, rfl, hG1⟩ := hr1.grid (by decide)
  replace hf := hf.below hb
  replace hbw := below_next hbw hbw.size hb
  clear hr1 hb hB
  have hB := Bun.nil x1
  go_wp2_with (refine wpList_named hB rfl ?_; clear hB; intro wn gn hB hbn hg; (try rw [hg]); clear hg)
  have hs := hB.b
  replace hf := hf.below hs
  replace hG1 := hG1.below hs
  replace hbw := below_next hbw hbw.size hs
  refine (bthrough_c _ _ [1, 12] [[4, 6], [7, 10]] 2 2 11 wn (hB.row (i := 3) rfl).cells (grid_two [4, 6] [7, 10] (hB.row (i := 0) rfl) (hB.row (i := 2) rfl) (hB.row (i := 1) rfl) (by decide) (by decide)) (by decide) (by decide) (by decide) (u64s_of (by decide)) (words_of (by decide)) hq).mono ?_
  rintro e x2 ⟨v2, rfl, hr2, hb⟩
  rw [ex_w2]
  replace hf := hf.below hb
  replace hG1 := hG1.below hb
  replace hbw := below_next hbw hbw.size hb
  clear hr2 hb hs hB
  have hB := Bun.nil x2
  go_wp2_with (refine wpList_named hB rfl ?_; clear hB; intro wn gn hB hbn hg; (try rw [hg]); clear hg)
  have hs := hB.b
  replace hf := hf.below hs
  replace hG1 := hG1.below hs
  replace hbw := below_next hbw hbw.size hs
  refine (bthrough_c _ _ [1, 2] [[4]] 2 1 11 wn (hB.row (i := 2) rfl).cells (grid_oneW [4] (hB.row (i := 0) rfl) (hB.row (i := 1) rfl) (by decide)) (by decide) (by decide) (by decide) (u64s_of (by decide)) (words_of (by decide)) hq).mono ?_
  rintro e x3 ⟨v3, rfl, hr3, hb⟩
  rw [ex_w3]
  replace hf := hf.below hb
  replace hG1 := hG1.below hb
  replace hbw := below_next hbw hbw.size hb
  clear hr3 hb hs hB
  go_wp2_with (fail)
  refine (at_c _ [[1, 2], [3, 4]] 2 2 5 11 x3 hf (by decide) (words_of (by decide)) ⟨by decide, by decide⟩ ⟨by decide, by decide⟩ hq).mono ?_
  rintro e x4 ⟨rfl, hb⟩
  rw [show mAt [[1, 2], [3, 4]] 2 5 11 = 2 from by decide]
  replace hf := hf.below hb
  replace hG1 := hG1.below hb
  replace hbw := below_next hbw hbw.size hb
  clear hb
  go_wp2_with (fail)
  refine (brow_c _ [[1, 2], [3, 4]] 2 2 11 x4 hf (by decide) (by decide) (words_of (by decide)) ⟨by decide, by decide⟩ hq).mono ?_
  rintro e x5 ⟨v5, rfl, ho, hb⟩
  rw [show mRow [[1, 2], [3, 4]] 2 11 = [7, 10] from by decide] at ho
  obtain ⟨A5, k5, rfl, hc5⟩ := ho.form
  replace hf := hf.below hb
  replace hG1 := hG1.below hb
  replace hbw := below_next hbw hbw.size hb
  clear hb ho
  go_wp2_with (fail)
  refine (nums06_c A5 _ [7, 10] [7, 10] k5 2 _ (hc5.more (below_alloc _ _)) (new_cells x5 [7, 10] 24) (by decide) (by decide)).mono ?_
  rintro e x6 ⟨rfl, hw⟩
  rw [show decide (([7, 10] : List Int) = [7, 10]) = true from by decide]
  have hb := below_dr (below_alloc x5 (.cells #[.int .u64 7, .int .u64 10] 24)) hw
  replace hf := hf.below hb
  replace hG1 := hG1.below hb
  replace hbw := below_next hbw hbw.size hb
  clear hb hw hc5
  go_wp2_with (fail)
  refine (col_c _ [[1, 2], [3, 4]] 2 5 11 x6 hf (by decide) (words_of (by decide)) ⟨by decide, by decide⟩ hq).mono ?_
  rintro e x7 ⟨v7, rfl, ho, hb⟩
  rw [show mCol [[1, 2], [3, 4]] 5 11 = [0, 1] from by decide] at ho
  obtain ⟨A7, k7, rfl, hc7⟩ := ho.form
  replace hf := hf.below hb
  replace hG1 := hG1.below hb
  replace hbw := below_next hbw hbw.size hb
  clear hb ho
  go_wp2_with (fail)
  refine (nums06_c A7 _ [0, 1] [0, 1] k7 2 _ (hc7.more (below_alloc _ _)) (new_cells x7 [0, 1] 24) (by decide) (by decide)).mono ?_
  rintro e x8 ⟨rfl, hw⟩
  rw [show decide (([0, 1] : List Int) = [0, 1]) = true from by decide]
  have hb := below_dr (below_alloc x7 (.cells #[.int .u64 0, .int .u64 1] 24)) hw
  replace hf := hf.below hb
  replace hG1 := hG1.below hb
  replace hbw := below_next hbw hbw.size hb
  clear hb hw hc7
  go_wp2_with (fail)
  refine (polys_c A1 _ [[1, 2], [3, 4]] [[1, 2], [3, 4]] k1 2 x8 hG1 hf (by decide) (by decide)).mono ?_
  rintro e x9 ⟨rfl, hw⟩
  rw [show decide (([[1, 2], [3, 4]] : List (List Int)) = [[1, 2], [3, 4]]) = true from by decide]
  replace hbw := below_dr hbw hw
  clear hf hG1 hw
  go_wp2
  go_ret
  exact ⟨rfl, hbw⟩
end Go.Proofs.YtcojnjhffmhbiaaDoor
end

section
namespace Go.Proofs.YtcojnjhffmhbiaaDoor
open Go Go.RowKit Go.Maps Go.Shelf Go.Proofs
def valuesL (c xs : List Int) (q : Int) : List Int := xs.map fun x => mEval c x q
theorem valuesL_u64 (c xs : List Int) (q : Int) : U64s (valuesL c xs q) := by
  intro z hz
  obtain ⟨x, _, rfl⟩ := List.mem_map.1 hz
  exact mEval_u64 ..
theorem tmodR {z q : Int} (h : U64 z) : z.tmod q = z % q := Int.tmod_eq_emod_of_nonneg h.lo
end Go.Proofs.YtcojnjhffmhbiaaDoor
end

section
namespace Go.Lin
/-- numbers modulo N of which each but 0 has an inverse. -/
structure Fld (N : Nat) [NeZero N] : Prop where
  one : (1 : Fin N) ≠ 0
  inv : ∀ x : Fin N, x ≠ 0 → ∃ y, x * y = 1
variable {N : Nat} [NeZero N]
abbrev V (N : Nat) := Nat → Fin N
/-- what hangs on rows. -/
inductive Sp (R : List (V N)) : V N → Prop
  | zero : Sp R (fun _ => 0)
  | add {r u v : V N} (c : Fin N) : r ∈ R → Sp R u → (∀ j, v j = c * r j + u j) → Sp R v
theorem Sp.of_eq {R : List (V N)} {u v : V N} (h : Sp R u) (e : ∀ j, v j = u j) : Sp R v := by
  have : v = u := funext e
  rw [this]; exact h
theorem Sp.mem {R : List (V N)} {r : V N} (h : r ∈ R) : Sp R r := .add 1 h .zero fun j => by grind
theorem Sp.comb {R : List (V N)} {u v w : V N} (c : Fin N) (hu : Sp R u) (hv : Sp R v) (e : ∀ j, w j = c * u j + v j) : Sp R w := by
  induction hu generalizing w with
  | zero => exact hv.of_eq fun j => by have := e j; grind
  | add d hr _ hd ih =>
    rename_i r u' u _
    exact Sp.add (u := fun j => c * u' j + v j) (c * d) hr (ih fun j => rfl) fun j => by
      have h1 := e j
      have h2 := hd j
      grind
theorem Sp.trans {R R' : List (V N)} (h : ∀ r ∈ R, Sp R' r) {v : V N} (hv : Sp R v) : Sp R' v := by
  induction hv with
  | zero => exact .zero
  | add c hr _ e ih => exact (h _ hr).comb c ih e
theorem Sp.mono {R R' : List (V N)} (h : ∀ r ∈ R, r ∈ R') {v : V N} (hv : Sp R v) : Sp R' v := Sp.trans (fun r hr => Sp.mem (h r hr)) hv
theorem Sp.nil {v : V N} (h : Sp [] v) (j : Nat) : v j = 0 := by
  cases h with
  | zero => rfl
  | add c hr _ _ => cases hr
theorem Sp.split {r : V N} {R : List (V N)} {v : V N} (h : Sp (r :: R) v) : ∃ c u, Sp R u ∧ ∀ j, v j = c * r j + u j := by
  induction h with
  | zero => exact ⟨0, fun _ => 0, .zero, fun j => by grind⟩
  | add c hr _ e ih =>
    obtain ⟨d, u, hu, h2⟩ := ih
    rename_i r' u' v' _
    rcases List.mem_cons.1 hr with rfl | hr
    · exact ⟨c + d, u, hu, fun j => by have := e j; have := h2 j; grind⟩
    · exact ⟨d, fun j => c * r' j + u j, .add c hr hu fun j => rfl, fun j => by have := e j; have := h2 j; grind⟩
/-- what all rows have 0 at, all that hangs on them has. -/
theorem Sp.at_zero {R : List (V N)} {v : V N} {k : Nat} (h : Sp R v) (hz : ∀ r ∈ R, r k = 0) : v k = 0 := by
  induction h with
  | zero => rfl
  | add c hr _ e ih => have := e k; have := hz _ hr; grind
/-- rows with a place each: 1 there, 0 where the others have theirs. -/
structure Ech (L : List (Nat × V N)) : Prop where
  one : ∀ e ∈ L, e.2 e.1 = 1
  off : L.Pairwise fun e e' => e.2 e'.1 = 0 ∧ e'.2 e.1 = 0
theorem Ech.nil : Ech ([] : List (Nat × V N)) := ⟨fun e h => (by cases h), .nil⟩
theorem Ech.tail {e : Nat × V N} {L : List (Nat × V N)} (h : Ech (e :: L)) : Ech L := ⟨fun x hx => h.one x (List.mem_cons_of_mem _ hx), (List.pairwise_cons.1 h.off).2⟩
theorem Ech.rep {L : List (Nat × V N)} (h : Ech L) {v : V N} (hv : Sp (L.map (·.2)) v) (j : Nat) : v j = (L.map fun e => v e.1 * e.2 j).sum := by
  induction L generalizing v with
  | nil => exact hv.nil j
  | cons e L ih =>
    obtain ⟨c, u, hu, h2⟩ := Sp.split hv
    have h3 := ih h.tail hu
    have ho := (List.pairwise_cons.1 h.off).1
    have h4 : u e.1 = 0 := hu.at_zero fun r hr => by
      obtain ⟨x, hx, rfl⟩ := List.mem_map.1 hr
      exact (ho x hx).2
    have h5 : v e.1 = c := by
      have h6 := h2 e.1
      have h7 := h.one e List.mem_cons_self
      grind
    rw [List.map_cons, List.sum_cons, h5, h2 j, h3]
    congr 1
    congr 1
    refine List.map_congr_left fun x hx => ?_
    have h6 := h2 x.1
    have h7 := (ho x hx).1
    grind
theorem Ech.zero {L : List (Nat × V N)} (h : Ech L) {v : V N} (hv : Sp (L.map (·.2)) v) (hz : ∀ e ∈ L, v e.1 = 0) (j : Nat) : v j = 0 := by
  rw [h.rep hv j]
  have : ∀ l : List (Nat × V N), (∀ e ∈ l, v e.1 = 0) → (l.map fun e => v e.1 * e.2 j).sum = 0 := by
    intro l
    induction l with
    | nil => intro _; rfl
    | cons e l ih =>
      intro h
      rw [List.map_cons, List.sum_cons, ih fun x hx => h x (List.mem_cons_of_mem _ hx), h e List.mem_cons_self]
      grind
  exact this L hz
/-- no more rows with places than the rows they hang on. -/
theorem Ech.le (F : Fld N) : ∀ (R : List (V N)) (L : List (Nat × V N)), Ech L → (∀ e ∈ L, Sp R e.2) → L.length ≤ R.length
  | [], L, h, hs => by
    cases L with
    | nil => simp
    | cons e L =>
      exfalso
      have h1 := h.one e List.mem_cons_self
      rw [(hs e List.mem_cons_self).nil] at h1
      exact F.one h1.symm
  | r :: R, L, h, hs => by
    by_cases hall : ∀ e ∈ L, Sp R e.2
    · have := Ech.le F R L h hall
      rw [List.length_cons]; omega
    · obtain ⟨e0, hn⟩ := Classical.not_forall.1 hall
      obtain ⟨he0, hne⟩ := Classical.not_imp.1 hn
      obtain ⟨A, B, rfl⟩ := List.append_of_mem he0
      obtain ⟨c0, u0, hu0, h0⟩ := (hs e0 he0).split
      have hc0 : c0 ≠ 0 := fun hc => hne (hu0.of_eq fun j => by have := h0 j; rw [hc] at this; grind)
      obtain ⟨y0, hy⟩ := F.inv c0 hc0
      have hk : ∀ e : Nat × V N, ∃ k, e ∈ A ++ e0 :: B → Sp R fun j => e.2 j - k * e0.2 j := by
        intro e
        by_cases he : e ∈ A ++ e0 :: B
        · obtain ⟨c, u, hu, h1⟩ := (hs e he).split
          refine ⟨c * y0, fun _ => Sp.comb (-(c * y0)) hu0 hu fun j => ?_⟩
          have h2 := h0 j
          have h3 := h1 j
          grind
        · exact ⟨0, fun h => absurd h he⟩
      have hp := List.pairwise_append.1 h.off
      have hp2 := List.pairwise_cons.1 hp.2.1
      have hoff : ∀ e ∈ A ++ B, e.2 e0.1 = 0 ∧ e0.2 e.1 = 0 := by
        intro e he
        rcases List.mem_append.1 he with h1 | h1
        · exact hp.2.2 e h1 e0 List.mem_cons_self
        · exact (hp2.1 e h1).symm
      have hsub : ∀ e ∈ A ++ B, e ∈ A ++ e0 :: B := by
        intro e he
        rcases List.mem_append.1 he with h1 | h1
        · exact List.mem_append_left _ h1
        · exact List.mem_append_right _ (List.mem_cons_of_mem _ h1)
      have hpw : (A ++ B).Pairwise fun e e' => e.2 e'.1 = 0 ∧ e'.2 e.1 = 0 :=
        List.pairwise_append.2 ⟨hp.1, hp2.2, fun a ha b hb => hp.2.2 a ha b (List.mem_cons_of_mem _ hb)⟩
      have hE : Ech ((A ++ B).map fun e => (e.1, fun j => e.2 j - Classical.choose (hk e) * e0.2 j)) := by
        refine ⟨fun x hx => ?_, ?_⟩
        · obtain ⟨e, he, rfl⟩ := List.mem_map.1 hx
          show e.2 e.1 - _ * e0.2 e.1 = 1
          have h1 := h.one e (hsub e he)
          have h2 := (hoff e he).2
          grind
        · rw [List.pairwise_map]
          refine hpw.imp_of_mem fun {a b} ha hb hab => ?_
          have h1 := (hoff a ha).2
          have h2 := (hoff b hb).2
          constructor
          · show a.2 b.1 - _ * e0.2 b.1 = 0
            have := hab.1
            grind
          · show b.2 a.1 - _ * e0.2 a.1 = 0
            have := hab.2
            grind
      have := Ech.le F R _ hE fun x hx => by
        obtain ⟨e, he, rfl⟩ := List.mem_map.1 hx
        exact Classical.choose_spec (hk e) (hsub e he)
      rw [List.length_map, List.length_append] at this
      rw [List.length_append, List.length_cons, List.length_cons]
      omega
/-- rows R have the rank n. -/
structure Bas (R : List (V N)) (L : List (Nat × V N)) : Prop where
  ech : Ech L
  sub : ∀ e ∈ L, Sp R e.2
  all : ∀ r ∈ R, Sp (L.map (·.2)) r
def Rk (R : List (V N)) (n : Nat) : Prop := ∃ L, Bas R L ∧ L.length = n
theorem Bas.sp {R : List (V N)} {L : List (Nat × V N)} (h : Bas R L) {v : V N} : Sp (L.map (·.2)) v ↔ Sp R v :=
  ⟨fun k => k.trans fun r hr => by obtain ⟨e, he, rfl⟩ := List.mem_map.1 hr; exact h.sub e he, fun k => k.trans h.all⟩
theorem Rk.le (F : Fld N) {R R' : List (V N)} {n m : Nat} (h : Rk R n) (h' : Rk R' m) (hs : ∀ r ∈ R, Sp R' r) : n ≤ m := by
  obtain ⟨L, hL, rfl⟩ := h
  obtain ⟨L', hL', rfl⟩ := h'
  have := Ech.le F (L'.map (·.2)) L hL.ech fun e he => hL'.sp.2 ((hL.sub e he).trans hs)
  rwa [List.length_map] at this
theorem Rk.eq (F : Fld N) {R R' : List (V N)} {n m : Nat} (h : Rk R n) (h' : Rk R' m) (hs : ∀ r ∈ R, Sp R' r) (hs' : ∀ r ∈ R', Sp R r) : n = m :=
  Nat.le_antisymm (h.le F h' hs) (h'.le F h hs')
theorem Rk.unique (F : Fld N) {R : List (V N)} {n m : Nat} (h : Rk R n) (h' : Rk R m) : n = m := h.eq F h' (fun _ hr => Sp.mem hr) fun _ hr => Sp.mem hr
theorem Rk.congr {R R' : List (V N)} {n : Nat} (h : Rk R n) (hs : ∀ r ∈ R, Sp R' r) (hs' : ∀ r ∈ R', Sp R r) : Rk R' n := by
  obtain ⟨L, hL, rfl⟩ := h
  exact ⟨L, ⟨hL.ech, fun e he => (hL.sub e he).trans hs, fun r hr => hL.sp.2 (hs' r hr)⟩, rfl⟩
theorem Rk.nil : Rk ([] : List (V N)) 0 := ⟨[], ⟨.nil, fun e h => (by cases h), fun r h => (by cases h)⟩, rfl⟩
/-- what is left of a row. -/
def red (L : List (Nat × V N)) (v : V N) : V N := fun j => v j - (L.map fun e => v e.1 * e.2 j).sum
theorem sum_sp (v : V N) : ∀ L : List (Nat × V N), Sp (L.map (·.2)) fun j => (L.map fun e => v e.1 * e.2 j).sum
  | [] => .zero
  | e :: L => Sp.add (v e.1) (List.mem_cons_self (l := L.map (·.2))) ((sum_sp v L).mono fun _r hr => List.mem_cons_of_mem _ hr) fun _j => rfl
theorem sum_at {L : List (Nat × V N)} (h : Ech L) (v : V N) {e : Nat × V N} (he : e ∈ L) : (L.map fun x => v x.1 * x.2 e.1).sum = v e.1 := by
  induction L with
  | nil => cases he
  | cons x L ih =>
    have ho := (List.pairwise_cons.1 h.off).1
    rw [List.map_cons, List.sum_cons]
    rcases List.mem_cons.1 he with rfl | he
    · have h1 : ∀ l : List (Nat × V N), (∀ x ∈ l, x.2 e.1 = 0) → (l.map fun x => v x.1 * x.2 e.1).sum = 0 := by
        intro l
        induction l with
        | nil => intro _; rfl
        | cons x l ih =>
          intro h
          rw [List.map_cons, List.sum_cons, ih fun y hy => h y (List.mem_cons_of_mem _ hy), h x List.mem_cons_self]
          grind
      rw [h1 L fun x hx => (ho x hx).2, h.one e List.mem_cons_self]
      grind
    · rw [ih h.tail he, (ho e he).1]
      grind
theorem red_at {L : List (Nat × V N)} (h : Ech L) (v : V N) {e : Nat × V N} (he : e ∈ L) : red L v e.1 = 0 := by
  unfold red
  rw [sum_at h v he]
  grind
theorem red_sp (L : List (Nat × V N)) (v : V N) (h : ∀ j, red L v j = 0) : Sp (L.map (·.2)) v := (sum_sp v L).of_eq fun j => by
  have := h j
  unfold red at this
  grind
theorem red_back {R : List (V N)} {L : List (Nat × V N)} (hL : Bas R L) (v : V N) : Sp (v :: R) (red L v) := by
  refine Sp.comb (-1) (hL.sp.1 (sum_sp v L) |>.mono fun r hr => List.mem_cons_of_mem _ hr) (Sp.mem (r := v) List.mem_cons_self) fun j => ?_
  unfold red
  grind
theorem Bas.snoc {R : List (V N)} {L : List (Nat × V N)} (hL : Bas R L) {v : V N} {k : Nat} {y : Fin N} (hy : red L v k * y = 1) :
    Bas (v :: R) ((k, fun j => y * red L v j) :: L.map fun e => (e.1, fun j => e.2 j - e.2 k * (y * red L v j))) := by
  have hv1 : Sp (v :: R) fun j => y * red L v j := Sp.comb y (red_back hL v) .zero fun j => by grind
  have h0 : ∀ e ∈ L, red L v e.1 = 0 := fun e he => red_at hL.ech v he
  refine ⟨⟨?_, ?_⟩, ?_, ?_⟩
  · intro x hx
    rcases List.mem_cons.1 hx with rfl | hx
    · show y * red L v k = 1
      grind
    · obtain ⟨e, he, rfl⟩ := List.mem_map.1 hx
      show e.2 e.1 - e.2 k * (y * red L v e.1) = 1
      have h1 := hL.ech.one e he
      have h2 := h0 e he
      grind
  · refine List.pairwise_cons.2 ⟨fun x hx => ?_, ?_⟩
    · obtain ⟨e, he, rfl⟩ := List.mem_map.1 hx
      constructor
      · show y * red L v e.1 = 0
        have := h0 e he
        grind
      · show e.2 k - e.2 k * (y * red L v k) = 0
        grind
    · rw [List.pairwise_map]
      refine hL.ech.off.imp_of_mem fun {a b} ha hb hab => ?_
      have h1 := h0 a ha
      have h2 := h0 b hb
      constructor
      · show a.2 b.1 - a.2 k * (y * red L v b.1) = 0
        have := hab.1
        grind
      · show b.2 a.1 - b.2 k * (y * red L v a.1) = 0
        have := hab.2
        grind
  · intro x hx
    rcases List.mem_cons.1 hx with rfl | hx
    · exact hv1
    · obtain ⟨e, he, rfl⟩ := List.mem_map.1 hx
      exact Sp.comb (-(e.2 k)) hv1 ((hL.sub e he).mono fun r hr => List.mem_cons_of_mem _ hr) fun j => by grind
  · have hback : ∀ u, Sp (L.map (·.2)) u → Sp (List.map (·.2) ((k, fun j => y * red L v j) :: L.map fun e => (e.1, fun j => e.2 j - e.2 k * (y * red L v j)))) u := by
      intro u hu
      refine hu.trans fun r hr => ?_
      obtain ⟨e, he, rfl⟩ := List.mem_map.1 hr
      refine Sp.comb (e.2 k) (u := fun j => y * red L v j) (Sp.mem ?_) (v := fun j => e.2 j - e.2 k * (y * red L v j)) (Sp.mem ?_) fun j => by grind
      · exact List.mem_cons_self
      · rw [List.map_cons, List.map_map]
        exact List.mem_cons_of_mem _ (List.mem_map.2 ⟨e, he, rfl⟩)
    intro r hr
    rcases List.mem_cons.1 hr with rfl | hr
    · refine Sp.comb (red L r k) (u := fun j => y * red L r j) (Sp.mem ?_) (hback _ (sum_sp r L)) fun j => ?_
      · exact List.mem_cons_self
      · unfold red at hy ⊢
        grind
    · exact hback _ (hL.all r hr)
theorem Rk.more (F : Fld N) {R : List (V N)} {n : Nat} (h : Rk R n) {v : V N} (hv : ¬ Sp R v) : Rk (v :: R) (n + 1) := by
  obtain ⟨L, hL, rfl⟩ := h
  have : ¬ ∀ j, red L v j = 0 := fun h => hv (hL.sp.1 (red_sp L v h))
  obtain ⟨k, hk⟩ := Classical.not_forall.1 this
  obtain ⟨y, hy⟩ := F.inv _ hk
  exact ⟨_, hL.snoc hy, by simp⟩
theorem Rk.same {R : List (V N)} {n : Nat} (h : Rk R n) {v : V N} (hv : Sp R v) : Rk (v :: R) n := h.congr (fun r hr => Sp.mem (List.mem_cons_of_mem _ hr)) fun r hr => by
  rcases List.mem_cons.1 hr with rfl | hr
  · exact hv
  · exact Sp.mem hr
end Go.Lin
end

section
namespace Go.Proofs.YtcojnjhffmhbiaaDoor
open Go.Lin Go.Psi
/-- a whole number modulo N. -/
def tf (N : Nat) [h : NeZero N] (x : Int) : Fin N := ⟨(x % N).toNat, by
  have h0 : N ≠ 0 := h.out
  have h1 := Int.emod_nonneg x (b := (N : Int)) (by omega)
  have h2 := Int.emod_lt_of_pos x (b := (N : Int)) (by omega)
  omega⟩
section
variable {N : Nat} [h0 : NeZero N]
theorem tf_val (x : Int) : ((tf N x).val : Int) = x % N := by
  have h : N ≠ 0 := h0.out
  have h1 := Int.emod_nonneg x (b := (N : Int)) (by omega)
  show ((x % N).toNat : Int) = x % N
  omega
theorem tf_eq {x y : Int} : tf N x = tf N y ↔ x % N = y % N := by
  constructor
  · intro h
    rw [← tf_val, ← tf_val, h]
  · intro h
    apply Fin.ext
    have h1 := tf_val (N := N) x
    have h2 := tf_val (N := N) y
    omega
theorem tf_mod (x : Int) : tf N (x % N) = tf N x := tf_eq.2 (Int.emod_emod _ _)
theorem tf_add (x y : Int) : tf N (x + y) = tf N x + tf N y := by
  apply Fin.ext
  have h1 : (((tf N x + tf N y : Fin N)).val : Int) = (x + y) % N := by
    rw [Fin.val_add, Int.natCast_emod, Int.natCast_add, tf_val, tf_val, ← Int.add_emod]
  have h2 := tf_val (N := N) (x + y)
  omega
theorem tf_mul (x y : Int) : tf N (x * y) = tf N x * tf N y := by
  apply Fin.ext
  have h1 : (((tf N x * tf N y : Fin N)).val : Int) = (x * y) % N := by
    rw [Fin.val_mul, Int.natCast_emod, Int.natCast_mul, tf_val, tf_val, ← Int.mul_emod]
  have h2 := tf_val (N := N) (x * y)
  omega
theorem tf_zero : tf N 0 = 0 := by
  apply Fin.ext
  have := tf_val (N := N) 0
  rw [Int.zero_emod] at this
  have h : ((0 : Fin N)).val = 0 := rfl
  omega
theorem tf_sub (x y : Int) : tf N (x - y) = tf N x - tf N y := by
  have h := tf_add (N := N) (x - y) y
  rw [Int.sub_add_cancel] at h
  grind
theorem tf_one : tf N 1 = 1 := by
  apply Fin.ext
  have h1 := tf_val (N := N) 1
  have h2 : ((1 : Fin N)).val = 1 % N := rfl
  have h3 : ((1 % N : Nat) : Int) = 1 % (N : Int) := by rw [Int.natCast_emod]; rfl
  omega
theorem tf_iff_zero {x : Int} : tf N x = 0 ↔ x % N = 0 := by
  rw [← tf_zero, tf_eq, Int.zero_emod]
theorem tf_self (a : Fin N) : tf N (a.val : Int) = a := by
  apply Fin.ext
  have h1 := tf_val (N := N) (a.val : Int)
  rw [Int.emod_eq_of_lt (by omega) (by have := a.isLt; omega)] at h1
  omega
theorem cg_tf {x y : Int} (h : Cg N x y) : tf N x = tf N y := by
  obtain ⟨k, hk⟩ := h
  rw [tf_eq, show x = y + N * k by omega, Int.add_mul_emod_self_left]
/-- a prime has inverses. -/
theorem fld_of {p : Nat} [NeZero p] (hp : Pr p) : Fld p := ⟨fun h => by
    have h1 := congrArg Fin.val h
    have h2 : ((1 : Fin p)).val = 1 % p := rfl
    have h3 : ((0 : Fin p)).val = 0 := rfl
    have := hp.1
    rw [h2, h3, Nat.mod_eq_of_lt (by omega)] at h1
    omega, fun x hx => by
    have hv : x.val ≠ 0 := fun h => hx (Fin.ext h)
    by_cases h2 : p = 2
    · subst h2
      refine ⟨1, Fin.ext ?_⟩
      have h1 : x.val = 1 := by have := x.isLt; omega
      have h3 : ((x * 1 : Fin 2)).val = x.val * 1 % 2 := rfl
      rw [h3, h1]; rfl
    · have hf := fermat hp (hp.odd h2) (a := x.val) (Pr.not_dvd_lt (by omega) x.isLt)
      have hp2 := hp.1
      refine ⟨tf p ((x.val : Int) ^ (p - 2)), ?_⟩
      have h4 := cg_tf hf
      rw [show p - 1 = (p - 2) + 1 by omega, Int.pow_succ, tf_mul, tf_self, tf_one] at h4
      grind⟩
/-- a row as a vector. -/
def vec (N : Nat) [NeZero N] (l : List Int) : V N := fun j => tf N (nth l j)
theorem vec_red (W : Nat) (row : List Int) (j : Nat) : vec N (redL W N row) j = vec N row j := by
  unfold vec redL
  by_cases h : j < max W row.length
  · rw [tabL_at h, tf_mod]
  · rw [nth_ge (by rw [tabL_len]; omega), nth_ge (l := row) (by omega)]
theorem vec_less (row other : List Int) (t : Int) (h : other.length ≤ row.length) (j : Nat) : vec N (lessL N row other t) j = vec N row j - vec N other j * tf N t := by
  unfold vec
  rw [lessL_at]
  by_cases h1 : j < row.length ∧ j < other.length
  · rw [if_pos h1, tf_mod, tf_sub, tf_mul]
  · rw [if_neg h1, nth_ge (l := other) (by omega), tf_zero]
    grind
theorem vec_times (o : List Int) (b : Int) (j : Nat) : vec N (timesL N o b) j = tf N b * vec N o j := by
  unfold vec timesL
  by_cases h : j < o.length
  · rw [tabL_at h, tf_mod, tf_mul]; grind
  · rw [nth_ge (by rw [tabL_len]; omega), nth_ge (l := o) (by omega), tf_zero]
    grind
/-- rows with their places. -/
def sb (N : Nat) [NeZero N] (S : List En) : List (Nat × V N) := S.map fun p => (p.at_, vec N p.row)
theorem sb_mem {S : List En} {p : En} (h : p ∈ S) : (p.at_, vec N p.row) ∈ sb N S := List.mem_map.2 ⟨p, h, rfl⟩
theorem fold_vec {W : Nat} (j : Nat) : ∀ (l : List En) (o : List Int), Ech (sb N l) → (∀ p ∈ l, p.row.length = W) → W ≤ o.length →
    vec N (l.foldl (stepL N) o) j = vec N o j - ((sb N l).map fun e => vec N o e.1 * e.2 j).sum
  | [], o, _, _, _ => by
    show vec N o j = vec N o j - 0
    grind
  | p :: l, o, hE, hl, hW => by
    have hs : ∀ i, vec N (stepL N o p) i = vec N o i - vec N p.row i * vec N o p.at_ := fun i =>
      vec_less o p.row _ (by rw [hl p List.mem_cons_self]; exact hW) i
    have ih := fold_vec j l (stepL N o p) hE.tail (fun x hx => hl x (List.mem_cons_of_mem _ hx)) (by rw [stepL_len]; exact hW)
    rw [List.foldl_cons, ih, hs j]
    show _ = vec N o j - ((p.at_, vec N p.row) :: sb N l |>.map fun e => vec N o e.1 * e.2 j).sum
    rw [List.map_cons, List.sum_cons]
    have ho := (List.pairwise_cons.1 hE.off).1
    have : (sb N l).map (fun e => vec N (stepL N o p) e.1 * e.2 j) = (sb N l).map fun e => vec N o e.1 * e.2 j := by
      refine List.map_congr_left fun e he => ?_
      have h1 : vec N p.row e.1 = 0 := (ho e he).1
      rw [hs e.1, h1]
      grind
    rw [this]
    grind
theorem left_red {W : Nat} {S : List En} (hE : Ech (sb N S)) (hl : ∀ p ∈ S, p.row.length = W) (row : List Int) (j : Nat) : vec N (leftL N W S row) j = red (sb N S) (vec N row) j := by
  unfold leftL
  rw [fold_vec j S (redL W N row) hE hl (by unfold redL; rw [tabL_len]; omega), vec_red]
  unfold red
  congr 1
  congr 1
  exact List.map_congr_left fun e _ => by rw [vec_red]
theorem first_none {o : List Int} (h : firstL o = none) (j : Nat) : nth o j = 0 := by
  by_cases hj : j < o.length
  · unfold firstL at h
    rw [List.findIdx?_eq_none_iff] at h
    have := h (o[j]) (List.getElem_mem hj)
    rw [nth_lt hj]
    simpa using this
  · exact nth_ge (by omega)
theorem first_least {o : List Int} {k : Nat} (h : firstL o = some k) {j : Nat} (hj : j < k) : nth o j = 0 := by
  unfold firstL at h
  rw [List.findIdx?_eq_some_iff_getElem] at h
  obtain ⟨h1, _, h3⟩ := h
  have := h3 j hj
  rw [nth_lt (by omega)]
  simpa using this
theorem red_tf {o : List Int} (h : RedL N o) {j : Nat} : vec N o j = 0 ↔ nth o j = 0 := by
  unfold vec
  rw [tf_iff_zero, Int.emod_eq_of_lt (h j).1 (h j).2]
/-- an inverse of what is not 0. -/
def InvT (N : Nat) [NeZero N] (inv : Int → Int) : Prop := ∀ x, tf N x ≠ 0 → tf N x * tf N (inv x) = 1
/-- rows R come to S. -/
structure Come (N : Nat) [NeZero N] (W : Nat) (R : List (V N)) (S : List En) : Prop where
  good : GoodS N W S
  bas : Bas R (sb N S)
  low : ∀ p ∈ S, ∀ j, j < p.at_ → vec N p.row j = 0
theorem Come.nil (W : Nat) : Come N W [] [] := ⟨.nil _ _, ⟨.nil, fun e h => (by cases h), fun r h => (by cases h)⟩, fun p h => (by cases h)⟩
theorem Come.put {inv : Int → Int} (hI : InvOf N inv) (hT : InvT N inv) {W : Nat} {R : List (V N)} {S : List En} (h : Come N W R S) {row : List Int} (hr : row.length ≤ W) : Come N W (vec N row :: R) (putL N inv W S row) := by
  have h00 : N ≠ 0 := h0.out
  have hg := put_good (q := (N : Int)) (by omega) hI h.good hr
  have hleft := left_red h.bas.ech (fun p hp => h.good.len p hp) row
  have hred := leftL_red (q := (N : Int)) (by omega) W S row
  have hat := fun e (he : e ∈ sb N S) => red_at h.bas.ech (vec N row) he
  have hlen : (leftL N W S row).length = W := by rw [leftL_len]; omega
  refine ⟨hg, ?_, ?_⟩
  · unfold putL
    generalize leftL N W S row = o at *
    cases hf : firstL o with
    | none =>
      have hsp : Sp ((sb N S).map (·.2)) (vec N row) := red_sp _ _ fun j => by
        rw [← hleft]
        exact (red_tf hred).2 (first_none hf j)
      exact ⟨h.bas.ech, fun e he => (h.bas.sub e he).mono fun r hr => List.mem_cons_of_mem _ hr, fun r hr => by
        rcases List.mem_cons.1 hr with rfl | hr
        · exact hsp
        · exact h.bas.all r hr⟩
    | some k =>
      simp only
      obtain ⟨hk1, hk2⟩ := firstL_some hf
      have hk3 : vec N o k ≠ 0 := fun e => hk2 ((red_tf hred).1 e)
      have hy : red (sb N S) (vec N row) k * tf N (inv (nth o k)) = 1 := by rw [← hleft]; exact hT _ hk3
      have hne : ∀ p ∈ S, p.at_ ≠ k := fun p hp e => by
        have h1 := hat _ (sb_mem hp)
        simp only [e] at h1
        rw [← hleft] at h1
        exact hk3 h1
      have hfil : (S.map fun p => (⟨p.at_, lessL N p.row (timesL N o (inv (nth o k))) (nth p.row k)⟩ : En)).filter (fun p => decide (p.at_ ≠ k)) = S.map fun p => (⟨p.at_, lessL N p.row (timesL N o (inv (nth o k))) (nth p.row k)⟩ : En) := by
        refine List.filter_eq_self.2 fun x hx => ?_
        obtain ⟨p, hp, rfl⟩ := List.mem_map.1 hx
        exact decide_eq_true (hne p hp)
      rw [hfil]
      have hb := h.bas.snoc hy
      have e : sb N (⟨k, timesL N o (inv (nth o k))⟩ :: S.map fun p => (⟨p.at_, lessL N p.row (timesL N o (inv (nth o k))) (nth p.row k)⟩ : En))
          = (k, fun j => tf N (inv (nth o k)) * red (sb N S) (vec N row) j) :: (sb N S).map fun e => (e.1, fun j => e.2 j - e.2 k * (tf N (inv (nth o k)) * red (sb N S) (vec N row) j)) := by
        unfold sb
        rw [List.map_cons, List.map_map, List.map_map]
        refine List.cons_eq_cons.2 ⟨?_, List.map_congr_left fun p hp => ?_⟩
        · refine Prod.ext rfl (funext fun j => ?_)
          show vec N (timesL N o _) j = _
          rw [vec_times, hleft]
          rfl
        · refine Prod.ext rfl (funext fun j => ?_)
          show vec N (lessL N p.row (timesL N o _) _) j = vec N p.row j - vec N p.row k * _
          rw [vec_less _ _ _ (by unfold timesL; rw [tabL_len, hlen, h.good.len p hp]; exact Nat.le_refl _), vec_times, hleft]
          show _ - _ * vec N p.row k = _
          unfold sb
          grind
      rw [e]
      exact hb
  · unfold putL
    generalize leftL N W S row = o at *
    cases hf : firstL o with
    | none => exact h.low
    | some k =>
      simp only
      obtain ⟨hk1, hk2⟩ := firstL_some hf
      have hz : ∀ j, j < k → vec N (timesL N o (inv (nth o k))) j = 0 := fun j hj => by
        rw [vec_times]
        have : vec N o j = 0 := (red_tf hred).2 (first_least hf hj)
        rw [this]; grind
      intro x hx j hj
      rcases List.mem_cons.1 hx with rfl | hx
      · exact hz j hj
      · obtain ⟨p, hp, rfl⟩ := List.mem_map.1 (List.mem_filter.1 hx).1
        show vec N (lessL N p.row (timesL N o _) _) j = 0
        rw [vec_less _ _ _ (by unfold timesL; rw [tabL_len, hlen, h.good.len p hp]; exact Nat.le_refl _)]
        have h1 := h.low p hp j hj
        rw [h1]
        rcases Nat.lt_or_ge j k with h2 | h2
        · rw [hz j h2]; grind
        · have h3 : tf N (nth p.row k) = 0 := h.low p hp k (by have : j < p.at_ := hj; omega)
          rw [h3]; grind
theorem Come.all {inv : Int → Int} (hI : InvOf N inv) (hT : InvT N inv) {W : Nat} : ∀ (rows : List (List Int)) {R : List (V N)} {S : List En}, Come N W R S → (∀ r ∈ rows, r.length ≤ W) →
    Come N W ((rows.map (vec N)).reverse ++ R) (rows.foldl (putL N inv W) S)
  | [], _, _, h, _ => h
  | r :: rows, R, S, h, hl => by
    rw [List.foldl_cons, List.map_cons, List.reverse_cons, List.append_assoc]
    exact Come.all hI hT rows (h.put hI hT (hl r List.mem_cons_self)) fun x hx => hl x (List.mem_cons_of_mem _ hx)
theorem Bas.congr {R R' : List (V N)} {L : List (Nat × V N)} (h : Bas R L) (hs : ∀ r ∈ R, r ∈ R') (hs' : ∀ r ∈ R', r ∈ R) : Bas R' L :=
  ⟨h.ech, fun e he => (h.sub e he).mono hs, fun r hr => h.all r (hs' r hr)⟩
end
end Go.Proofs.YtcojnjhffmhbiaaDoor
end

section
namespace Go.Proofs.YtcojnjhffmhbiaaDoor
open Go Go.Lin Go.Psi
theorem un_of_pr {q a : Int} (h2 : 2 ≤ q) (hp : Pr q.toNat) (h : a % q ≠ 0) : Un a q := by
  obtain ⟨N, rfl⟩ := Int.eq_ofNat_of_zero_le (show 0 ≤ q by omega)
  rw [Int.toNat_natCast] at hp
  have hN : NeZero N := ⟨by omega⟩
  obtain ⟨y, hy⟩ := (fld_of hp).inv (tf N a) fun e => h (tf_iff_zero.1 e)
  refine ⟨y.val, ?_⟩
  have h1 : tf N ((y.val : Int) * a) = tf N 1 := by
    rw [tf_mul, tf_self, tf_one]
    grind
  exact tf_eq.1 h1
theorem ne_sub {a b q : Int} (h : a % q ≠ b % q) : (b - a) % q ≠ 0 := fun e => h (Int.emod_emod_of_dvd a (Int.dvd_refl q) ▸ (by
  have := Int.emod_add_mul_ediv (b - a) q
  rw [e] at this
  rw [show b = a + q * ((b - a) / q) by omega, Int.add_mul_emod_self_left]
  exact Int.emod_emod_of_dvd a (Int.dvd_refl q)))
/-- no two are one another's. -/
def Two (xs : List Int) (q : Int) : Prop := xs.Pairwise fun a b => a % q ≠ b % q
theorem Two.apart {xs : List Int} {q : Int} (h : Two xs q) (h2 : 2 ≤ q) (hp : Pr q.toNat) : Apart xs q :=
  List.Pairwise.imp (fun {_a _b} hab => un_of_pr h2 hp (ne_sub hab)) h
theorem Two.unlike {xs : List Int} {q : Int} (h : Two xs q) (hq : okm q = true) (hl : xs.length ≤ 1024) : eUnlike xs q = 0 := by
  unfold eUnlike
  rw [if_pos hq, if_pos hl, if_pos]
  unfold mods List.Nodup
  rw [List.pairwise_map]
  exact h
theorem Two.all {xs : List Int} {q : Int} (h : Two xs q) (hq : okm q = true) (h2 : 2 ≤ q) (hp : Pr q.toNat) (hl : xs.length ≤ 1024) : eAll xs q = 0 := eAll_yes (h.unlike hq hl) (h.apart h2 hp)
/-- values times weights, one behind the other. -/
noncomputable def sumW (xs ys : List Int) (X q : Int) : Nat → Int
  | 0 => 0
  | k + 1 => mAdd (sumW xs ys X q k) (mMul (wOne xs X q k) (ys.getD k 0) q) q
/-- 0s behind. -/
def padZ (c : List Int) (n : Nat) : List Int := c ++ List.replicate (n - c.length) 0
theorem ev_zeros (m : Nat) (X : Int) : ev (List.replicate m 0) X = 0 := by
  induction m with
  | zero => rfl
  | succ m ih => rw [List.replicate_succ, ev_cons, ih]; simp
theorem padZ_ev (c : List Int) (n : Nat) (X : Int) : ev (padZ c n) X = ev c X := by
  unfold padZ
  rw [ev_append, ev_zeros]; simp
theorem padZ_len {c : List Int} {n : Nat} (h : c.length ≤ n) : (padZ c n).length = n := by
  unfold padZ
  rw [List.length_append, List.length_replicate]; omega
/-- through a polynomial's own values: that polynomial. -/
theorem through_own {q : Int} (hq : okm q = true) {xs c : List Int} (ha : Apart xs q) (hl : c.length ≤ xs.length) : (pOut xs (valuesL c xs q) q xs.length).map (· % q) = (padZ c xs.length).map (· % q) := by
  refine only_one ha (pOut_len hq _ _ _) (padZ_len hl) fun x hx => ?_
  obtain ⟨j, hj, rfl⟩ := List.getElem_of_mem hx
  have h1 := pOut_ev hq (valuesL c xs q) ha xs.length (Nat.le_refl _) j _ (List.getElem?_eq_getElem hj)
  rw [h1, if_pos hj, padZ_ev]
  unfold valuesL
  rw [List.getD_eq_getElem?_getD, List.getElem?_map, List.getElem?_eq_getElem hj]
  show mEval c xs[j] q % q = _
  rw [mEval_ok hq, Int.emod_emod]
theorem out_at {q : Int} (hq : okm q = true) {xs ys : List Int} (ha : Apart xs q) {j : Nat} {x : Int} (hx : xs[j]? = some x) : mEval (pOut xs ys q xs.length) x q = ys.getD j 0 % q := by
  have hj := (List.getElem?_eq_some_iff.1 hx).1
  rw [mEval_ok hq, pOut_ev hq ys ha _ (Nat.le_refl _) j x hx, if_pos hj]
end Go.Proofs.YtcojnjhffmhbiaaDoor
end
