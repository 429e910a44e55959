/-
  A map of the call's own, as a list of what lies in it, no two at one key: what its operations do. (No program in sight.)
-/
import Derived.Test.YtgdfphcggjclkaaDoorCore
import Derived.Maps.RangeWalk
import Derived.Maps.OwnOps
import Derived.Maps.OwnSet
import Derived.Maps.Views
import Derived.Maps.Keyed
namespace Go.Proofs.YtgdfphcggjclkaaDoor
open Go.RowKit Go.Maps Go.WideElems Go.ChangeMaps Go.MapKept Go.WideShapes

/-- how things lie in a map: their keys, their values, and how these read. -/
structure MK (P : Program) (k : TypeId) (α H : Type) where
  R : Value → Option (DataW H × List MemPlace)
  key : α → Lit
  tok : α → H
  kv : α → Value
  val : α → Value
  ok : α → Prop
  K : Keyed P k
  hkey : ∀ a, ok a → keyOf P k (kv a) = some (key a)
  hval : ∀ a, ok a → R (val a) = some (.held (tok a), [])
  inv : ∀ v a ps, R v = some (.held (tok a), ps) → v = val a

section
variable {P : Program} {k : TypeId} {α H : Type} (M : MK P k α H)

/-- the datum holds just these. -/
def Tab (D : DataW H) (L : List α) : Prop := ∃ es, D = .map es ∧ es.Perm (L.map fun a => (M.key a, DataW.held (M.tok a)))
/-- block b is a map that holds just these. -/
structure MapAt (w : World) (b : Nat) (L : List α) : Prop where
  ok : ∀ a ∈ L, M.ok a
  nd : L.Pairwise fun a c => M.key a ≠ M.key c
  own : ∃ D, w.ownsMap P k M.R b L.length D ∧ Tab M D L

variable {M} {w w' : World} {b : Nat} {L : List α}

theorem MapAt.perm {L' : List α} (h : MapAt M w b L) (hp : L.Perm L') : MapAt M w b L' := by
  obtain ⟨h1, h2, D, h3, es, rfl, h4⟩ := h
  refine ⟨fun a ha => h1 a (hp.mem_iff.2 ha), (hp.pairwise_iff fun {_ _} hne => Ne.symm hne).1 h2, _, ?_, es, rfl, h4.trans (hp.map _)⟩
  rw [← hp.length_eq]; exact h3
theorem MapAt.keep (h : MapAt M w b L) (hk : w'.heap[b]? = w.heap[b]?) : MapAt M w' b L := by
  obtain ⟨h1, h2, D, ⟨es, clock, hb, r⟩, h4⟩ := h
  exact ⟨h1, h2, D, ⟨es, clock, hk.trans hb, r⟩, h4⟩
theorem MapAt.lt (h : MapAt M w b L) : b < w.heap.size := by
  obtain ⟨_, _, D, h3, _⟩ := h
  exact h3.lt
theorem MapAt.below (h : MapAt M w b L) (hb : Below w.heap.size w w') : MapAt M w' b L := h.keep (hb.block b h.lt)
theorem MapAt.alloc (h : MapAt M w b L) (o : Obj) : MapAt M (w.alloc o) b L := h.keep (Below.heap_alloc w o b h.lt)
theorem MapAt.dr (h : MapAt M w b L) (hd : Dr w w') : MapAt M w' b L := by
  obtain ⟨n, rfl⟩ := hd; exact h.keep rfl
theorem MapAt.far (h : MapAt M w b L) {p : Addr} (hp : p.block ≠ b) (u : Value) : MapAt M (w.setCell p u) b L := h.keep (Below.heap_setCell w p u b (Ne.symm hp))
theorem MapAt.isMap (h : MapAt M w b L) : ∃ es clock, w.heap[b]? = some (.map es clock) := by
  obtain ⟨_, _, D, ⟨es, clock, hb, _⟩, _⟩ := h
  exact ⟨es, clock, hb⟩
theorem MapAt.ne_row (h : MapAt M w b L) {g : Nat} {e : TypeId} {xs : List Value} (hr : Row1 w g e xs) : g ≠ b := by
  obtain ⟨es, clock, hb⟩ := h.isMap
  intro e1
  unfold Row1 at hr
  rw [e1, hb] at hr
  cases hr
theorem mapAt_made (w : World) : MapAt M (w.alloc (.map #[] 0)) w.heap.size [] :=
  ⟨(fun a ha => by cases ha), List.Pairwise.nil, .map [], World.ownsMap_made w P k M.R, [], rfl, .refl _⟩

/-- of as many entries as there are. -/
theorem own_len {n : Nat} {D : DataW H} (h : w.ownsMap P k M.R b n D) (ht : Tab M D L) : w.ownsMap P k M.R b L.length D := by
  obtain ⟨es, clock, hb, F, hs, hD⟩ := h
  obtain ⟨es', rfl, hp⟩ := ht
  refine ⟨es, clock, hb, F, ?_, hD⟩
  have h1 := hp.length_eq
  simp only [DataW.map.injEq] at hD
  rw [hD, length_sorted] at h1
  simp at h1
  omega
theorem mk_keyed {a : α} (ha : M.ok a) : WideAt.IsKeyLit (M.key a) := M.K.key (M.hkey a ha)
theorem same_iff {a : α} (ha : M.ok a) (kl : Lit) : (M.key a).sameKey kl = true ↔ M.key a = kl := by
  constructor
  · exact WideAt.sameKey_eq
  · rintro rfl; exact WideAt.sameKey_self (mk_keyed ha)
theorem tab_has {D : DataW H} (ht : Tab M D L) (hok : ∀ a ∈ L, M.ok a) (kl : Lit) : has D kl = true ↔ ∃ a ∈ L, M.key a = kl := by
  obtain ⟨es, rfl, hp⟩ := ht
  rw [has_eq, List.any_eq_true]
  constructor
  · rintro ⟨p, hm, hs⟩
    obtain ⟨a, ha, rfl⟩ := List.mem_map.1 (hp.mem_iff.1 hm)
    exact ⟨a, ha, (same_iff (hok a ha) kl).1 hs⟩
  · rintro ⟨a, ha, he⟩
    exact ⟨_, hp.mem_iff.2 (List.mem_map.2 ⟨a, ha, rfl⟩), (same_iff (hok a ha) kl).2 he⟩
theorem tab_at {D : DataW H} {n : Nat} (h : w.ownsMap P k M.R b n D) (ht : Tab M D L) (hok : ∀ a ∈ L, M.ok a) {a : α} (ha : a ∈ L) (z : DataW H) : D.atKey (M.key a) z = .held (M.tok a) := by
  obtain ⟨es, clock, hb, F, _, hD⟩ := h
  obtain ⟨es', rfl, hp⟩ := ht
  have hm := hp.mem_iff.2 (List.mem_map.2 ⟨a, ha, rfl⟩)
  simp only [DataW.map.injEq] at hD
  subst hD
  have hm2 := mem_sorted.1 hm
  exact (atKey_sorted (es.toList.map (rg P k M.R)) (Maps.fit_rising M.K F) (M.key a) (mk_keyed (hok a ha))).2 _ hm2 rfl z

/-- 'm[k]', with 'ok' or without. -/
theorem MapAt.look {t e : TypeId} (h : MapAt M w b L) (c : Bool) (ht : P.underlying t = some (.map k e)) {z : Value} (hz : (zeroValue e).run P w = .ok z w) {kv : Value} {kl : Lit} (hkey : keyOf P k kv = some kl) :
    ((∀ a ∈ L, M.key a ≠ kl) ∧ (Instr.lookup t (.map (some b)) kv c).run P w = .ok (if c then .tuple #[z, .bool false] else z) w) ∨
    ∃ a ∈ L, M.key a = kl ∧ (Instr.lookup t (.map (some b)) kv c).run P w = .ok (if c then .tuple #[M.val a, .bool true] else M.val a) w := by
  obtain ⟨hok, _, D, hown, hT⟩ := h
  have hown' := hown
  obtain ⟨es, clock, hb, F, _, hD⟩ := hown
  rcases Maps.fit_look c M.K ht hz hb F hkey with ⟨hrun, hno, hat⟩ | ⟨e0, y, hm, hk, hrun, hR, hat, _⟩
  · refine .inl ⟨fun a ha he => ?_, hrun⟩
    have h1 := tab_at hown' hT hok ha (.lit (.bool true))
    have h2 := tab_at hown' hT hok ha (.lit (.bool false))
    rw [he, hD, hat] at h1 h2
    rw [← h2] at h1
    simp at h1
  · have hh : ∃ a ∈ L, M.key a = kl := by
      rw [← tab_has hT hok]
      have : ∀ zd, D.atKey kl zd = y.1 := fun zd => by rw [hD]; exact hat zd
      exact has_true_of_atKey this
    obtain ⟨a, ha, he⟩ := hh
    refine .inr ⟨a, ha, he, ?_⟩
    have h1 := tab_at hown' hT hok ha (.lit (.bool true))
    rw [he, hD, hat] at h1
    have : e0.val = M.val a := M.inv _ a y.2 (by rw [hR, ← h1])
    rw [hrun, this]

/-- 'm[k] = v'. -/
theorem MapAt.store [DecidableEq Lit] {t e : TypeId} (h : MapAt M w b L) (ht : P.underlying t = some (.map k e)) (hn : L.length < maxLen) {a : α} (ha : M.ok a) :
    ∃ w', (Instr.mapUpdate t (.map (some b)) (M.kv a) (M.val a)).run P w = .ok () w' ∧ MapAt M w' b (a :: L.filter fun c => decide (M.key c ≠ M.key a)) ∧ w.grownBy w' (some b) := by
  obtain ⟨hok, hnd, D, hown, hT⟩ := h
  obtain ⟨w', h1, h2, h3⟩ := hown.update M.K ht hn (M.hkey a ha) (M.hval a ha)
  have hT' : Tab M (D.put (M.key a) (.held (M.tok a))) (a :: L.filter fun c => decide (M.key c ≠ M.key a)) := by
    obtain ⟨es, rfl, hp⟩ := hT
    refine ⟨_, rfl, (WideShapes.insert_perm _ _).trans ?_⟩
    rw [List.map_cons]
    refine List.Perm.cons _ ?_
    have hp2 := hp.filter fun p : Lit × DataW H => !p.1.sameKey (M.key a)
    refine hp2.trans (List.Perm.of_eq ?_)
    rw [List.filter_map]
    congr 1
    refine List.filter_congr fun c hc => ?_
    have := same_iff (hok c hc) (M.key a)
    simp only [Function.comp]
    rw [Bool.eq_iff_iff, Bool.not_eq_true', decide_eq_true_eq, ← Bool.not_eq_true, this]
  refine ⟨w', h1, ⟨?_, ?_, _, own_len h2 hT', hT'⟩, h3⟩
  · intro c hc
    rcases List.mem_cons.1 hc with rfl | hc
    · exact ha
    · exact hok c (List.mem_filter.1 hc).1
  · refine List.pairwise_cons.2 ⟨fun c hc => ?_, hnd.sublist List.filter_sublist⟩
    have := (List.mem_filter.1 hc).2
    exact fun e1 => (of_decide_eq_true this) e1.symm

/-- 'delete(m, k)'. -/
theorem MapAt.drop [DecidableEq Lit] {t e ty : TypeId} (h : MapAt M w b L) (ht : P.underlying t = some (.map k e)) {kv : Value} {kl : Lit} (hkey : keyOf P k kv = some kl) :
    ∃ w', (Builtin.delete_ #[t, k] ty #[.map (some b), kv]).run P w = .ok (.tuple #[]) w' ∧ MapAt M w' b (L.filter fun c => decide (M.key c ≠ kl)) ∧ w.grownBy w' (some b) := by
  obtain ⟨hok, hnd, D, hown, hT⟩ := h
  obtain ⟨es, clock, hb, F, hs, rfl⟩ := hown
  obtain ⟨es', hrun, F', hle, hdel, hsub, hwho⟩ := fit_drop_who (ty := ty) M.K ht hb F hkey
  have hT' : Tab M (.map ((es'.toList.map (rg P k M.R)).foldr DataW.insert [])) (L.filter fun c => decide (M.key c ≠ kl)) := by
    obtain ⟨es0, h0, hp⟩ := hT
    simp only [DataW.map.injEq] at h0
    subst h0
    refine ⟨_, rfl, ?_⟩
    rw [hdel]
    have hp2 := hp.filter fun p : Lit × DataW H => !p.1.sameKey kl
    refine hp2.trans (List.Perm.of_eq ?_)
    rw [List.filter_map]
    congr 1
    refine List.filter_congr fun c hc => ?_
    have := same_iff (hok c hc) kl
    simp only [Function.comp]
    rw [Bool.eq_iff_iff, Bool.not_eq_true', decide_eq_true_eq, ← Bool.not_eq_true, this]
  have hown' : (ChangeMaps.setBlock w b (.map es' clock)).ownsMap P k M.R b es'.size (.map ((es'.toList.map (rg P k M.R)).foldr DataW.insert [])) := ⟨es', clock, heap_setBlock_same hb _, F', Nat.le_refl _, rfl⟩
  refine ⟨_, hrun, ⟨fun c hc => hok c (List.mem_filter.1 hc).1, hnd.sublist List.filter_sublist, _, own_len hown' hT', hT'⟩, ⟨rfl, rfl, rfl, by simp [ChangeMaps.setBlock], fun i _ hi => heap_setBlock_other hb _ (fun e => hi (by rw [e]))⟩⟩

/-- 'for k, v := range m' under way: 'rest' is still to come. -/
def RangeAt (M : MK P k α H) (w : World) (b r : Nat) (L rest : List α) (cnt : Nat) : Prop :=
  (∀ a ∈ L, M.ok a) ∧ (L.Pairwise fun a c => M.key a ≠ M.key c) ∧ (∀ a ∈ rest, a ∈ L) ∧ rest.Nodup ∧ ∃ D left, w.ranges P k M.R b r L.length D left cnt ∧ Tab M D L ∧ ∀ kl, left kl = true ↔ ∃ a ∈ rest, M.key a = kl
theorem RangeAt.left {r cnt : Nat} {rest : List α} (h : RangeAt M w b r L rest cnt) : w.rangeLeft b r = cnt := by
  obtain ⟨_, _, _, _, D, left, h1, _⟩ := h
  exact h1.left_eq
theorem RangeAt.map {r cnt : Nat} {rest : List α} (h : RangeAt M w b r L rest cnt) : MapAt M w b L := by
  obtain ⟨h1, h2, _, _, D, left, h5, h6, _⟩ := h
  exact ⟨h1, h2, D, h5.owns, h6⟩
theorem RangeAt.keep {r cnt : Nat} {rest : List α} (h : RangeAt M w b r L rest cnt) (hb : w'.heap[b]? = w.heap[b]?) (hr : w'.heap[r]? = w.heap[r]?) : RangeAt M w' b r L rest cnt := by
  obtain ⟨h1, h2, h3, h4, D, left, ⟨es, clock, since, seen, c0, e1, e2, e3, e4, e5, e6⟩, h6, h7⟩ := h
  exact ⟨h1, h2, h3, h4, D, left, ⟨es, clock, since, seen, c0, hb.trans e1, e2, e3, e4, hr.trans e5, e6⟩, h6, h7⟩
theorem RangeAt.lt {r cnt : Nat} {rest : List α} (h : RangeAt M w b r L rest cnt) : b < w.heap.size ∧ r < w.heap.size ∧ r ≠ b := by
  have h1 := h.map.lt
  obtain ⟨_, _, _, _, D, left, h5, _⟩ := h
  exact ⟨h1, h5.lt, h5.ne⟩
theorem RangeAt.below {r cnt : Nat} {rest : List α} (h : RangeAt M w b r L rest cnt) (hb : Below w.heap.size w w') : RangeAt M w' b r L rest cnt := h.keep (hb.block b h.lt.1) (hb.block r h.lt.2.1)
theorem nodup_of_keys (h : L.Pairwise fun a c => M.key a ≠ M.key c) : L.Nodup := h.imp fun {_ _} hne e => hne (by rw [e])

/-- 'range m'. -/
theorem MapAt.range {t e : TypeId} (h : MapAt M w b L) (ht : P.underlying t = some (.map k e)) :
    ∃ w', (Instr.range t (.map (some b))).run P w = .ok (.pointer (some ⟨w.heap.size, 0, none⟩)) w' ∧ (∃ cnt, RangeAt M w' b w.heap.size L L cnt) ∧ w.grownBy w' none ∧ w'.heap.size = w.heap.size + 1 := by
  obtain ⟨hok, hnd, D, hown, hT⟩ := h
  obtain ⟨w', h1, h2, h3, h4⟩ := hown.range M.K ht
  exact ⟨w', h1, ⟨_, hok, hnd, fun _ h => h, nodup_of_keys hnd, D, _, h2, hT, fun kl => tab_has hT hok kl⟩, h3, h4⟩

theorem key_inj (hok : ∀ a ∈ L, M.ok a) (hnd : L.Pairwise fun a c => M.key a ≠ M.key c) {a c : α} (ha : a ∈ L) (hc : c ∈ L) (he : M.key a = M.key c) : a = c := by
  clear hok
  induction L with
  | nil => cases ha
  | cons x l ih =>
    obtain ⟨h1, h2⟩ := List.pairwise_cons.1 hnd
    rcases List.mem_cons.1 ha with rfl | ha'
    · rcases List.mem_cons.1 hc with rfl | hc'
      · rfl
      · exact absurd he (h1 c hc')
    · rcases List.mem_cons.1 hc with rfl | hc'
      · exact absurd he.symm (h1 a ha')
      · exact ih h2 ha' hc'

/-- the step. -/
theorem RangeAt.next {r cnt : Nat} {rest : List α} (h : RangeAt M w b r L rest cnt) (ty : TypeId) :
    (rest = [] ∧ (Instr.next (.pointer (some ⟨r, 0, none⟩)) false ty).run P w = .ok (.tuple #[.bool false]) w) ∨
    ∃ a rest' w' cnt', rest.Perm (a :: rest') ∧ a ∈ L ∧ (Instr.next (.pointer (some ⟨r, 0, none⟩)) false ty).run P w = .ok (.tuple #[.bool true, M.kv a, M.val a]) w' ∧ RangeAt M w' b r L rest' cnt' ∧ cnt' < cnt ∧ w.grownBy w' (some r) ∧ w'.heap.size = w.heap.size ∧
      (Instr.entry (.pointer (some ⟨r, 0, none⟩))).run P w' = .ok (.tuple #[M.kv a, M.val a]) w' := by
  obtain ⟨hok, hnd, hsub, hrd, D, left, hrg, hT, hl⟩ := h
  rcases hrg.next M.K ty with ⟨_, hno, hrun⟩ | ⟨key, v, kl, y, w', cnt', hkey, hlk, hR, hat, hrun, hrg', hlt, hgr, hsz, hen⟩
  · refine .inl ⟨?_, hrun⟩
    cases rest with
    | nil => rfl
    | cons a l =>
      have := (hl (M.key a)).2 ⟨a, List.mem_cons_self .., rfl⟩
      rw [hno] at this; cases this
  · obtain ⟨a, ha, rfl⟩ := (hl kl).1 hlk
    have haL := hsub a ha
    have e1 : key = M.kv a := M.K.inj hkey (M.hkey a (hok a haL))
    have e2 : v = M.val a := by
      refine M.inv v a y.2 ?_
      rw [hR]
      have := tab_at hrg.owns hT hok haL (.lit (.bool true))
      rw [hat] at this
      rw [← this]
    subst e1 e2
    obtain ⟨l1, l2, rfl⟩ := List.append_of_mem ha
    have hp : (l1 ++ a :: l2).Perm (a :: (l1 ++ l2)) := List.perm_middle
    refine .inr ⟨a, l1 ++ l2, w', cnt', hp, haL, hrun, ⟨hok, hnd, fun c hc => hsub c ?_, ?_, D, _, hrg', hT, fun kl => ?_⟩, hlt, hgr, hsz, hen⟩
    · exact hp.mem_iff.2 (List.mem_cons_of_mem _ hc)
    · exact (List.nodup_cons.1 (hp.nodup_iff.1 hrd)).2
    · have hnd2 := List.nodup_cons.1 (hp.nodup_iff.1 hrd)
      simp only [Bool.and_eq_true, Bool.not_eq_true']
      rw [hl kl]
      constructor
      · rintro ⟨⟨c, hc, rfl⟩, hne⟩
        rcases List.mem_cons.1 (hp.mem_iff.1 hc) with rfl | hc'
        · rw [(same_iff (hok c (hsub c hc)) _).2 rfl] at hne; cases hne
        · exact ⟨c, hc', rfl⟩
      · rintro ⟨c, hc, rfl⟩
        have hcm := hp.mem_iff.2 (List.mem_cons_of_mem a hc)
        refine ⟨⟨c, hcm, rfl⟩, ?_⟩
        rw [← Bool.not_eq_true, same_iff (hok c (hsub c hcm))]
        intro he
        have := key_inj hok hnd (hsub c hcm) haL he
        subst this
        exact hnd2.1 hc
end

section
variable {P : Program} {k : TypeId} {α H : Type} {M : MK P k α H} (w : World) {ops : Array Oper} {rest : List Oper} {o : Oper} {a : Act} {Q : Exit → Act → World → Prop} {b : Nat} {L : List α}

theorem wpList_range_tab (hg : o.guard = none) (m : Operand) (t : TypeId) (hop : o.op = Op.range t m) (e : TypeId) (ht : P.underlying t = some (.map k e)) (hm : a.eval m = .map (some b)) (h : MapAt M w b L)
    (hK : ∀ w' cnt, RangeAt M w' b w.heap.size L L cnt → w.grownBy w' none → w'.heap.size = w.heap.size + 1 → wpList P ops Q rest (a.put o.dst (.pointer (some ⟨w.heap.size, 0, none⟩))) w') :
    wpList P ops Q (o :: rest) a w := by
  refine wpList_plain hg fun K' hK' => ?_
  obtain ⟨w', hrun, ⟨cnt, r1⟩, r2, r3⟩ := h.range ht
  unfold Oper.wp
  simp [execOp, hop, hm, hrun, Result.andThen]
  exact hK' _ _ (hK w' cnt r1 r2 r3)

theorem wpList_next_tab (hg : o.guard = none) (it : Operand) (hop : o.op = Op.next it false) {r cnt : Nat} {left : List α} (hit : a.eval it = .pointer (some ⟨r, 0, none⟩)) (h : RangeAt M w b r L left cnt)
    (hDone : left = [] → wpList P ops Q rest (a.put o.dst (.tuple #[.bool false])) w)
    (hMore : ∀ (x : α) (left' : List α) (w' : World) (cnt' : Nat), left.Perm (x :: left') → x ∈ L → RangeAt M w' b r L left' cnt' → cnt' < cnt → w.grownBy w' (some r) → w'.heap.size = w.heap.size →
      (Instr.entry (.pointer (some ⟨r, 0, none⟩))).run P w' = .ok (.tuple #[M.kv x, M.val x]) w' → wpList P ops Q rest (a.put o.dst (.tuple #[.bool true, M.kv x, M.val x])) w') :
    wpList P ops Q (o :: rest) a w := by
  refine wpList_plain hg fun K' hK' => ?_
  unfold Oper.wp
  rcases h.next o.type with ⟨h0, hrun⟩ | ⟨x, left', w', cnt', hp, hx, hrun, hrg, hlt, hgr, hsz, hen⟩
  · simp [execOp, hop, hit, hrun, Result.andThen]
    exact hK' _ _ (hDone h0)
  · simp [execOp, hop, hit, hrun, Result.andThen]
    exact hK' _ _ (hMore x left' w' cnt' hp hx hrg hlt hgr hsz hen)

theorem wpList_look_tab (hg : o.guard = none) (m x : Operand) (t : TypeId) (c : Bool) (hop : o.op = Op.lookup t m x c) (e : TypeId) (ht : P.underlying t = some (.map k e)) {z : Value} (hz : (zeroValue e).run P w = .ok z w) (hm : a.eval m = .map (some b)) (h : MapAt M w b L)
    {kv : Value} {kl : Lit} (hx : a.eval x = kv) (hkey : keyOf P k kv = some kl)
    (hNo : (∀ u ∈ L, M.key u ≠ kl) → wpList P ops Q rest (a.put o.dst (if c then .tuple #[z, .bool false] else z)) w)
    (hYes : ∀ u ∈ L, M.key u = kl → wpList P ops Q rest (a.put o.dst (if c then .tuple #[M.val u, .bool true] else M.val u)) w) :
    wpList P ops Q (o :: rest) a w := by
  refine wpList_plain hg fun K' hK' => ?_
  unfold Oper.wp
  rcases h.look c ht hz hkey with ⟨h0, hrun⟩ | ⟨u, hu, he, hrun⟩
  · simp only [execOp, hop, hm, hx, hrun, Sem.run_bind, Sem.run_pure, Result.andThen]
    exact hK' _ _ (hNo h0)
  · simp only [execOp, hop, hm, hx, hrun, Sem.run_bind, Sem.run_pure, Result.andThen]
    exact hK' _ _ (hYes u hu he)

theorem wpList_store_tab [DecidableEq Lit] (hg : o.guard = none) (m x v : Operand) (t : TypeId) (hop : o.op = Op.mapUpdate t m x v) (e : TypeId) (ht : P.underlying t = some (.map k e)) (hm : a.eval m = .map (some b)) (h : MapAt M w b L) (hn : L.length < maxLen)
    {u : α} (hu : M.ok u) (hx : a.eval x = M.kv u) (hv : a.eval v = M.val u)
    (hK : ∀ w', MapAt M w' b (u :: L.filter fun c => decide (M.key c ≠ M.key u)) → w.grownBy w' (some b) → wpList P ops Q rest (a.put o.dst undef) w') :
    wpList P ops Q (o :: rest) a w := by
  refine wpList_plain hg fun K' hK' => ?_
  obtain ⟨w', hrun, r1, r2⟩ := h.store ht hn hu
  unfold Oper.wp
  simp only [execOp, hop, hm, hx, hv, hrun, Sem.run_bind, Sem.run_pure, Result.andThen]
  exact hK' _ _ (hK w' r1 r2)
theorem wpList_drop_tab [DecidableEq Lit] (hg : o.guard = none) (m x : Operand) (t : TypeId) (hop : o.op = Op.call { callee := Callee.builtin Builtin.delete, args := #[m, x], argTypes := #[t, k] }) (e : TypeId) (ht : P.underlying t = some (.map k e)) (hm : a.eval m = .map (some b)) (h : MapAt M w b L)
    {kv : Value} {kl : Lit} (hx : a.eval x = kv) (hkey : keyOf P k kv = some kl)
    (hK : ∀ w', MapAt M w' b (L.filter fun c => decide (M.key c ≠ kl)) → w.grownBy w' (some b) → wpList P ops Q rest (a.put o.dst (.tuple #[])) w') :
    wpList P ops Q (o :: rest) a w := by
  refine wpList_plain hg fun K' hK' => ?_
  obtain ⟨w', hrun, r1, r2⟩ := h.drop (ty := o.type) ht hkey
  unfold Oper.wp
  simp [execOp, hop, resolve, invoke, builtin, hm, hx, hrun, Result.andThen]
  exact hK' _ _ (hK w' r1 r2)
end

theorem but_below {w w' : World} (hb : Below w.heap.size w w') (r : Option Nat) : w.grownBy w' r := ⟨hb.os, hb.tape, hb.output, hb.size, fun i hi _ => hb.block i hi⟩
theorem but_then {a b c : World} {r : Option Nat} (h : a.grownBy b r) (k : b.grownBy c r) : a.grownBy c r :=
  ⟨k.os.trans h.os, k.tape.trans h.tape, k.output.trans h.output, Nat.le_trans h.size k.size, fun i hi hne => (k.block i (Nat.lt_of_lt_of_le hi h.size) hne).trans (h.block i hi hne)⟩
/-- what lay below stays, where the one block that turned is newer. -/
theorem below_but {B r : Nat} {a b c : World} (h : Below B a b) (k : b.grownBy c (some r)) (hr : B ≤ r) (hB : B ≤ b.heap.size) : Below B a c :=
  h.grown k hB fun j e => by rw [Option.some.inj e] at hr; exact hr
theorem Row1.but {w w' : World} {g r : Nat} {e : TypeId} {xs : List Value} (h : Row1 w g e xs) (hg : w.grownBy w' (some r)) (hne : g ≠ r) : Row1 w' g e xs := h.keep (hg.block g h.lt (fun e => hne (Option.some.inj e)))
end Go.Proofs.YtgdfphcggjclkaaDoor
