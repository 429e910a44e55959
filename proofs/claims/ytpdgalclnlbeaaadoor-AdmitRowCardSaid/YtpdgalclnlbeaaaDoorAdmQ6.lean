/-
  Parts of these texts that the statement needs: AdA, ArgB, Card, AdB, AdC, AdD.
-/
import Derived.Test.YtpdgalclnlbeaaaDoorAdmQ5
import Derived.Lib.SliceRun
import Derived.Test.YtpdgalclnlbeaaaDoorAdmQ1
import Derived.Deep.Slices
import Derived.Test.YtpdgalclnlbeaaaDoorAdmQ2
import Derived.Test.YtpdgalclnlbeaaaDoorRows
import Derived.Test.YtpdgalclnlbeaaaDoorCards
import Derived.Test.YtpdgalclnlbeaaaDoorTie
import Derived.ProofKit
import Derived.LaidMore
import Derived.LaidHandle
import Derived.OpenShut
import Derived.Stop.Joined
import Derived.Stop.LaidErr
import Derived.Lib.LaidTab
import Derived.SevenTiedAt

section
namespace Go.Proofs.YtpdgalclnlbeaaaDoor
open Go Go.RowKit Go.Maps Go.Shelf Go.Proofs
def NewInts (xs : List Int) (w : World) (e : Ending) (w' : World) : Prop := ∃ v, e = .returned v ∧ Own w' w.heap.size 2 v (xs.map (.int .i64)) ∧ Below w.heap.size w w'
set_option maxRecDepth 100000 in
set_option maxHeartbeats 1000000 in
theorem clone_c (A : Option Addr) (l : List Int) (c : Nat) (w : World) (hA : Cells w A (l.map (.int .i64))) (hl : l.length ≤ 17592186044415) :
    Calls Tryd.prog 37 #[.slice A l.length c] w (NewInts l w) := by
  go_enter Tryd.func37, Tryd.ntmps37
  cases A with
  | none =>
    have h0 : l = [] := by
      rcases hA with h | ⟨b, off, h, _⟩
      · simpa using h
      · cases h
    subst h0
    have he : (binOp .eql 30 (.slice none 0 c) (.slice none 0 0)).run Tryd.prog w = .ok (.bool true) w := Lib.run_eql_slice_nil w _ _ _ _ _ _ _ Tryd.underlying30
    go_wp2
    go_ret
    exact ⟨_, rfl, by simpa using Own.nil w w.heap.size 2, Below.refl _ _⟩
  | some A =>
    have hr := row1_new w [] 2
    have hb := below_alloc w (.cells #[] 2)
    have hown : Own (w.alloc (.cells #[] 2)) w.heap.size 2 (.slice (some ⟨w.heap.size, 0, none⟩) 0 0) [] := by
      simpa using hr.own (base := w.heap.size) (Nat.le_refl _) (by simp)
    have hA2 := hA.below hb
    have he : (binOp .eql 30 (.slice (some A) l.length c) (.slice none 0 0)).run Tryd.prog w = .ok (.bool false) w := Lib.run_eql_slice_nil w _ _ _ _ _ _ _ Tryd.underlying30
    have hlen : (l.map (Value.int .i64)).length = l.length := by simp
    go_wp2_with (at_builtin; refine wpList_appends elt_i64 _ rfl _ _ rfl w.heap.size hown rfl hA2 (by simp; rfl) (fun u hu => by simp only [List.mem_map] at hu; obtain ⟨z, _, rfl⟩ := hu; rfl) (by simp; omega) (by simp; omega) (by simp) ?_; intro v' w5 hown5 _ hb8)
    go_ret
    exact ⟨_, rfl, by simpa using hown5, hb.trans hb8⟩
/-- a query. -/
structure Ask where
  id : Int
  x : List Int
/-- a query as two cells. -/
structure AskV where
  id : Int
  v : Value
abbrev acl (a : AskV) : List Value := [.int .i64 a.id, a.v]
theorem flatA_at (l : List AskV) (k : Nat) : (l.flatMap acl)[k * 2]? = (l[k]?).map (fun a => Value.int .i64 a.id) ∧ (l.flatMap acl)[k * 2 + 1]? = (l[k]?).map AskV.v := by
  have h0 := flat_at acl 2 (fun _ => rfl) l k 0 (by decide)
  have h1 := flat_at acl 2 (fun _ => rfl) l k 1 (by decide)
  rw [Nat.add_zero] at h0
  rw [h0, h1]
  cases l[k]? <;> exact ⟨rfl, rfl⟩
theorem flatA_len (l : List AskV) : (l.flatMap acl).length = l.length * 2 := by
  induction l with
  | nil => rfl
  | cons a l ih => rw [List.flatMap_cons, List.length_append, ih, List.length_cons]; simp; omega
/-- these cells read as these queries. -/
def AsksV (w : World) (vs : List AskV) (l : List Ask) : Prop := vs.length = l.length ∧ ∀ (i : Nat) (a : Ask), l[i]? = some a → ∃ u, vs[i]? = some u ∧ u.id = a.id ∧ RowI w u.v a.x
/-- the slice at A reads as these queries. -/
def Asks (w : World) (A : Option Addr) (l : List Ask) : Prop := ∃ vs : List AskV, Cells w A (vs.flatMap acl) ∧ AsksV w vs l
theorem AsksV.keep {w w' : World} {vs : List AskV} {l : List Ask} (h : AsksV w vs l) (hk : ∀ p : Addr, p.block < w.heap.size → w'.cell? p = w.cell? p) : AsksV w' vs l :=
  ⟨h.1, fun i a hi => let ⟨u, h1, h2, h3⟩ := h.2 i a hi; ⟨u, h1, h2, h3.keep hk⟩⟩
theorem Asks.below {w w' : World} {A : Option Addr} {l : List Ask} (h : Asks w A l) (hb : Below w.heap.size w w') : Asks w' A l := by
  obtain ⟨vs, h1, h2⟩ := h
  exact ⟨vs, h1.below hb, h2.keep fun _ hp => hb.cell hp⟩
theorem Asks.dr {w w' : World} {A : Option Addr} {l : List Ask} (h : Asks w A l) (hd : Dr w w') : Asks w' A l := by
  obtain ⟨n, rfl⟩ := hd; exact h
theorem asks_none (w : World) : Asks w none [] := ⟨[], .inl rfl, rfl, fun i a h => by simp at h⟩
theorem Asks.at_ {w : World} {A : Option Addr} {l : List Ask} (h : Asks w A l) {k : Nat} {a : Ask} (hk : l[k]? = some a) :
    ∃ b off A' c, A = some ⟨b, off, none⟩ ∧ w.cell? ⟨b, off + k * 2, none⟩ = some (.int .i64 a.id) ∧ w.cell? ⟨b, off + k * 2 + 1, none⟩ = some (.slice A' a.x.length c) ∧ Cells w A' (a.x.map (.int .i64)) ∧ a.x.length ≤ 9223372036854775807 := by
  obtain ⟨vs, h1, _, h3⟩ := h
  obtain ⟨u, hu, hid, A', c, hv, hc, hl⟩ := h3 k a hk
  obtain ⟨f1, f2⟩ := flatA_at vs k
  rw [hu] at f1 f2
  obtain ⟨b, off, rfl, hcell⟩ := h1.at_ f1
  obtain ⟨b2, off2, e2, hcell2⟩ := h1.at_ f2
  cases e2
  refine ⟨b, off, A', c, rfl, by rw [hcell]; show some (Value.int .i64 u.id) = _; rw [hid], ?_, hc, hl⟩
  rw [← hv, Nat.add_assoc]; exact hcell2
/-- the first of them. -/
theorem Asks.take {w : World} {A : Option Addr} {l : List Ask} (h : Asks w A l) (k : Nat) : Asks w A (l.take k) := by
  obtain ⟨vs, h1, h2, h3⟩ := h
  refine ⟨vs.take k, ?_, by rw [List.length_take, List.length_take, h2], fun i a hi => ?_⟩
  · have e : vs.flatMap acl = (vs.take k).flatMap acl ++ (vs.drop k).flatMap acl := by rw [← List.flatMap_append, List.take_append_drop]
    rcases h1 with h | ⟨b, off, rfl, hc⟩
    · rw [e] at h
      exact .inl (List.append_eq_nil_iff.1 h).1
    · refine .inr ⟨b, off, rfl, fun i u hu => hc i u ?_⟩
      rw [e, List.getElem?_append_left (List.getElem?_eq_some_iff.1 hu).1]
      exact hu
  · rw [List.getElem?_take] at hi
    split at hi
    · rename_i hik
      obtain ⟨u, hu, h4⟩ := h3 i a hi
      exact ⟨u, by rw [List.getElem?_take, if_pos hik]; exact hu, h4⟩
    · cases hi
/-- what queries are. -/
structure AskOk (l : List Ask) : Prop where
  few : l.length ≤ 1000
  id : ∀ a ∈ l, I64 a.id
  x : ∀ a ∈ l, I64s a.x
  len : ∀ a ∈ l, a.x.length ≤ 1000000
theorem AskOk.take {l : List Ask} (h : AskOk l) (k : Nat) : AskOk (l.take k) := ⟨by have := h.few; rw [List.length_take]; omega, fun a ha => h.id a (List.mem_of_mem_take ha), fun a ha => h.x a (List.mem_of_mem_take ha), fun a ha => h.len a (List.mem_of_mem_take ha)⟩
theorem elt_rowsA : Elt Tryd.prog 48 44 (.slice none 0 0) 24 := Elt.of Tryd.underlying48 (by kernel_rfl) rfl
/-- the rows of queries, and of more. -/
def rowsP (p : Par) (l : List Ask) (more : List (List Int)) : List (List Int) := l.map (fun a => rowS p a.x) ++ more.map (rowS p)
theorem OwnRows.grid {w : World} {base : Nat} {e0 e : TypeId} {v : Value} {f : List (List Int)} (h : OwnRows w base e0 e v (f.map u64v)) : ∃ A c, v = .slice A f.length c ∧ Grid w A f := by
  obtain ⟨vs, h1, h2, h3⟩ := h
  obtain ⟨A, c, rfl, hc⟩ := h1.form
  have hl : vs.length = f.length := by rw [h2, List.length_map]
  refine ⟨A, c, by rw [hl], vs, hc, hl, fun i l hi => ?_⟩
  obtain ⟨u, hu⟩ := get_of_lt (l := vs) (k := i) (by rw [hl]; exact (List.getElem?_eq_some_iff.1 hi).1)
  obtain ⟨A', c', rfl, hcs, hln⟩ := (h3 i u (u64v l) hu (by rw [List.getElem?_map, hi]; rfl)).form
  rw [List.length_map] at hln
  exact ⟨_, hu, A', c', by rw [List.length_map], hcs, hln⟩
theorem rowS_len (p : Par) (x : List Int) : (rowS p x).length ≤ 5 := by
  unfold rowS
  split
  · rename_i h
    have := (fits_iff p).1 h
    have h1 := this.D
    rw [List.length_append, padded_len]; simp; omega
  · simp
theorem rowsP_ok (p : Par) (l : List Ask) (more : List (List Int)) (h : l.length ≤ 1000) (h2 : more.length ≤ 1000) : RowsOk (rowsP p l more) where
  few := by unfold rowsP; simp; omega
  len r hr := by
    have : ∃ x, r = rowS p x := by
      rcases List.mem_append.1 hr with h | h <;> obtain ⟨a, _, rfl⟩ := List.mem_map.1 h <;> exact ⟨_, rfl⟩
    obtain ⟨x, rfl⟩ := this
    have := rowS_len p x; omega
  u r hr := by
    have : ∃ x, r = rowS p x := by
      rcases List.mem_append.1 hr with h | h <;> obtain ⟨a, _, rfl⟩ := List.mem_map.1 h <;> exact ⟨_, rfl⟩
    obtain ⟨x, rfl⟩ := this
    exact rowS_u64 p x
theorem par_cells {w : World} {g : Nat} {e : TypeId} {p : Par} (h : Row1 w g e (pcells p)) : w.cell? ⟨g, 0, none⟩ = some (.int .u64 p.P) ∧ w.cell? ⟨g, 1, none⟩ = some (.int .u64 p.Q) ∧ w.cell? ⟨g, 2, none⟩ = some (.int .u64 p.G) ∧ w.cell? ⟨g, 3, none⟩ = some (.int .u64 p.H) ∧ w.cell? ⟨g, 4, none⟩ = some (.int .i64 p.Nodes) ∧ w.cell? ⟨g, 5, none⟩ = some (.int .i64 p.N) ∧ w.cell? ⟨g, 6, none⟩ = some (.int .i64 p.T) ∧ w.cell? ⟨g, 7, none⟩ = some (.int .i64 p.K) ∧ w.cell? ⟨g, 8, none⟩ = some (.int .i64 p.D) ∧ w.cell? ⟨g, 9, none⟩ = some (.int .i64 p.R) ∧ w.cell? ⟨g, 10, none⟩ = some (.int .i64 p.M) ∧ w.cell? ⟨g, 11, none⟩ = some (.int .i64 p.X) :=
  ⟨h.cell rfl, h.cell rfl, h.cell rfl, h.cell rfl, h.cell rfl, h.cell rfl, h.cell rfl, h.cell rfl, h.cell rfl, h.cell rfl, h.cell rfl, h.cell rfl⟩
set_option maxRecDepth 100000 in
set_option maxHeartbeats 2000000 in
theorem arows_c (p : Par) (hp : p.ok) (A : Option Addr) (l : List Ask) (c : Nat) (A2 : Option Addr) (more : List (List Int)) (c2 : Nat) (w : World) (hA : Asks w A l) (hl : AskOk l) (hA2 : GridI w A2 more) (hm : more.length ≤ 1000) (hmu : Ints more) (hml : ∀ x ∈ more, x.length ≤ 1000000) :
    Calls Tryd.prog 19 #[pval p, .slice A l.length c, .slice A2 more.length c2] w fun e w' => ∃ v, e = .returned v ∧ OwnRows w' w.heap.size 44 22 v ((rowsP p l more).map u64v) ∧ Below w.heap.size w w' := by
  have HL := hid hl
  have HA := hid hA
  have HA2 := hid hA2
  have hlf := hl.few
  have HB0 := hid (below_alloc w (.cells (pcells p).toArray 24))
  have HP0 := hid (row1_new w (pcells p) 24)
  clear hA hA2 hl
  go_enter Tryd.func19, Tryd.ntmps19
  go_wp2
  generalize w.alloc (.cells #[.int .u64 p.P, .int .u64 p.Q, .int .u64 p.G, .int .u64 p.H, .int .i64 p.Nodes, .int .i64 p.N, .int .i64 p.T, .int .i64 p.K, .int .i64 p.D, .int .i64 p.R, .int .i64 p.M, .int .i64 p.X] 24) = w1 at *
  go_loopw [7, 14] (fun o i wr => ∃ k : Nat, i = .int .i64 (k : Int) ∧ k ≤ l.length ∧ Hid (OwnRows wr w.heap.size 44 22 o ((rowsP p (l.take k) []).map u64v) ∧ Row1 wr w.heap.size 24 (pcells p) ∧ Below w.heap.size w wr)) (fun _ i _ => l.length - (intOf i).toNat)
  case atStart => exact ⟨0, rfl, by omega, hid ⟨OwnRows.nil _ _ _ _, HP0.out, HB0.out⟩⟩
  case round =>
    obtain ⟨k, rfl, hk, HI⟩ := hrel
    rename_i o wr
    by_cases hlt : k < l.length
    · obtain ⟨a, ha⟩ := get_of_lt hlt
      obtain ⟨b, off, A', c', rfl, ca, cx, hcs, hxl⟩ := (HA.out.below HI.out.2.2).at_ ha
      have hbx := below_alloc wr (.cells #[.int .i64 a.id, .slice A' a.x.length c'] 32)
      obtain ⟨p0, p1, p2, p3, p4, p5, p6, p7, p8, p9, p10, p11⟩ := par_cells (HI.out.2.1.below hbx)
      have HR := hid (frow_c p hp A' a.x c' (wr.alloc (.cells #[.int .i64 a.id, .slice A' a.x.length c'] 32)) (hcs.below hbx) (by have := HL.out.len a (List.mem_of_getElem? ha); omega) (HL.out.x a (List.mem_of_getElem? ha)))
      have HS := hid (show (rowsP p (l.take (k + 1)) []).map u64v = (rowsP p (l.take k) []).map u64v ++ [u64v (rowS p a.x)] by unfold rowsP; rw [take_snocR ha]; simp)
      have HBX := hid hbx
      have hlen : (rowsP p (l.take k) []).length = k := by unfold rowsP; simp; omega
      clear ha hcs hbx
      generalize rowS p a.x = r at *
      go_wp2_with (first
        | (go_at_call 30; refine HR.out.mono ?_; rintro e w3 ⟨v3, rfl, ho3, hb3⟩
           have hB3 := below_next HBX.out HBX.out.size hb3
           have hRows := HI.out.1.below hB3
           obtain ⟨vs, ho, hvl, hvr⟩ := hRows
           have hvs : vs.length = k := by rw [hvl, List.length_map, hlen]
           have hrt := ho3.rowT
           obtain ⟨A9, c9, rfl, _⟩ := ho3.form
           rw [List.length_map] at hrt
           have hsz3 : w.heap.size ≤ w3.heap.size := by have h1 := HI.out.2.2.size; have h2 := hB3.size; omega)
        | (at_builtin; refine wpList_push elt_rowsA w3 rfl _ _ rfl w.heap.size ho rfl _ rfl rfl (by rw [hvs]; omega) (by rw [hvs]; omega) hsz3 ?_; intro v' w5 ho5 hk5 hb5))
      have HN := hid (show OwnRows w5 w.heap.size 44 22 v' ((rowsP p (l.take (k + 1)) []).map u64v) ∧ Row1 w5 w.heap.size 24 (pcells p) ∧ Below w.heap.size w w5 from by
        have hPb := (HI.out.2.1.below hB3)
        refine ⟨by rw [HS.out]; exact OwnRows.push (by decide) hvl hvr ho hrt ho5 hk5, hPb.keep (hk5 _ hPb.lt (own_ne_row ho hPb (by decide))), (below_next HI.out.2.2 HI.out.2.2.size hB3).trans hb5⟩)
      clear ho5 hk5 hb5 HR HI hrt hvr ho ho3 hb3 hB3
      go_roundw
      case rel => exact ⟨k + 1, by go_num, by omega, HN⟩
      case measure => simp [intOf]; omega
    · obtain rfl : k = l.length := by omega
      rw [List.take_length] at HI
      have HW1 := hid HI.out
      clear HI HB0 HP0 HA
      go_wp2
      generalize wr = w2 at *
      go_loopw [7, 28] (fun o i wr => ∃ k : Nat, i = .int .i64 (k : Int) ∧ k ≤ more.length ∧ Hid (OwnRows wr w.heap.size 44 22 o ((rowsP p l (more.take k)).map u64v) ∧ Row1 wr w.heap.size 24 (pcells p) ∧ Below w.heap.size w wr)) (fun _ i _ => more.length - (intOf i).toNat)
      case atStart => exact ⟨0, rfl, by omega, hid HW1.out⟩
      case round =>
        obtain ⟨k, rfl, hk, HI⟩ := hrel
        rename_i o wr
        by_cases hlt : k < more.length
        · obtain ⟨x, hx⟩ := get_of_lt hlt
          obtain ⟨b, off, A', c', rfl, cx, hcs, hxl⟩ := (HA2.out.below HI.out.2.2).at_ hx
          obtain ⟨p0, p1, p2, p3, p4, p5, p6, p7, p8, p9, p10, p11⟩ := par_cells HI.out.2.1
          have HR := hid (frow_c p hp A' x c' wr hcs (by have := hml x (List.mem_of_getElem? hx); omega) (hmu x (List.mem_of_getElem? hx)))
          have HS := hid (show (rowsP p l (more.take (k + 1))).map u64v = (rowsP p l (more.take k)).map u64v ++ [u64v (rowS p x)] by unfold rowsP; rw [take_snocR hx]; simp)
          have hlen : (rowsP p l (more.take k)).length = l.length + k := by unfold rowsP; simp; omega
          clear hx hcs
          generalize rowS p x = r at *
          go_wp2_with (first
            | (go_at_call 30; refine HR.out.mono ?_; rintro e w3 ⟨v3, rfl, ho3, hb3⟩
               have hB3 := hb3
               have hRows := HI.out.1.below hB3
               obtain ⟨vs, ho, hvl, hvr⟩ := hRows
               have hvs : vs.length = l.length + k := by rw [hvl, List.length_map, hlen]
               have hrt := ho3.rowT
               obtain ⟨A9, c9, rfl, _⟩ := ho3.form
               rw [List.length_map] at hrt
               have hsz3 : w.heap.size ≤ w3.heap.size := by have h1 := HI.out.2.2.size; have h2 := hB3.size; omega)
            | (at_builtin; refine wpList_push elt_rowsA w3 rfl _ _ rfl w.heap.size ho rfl _ rfl rfl (by rw [hvs]; omega) (by rw [hvs]; omega) hsz3 ?_; intro v' w5 ho5 hk5 hb5))
          have HN := hid (show OwnRows w5 w.heap.size 44 22 v' ((rowsP p l (more.take (k + 1))).map u64v) ∧ Row1 w5 w.heap.size 24 (pcells p) ∧ Below w.heap.size w w5 from by
            have hPb := (HI.out.2.1.below hB3)
            refine ⟨by rw [HS.out]; exact OwnRows.push (by decide) hvl hvr ho hrt ho5 hk5, hPb.keep (hk5 _ hPb.lt (own_ne_row ho hPb (by decide))), (below_next HI.out.2.2 HI.out.2.2.size hB3).trans hb5⟩)
          clear ho5 hk5 hb5 HR HI hrt hvr ho ho3 hb3 hB3
          go_roundw
          case rel => exact ⟨k + 1, by go_num, by omega, HN⟩
          case measure => simp [intOf]; omega
        · obtain rfl : k = more.length := by omega
          rw [List.take_length] at HI
          go_wp2
          go_ret
          exact ⟨_, rfl, HI.out.1, HI.out.2.2⟩
end Go.Proofs.YtpdgalclnlbeaaaDoor
end

section
namespace Go.Proofs.YtpdgalclnlbeaaaDoor
open Go.ChangeShapes Go.WideShapes Go.ChangeAt Go.RowKit Go.Deep
section
variable {H : Type} {enc : TypeId × Value → H}
set_option maxRecDepth 100000 in
theorem trod_intA {w : World} {base : Nat} {spare : Nat → Bool} {held : Bool} {t : TypeId} {k : IntKind} {fuel : Nat} {c : Value} {x : DataW H × List MemPlace} (ht : Tryd.prog.underlying t = some (.int k)) (h : DataW.trod enc Tryd.prog w base spare held fuel t [c] = some x) :
    ∃ z, c = .int k z ∧ (Lit.int k z).wf = true := by
  cases fuel with
  | zero => simp [DataW.trod] at h
  | succ n =>
    unfold DataW.trod at h
    rw [ht] at h
    cases c <;> simp at h
    rename_i k' z
    obtain ⟨⟨rfl, h2⟩, _⟩ := h
    exact ⟨z, rfl, h2⟩
set_option maxRecDepth 100000 in
theorem par_at {r : Reach} {b0 : Nat} {v : Value} {d : DataW H} {p : List MemPlace} {w : World} {base : Nat} {spare : Nat → Bool} {held : Bool} (hv : Value.okWide Tryd.prog w r b0 24 v) (h : DataW.Trod enc Tryd.prog w base spare held 24 v d p) :
    ∃ q : Par, v = pval q ∧ q.ok := by
  obtain ⟨cs, n, rfl, hlen, hf⟩ := fields_at Tryd.underlying24 (by kernel_rfl) (by kernel_rfl) hv h
  match cs, hlen with
  | [c0, c1, c2, c3, c4, c5, c6, c7, c8, c9, c10, c11], _ =>
    obtain ⟨_, g0⟩ := hf 0 _ c0 rfl rfl
    obtain ⟨_, g1⟩ := hf 1 _ c1 rfl rfl
    obtain ⟨_, g2⟩ := hf 2 _ c2 rfl rfl
    obtain ⟨_, g3⟩ := hf 3 _ c3 rfl rfl
    obtain ⟨_, g4⟩ := hf 4 _ c4 rfl rfl
    obtain ⟨_, g5⟩ := hf 5 _ c5 rfl rfl
    obtain ⟨_, g6⟩ := hf 6 _ c6 rfl rfl
    obtain ⟨_, g7⟩ := hf 7 _ c7 rfl rfl
    obtain ⟨_, g8⟩ := hf 8 _ c8 rfl rfl
    obtain ⟨_, g9⟩ := hf 9 _ c9 rfl rfl
    obtain ⟨_, g10⟩ := hf 10 _ c10 rfl rfl
    obtain ⟨_, g11⟩ := hf 11 _ c11 rfl rfl
    obtain ⟨z0, rfl, w0⟩ := trod_intA Tryd.underlying22 g0
    obtain ⟨z1, rfl, w1⟩ := trod_intA Tryd.underlying22 g1
    obtain ⟨z2, rfl, w2⟩ := trod_intA Tryd.underlying22 g2
    obtain ⟨z3, rfl, w3⟩ := trod_intA Tryd.underlying22 g3
    obtain ⟨z4, rfl, w4⟩ := trod_intA Tryd.underlying3 g4
    obtain ⟨z5, rfl, w5⟩ := trod_intA Tryd.underlying3 g5
    obtain ⟨z6, rfl, w6⟩ := trod_intA Tryd.underlying3 g6
    obtain ⟨z7, rfl, w7⟩ := trod_intA Tryd.underlying3 g7
    obtain ⟨z8, rfl, w8⟩ := trod_intA Tryd.underlying3 g8
    obtain ⟨z9, rfl, w9⟩ := trod_intA Tryd.underlying3 g9
    obtain ⟨z10, rfl, w10⟩ := trod_intA Tryd.underlying2 g10
    obtain ⟨z11, rfl, w11⟩ := trod_intA Tryd.underlying2 g11
    exact ⟨⟨z0, z1, z2, z3, z4, z5, z6, z7, z8, z9, z10, z11⟩, rfl, ⟨u64_of w0, u64_of w1, u64_of w2, u64_of w3, i64_of w4, i64_of w5, i64_of w6, i64_of w7, i64_of w8, i64_of w9, i64_of w10, i64_of w11⟩⟩
set_option maxRecDepth 100000 in
theorem ints_at {fuel : Nat} {v : Value} {x : DataW H × List MemPlace} {w : World} (h : DataW.trod enc Tryd.prog w 0 (fun _ => true) true fuel 30 [v] = some x) :
    ∃ (A : Option Addr) (l : List Int) (c : Nat), v = .slice A l.length c ∧ Cells w A (l.map (.int .i64)) ∧ l.length ≤ 9223372036854775807 ∧ I64s l := by
  obtain ⟨A, l, c, h1, h2, h3, h4⟩ := nums_at Tryd.underlying30 Tryd.underlying2 (by kernel_rfl) h
  exact ⟨A, l, c, h1, h2, h3, fun z hz => i64_of (h4 z hz)⟩
set_option maxRecDepth 100000 in
/-- a value of one cell. -/
theorem one_of {w : World} {base : Nat} {spare : Nat → Bool} {held : Bool} {t : TypeId} {v : Value} {d : DataW H} {p : List MemPlace} {r : Reach} {b0 : Nat} {e : TypeId} (ht : Tryd.prog.underlying t = some (.slice e)) (hv : Value.okWide Tryd.prog w r b0 t v) (h : DataW.Trod enc Tryd.prog w base spare held t v d p) :
    ∃ fuel, DataW.trod enc Tryd.prog w base spare held fuel t [v] = some (d, p) := by
  obtain ⟨fuel, hf⟩ := h
  obtain ⟨a, n, c, rfl⟩ := okWide_slice ht hv
  exact ⟨fuel, hf⟩
theorem add_noneA {a : Addr} (h : a.spot = none) (j : Nat) : a.add j = ⟨a.block, a.off + j, none⟩ := by
  unfold Addr.add
  split
  · rename_i h3; subst h3; cases a; simp only at h; subst h; rfl
  · rfl
theorem two_of {α : Type} {l : List α} (h : l.length = 2) : ∃ a0 a1, l = [a0, a1] := by
  match l, h with
  | [a0, a1], _ => exact ⟨a0, a1, rfl⟩
/-- queries: what the two cells are. -/
theorem oneA_cells {w : World} {n : Nat} {c0 c1 : Value} {y0 y1 : DataW H × List MemPlace}
    (h0 : DataW.trod enc Tryd.prog w 0 (fun _ => true) true n 3 [c0] = some y0) (h1 : DataW.trod enc Tryd.prog w 0 (fun _ => true) true n 30 [c1] = some y1) :
    ∃ (u : AskV) (a : Ask), [c0, c1] = acl u ∧ u.id = a.id ∧ RowI w u.v a.x ∧ I64 a.id ∧ I64s a.x := by
  obtain ⟨z0, rfl, w0⟩ := trod_intA Tryd.underlying3 h0
  obtain ⟨A, l, c, rfl, hA, hl, hu⟩ := ints_at h1
  exact ⟨⟨z0, .slice A l.length c⟩, ⟨z0, l⟩, rfl, rfl, ⟨A, c, rfl, hA, hl⟩, i64_of w0, hu⟩
set_option maxRecDepth 100000 in
theorem asks_at {fuel : Nat} {v : Value} {x : DataW H × List MemPlace} {w : World} (h : DataW.trod enc Tryd.prog w 0 (fun _ => true) true fuel 25 [v] = some x) :
    ∃ (A : Option Addr) (l : List Ask) (c : Nat), v = .slice A l.length c ∧ Asks w A l ∧ l.length ≤ 9223372036854775807 ∧ (∀ a ∈ l, I64 a.id) ∧ ∀ a ∈ l, I64s a.x := by
  have hS := Tryd.underlying32
  have hC : Tryd.prog.cellsOf 32 = 2 := by kernel_rfl
  rcases open_slice Tryd.underlying25 h with ⟨h1, _⟩ | ⟨a, len, cap, m, n, D, Pl, h1, _, hl, hm, hmm, hx, hi⟩
  · simp only [List.cons.injEq, and_true] at h1
    exact ⟨none, [], 0, h1, asks_none w, by simp, fun u hu => (by cases hu), fun u hu => (by cases hu)⟩
  · simp only [List.cons.injEq, and_true] at h1
    simp only [if_true] at hmm
    have key : ∀ i, ∃ p : AskV × Ask, i < len → (p.1.id = p.2.id ∧ RowI w p.1.v p.2.x ∧ I64 p.2.id ∧ I64s p.2.x) ∧ ∀ j, j < 2 → w.cell? ((a.add (i * 2)).add j) = (acl p.1)[j]? := by
      intro i
      by_cases hil : i < len
      · obtain ⟨cs', hc, ht'⟩ := hi i (by omega)
        rw [hC] at hc
        obtain ⟨ys, n', _, hD, hlen, hys, hf⟩ := DataW.trod_struct hS ht'
        obtain ⟨_, hcl, hat⟩ := World.cells?_some hc
        match cs', hcl with
        | [c0, c1], _ =>
          have o1 : oneCellFields Tryd.prog (Tryd.prog.fieldsOf 32) = true := by kernel_rfl
          simp only [Program.fieldsOf, hS] at o1
          obtain ⟨a0, b0⟩ := hone_of o1 0 _ rfl
          obtain ⟨a1, b1⟩ := hone_of o1 1 _ rfl
          have g0 := hf 0 _ rfl
          have g1 := hf 1 _ rfl
          rw [b0] at g0; rw [b1] at g1
          obtain ⟨y0, y1, rfl⟩ := two_of (show ys.length = 2 from hys)
          obtain ⟨u, q, hu, ho⟩ := oneA_cells (by simpa using g0) (by simpa using g1)
          exact ⟨(u, q), fun _ => ⟨ho, fun j hj => by rw [hat j hj, hu]⟩⟩
      · exact ⟨(⟨0, .int .i64 0⟩, ⟨0, []⟩), fun h => absurd h hil⟩
    obtain ⟨f, hf⟩ := Classical.axiomOfChoice key
    have hll : ((List.range len).map fun i => (f i).2).length = len := by simp
    refine ⟨some a, (List.range len).map fun i => (f i).2, cap, by rw [hll]; exact h1, ?_, by rw [hll]; unfold maxLen at hm; omega, ?_, ?_⟩
    · refine ⟨(List.range len).map fun i => (f i).1, ?_, by simp, ?_⟩
      · cases len with
        | zero => exact .inl rfl
        | succ len =>
          right
          obtain ⟨_, h5⟩ := hf 0 (by omega)
          have h0 := h5 0 (by omega)
          rw [Nat.zero_mul] at h0
          have ha0 : (a.add 0).add 0 = a := rfl
          rw [ha0] at h0
          have hs := spot_none (show w.cell? a = some (.int .i64 (f 0).1.id) from h0)
          refine ⟨a.block, a.off, by cases a; simp only at hs; subst hs; rfl, fun t u hu => ?_⟩
          have ht := (List.getElem?_eq_some_iff.1 hu).1
          rw [flatA_len] at ht
          simp only [List.length_map, List.length_range] at ht
          obtain ⟨f1, f2⟩ := flatA_at ((List.range (len + 1)).map fun i => (f i).1) (t / 2)
          have hr : ((List.range (len + 1)).map fun i => (f i).1)[t / 2]? = some (f (t / 2)).1 := by
            rw [List.getElem?_map, List.getElem?_range (by omega)]; rfl
          rw [hr] at f1 f2
          obtain ⟨_, h6⟩ := hf (t / 2) (by omega)
          rcases (show t % 2 = 0 ∨ t % 2 = 1 by omega) with e | e
          · have e2 : t / 2 * 2 = t := by omega
            rw [e2] at f1
            rw [f1] at hu
            have h7 := h6 0 (by omega)
            rw [add_noneA hs, add_noneA rfl, e2] at h7
            rw [Nat.add_zero] at h7
            rw [h7, ← hu]; rfl
          · have e2 : t / 2 * 2 + 1 = t := by omega
            rw [e2] at f2
            rw [f2] at hu
            have h7 := h6 1 (by omega)
            rw [add_noneA hs, add_noneA rfl] at h7
            simp only [Nat.add_assoc, e2] at h7
            rw [h7, ← hu]; rfl
      · intro i q hq
        have hil := (List.getElem?_eq_some_iff.1 hq).1
        rw [hll] at hil
        rw [List.getElem?_map, List.getElem?_range hil] at hq
        obtain ⟨⟨h6, h7, _⟩, _⟩ := hf i hil
        obtain rfl := Option.some.inj hq
        exact ⟨(f i).1, by rw [List.getElem?_map, List.getElem?_range hil]; rfl, h6, h7⟩
    · intro u hu
      obtain ⟨i, hi2, rfl⟩ := List.mem_map.1 hu
      exact (hf i (List.mem_range.1 hi2)).1.2.2.1
    · intro u hu
      obtain ⟨i, hi2, rfl⟩ := List.mem_map.1 hu
      exact (hf i (List.mem_range.1 hi2)).1.2.2.2
end
end Go.Proofs.YtpdgalclnlbeaaaDoor
end

section
namespace Go.Proofs.YtpdgalclnlbeaaaDoor
open Go.ChangeShapes Go.WideShapes Go.ChangeAt Go.RowKit
abbrev laidB : List (String × DataW Unit) := [("math/bits.deBruijn64tab", Rows.laid_math_bits_deBruijn64tab), ("consistory/mod.tried", Rows.laid_consistory_mod_tried)]
theorem tabs_of_laid {W : World} (h : laidMetH Tryd.prog laidB W) : Tabs W := by
  rw [MakeChecks.laidMetH_plain _ _ _ (by kernel_rfl)] at h
  have h1 : Lib.TabIs Tryd.prog W "math/bits.deBruijn64tab" .u8 (Lib.deBruijn64tab.map (fun n : Nat => (n : Int))) :=
    Lib.tabIs_of_head (g := 1) (n := 64) (t := 74) (e := 5) (by kernel_rfl) (by kernel_rfl) (by kernel_rfl) (by kernel_rfl) (by kernel_rfl) (by kernel_rfl) h
  have h2 : Lib.TabIs Tryd.prog W "consistory/mod.tried" .u64 triedL :=
    Lib.tabIs_of_head (g := 0) (n := 12) (t := 59) (e := 22) (by kernel_rfl) (by kernel_rfl) (by kernel_rfl) (by kernel_rfl) (by kernel_rfl) (by kernel_rfl) h.tail
  refine ⟨fun j hj => ?_, fun k z hz => ?_⟩
  · have := h1.cell (g := 1) (by kernel_rfl) j (by simpa using hj)
    rw [this]
    simp [List.getD_eq_getElem?_getD, List.getElem?_map, List.getElem?_eq_getElem hj]
  · have hk := (List.getElem?_eq_some_iff.1 hz).1
    have := h2.cell (g := 0) (by kernel_rfl) k hk
    rw [this, List.getD_eq_getElem?_getD, hz]; rfl
set_option maxRecDepth 100000 in
theorem door_met (os : Os) (args : Array Value) : laidMetH Tryd.prog laidB ((World.doorLaid Tryd.prog 400 os).forCall (fun _ _ => 0) ⟨#[], args, []⟩).memory :=
  laidMetH_of_parts3 (fuel := 8) (laidMet_of_run' 8 (by kernel_rfl) (by kernel_rfl)) (by kernel_rfl) (by kernel_rfl)
theorem own_knob : ownKnob Tryd.prog.godebug = none := by kernel_rfl
end Go.Proofs.YtpdgalclnlbeaaaDoor
end

section
namespace Go.Proofs.YtpdgalclnlbeaaaDoor
open Go Go.RowKit Go.Maps Go.Shelf Go.Proofs
/-- a value that reads as these lists. -/
def GridVal (w : World) (v : Value) (f : List (List Int)) : Prop := ∃ A c, v = .slice A f.length c ∧ Grid w A f
theorem GridVal.below {w w' : World} {v : Value} {f : List (List Int)} (h : GridVal w v f) (hb : Below w.heap.size w w') : GridVal w' v f := by
  obtain ⟨A, c, rfl, hg⟩ := h
  exact ⟨A, c, rfl, hg.below hb⟩
theorem RowV.below' {w w' : World} {v : Value} {l : List Int} (h : RowV w v l) (hb : Below w.heap.size w w') : RowV w' v l := h.keep fun _ hp => hb.cell hp
def RowVal (w : World) (v : Value) (l : List Int) : Prop := RowV w v l
theorem RowVal.below {w w' : World} {v : Value} {l : List Int} (h : RowVal w v l) (hb : Below w.heap.size w w') : RowVal w' v l := RowV.below' h hb
theorem rowVal_own {w : World} {b : Nat} {e : TypeId} {v : Value} {l : List Int} (h : Own w b e v (l.map (.int .u64))) : RowVal w v l := by
  obtain ⟨A, c, hv, hc⟩ := h.form
  have := h.len_le
  rw [List.length_map] at hv this
  exact ⟨A, c, hv, hc, this⟩
theorem gridI_none (w : World) : GridI w none [] := ⟨[], .inl rfl, rfl, fun i l h => by simp at h⟩
/-- the rank of queries. -/
noncomputable def rankP (p : Par) (l : List Ask) : Nat := rankV (rowsP p l []) p.Q
set_option maxRecDepth 100000 in
set_option maxHeartbeats 2000000 in
theorem arank_c (p : Par) (hp : p.ok) (A : Option Addr) (l : List Ask) (c : Nat) (w : World) (hA : Asks w A l) (hl : AskOk l) (hTab : Tabs w) [DecidableEq Lit] :
    Calls Tryd.prog 9 #[pval p, .slice A l.length c] w fun e w' => e = .returned (.int .i64 (rankP p l)) ∧ Below w.heap.size w w' := by
  have hb0 := below_alloc w (.cells (pcells p).toArray 24)
  have hP := row1_new w (pcells p) 24
  have hA1 := hA.below hb0
  have hTab1 := hTab.below hb0
  have hok := rowsP_ok p l [] (by have := hl.few; omega) (by decide)
  have hq := hp.Q
  have HRK := hid (show rankP p l = rankV (rowsP p l []) p.Q from rfl)
  generalize rankP p l = RK at *
  clear hA hTab
  go_enter Tryd.func9, Tryd.ntmps9
  go_wp2
  change Row1 (w.alloc (.cells #[.int .u64 p.P, .int .u64 p.Q, .int .u64 p.G, .int .u64 p.H, .int .i64 p.Nodes, .int .i64 p.N, .int .i64 p.T, .int .i64 p.K, .int .i64 p.D, .int .i64 p.R, .int .i64 p.M, .int .i64 p.X] 24)) _ _ _ at hP
  generalize w.alloc (.cells #[.int .u64 p.P, .int .u64 p.Q, .int .u64 p.G, .int .u64 p.H, .int .i64 p.Nodes, .int .i64 p.N, .int .i64 p.T, .int .i64 p.K, .int .i64 p.D, .int .i64 p.R, .int .i64 p.M, .int .i64 p.X] 24) = w1 at *
  refine Rg.wp_region (l := [_, _, _, _, _, _]) (tail := [_]) (Rg.grows _ 7) [some 5, some 6, some 7, some 8, some 9, some 10, some 4] 11 (by kernel_rfl) (by kernel_rfl) (by kernel_rfl) rfl (Rg.grows_fair _ _) (Rg.keep_drew _) (trivial) ?_
  refine Rg.op_is (pval p) [] rfl rfl (by kernel_rfl) ?_ ?_
  · intro wx hb
    refine Rg.from_nil fun T hT => ?_
    obtain ⟨p0, p1, p2, p3, p4, p5, p6, p7, p8, p9, p10, p11⟩ := par_cells (hP.below hb)
    go_wp2
    exact hT _ _ rfl (by first | exact Rg.Keep.refl _ | exact below_of_dr hw2 | exact hw2 | exact (Below.refl _ _).alloc (Nat.le_refl _) _) (by first | rfl | exact congrArg _ (by decide))
  refine' Rg.op_is _ [] rfl rfl (by kernel_rfl) ?_ ?_
  rotate_left
  · intro wx hb
    refine Rg.from_nil fun T hT => ?_
    go_wp2
    refine hT _ _ rfl (by first | exact Rg.Keep.refl _ | exact below_of_dr hw2 | exact hw2 | exact (Below.refl _ _).alloc (Nat.le_refl _) _) ?_
    simp only [Rg.last, List.getElem?_toArray, List.getElem?_cons_succ, List.getElem?_cons_zero, Option.getD_some]
    rfl
  refine Rg.op_of (fun w' v => GridVal w' v (rowsP p l [])) [0, 1] rfl ?_ ?_ rfl (by kernel_rfl) ?_ ?_
  · exact fun w1 w2 v hk h => h.below hk
  · exact fun w1 w2 v hk h => h.below hk
  · intro wx hb
    refine Rg.from_is (some 5) rfl rfl ?_
    refine Rg.from_is (some 6) rfl rfl ?_
    refine Rg.from_nil fun T hT => ?_
    go_wp2_with (fail)
    refine (arows_c p hp A l c none [] 0 _ (hA1.below hb) hl (gridI_none _) (by decide) (fun x hx => by cases hx) (fun x hx => by cases hx)).mono ?_
    rintro e w2 ⟨v, rfl, ho, hw2⟩
    have hgv : GridVal w2 v (rowsP p l []) := ho.grid
    clear ho
    go_wp2
    exact hT _ _ rfl hw2 hgv
  refine' Rg.op_is _ [] rfl rfl (by kernel_rfl) ?_ ?_
  rotate_left
  · intro wx hb
    refine Rg.from_nil fun T hT => ?_
    go_wp2
    refine hT _ _ rfl (by first | exact Rg.Keep.refl _ | exact below_of_dr hw2 | exact hw2 | exact (Below.refl _ _).alloc (Nat.le_refl _) _) ?_
    simp only [Rg.last, List.getElem?_toArray, List.getElem?_cons_succ, List.getElem?_cons_zero, Option.getD_some]
    rfl
  refine Rg.op_is (.int .u64 p.Q) [3] rfl rfl (by kernel_rfl) ?_ ?_
  · intro wx hb
    refine Rg.from_is (some 8) rfl rfl ?_
    refine Rg.from_nil fun T hT => ?_
    have cQ := (hP.below hb).cell (k := 1) (u := .int .u64 p.Q) rfl
    go_wp2
    exact hT _ _ rfl (by first | exact Rg.Keep.refl _ | exact below_of_dr hw2 | exact hw2 | exact (Below.refl _ _).alloc (Nat.le_refl _) _) (by first | rfl | exact congrArg _ (by decide))
  refine Rg.op_is (.int .i64 RK) [2, 4] rfl rfl (by kernel_rfl) ?_ ?_
  · intro wx hb
    refine Rg.from_of (some 7) rfl rfl fun v7 h7 => ?_
    refine Rg.from_is (some 9) rfl rfl ?_
    refine Rg.from_nil fun T hT => ?_
    obtain ⟨A1, c1, rfl, g1⟩ := h7
    go_wp2_with (fail)
    refine (rank_c A1 (rowsP p l []) c1 p.Q _ g1 hok hq (hTab1.below hb)).mono ?_
    rintro e w2 ⟨rfl, hw2⟩
    rw [← HRK.out]
    go_wp2
    exact hT _ _ rfl hw2 rfl
  refine Rg.walk_nil [0, 1, 2, 3, 4, 5] (by kernel_rfl) ?_
  intro wx hb
  refine Rg.from_is (some 5) rfl rfl ?_
  refine Rg.from_is (some 6) rfl rfl ?_
  refine Rg.from_of (some 7) rfl rfl fun v7 h7 => ?_
  refine Rg.from_is (some 8) rfl rfl ?_
  refine Rg.from_is (some 9) rfl rfl ?_
  refine Rg.from_is (some 10) rfl rfl ?_
  refine Rg.from_nil ?_
  simp only [List.map, Act.put, List.setIfInBounds_toArray, List.set_cons_zero, List.set_cons_succ]
  have hbz := below_next hb0 hb0.size hb
  go_wp2
  go_ret
  exact ⟨rfl, hbz⟩
/-- does a query follow? -/
noncomputable def followsP (p : Par) (l : List Ask) (x : List Int) : Bool := hangsV (rowsP p l []) (rowS p x) p.Q
set_option maxRecDepth 100000 in
set_option maxHeartbeats 2000000 in
theorem afollows_c (p : Par) (hp : p.ok) (A : Option Addr) (l : List Ask) (c : Nat) (A2 : Option Addr) (x : List Int) (c2 : Nat) (w : World) (hA : Asks w A l) (hl : AskOk l) (hA2 : Cells w A2 (x.map (.int .i64))) (hx : x.length ≤ 1000000) (hxu : I64s x) (hTab : Tabs w) [DecidableEq Lit] :
    Calls Tryd.prog 14 #[pval p, .slice A l.length c, .slice A2 x.length c2] w fun e w' => e = .returned (.bool (followsP p l x)) ∧ Below w.heap.size w w' := by
  have hb0 := below_alloc w (.cells (pcells p).toArray 24)
  have hP := row1_new w (pcells p) 24
  have hA1 := hA.below hb0
  have hA21 := hA2.below hb0
  have hTab1 := hTab.below hb0
  have hok := rowsP_ok p l [] (by have := hl.few; omega) (by decide)
  have hq := hp.Q
  have HRK := hid (show followsP p l x = hangsV (rowsP p l []) (rowS p x) p.Q from rfl)
  generalize followsP p l x = RK at *
  have hrs := rowS_len p x
  have hru := rowS_u64 p x
  clear hA hTab hA2
  go_enter Tryd.func14, Tryd.ntmps14
  go_wp2
  change Row1 (w.alloc (.cells #[.int .u64 p.P, .int .u64 p.Q, .int .u64 p.G, .int .u64 p.H, .int .i64 p.Nodes, .int .i64 p.N, .int .i64 p.T, .int .i64 p.K, .int .i64 p.D, .int .i64 p.R, .int .i64 p.M, .int .i64 p.X] 24)) _ _ _ at hP
  generalize w.alloc (.cells #[.int .u64 p.P, .int .u64 p.Q, .int .u64 p.G, .int .u64 p.H, .int .i64 p.Nodes, .int .i64 p.N, .int .i64 p.T, .int .i64 p.K, .int .i64 p.D, .int .i64 p.R, .int .i64 p.M, .int .i64 p.X] 24) = w1 at *
  refine Rg.wp_region (l := [_, _, _, _, _, _, _, _, _]) (tail := [_]) (Rg.grows _ 10) [some 7, some 8, some 9, some 10, some 11, some 12, some 13, some 14, some 15, some 6] 16 (by kernel_rfl) (by kernel_rfl) (by kernel_rfl) rfl (Rg.grows_fair _ _) (Rg.keep_drew _) (trivial) ?_
  refine Rg.op_is (pval p) [] rfl rfl (by kernel_rfl) ?_ ?_
  · intro wx hb
    refine Rg.from_nil fun T hT => ?_
    obtain ⟨p0, p1, p2, p3, p4, p5, p6, p7, p8, p9, p10, p11⟩ := par_cells (hP.below hb)
    go_wp2
    exact hT _ _ rfl (by first | exact Rg.Keep.refl _ | exact below_of_dr hw2 | exact hw2 | exact (Below.refl _ _).alloc (Nat.le_refl _) _) (by first | rfl | exact congrArg _ (by decide))
  refine' Rg.op_is _ [] rfl rfl (by kernel_rfl) ?_ ?_
  rotate_left
  · intro wx hb
    refine Rg.from_nil fun T hT => ?_
    go_wp2
    refine hT _ _ rfl (by first | exact Rg.Keep.refl _ | exact below_of_dr hw2 | exact hw2 | exact (Below.refl _ _).alloc (Nat.le_refl _) _) ?_
    simp only [Rg.last, List.getElem?_toArray, List.getElem?_cons_succ, List.getElem?_cons_zero, Option.getD_some]
    rfl
  refine Rg.op_of (fun w' v => GridVal w' v (rowsP p l [])) [0, 1] rfl ?_ ?_ rfl (by kernel_rfl) ?_ ?_
  · exact fun w1 w2 v hk h => h.below hk
  · exact fun w1 w2 v hk h => h.below hk
  · intro wx hb
    refine Rg.from_is (some 7) rfl rfl ?_
    refine Rg.from_is (some 8) rfl rfl ?_
    refine Rg.from_nil fun T hT => ?_
    go_wp2_with (fail)
    refine (arows_c p hp A l c none [] 0 _ (hA1.below hb) hl (gridI_none _) (by decide) (fun x hx => by cases hx) (fun x hx => by cases hx)).mono ?_
    rintro e w2 ⟨v, rfl, ho, hw2⟩
    have hgv : GridVal w2 v (rowsP p l []) := ho.grid
    clear ho
    go_wp2
    exact hT _ _ rfl hw2 hgv
  refine Rg.op_is (pval p) [] rfl rfl (by kernel_rfl) ?_ ?_
  · intro wx hb
    refine Rg.from_nil fun T hT => ?_
    obtain ⟨p0, p1, p2, p3, p4, p5, p6, p7, p8, p9, p10, p11⟩ := par_cells (hP.below hb)
    go_wp2
    exact hT _ _ rfl (by first | exact Rg.Keep.refl _ | exact below_of_dr hw2 | exact hw2 | exact (Below.refl _ _).alloc (Nat.le_refl _) _) (by first | rfl | exact congrArg _ (by decide))
  refine' Rg.op_is _ [] rfl rfl (by kernel_rfl) ?_ ?_
  rotate_left
  · intro wx hb
    refine Rg.from_nil fun T hT => ?_
    go_wp2
    refine hT _ _ rfl (by first | exact Rg.Keep.refl _ | exact below_of_dr hw2 | exact hw2 | exact (Below.refl _ _).alloc (Nat.le_refl _) _) ?_
    simp only [Rg.last, List.getElem?_toArray, List.getElem?_cons_succ, List.getElem?_cons_zero, Option.getD_some]
    rfl
  refine Rg.op_of (fun w' v => RowVal w' v (rowS p x)) [3, 4] rfl ?_ ?_ rfl (by kernel_rfl) ?_ ?_
  · exact fun w1 w2 v hk h => h.below hk
  · exact fun w1 w2 v hk h => h.below hk
  · intro wx hb
    refine Rg.from_is (some 10) rfl rfl ?_
    refine Rg.from_is (some 11) rfl rfl ?_
    refine Rg.from_nil fun T hT => ?_
    go_wp2_with (fail)
    refine (frow_c p hp A2 x c2 _ (hA21.below hb) (by omega) hxu).mono ?_
    rintro e w2 ⟨v, rfl, ho, hw2⟩
    have hgv : RowVal w2 v (rowS p x) := rowVal_own ho
    clear ho
    go_wp2
    exact hT _ _ rfl hw2 hgv
  refine' Rg.op_is _ [] rfl rfl (by kernel_rfl) ?_ ?_
  rotate_left
  · intro wx hb
    refine Rg.from_nil fun T hT => ?_
    go_wp2
    refine hT _ _ rfl (by first | exact Rg.Keep.refl _ | exact below_of_dr hw2 | exact hw2 | exact (Below.refl _ _).alloc (Nat.le_refl _) _) ?_
    simp only [Rg.last, List.getElem?_toArray, List.getElem?_cons_succ, List.getElem?_cons_zero, Option.getD_some]
    rfl
  refine Rg.op_is (.int .u64 p.Q) [6] rfl rfl (by kernel_rfl) ?_ ?_
  · intro wx hb
    refine Rg.from_is (some 13) rfl rfl ?_
    refine Rg.from_nil fun T hT => ?_
    have cQ := (hP.below hb).cell (k := 1) (u := .int .u64 p.Q) rfl
    go_wp2
    exact hT _ _ rfl (by first | exact Rg.Keep.refl _ | exact below_of_dr hw2 | exact hw2 | exact (Below.refl _ _).alloc (Nat.le_refl _) _) (by first | rfl | exact congrArg _ (by decide))
  refine Rg.op_is (.bool RK) [2, 5, 7] rfl rfl (by kernel_rfl) ?_ ?_
  · intro wx hb
    refine Rg.from_of (some 9) rfl rfl fun v9 h9 => ?_
    refine Rg.from_of (some 12) rfl rfl fun v12 h12 => ?_
    refine Rg.from_is (some 14) rfl rfl ?_
    refine Rg.from_nil fun T hT => ?_
    obtain ⟨A1, c1, rfl, g1⟩ := h9
    obtain ⟨A3, c3, rfl, g3, _⟩ := h12
    go_wp2_with (fail)
    refine (hangs_c A1 (rowsP p l []) c1 A3 (rowS p x) c3 p.Q _ g1 hok g3 (by omega) hru hq (hTab1.below hb)).mono ?_
    rintro e w2 ⟨rfl, hw2⟩
    rw [← HRK.out]
    go_wp2
    exact hT _ _ rfl hw2 rfl
  refine Rg.walk_nil [0, 1, 2, 3, 4, 5, 6, 7, 8] (by kernel_rfl) ?_
  intro wx hb
  refine Rg.from_is (some 7) rfl rfl ?_
  refine Rg.from_is (some 8) rfl rfl ?_
  refine Rg.from_of (some 9) rfl rfl fun v9 h9 => ?_
  refine Rg.from_is (some 10) rfl rfl ?_
  refine Rg.from_is (some 11) rfl rfl ?_
  refine Rg.from_of (some 12) rfl rfl fun v12 h12 => ?_
  refine Rg.from_is (some 13) rfl rfl ?_
  refine Rg.from_is (some 14) rfl rfl ?_
  refine Rg.from_is (some 15) rfl rfl ?_
  refine Rg.from_nil ?_
  simp only [List.map, Act.put, List.setIfInBounds_toArray, List.set_cons_zero, List.set_cons_succ]
  have hbz := below_next hb0 hb0.size hb
  go_wp2
  go_ret
  exact ⟨rfl, hbz⟩
end Go.Proofs.YtpdgalclnlbeaaaDoor
end

section
namespace Go.Proofs.YtpdgalclnlbeaaaDoor
open Go Go.RowKit Go.Maps Go.Shelf Go.Proofs
attribute [local go_sem] Oper.semAt_some
/-- what Query's functions look at. -/
structure QBx (w : World) (bp ba bi bx be : Nat) (p : Par) (A : Option Addr) (l : List Ask) (c : Nat) (id : Int) (A2 : Option Addr) (x : List Int) (c2 : Nat) : Prop where
  pp : Row1 w bp 24 (pcells p)
  aa : Row1 w ba 25 [.slice A l.length c]
  ii : Row1 w bi 3 [.int .i64 id]
  xx : Row1 w bx 30 [.slice A2 x.length c2]
  ee : Row1 w be 33 [.int .i64 (queryE p x)]
  qs : Asks w A l
  xs : Cells w A2 (x.map (.int .i64))
  tab : Tabs w
theorem QBx.below {w w' : World} {bp ba bi bx be : Nat} {p : Par} {A : Option Addr} {l : List Ask} {c : Nat} {id : Int} {A2 : Option Addr} {x : List Int} {c2 : Nat} (h : QBx w bp ba bi bx be p A l c id A2 x c2) (hb : Below w.heap.size w w') : QBx w' bp ba bi bx be p A l c id A2 x c2 :=
  ⟨h.pp.below hb, h.aa.below hb, h.ii.below hb, h.xx.below hb, h.ee.below hb, h.qs.below hb, h.xs.below hb, h.tab.below hb⟩
def hasId (l : List Ask) (id : Int) : Bool := l.any fun a => decide (a.id = id)
theorem hasId_take {l : List Ask} {k : Nat} {a : Ask} {id : Int} (h : l[k]? = some a) (h1 : hasId (l.take k) id = false) (h2 : (a.id == id) = false) : hasId (l.take (k + 1)) id = false := by
  unfold hasId at h1 ⊢
  rw [take_snocR h, List.any_append, h1]
  simp at h2; simp [h2]
theorem hasId_at {l : List Ask} {k : Nat} {a : Ask} {id : Int} (h : l[k]? = some a) (h2 : (a.id == id) = true) : hasId l id = true := by
  unfold hasId
  rw [List.any_eq_true]
  exact ⟨a, List.mem_of_getElem? h, by simpa using h2⟩
/-- is it wrong? -/
noncomputable def wrongB (p : Par) (l : List Ask) (id : Int) (x : List Int) : Nat → Bool
  | 0 => decide (queryE p x = 4) || (decide (id < 1) || decide (id > 1099511627776))
  | 1 => decide (queryE p x ≠ 0)
  | 2 => hasId l id
  | 3 => decide (8 ≤ l.length)
  | _ => decide ((rankV (rowsP p l [x]) p.Q : Int) > p.R)
def errA (p : Par) (x : List Int) : Nat → Int
  | 0 => 4
  | 1 => queryE p x
  | 2 => 6
  | 3 => 41
  | _ => 22
theorem queryE_or (p : Par) (x : List Int) : queryE p x = 0 ∨ queryE p x = 4 ∨ queryE p x = 20 := by
  unfold queryE
  split
  · exact .inr (.inl rfl)
  · split
    · exact .inl rfl
    · exact .inr (.inr rfl)
set_option maxRecDepth 100000 in
theorem q1_c (be bi : Nat) (e id : Int) (w : World) (he : Row1 w be 33 [.int .i64 e]) (hi : Row1 w bi 3 [.int .i64 id]) :
    Calls Tryd.prog 22 #[.pointer (some ⟨be, 0, none⟩), .pointer (some ⟨bi, 0, none⟩)] w fun r w' => r = .returned (.bool (decide (e = 4) || (decide (id < 1) || decide (id > 1099511627776)))) ∧ w = w' := by
  have c1 := he.cell (k := 0) rfl
  have c2 := hi.cell (k := 0) rfl
  by_cases h1 : e = 4
  · subst h1
    go_enter Tryd.func22, Tryd.ntmps22
    go_wp2
    go_ret
    exact ⟨ret_bool (by simp), rfl⟩
  · have hb1 : (e == 4) = false := by simpa using h1
    have hd1 : decide (e = 4) = false := by simpa using h1
    rw [hd1]
    clear h1 hd1
    by_cases h2 : id < 1
    · have hd2 : decide (id < 1) = true := by simpa using h2
      go_enter Tryd.func22, Tryd.ntmps22
      go_wp2
      go_ret
      exact ⟨ret_bool (by simp [h2]), rfl⟩
    · have hd2 : decide (id < 1) = false := by simpa using h2
      rw [hd2]
      go_enter Tryd.func22, Tryd.ntmps22
      go_wp2
      go_ret
      exact ⟨ret_bool (by simp), rfl⟩
theorem q2_c (be : Nat) (e : Int) (w : World) (he : Row1 w be 33 [.int .i64 e]) :
    Calls Tryd.prog 23 #[.pointer (some ⟨be, 0, none⟩)] w fun r w' => r = .returned (.bool (decide (e ≠ 0))) ∧ w = w' := by
  have c1 := he.cell (k := 0) rfl
  go_enter Tryd.func23, Tryd.ntmps23
  go_wp2
  go_ret
  refine ⟨ret_bool ?_, rfl⟩
  by_cases h : e = 0 <;> simp [h]
theorem q4_c (ba : Nat) (A : Option Addr) (n c : Nat) (w : World) (hn : n ≤ 1000000) (he : Row1 w ba 25 [.slice A n c]) :
    Calls Tryd.prog 27 #[.pointer (some ⟨ba, 0, none⟩)] w fun r w' => r = .returned (.bool (decide (8 ≤ n))) ∧ w = w' := by
  have c1 := he.cell (k := 0) rfl
  go_enter Tryd.func27, Tryd.ntmps27
  go_wp2
  go_ret
  refine ⟨ret_bool ?_, rfl⟩
  by_cases h : 8 ≤ n <;> simp [h] <;> omega
theorem q31_c (bi : Nat) (id i : Int) (v : Value) (w : World) (hi : Row1 w bi 3 [.int .i64 id]) :
    Calls Tryd.prog 26 #[.agg #[.int .i64 i, v], .pointer (some ⟨bi, 0, none⟩)] w fun r w' => r = .returned (.bool (i == id)) ∧ Below w.heap.size w w' := by
  have c1 := (hi.alloc (.cells #[.int .i64 i, v] 32)).cell (k := 0) rfl
  go_enter Tryd.func26, Tryd.ntmps26
  go_wp2
  go_ret
  exact ⟨rfl, below_alloc _ _⟩
set_option maxRecDepth 100000 in
set_option maxHeartbeats 1000000 in
theorem idxA_c (A : Option Addr) (l : List Ask) (c : Nat) (bi : Nat) (id : Int) (w : World) (hA : Asks w A l) (hl : AskOk l) (hi : Row1 w bi 3 [.int .i64 id]) :
    Calls Tryd.prog 40 #[.slice A l.length c, .func (.func 26) #[] #[.pointer (some ⟨bi, 0, none⟩)]] w fun e w' => (∃ k : Int, e = .returned (.int .i64 k) ∧ decide (k ≥ 0) = hasId l id) ∧ Below w.heap.size w w' := by
  have hlf := hl.few
  have HA0 := hid hA
  have HI0 := hid hi
  clear hA hi
  go_enter Tryd.func40, Tryd.ntmps40
  go_wp2
  go_loopw [5, 8] (fun _ i wr => ∃ k : Nat, i = .int .i64 (k : Int) ∧ k ≤ l.length ∧ Hid (hasId (l.take k) id = false ∧ Below w.heap.size w wr)) (fun _ i _ => l.length - (intOf i).toNat)
  case atStart => exact ⟨0, rfl, by omega, hid ⟨rfl, Below.refl _ _⟩⟩
  case round =>
    obtain ⟨k, rfl, hk, HI⟩ := hrel
    rename_i wr
    by_cases hlt : k < l.length
    · obtain ⟨a, ha⟩ := get_of_lt hlt
      obtain ⟨b, off, A', c', rfl, ca, cx, _, _⟩ := (HA0.out.below HI.out.2).at_ ha
      have hi2 := HI0.out.below HI.out.2
      have HB := hid HI.out.2
      cases hn : (a.id == id) with
      | false =>
        have HT := hid (hasId_take ha HI.out.1 hn)
        clear HI ha
        go_wp2_with (go_at_call 26; refine (q31_c bi id a.id _ _ hi2).mono ?_; rintro e w2 ⟨rfl, hb2⟩; rw [hn])
        go_roundw
        case rel => exact ⟨k + 1, by go_num, by omega, hid ⟨HT.out, below_next HB.out HB.out.size hb2⟩⟩
        case measure => simp [intOf]; omega
      | true =>
        have HF := hid (hasId_at ha hn)
        clear HI ha
        go_wp2_with (go_at_call 26; refine (q31_c bi id a.id _ _ hi2).mono ?_; rintro e w2 ⟨rfl, hb2⟩; rw [hn])
        go_ret
        exact ⟨⟨(k : Int), rfl, by rw [HF.out]; simp⟩, below_next HB.out HB.out.size hb2⟩
    · obtain rfl : k = l.length := by omega
      have HF := HI.out.1
      rw [List.take_length] at HF
      have HF2 := hid HF
      clear HF
      go_wp2
      go_ret
      exact ⟨⟨-1, rfl, by rw [HF2.out]; rfl⟩, HI.out.2⟩
set_option maxHeartbeats 400000 in
theorem contA_c (A : Option Addr) (l : List Ask) (c : Nat) (bi : Nat) (id : Int) (w : World) (hA : Asks w A l) (hl : AskOk l) (hi : Row1 w bi 3 [.int .i64 id]) :
    Calls Tryd.prog 25 #[.slice A l.length c, .func (.func 26) #[] #[.pointer (some ⟨bi, 0, none⟩)]] w fun e w' => e = .returned (.bool (hasId l id)) ∧ Below w.heap.size w w' := by
  have HC := hid (idxA_c A l c bi id w hA hl hi)
  clear hA hl hi
  go_enter Tryd.func25, Tryd.ntmps25
  go_wp2_with (fail)
  refine HC.out.mono ?_
  rintro e w1 ⟨⟨k, rfl, hk⟩, hb⟩
  have HK := hid hk
  clear hk
  go_wp2
  go_ret
  exact ⟨ret_bool (by rw [← HK.out]), hb⟩
theorem q3_c (ba bi : Nat) (A : Option Addr) (l : List Ask) (c : Nat) (id : Int) (w : World) (ha : Row1 w ba 25 [.slice A l.length c]) (hA : Asks w A l) (hl : AskOk l) (hi : Row1 w bi 3 [.int .i64 id]) :
    Calls Tryd.prog 24 #[.pointer (some ⟨ba, 0, none⟩), .pointer (some ⟨bi, 0, none⟩)] w fun e w' => e = .returned (.bool (hasId l id)) ∧ Below w.heap.size w w' := by
  have hmf : ∀ (fn : Fn) (first cap : Array Value) (w : World), (Instr.makeFunc fn first cap).run Tryd.prog w = .ok (.func fn first cap) w := fun _ _ _ _ => rfl
  have c1 := ha.cell (k := 0) rfl
  have HC := hid (contA_c A l c bi id w hA hl hi)
  clear hA hl hi
  go_enter Tryd.func24, Tryd.ntmps24
  go_wp2_with (fail)
  refine HC.out.mono ?_
  rintro e w1 ⟨rfl, hb⟩
  go_wp2
  go_ret
  exact ⟨rfl, hb⟩
def BoxAt (w : World) (v : Value) (e : TypeId) (xs : List Value) : Prop := ∃ g, v = Value.slice (some ⟨g, 0, none⟩) xs.length xs.length ∧ Row1 w g e xs
theorem BoxAt.below {w w' : World} {v : Value} {e : TypeId} {xs : List Value} (h : BoxAt w v e xs) (hb : Below w.heap.size w w') : BoxAt w' v e xs := by
  obtain ⟨g, rfl, hr⟩ := h
  exact ⟨g, rfl, hr.below hb⟩
set_option maxRecDepth 100000 in
set_option maxHeartbeats 2000000 in
theorem q5_c (bp ba bx be bi : Nat) (p : Par) (hp : p.ok) (A : Option Addr) (l : List Ask) (c : Nat) (id : Int) (A2 : Option Addr) (x : List Int) (c2 : Nat) (w : World) (h : QBx w bp ba bi bx be p A l c id A2 x c2) (hl : AskOk l) (hx : x.length ≤ 1000000) (hxu : I64s x) [DecidableEq Lit] :
    Calls Tryd.prog 28 #[.pointer (some ⟨bp, 0, none⟩), .pointer (some ⟨ba, 0, none⟩), .pointer (some ⟨bx, 0, none⟩)] w fun e w' => e = .returned (.bool (wrongB p l id x 4)) ∧ Below w.heap.size w w' := by
  have hok := rowsP_ok p l [x] (by have := hl.few; omega) (by simp)
  have hq := hp.Q
  have H := hid h
  have HWB := hid (show wrongB p l id x 4 = decide ((rankV (rowsP p l [x]) p.Q : Int) > p.R) from rfl)
  generalize wrongB p l id x 4 = WB at *
  clear h
  go_enter Tryd.func28, Tryd.ntmps28
  go_wp2
  refine Rg.wp_region (l := [_, _, _, _, _, _, _, _, _, _, _]) (tail := [_]) (Rg.grows _ 12) [some 4, some 5, some 6, some 7, some 8, some 9, some 10, some 11, some 12, some 13, some 14, some 3] 15 (by kernel_rfl) (by kernel_rfl) (by kernel_rfl) rfl (Rg.grows_fair _ _) (Rg.keep_drew _) (trivial) ?_
  refine Rg.op_is (pval p) [] rfl rfl (by kernel_rfl) ?_ ?_
  · intro wx hb
    refine Rg.from_nil fun T hT => ?_
    obtain ⟨p0, p1, p2, p3, p4, p5, p6, p7, p8, p9, p10, p11⟩ := par_cells (H.out.pp.below hb)
    go_wp2
    exact hT _ _ rfl (by first | exact Rg.Keep.refl _ | exact below_of_dr hw2 | exact hw2 | exact (Below.refl _ _).alloc (Nat.le_refl _) _) (by first | rfl | exact congrArg _ (by decide))
  refine Rg.op_is (.slice A l.length c) [] rfl rfl (by kernel_rfl) ?_ ?_
  · intro wx hb
    refine Rg.from_nil fun T hT => ?_
    have ca := (H.out.aa.below hb).cell (k := 0) rfl
    go_wp2
    exact hT _ _ rfl (by first | exact Rg.Keep.refl _ | exact below_of_dr hw2 | exact hw2 | exact (Below.refl _ _).alloc (Nat.le_refl _) _) (by first | rfl | exact congrArg _ (by decide))
  refine Rg.op_is (.slice A2 x.length c2) [] rfl rfl (by kernel_rfl) ?_ ?_
  · intro wx hb
    refine Rg.from_nil fun T hT => ?_
    have cx := (H.out.xx.below hb).cell (k := 0) rfl
    go_wp2
    exact hT _ _ rfl (by first | exact Rg.Keep.refl _ | exact below_of_dr hw2 | exact hw2 | exact (Below.refl _ _).alloc (Nat.le_refl _) _) (by first | rfl | exact congrArg _ (by decide))
  refine Rg.op_of (fun w' v => BoxAt w' v 30 [.slice A2 x.length c2]) [2] rfl ?_ ?_ rfl (by kernel_rfl) ?_ ?_
  · exact fun w1 w2 v hk h => h.below hk
  · exact fun w1 w2 v hk h => h.below hk
  · intro wx hb
    refine Rg.from_is (some 6) rfl rfl ?_
    refine Rg.from_nil fun T hT => ?_
    go_wp2
    exact hT _ _ rfl (below_alloc _ _) ⟨_, rfl, row1_new wx [.slice A2 x.length c2] _⟩
  refine Rg.op_of (fun w' v => GridVal w' v (rowsP p l [x])) [0, 1, 3] rfl ?_ ?_ rfl (by kernel_rfl) ?_ ?_
  · exact fun w1 w2 v hk h => h.below hk
  · exact fun w1 w2 v hk h => h.below hk
  · intro wx hb
    refine Rg.from_is (some 4) rfl rfl ?_
    refine Rg.from_is (some 5) rfl rfl ?_
    refine Rg.from_of (some 7) rfl rfl fun v7 h7 => ?_
    refine Rg.from_nil fun T hT => ?_
    obtain ⟨g, rfl, hr⟩ := h7
    have hA2 := (H.out.xs.below hb)
    go_wp2_with (fail)
    refine (arows_c p hp A l c (some ⟨g, 0, none⟩) [x] 1 _ (H.out.qs.below hb) hl (gridI_one hr hA2 (by omega)) (by simp) (ints_one hxu) (fun y hy => by rw [List.mem_singleton.1 hy]; exact hx)).mono ?_
    rintro e w2 ⟨v, rfl, ho, hw2⟩
    have hgv : GridVal w2 v (rowsP p l [x]) := ho.grid
    clear ho
    go_wp2
    exact hT _ _ rfl hw2 hgv
  refine' Rg.op_is _ [] rfl rfl (by kernel_rfl) ?_ ?_
  rotate_left
  · intro wx hb
    refine Rg.from_nil fun T hT => ?_
    go_wp2
    refine hT _ _ rfl (by first | exact Rg.Keep.refl _ | exact below_of_dr hw2 | exact hw2 | exact (Below.refl _ _).alloc (Nat.le_refl _) _) ?_
    simp only [Rg.last, List.getElem?_toArray, List.getElem?_cons_succ, List.getElem?_cons_zero, Option.getD_some]
    rfl
  refine Rg.op_is (.int .u64 p.Q) [5] rfl rfl (by kernel_rfl) ?_ ?_
  · intro wx hb
    refine Rg.from_is (some 9) rfl rfl ?_
    refine Rg.from_nil fun T hT => ?_
    have cQ := (H.out.pp.below hb).cell (k := 1) (u := .int .u64 p.Q) rfl
    go_wp2
    exact hT _ _ rfl (by first | exact Rg.Keep.refl _ | exact below_of_dr hw2 | exact hw2 | exact (Below.refl _ _).alloc (Nat.le_refl _) _) (by first | rfl | exact congrArg _ (by decide))
  refine Rg.op_is (.int .i64 (rankV (rowsP p l [x]) p.Q)) [4, 6] rfl rfl (by kernel_rfl) ?_ ?_
  · intro wx hb
    refine Rg.from_of (some 8) rfl rfl fun v8 h8 => ?_
    refine Rg.from_is (some 10) rfl rfl ?_
    refine Rg.from_nil fun T hT => ?_
    obtain ⟨A1, c1, rfl, g1⟩ := h8
    go_wp2_with (fail)
    refine (rank_c A1 (rowsP p l [x]) c1 p.Q _ g1 hok hq (H.out.tab.below hb)).mono ?_
    rintro e w2 ⟨rfl, hw2⟩
    go_wp2
    exact hT _ _ rfl hw2 rfl
  refine' Rg.op_is _ [] rfl rfl (by kernel_rfl) ?_ ?_
  rotate_left
  · intro wx hb
    refine Rg.from_nil fun T hT => ?_
    go_wp2
    refine hT _ _ rfl (by first | exact Rg.Keep.refl _ | exact below_of_dr hw2 | exact hw2 | exact (Below.refl _ _).alloc (Nat.le_refl _) _) ?_
    simp only [Rg.last, List.getElem?_toArray, List.getElem?_cons_succ, List.getElem?_cons_zero, Option.getD_some]
    rfl
  refine Rg.op_is (.int .i64 p.R) [8] rfl rfl (by kernel_rfl) ?_ ?_
  · intro wx hb
    refine Rg.from_is (some 12) rfl rfl ?_
    refine Rg.from_nil fun T hT => ?_
    have cR := (H.out.pp.below hb).cell (k := 9) (u := .int .i64 p.R) rfl
    go_wp2
    exact hT _ _ rfl (by first | exact Rg.Keep.refl _ | exact below_of_dr hw2 | exact hw2 | exact (Below.refl _ _).alloc (Nat.le_refl _) _) (by first | rfl | exact congrArg _ (by decide))
  refine' Rg.op_is _ [7, 9] rfl rfl (by kernel_rfl) ?_ ?_
  rotate_left
  · intro wx hb
    refine Rg.from_is (some 11) rfl rfl ?_
    refine Rg.from_is (some 13) rfl rfl ?_
    refine Rg.from_nil fun T hT => ?_
    go_wp2
    refine hT _ _ rfl (by first | exact Rg.Keep.refl _ | exact below_of_dr hw2 | exact hw2 | exact (Below.refl _ _).alloc (Nat.le_refl _) _) ?_
    simp only [Rg.last, List.getElem?_toArray, List.getElem?_cons_succ, List.getElem?_cons_zero, Option.getD_some]
    rfl
  refine Rg.walk_nil [0, 1, 2, 3, 4, 5, 6, 7, 8, 9, 10] (by kernel_rfl) ?_
  intro wx hb
  refine Rg.from_is (some 4) rfl rfl ?_
  refine Rg.from_is (some 5) rfl rfl ?_
  refine Rg.from_is (some 6) rfl rfl ?_
  refine Rg.from_of (some 7) rfl rfl fun v7 h7 => ?_
  refine Rg.from_of (some 8) rfl rfl fun v8 h8 => ?_
  refine Rg.from_is (some 9) rfl rfl ?_
  refine Rg.from_is (some 10) rfl rfl ?_
  refine Rg.from_is (some 11) rfl rfl ?_
  refine Rg.from_is (some 12) rfl rfl ?_
  refine Rg.from_is (some 13) rfl rfl ?_
  refine Rg.from_is (some 14) rfl rfl ?_
  refine Rg.from_nil ?_
  simp only [List.map, Act.put, List.setIfInBounds_toArray, List.set_cons_zero, List.set_cons_succ]
  have hbz := hb
  go_wp2
  go_ret
  exact ⟨ret_bool HWB.out.symm, hbz⟩
/-- what is told of a query. -/
noncomputable def queryP (p : Par) (l : List Ask) (id : Int) (x : List Int) : Int :=
  if wrongB p l id x 0 = true then 4 else if wrongB p l id x 1 = true then queryE p x else if wrongB p l id x 2 = true then 6 else if wrongB p l id x 3 = true then 41 else if wrongB p l id x 4 = true then 22 else 0
theorem queryP_at {p : Par} {l : List Ask} {id : Int} {x : List Int} {k : Nat} (hk : k < 5) (h : ∀ j, j < k → wrongB p l id x j = false) (h1 : wrongB p l id x k = true) : queryP p l id x = errA p x k := by
  have key : ∀ j, j < k → ¬ wrongB p l id x j = true := fun j hj => by rw [h j hj]; decide
  unfold queryP
  match k, hk with
  | 0, _ => rw [if_pos h1]; rfl
  | 1, _ => rw [if_neg (key 0 (by omega)), if_pos h1]; rfl
  | 2, _ => rw [if_neg (key 0 (by omega)), if_neg (key 1 (by omega)), if_pos h1]; rfl
  | 3, _ => rw [if_neg (key 0 (by omega)), if_neg (key 1 (by omega)), if_neg (key 2 (by omega)), if_pos h1]; rfl
  | 4, _ => rw [if_neg (key 0 (by omega)), if_neg (key 1 (by omega)), if_neg (key 2 (by omega)), if_neg (key 3 (by omega)), if_pos h1]; rfl
theorem queryP_ok {p : Par} {l : List Ask} {id : Int} {x : List Int} (h : ∀ j, j < 5 → wrongB p l id x j = false) : queryP p l id x = 0 := by
  have key : ∀ j, j < 5 → ¬ wrongB p l id x j = true := fun j hj => by rw [h j hj]; decide
  unfold queryP
  rw [if_neg (key 0 (by omega)), if_neg (key 1 (by omega)), if_neg (key 2 (by omega)), if_neg (key 3 (by omega)), if_neg (key 4 (by omega))]
abbrev askVs (bp ba bi bx be : Nat) (p : Par) (x : List Int) : List Value :=
  [.func (.func 22) #[] #[.pointer (some ⟨be, 0, none⟩), .pointer (some ⟨bi, 0, none⟩)], .int .i64 4,
   .func (.func 23) #[] #[.pointer (some ⟨be, 0, none⟩)], .int .i64 (queryE p x),
   .func (.func 24) #[] #[.pointer (some ⟨ba, 0, none⟩), .pointer (some ⟨bi, 0, none⟩)], .int .i64 6,
   .func (.func 27) #[] #[.pointer (some ⟨ba, 0, none⟩)], .int .i64 41,
   .func (.func 28) #[] #[.pointer (some ⟨bp, 0, none⟩), .pointer (some ⟨ba, 0, none⟩), .pointer (some ⟨bx, 0, none⟩)], .int .i64 22]
set_option maxRecDepth 100000 in
theorem ask_fn (bp ba bi bx be : Nat) (p : Par) (hp : p.ok) (A : Option Addr) (l : List Ask) (c : Nat) (id : Int) (A2 : Option Addr) (x : List Int) (c2 : Nat) (hl : AskOk l) (hx : x.length ≤ 1000000) (hxu : I64s x) [DecidableEq Lit] (k : Nat) (hk : k < 5) :
    ∃ (fid : FuncId) (first cap : Array Value), (askVs bp ba bi bx be p x)[k * 2]? = some (.func (.func fid) first cap) ∧ (askVs bp ba bi bx be p x)[k * 2 + 1]? = some (.int .i64 (errA p x k)) ∧ (∀ (args : Array Value) (w : World), (callFunc fid args).run Tryd.prog w = .ok (.enter fid args) w) ∧
      ∀ (wr : World), QBx wr bp ba bi bx be p A l c id A2 x c2 → Calls Tryd.prog fid (first ++ cap) wr fun e w' => e = .returned (.bool (wrongB p l id x k)) ∧ Below wr.heap.size wr w' := by
  match k, hk with
  | 0, _ => exact ⟨_, _, _, rfl, rfl, fun _ _ => rfl, fun wr h => (q1_c be bi (queryE p x) id wr h.ee h.ii).mono fun e w' h => ⟨h.1, h.2 ▸ Below.refl _ _⟩⟩
  | 1, _ => exact ⟨_, _, _, rfl, rfl, fun _ _ => rfl, fun wr h => (q2_c be (queryE p x) wr h.ee).mono fun e w' h => ⟨h.1, h.2 ▸ Below.refl _ _⟩⟩
  | 2, _ => exact ⟨_, _, _, rfl, rfl, fun _ _ => rfl, fun wr h => q3_c ba bi A l c id wr h.aa h.qs hl h.ii⟩
  | 3, _ => exact ⟨_, _, _, rfl, rfl, fun _ _ => rfl, fun wr h => (q4_c ba A l.length c wr (by have := hl.few; omega) h.aa).mono fun e w' h => ⟨h.1, h.2 ▸ Below.refl _ _⟩⟩
  | 4, _ => exact ⟨_, _, _, rfl, rfl, fun _ _ => rfl, fun wr h => q5_c bp ba bx be bi p hp A l c id A2 x c2 wr h hl hx hxu⟩
theorem boxes4 (w : World) (a b c d : List Value) (ea eb ec ed : TypeId) :
    Row1 ((((w.alloc (.cells a.toArray ea)).alloc (.cells b.toArray eb)).alloc (.cells c.toArray ec)).alloc (.cells d.toArray ed)) w.heap.size ea a ∧
    Row1 ((((w.alloc (.cells a.toArray ea)).alloc (.cells b.toArray eb)).alloc (.cells c.toArray ec)).alloc (.cells d.toArray ed)) (w.heap.size + 1) eb b ∧
    Row1 ((((w.alloc (.cells a.toArray ea)).alloc (.cells b.toArray eb)).alloc (.cells c.toArray ec)).alloc (.cells d.toArray ed)) (w.heap.size + 1 + 1) ec c ∧
    Row1 ((((w.alloc (.cells a.toArray ea)).alloc (.cells b.toArray eb)).alloc (.cells c.toArray ec)).alloc (.cells d.toArray ed)) (w.heap.size + 1 + 1 + 1) ed d ∧
    Below w.heap.size w ((((w.alloc (.cells a.toArray ea)).alloc (.cells b.toArray eb)).alloc (.cells c.toArray ec)).alloc (.cells d.toArray ed)) := by
  have h1 := ((((row1_new w a ea).alloc (.cells b.toArray eb)).alloc (.cells c.toArray ec)).alloc (.cells d.toArray ed))
  have h2 := (((row1_new (w.alloc (.cells a.toArray ea)) b eb).alloc (.cells c.toArray ec)).alloc (.cells d.toArray ed))
  have h3 := ((row1_new ((w.alloc (.cells a.toArray ea)).alloc (.cells b.toArray eb)) c ec).alloc (.cells d.toArray ed))
  have h4 := (row1_new (((w.alloc (.cells a.toArray ea)).alloc (.cells b.toArray eb)).alloc (.cells c.toArray ec)) d ed)
  simp only [World.size_alloc] at h2 h3 h4
  exact ⟨h1, h2, h3, h4, (((below_alloc w _).alloc (by simp) _).alloc (by simp; omega) _).alloc (by simp; omega) _⟩
set_option maxRecDepth 100000 in
set_option maxHeartbeats 4000000 in
theorem aquery_c (p : Par) (hp : p.ok) (A : Option Addr) (l : List Ask) (c : Nat) (id : Int) (A2 : Option Addr) (x : List Int) (c2 : Nat) (w : World) (hA : Asks w A l) (hl : AskOk l) (hA2 : Cells w A2 (x.map (.int .i64))) (hx : x.length ≤ 1000000) (hxu : I64s x) (hTab : Tabs w) [DecidableEq Lit] :
    Calls Tryd.prog 13 #[pval p, .slice A l.length c, .int .i64 id, .slice A2 x.length c2] w fun e w' => e = .returned (.int .i64 (queryP p l id x)) ∧ Below w.heap.size w w' := by
  have hmf : ∀ (fn : Fn) (first cap : Array Value) (w : World), (Instr.makeFunc fn first cap).run Tryd.prog w = .ok (.func fn first cap) w := fun _ _ _ _ => rfl
  obtain ⟨hbp, hba, hbi, hbx, hb4⟩ := boxes4 w (pcells p) [.slice A l.length c] [.int .i64 id] [.slice A2 x.length c2] 24 25 3 30
  have hA1 := hA.below hb4
  have hA21 := hA2.below hb4
  have hTab1 := hTab.below hb4
  have HQ0 := hid (@queryP_ok p l id x)
  have HQK := hid (fun k => @queryP_at p l id x k)
  clear hA hA2 hTab
  go_enter Tryd.func13, Tryd.ntmps13
  go_upto_region 1 with (fail)
  simp only [List.toArray] at hbp hba hbi hbx hb4 hA1 hA21 hTab1
  generalize (((w.alloc _).alloc _).alloc _).alloc _ = w1 at *
  obtain ⟨bp, hgp⟩ : ∃ n, w.heap.size = n := ⟨_, rfl⟩
  have HGP := hid hgp
  rw [hgp] at hbp hba hbi hbx hb4 ⊢
  obtain ⟨ba, hga⟩ : ∃ n, bp + 1 = n := ⟨_, rfl⟩
  rw [hga] at hba hbi hbx ⊢
  obtain ⟨bi, hgi⟩ : ∃ n, ba + 1 = n := ⟨_, rfl⟩
  rw [hgi] at hbi hbx ⊢
  obtain ⟨bx, hgx⟩ : ∃ n, bi + 1 = n := ⟨_, rfl⟩
  rw [hgx] at hbx ⊢
  clear hgp hga hgi hgx
  obtain ⟨p0, p1, p2, p3, p4, p5, p6, p7, p8, p9, p10, p11⟩ := par_cells hbp
  have cx := hbx.cell (k := 0) rfl
  have HQ := hid (query_c p A2 x c2 w1 hA21 (by omega) hxu)
  go_wp2_with (fail)
  refine HQ.out.mono ?_
  rintro e w2 ⟨rfl, hb2⟩
  have hbe := row1_new w2 [.int .i64 (queryE p x)] 33
  have hb3 := below_alloc w2 (.cells #[.int .i64 (queryE p x)] 33)
  have hb5 := below_next hb2 hb2.size hb3
  have hX : QBx (w2.alloc (.cells #[.int .i64 (queryE p x)] 33)) bp ba bi bx w2.heap.size p A l c id A2 x c2 := ⟨hbp.below hb5, hba.below hb5, hbi.below hb5, hbx.below hb5, hbe, hA1.below hb5, hA21.below hb5, hTab1.below hb5⟩
  have hb6 : Below bp w (w2.alloc (.cells #[.int .i64 (queryE p x)] 33)) := by
    have hs := HGP.out
    exact hb4.trans (hb5.mono (by have := hb4.size; omega))
  clear hbp hba hbi hbx hb4 hA1 hA21 hTab1 HQ hb2 hb3 hb5 hbe p0 p1 p2 p3 p4 p5 p6 p7 p8 p9 p10 p11 cx
  go_upto_region 2 with (fail)
  generalize w2.alloc _ = w3 at *
  obtain ⟨be, hge⟩ : ∃ n, w2.heap.size = n := ⟨_, rfl⟩
  rw [hge] at hX ⊢
  clear hge
  have ce := hX.ee.cell (k := 0) rfl
  have hr3 := row1_new w3 (askVs bp ba bi bx be p x) 52
  have hb7 := below_alloc w3 (.cells (askVs bp ba bi bx be p x).toArray 52)
  have hX4 := hX.below hb7
  have HB8 := hid (hb6.trans (hb7.mono (by have := HGP.out; have := hb6.size; omega)))
  have HF := hid (ask_fn bp ba bi bx be p hp A l c id A2 x c2 hl hx hxu)
  clear hX hb6
  go_wp2_with (fail)
  simp only [List.toArray] at hr3 hX4 HB8 hb7
  generalize w3.alloc (.cells _ 52) = w4 at *
  obtain ⟨gs, hgs⟩ : ∃ n, w3.heap.size = n := ⟨_, rfl⟩
  rw [hgs] at hr3 ⊢
  have HR4 := hid hr3
  have HX4 := hid hX4
  clear hgs hr3 hX4 hb7 ce hmf
  go_loopw [28] (fun i wr => ∃ k : Nat, i = .int .i64 (k : Int) ∧ k ≤ 5 ∧ Hid ((∀ j, j < k → wrongB p l id x j = false) ∧ Below w4.heap.size w4 wr)) (fun i _ => 5 - (intOf i).toNat)
  case atStart => exact ⟨0, rfl, by omega, hid ⟨fun j hj => by omega, Below.refl _ _⟩⟩
  case round =>
    obtain ⟨k, rfl, hk, HI⟩ := hrel
    rename_i wr
    by_cases hlt : k < 5
    · obtain ⟨fid, first, cap, hc1, hc2, hcall, hC⟩ := HF.out k hlt
      have hrow := HR4.out.below HI.out.2
      have d1 := hrow.cell hc1
      have d2 := hrow.cell hc2
      have hb9 := below_alloc wr (.cells #[.func (.func fid) first cap, .int .i64 (errA p x k)] 52)
      have HC := hid (hC _ ((HX4.out.below HI.out.2).below hb9))
      have hr9 := row1_new wr [.func (.func fid) first cap, .int .i64 (errA p x k)] 52
      have HR9 := hid hr9
      have HB9 := hid (below_next HI.out.2 HI.out.2.size hb9)
      have HQk := hid (HQK.out k hlt HI.out.1)
      have HIn := hid (show wrongB p l id x k = false → ∀ j, j < k + 1 → wrongB p l id x j = false from fun h j hj => by
        by_cases e : j = k
        · rw [e]; exact h
        · exact HI.out.1 j (by omega))
      clear hC hc1 hc2 hrow hr9 hb9 HI
      generalize wrongB p l id x k = WB at *
      go_wp2_with (fail)
      refine HC.out.mono ?_
      rintro e w5 ⟨rfl, hb10⟩
      have HB10 := hid (below_next HB9.out HB9.out.size hb10)
      cases hwb : WB with
      | false =>
        have HN := hid (HIn.out hwb)
        clear hwb HC hb10 HR9
        go_wp2
        go_roundw
        case rel => exact ⟨k + 1, by go_num, by omega, hid ⟨HN.out, HB10.out⟩⟩
        case measure => simp [intOf]; omega
      | true =>
        have HN := hid (HQk.out hwb)
        have e2 := (HR9.out.below hb10).cell (k := 1) (u := .int .i64 (errA p x k)) rfl
        clear hwb HC hb10 HR9
        go_wp2
        go_ret
        exact ⟨by rw [HN.out]; rfl, by rw [HGP.out]; have h1 := HB8.out; have h2 := HB10.out; have h4 := HGP.out; have h3 := h1.size; exact h1.trans (h2.mono (by omega))⟩
    · obtain rfl : k = 5 := by omega
      have HN := hid (HQ0.out HI.out.1)
      go_wp2
      go_ret
      exact ⟨by rw [HN.out]; rfl, by rw [HGP.out]; have h1 := HB8.out; have h2 := HI.out.2; have h4 := HGP.out; have h3 := h1.size; exact h1.trans (h2.mono (by omega))⟩
end Go.Proofs.YtpdgalclnlbeaaaDoor
end

section
namespace Go.Proofs.YtpdgalclnlbeaaaDoor
open Go Go.RowKit Go.Maps Go.Shelf Go.Proofs
attribute [local go_sem] Oper.semAt_some
/-- queries in a row of the call's own, their entries in rows of their own. -/
def OwnA (w : World) (base : Nat) (v : Value) (l : List Ask) : Prop := ∃ vs : List AskV, w.ownsRow base 32 2 v l.length (vs.flatMap acl) ∧ vs.length = l.length ∧ ∀ (i : Nat) (u : AskV) (a : Ask), vs[i]? = some u → l[i]? = some a → u.id = a.id ∧ RowT w 2 u.v (a.x.map (.int .i64))
section
variable {w w' : World} {base : Nat} {v v' : Value} {l : List Ask}
theorem OwnA.nil (w : World) (base : Nat) : OwnA w base (.slice none 0 0) [] := ⟨[], ⟨rfl, .inl ⟨rfl, rfl⟩⟩, rfl, fun i u a h => by simp at h⟩
theorem OwnA.below (h : OwnA w base v l) (hb : Below w.heap.size w w') : OwnA w' base v l := by
  obtain ⟨vs, h1, h2, h3⟩ := h
  refine ⟨vs, ⟨h1.1, ?_⟩, h2, fun i u a a1 a2 => ⟨(h3 i u a a1 a2).1, (h3 i u a a1 a2).2.below hb⟩⟩
  rcases h1.2 with hn | ⟨g, cap, cur, rfl, hg, hh, rest⟩
  · exact .inl hn
  · exact .inr ⟨g, cap, cur, rfl, hg, (hb.block g (Array.getElem?_eq_some_iff.1 hh).1).trans hh, rest⟩
theorem OwnA.from_ {b : Nat} (h : OwnA w base v l) (hb : b ≤ base) : OwnA w b v l := by
  obtain ⟨vs, h1, h2, h3⟩ := h
  refine ⟨vs, ⟨h1.1, ?_⟩, h2, h3⟩
  rcases h1.2 with hn | ⟨g, cap, cur, rfl, hg, rest⟩
  · exact .inl hn
  · exact .inr ⟨g, cap, cur, rfl, Nat.le_trans hb hg, rest⟩
theorem OwnA.room (h : OwnA w base v l) : ∃ A c, v = .slice A l.length c ∧ l.length ≤ c := by
  obtain ⟨vs, h1, _⟩ := h
  rcases h1.2 with ⟨rfl, h0⟩ | ⟨g, cap, cur, rfl, hg, hh, hn, _⟩
  · exact ⟨none, 0, by rw [h0], by omega⟩
  · exact ⟨_, cap, rfl, hn⟩
theorem OwnA.asks (h : OwnA w base v l) : ∃ A c, v = .slice A l.length c ∧ Asks w A l := by
  obtain ⟨vs, h1, h2, h3⟩ := h
  have hv : AsksV w vs l := ⟨h2, fun i a ha => by
    obtain ⟨u, hu⟩ := get_of_lt (l := vs) (k := i) (by rw [h2]; exact (List.getElem?_eq_some_iff.1 ha).1)
    obtain ⟨e1, hr⟩ := h3 i u a hu ha
    obtain ⟨A, c, e2, hc, hl⟩ := hr.form
    rw [List.length_map] at e2 hl
    exact ⟨u, hu, e1, A, c, e2, hc, hl⟩⟩
  have h1' := h1
  rcases h1.2 with ⟨rfl, h0⟩ | ⟨g, cap, cur, rfl, hg, hh, rest⟩
  · refine ⟨none, 0, by rw [h0], vs, .inl ?_, hv⟩
    have : vs = [] := List.eq_nil_of_length_eq_zero (by rw [h2, h0])
    rw [this]; rfl
  · exact ⟨some ⟨g, 0, none⟩, cap, rfl, vs, .inr ⟨g, 0, rfl, fun i u hu => by
      have := World.ownsRow.cells (w := w) h1' (g := g) rfl i u hu
      rw [Addr.add_lit, Nat.zero_add] at this
      rw [Nat.zero_add]; exact this⟩, hv⟩
theorem OwnA.block (h : OwnA w base v l) {b : Nat} {arr : Array Value} {e : TypeId} {fz : Nat × Nat} (hb : w.heap[b]? = some (Obj.cells arr e fz)) (hne : e ≠ 32) : v.ownBlock ≠ some b := by
  obtain ⟨vs, h1, _⟩ := h
  rcases h1.2 with ⟨rfl, _⟩ | ⟨g, cap, cur, rfl, _, hh, _⟩
  · intro e1; cases e1
  · intro e1
    simp only [Value.ownBlock, Option.some.injEq] at e1
    subst e1
    rw [hb] at hh
    simp only [Option.some.injEq, Obj.cells.injEq] at hh
    exact hne hh.2.1
end
theorem info_Ask : (Tryd.prog.info? 32).map (fun i => (i.zero, i.size, i.bytes)) = some (some (.agg #[.int .i64 0, .slice none 0 0]), 2, 32) := by kernel_rfl
theorem info_partsA {e : TypeId} {z : Value} {n b : Nat} (h : (Tryd.prog.info? e).map (fun i => (i.zero, i.size, i.bytes)) = some (some z, n, b)) : ∃ i, Tryd.prog.info? e = some i ∧ i.zero = some z ∧ i.size = n ∧ i.bytes = b := by
  cases hi : Tryd.prog.info? e with
  | none => rw [hi] at h; cases h
  | some i =>
    rw [hi] at h
    simp only [Option.map_some, Option.some.injEq, Prod.mk.injEq] at h
    exact ⟨i, rfl, h.1, h.2.1, h.2.2⟩
/-- 'append(out, Asked{..})'. -/
theorem wpList_pushA (w : World) {ops : Array Oper} {rest : List Oper} {o : Oper} {a : Act} {Q : Exit → Act → World → Prop} (hgd : o.guard = none) (s x : Operand)
    (hop : o.op = .call { callee := .builtin .append, args := #[s, x], argTypes := #[25, 25] })
    (base : Nat) {v : Value} {l : List Ask} (hs : a.eval s = v) (hown : OwnA w base v l) {g : Nat} {k : Ask} {u : Value} (hx : a.eval x = .slice (some ⟨g, 0, none⟩) 1 1) (hg : Row1 w g 32 [.int .i64 k.id, u]) (hu : RowT w 2 u (k.x.map (.int .i64))) (hl : l.length ≤ 100000) (hbase : base ≤ w.heap.size)
    (h : ∀ v' w', OwnA w' base v' (l ++ [k]) → w.grownBy w' v.ownBlock → Below base w w' → wpList Tryd.prog ops Q rest (a.put o.dst v') w') : wpList Tryd.prog ops Q (o :: rest) a w := by
  obtain ⟨i0, hi, hz0, hz1, hz2⟩ := info_partsA info_Ask
  have hown0 := hown
  obtain ⟨vs, h1, h2, h3⟩ := hown
  refine wpList_append_own w hgd s x _ hop base 32 i0 (.agg #[.int .i64 0, .slice none 0 0]) 2 32 Tryd.underlying25 hi hz0 hz1 hz2 (by rfl) (by decide) v l.length (vs.flatMap acl) hs h1 ⟨g, 0, none⟩ 1 1 [.int .i64 k.id, u] hx rfl (fun j y hj => by rw [Addr.add_lit, Nat.zero_add]; exact hg.cell hj) (fun y hy => ?_) (by unfold maxLen; omega) (by omega) hbase ?_
  · simp only [List.mem_cons, List.not_mem_nil, or_false] at hy
    rcases hy with rfl | rfl
    · rfl
    · obtain ⟨A, c, rfl, _⟩ := hu.form; rfl
  · intro v' w' o1 o2 _
    have keep : ∀ (y : Value) (xs : List Value), RowT w 2 y xs → RowT w' 2 y xs := fun y xs hy => hy.block fun b arr fz hb => o2.block b (Array.getElem?_eq_some_iff.1 hb).1 fun e => hown0.block hb (by decide) e.symm
    refine h v' w' ⟨vs ++ [⟨k.id, u⟩], ?_, by simp [h2], fun i y b hy hb => ?_⟩ o2 ((Below.refl _ _).grown o2 hbase fun j e => ?_)
    · rw [List.flatMap_append, List.length_append]
      exact o1
    · rcases Nat.lt_or_ge i l.length with hi | hi
      · rw [List.getElem?_append_left (by omega)] at hy
        rw [List.getElem?_append_left hi] at hb
        obtain ⟨e1, e2⟩ := h3 i y b hy hb
        exact ⟨e1, keep _ _ e2⟩
      · rw [List.getElem?_append_right (by omega)] at hy
        rw [List.getElem?_append_right hi] at hb
        have : i - l.length = 0 := by
          have := (List.getElem?_eq_some_iff.1 hb).1
          simp at this; omega
        rw [h2, this] at hy
        rw [this] at hb
        obtain rfl := Option.some.inj hy
        obtain rfl := Option.some.inj hb
        exact ⟨rfl, keep _ _ hu⟩
    · exact (World.ownsRow.lt h1 j e).1
def RowTV (w : World) (v : Value) (l : List Int) : Prop := RowT w 2 v (l.map (.int .i64))
theorem RowTV.below {w w' : World} {v : Value} {l : List Int} (h : RowTV w v l) (hb : Below w.heap.size w w') : RowTV w' v l := RowT.below h hb
def AggTV (w : World) (v : Value) (k : Ask) : Prop := ∃ A c, v = .agg #[.int .i64 k.id, .slice A k.x.length c] ∧ RowT w 2 (.slice A k.x.length c) (k.x.map (.int .i64))
theorem AggTV.below {w w' : World} {v : Value} {k : Ask} (h : AggTV w v k) (hb : Below w.heap.size w w') : AggTV w' v k := by
  obtain ⟨A, c, rfl, hr⟩ := h
  exact ⟨A, c, rfl, hr.below hb⟩
def OneTV (w : World) (v : Value) (k : Ask) : Prop := ∃ g u, v = .slice (some ⟨g, 0, none⟩) 1 1 ∧ Row1 w g 32 [.int .i64 k.id, u] ∧ RowT w 2 u (k.x.map (.int .i64))
theorem OneTV.below {w w' : World} {v : Value} {k : Ask} (h : OneTV w v k) (hb : Below w.heap.size w w') : OneTV w' v k := by
  obtain ⟨g, u, rfl, hg, hr⟩ := h
  exact ⟨g, u, rfl, hg.below hb, hr.below hb⟩
set_option maxRecDepth 100000 in
set_option maxHeartbeats 2000000 in
theorem acopy_c (A : Option Addr) (l : List Ask) (c : Nat) (w : World) (hA : Asks w A l) (hl : AskOk l) :
    Calls Tryd.prog 36 #[.slice A l.length c] w fun e w' => ∃ v, e = .returned v ∧ OwnA w' w.heap.size v l ∧ Below w.heap.size w w' := by
  have HA := hid hA
  have HL := hid hl
  have hlf := hl.few
  clear hA hl
  go_enter Tryd.func36, Tryd.ntmps36
  go_wp2
  go_loopw [3, 8] (fun o i wr => ∃ k : Nat, i = .int .i64 (k : Int) ∧ k ≤ l.length ∧ Hid (OwnA wr w.heap.size o (l.take k) ∧ Below w.heap.size w wr)) (fun _ i _ => l.length - (intOf i).toNat)
  case atStart => exact ⟨0, rfl, by omega, hid ⟨OwnA.nil _ _, Below.refl _ _⟩⟩
  case round =>
    obtain ⟨k, rfl, hk, HI⟩ := hrel
    rename_i o wr
    by_cases hlt : k < l.length
    · obtain ⟨a, ha⟩ := get_of_lt hlt
      obtain ⟨b, off, A', c', rfl, ca, cx, hcs, hxl⟩ := (HA.out.below HI.out.2).at_ ha
      have HS := hid (show l.take (k + 1) = l.take k ++ [a] from take_snocR ha)
      have hal := HL.out.len a (List.mem_of_getElem? ha)
      have hbx := below_alloc wr (.cells #[.int .i64 a.id, .slice A' a.x.length c'] 32)
      have hrx := row1_new wr [.int .i64 a.id, .slice A' a.x.length c'] 32
      have hO := HI.out.1.below hbx
      have hbw := below_next HI.out.2 HI.out.2.size hbx
      have hcs2 := hcs.below hbx
      clear ha hcs HI
      go_upto_region 5 with (fail)
      simp only [List.toArray] at hrx hO hbw hbx hcs2
      generalize wr.alloc (.cells #[.int .i64 a.id, .slice A' a.x.length c'] 32) = w2 at *
      obtain ⟨bx, hgx⟩ : ∃ n, wr.heap.size = n := ⟨_, rfl⟩
      rw [hgx] at hrx hbx ⊢
      clear hgx
      refine Rg.wp_region (l := [_, _, _, _, _, _, _, _]) (tail := [_, _]) (Rg.grows _ 10) [some 12, some 13, some 14, some 15, some 16, some 17, some 18, some 19, some 20, some 3] 23 (by kernel_rfl) (by kernel_rfl) (by kernel_rfl) rfl (Rg.grows_fair _ _) (Rg.keep_drew _) (trivial) ?_
      refine' Rg.op_is _ [] rfl rfl (by kernel_rfl) ?_ ?_
      rotate_left
      · intro wx hb
        refine Rg.from_nil fun T hT => ?_
        go_wp2
        refine hT _ _ rfl (by first | exact Rg.Keep.refl _ | exact below_of_dr hw2 | exact hw2 | exact (Below.refl _ _).alloc (Nat.le_refl _) _) ?_
        simp only [Rg.last, List.getElem?_toArray, List.getElem?_cons_succ, List.getElem?_cons_zero, Option.getD_some]
        rfl
      refine' Rg.op_is _ [] rfl rfl (by kernel_rfl) ?_ ?_
      rotate_left
      · intro wx hb
        refine Rg.from_nil fun T hT => ?_
        go_wp2
        refine hT _ _ rfl (by first | exact Rg.Keep.refl _ | exact below_of_dr hw2 | exact hw2 | exact (Below.refl _ _).alloc (Nat.le_refl _) _) ?_
        simp only [Rg.last, List.getElem?_toArray, List.getElem?_cons_succ, List.getElem?_cons_zero, Option.getD_some]
        rfl
      refine Rg.op_is (.int .i64 a.id) [1] rfl rfl (by kernel_rfl) ?_ ?_
      · intro wx hb
        refine Rg.from_is (some 13) rfl rfl ?_
        refine Rg.from_nil fun T hT => ?_
        have c0 := (hrx.below hb).cell (k := 0) rfl
        go_wp2
        exact hT _ _ rfl (by first | exact Rg.Keep.refl _ | exact below_of_dr hw2 | exact hw2 | exact (Below.refl _ _).alloc (Nat.le_refl _) _) (by first | rfl | exact congrArg _ (by decide))
      refine' Rg.op_is _ [] rfl rfl (by kernel_rfl) ?_ ?_
      rotate_left
      · intro wx hb
        refine Rg.from_nil fun T hT => ?_
        go_wp2
        refine hT _ _ rfl (by first | exact Rg.Keep.refl _ | exact below_of_dr hw2 | exact hw2 | exact (Below.refl _ _).alloc (Nat.le_refl _) _) ?_
        simp only [Rg.last, List.getElem?_toArray, List.getElem?_cons_succ, List.getElem?_cons_zero, Option.getD_some]
        rfl
      refine Rg.op_is (.slice A' a.x.length c') [3] rfl rfl (by kernel_rfl) ?_ ?_
      · intro wx hb
        refine Rg.from_is (some 15) rfl rfl ?_
        refine Rg.from_nil fun T hT => ?_
        have c1 := (hrx.below hb).cell (k := 1) rfl
        go_wp2
        exact hT _ _ rfl (by first | exact Rg.Keep.refl _ | exact below_of_dr hw2 | exact hw2 | exact (Below.refl _ _).alloc (Nat.le_refl _) _) (by first | rfl | exact congrArg _ (by decide))
      refine Rg.op_of (fun w' v => RowTV w' v a.x) [4] rfl ?_ ?_ rfl (by kernel_rfl) ?_ ?_
      · exact fun w1 w2 v hk h => h.below hk
      · exact fun w1 w2 v hk h => h.below hk
      · intro wx hb
        refine Rg.from_is (some 16) rfl rfl ?_
        refine Rg.from_nil fun T hT => ?_
        go_wp2_with (fail)
        refine (clone_c A' a.x c' _ (hcs2.below hb) (by omega)).mono ?_
        rintro e w3 ⟨v, rfl, ho, hw3⟩
        have hgv : RowTV w3 v a.x := ho.rowT
        clear ho
        go_wp2
        exact hT _ _ rfl hw3 hgv
      refine Rg.op_of (fun w' v => AggTV w' v a) [2, 5] rfl ?_ ?_ rfl (by kernel_rfl) ?_ ?_
      · exact fun w1 w2 v hk h => h.below hk
      · exact fun w1 w2 v hk h => h.below hk
      · intro wx hb
        refine Rg.from_is (some 14) rfl rfl ?_
        refine Rg.from_of (some 17) rfl rfl fun v17 h17 => ?_
        refine Rg.from_nil fun T hT => ?_
        have hv := h17
        obtain ⟨A9, c9, e9, _⟩ := RowT.form h17
        rw [List.length_map] at e9
        subst e9
        go_wp2
        exact hT _ _ rfl (Below.refl _ _) ⟨A9, c9, rfl, hv⟩
      refine Rg.op_of (fun w' v => OneTV w' v a) [6] rfl ?_ ?_ rfl (by kernel_rfl) ?_ ?_
      · exact fun w1 w2 v hk h => h.below hk
      · exact fun w1 w2 v hk h => h.below hk
      · intro wx hb
        refine Rg.from_of (some 18) rfl rfl fun v18 h18 => ?_
        refine Rg.from_nil fun T hT => ?_
        obtain ⟨A9, c9, rfl, hr9⟩ := h18
        go_wp2
        have hbn := below_alloc wx (.cells #[.int .i64 a.id, .slice A9 a.x.length c9] 32)
        exact hT _ _ rfl hbn ⟨_, _, rfl, row1_new wx [.int .i64 a.id, .slice A9 a.x.length c9] _, hr9.below hbn⟩
      refine Rg.walk_nil [0, 1, 2, 3, 4, 5, 6, 7] (by kernel_rfl) ?_
      intro wx hb
      refine Rg.from_is (some 12) rfl rfl ?_
      refine Rg.from_is (some 13) rfl rfl ?_
      refine Rg.from_is (some 14) rfl rfl ?_
      refine Rg.from_is (some 15) rfl rfl ?_
      refine Rg.from_is (some 16) rfl rfl ?_
      refine Rg.from_of (some 17) rfl rfl fun v17 h17 => ?_
      refine Rg.from_of (some 18) rfl rfl fun v18 h18 => ?_
      refine Rg.from_of (some 19) rfl rfl fun v19 h19 => ?_
      refine Rg.from_nil ?_
      simp only [List.map, Act.put, List.setIfInBounds_toArray, List.set_cons_zero, List.set_cons_succ]
      have hO2 := hO.below hb
      obtain ⟨g9, u9, rfl, hg9, hu9⟩ := h19
      have hbw2 := below_next hbw hbw.size hb
      have hlk : (l.take k).length ≤ 100000 := by rw [List.length_take]; omega
      refine wpList_pushA wx rfl _ _ rfl w.heap.size rfl hO2 rfl hg9 hu9 hlk hbw2.size ?_
      intro v' w5 ho5 hg5 hb5
      rw [← HS.out] at ho5
      have HN := hid (And.intro ho5 (hbw2.trans hb5))
      clear ho5 hg5 hb5 hbw2 hO2 hO hg9 hu9 hb h18 h17
      go_wp2
      go_roundw
      case rel => exact ⟨k + 1, by go_num, by omega, HN⟩
      case measure => simp [intOf]; omega
    · obtain rfl : k = l.length := by omega
      rw [List.take_length] at HI
      go_wp2
      go_ret
      exact ⟨_, rfl, HI.out.1, HI.out.2⟩
/-- what is told of a query that is put. -/
def PutR (p : Par) (l : List Ask) (id : Int) (x : List Int) (w : World) (e : Ending) (w' : World) : Prop :=
  ∃ v, e = .returned (.tuple #[v, .int .i64 (queryP p l id x)]) ∧ (queryP p l id x = 0 → OwnA w' w.heap.size v (l ++ [⟨id, x⟩])) ∧ (queryP p l id x ≠ 0 → v = .slice none 0 0) ∧ Below w.heap.size w w'
set_option maxRecDepth 100000 in
set_option maxHeartbeats 2000000 in
theorem aput_c (p : Par) (hp : p.ok) (A : Option Addr) (l : List Ask) (c : Nat) (id : Int) (A2 : Option Addr) (x : List Int) (c2 : Nat) (w : World) (hA : Asks w A l) (hl : AskOk l) (hA2 : Cells w A2 (x.map (.int .i64))) (hx : x.length ≤ 1000000) (hxu : I64s x) (hTab : Tabs w) [DecidableEq Lit] :
    Calls Tryd.prog 20 #[pval p, .slice A l.length c, .int .i64 id, .slice A2 x.length c2] w (PutR p l id x w) := by
  have hlf := hl.few
  have hb0 := below_alloc w (.cells (pcells p).toArray 24)
  have hP := row1_new w (pcells p) 24
  have hA1 := hA.below hb0
  have hA21 := hA2.below hb0
  have hTab1 := hTab.below hb0
  clear hA hA2 hTab
  go_enter Tryd.func20, Tryd.ntmps20
  go_upto_region 1 with (fail)
  simp only [List.toArray] at hb0 hP hA1 hA21 hTab1
  generalize w.alloc (.cells #[.int .u64 p.P, .int .u64 p.Q, .int .u64 p.G, .int .u64 p.H, .int .i64 p.Nodes, .int .i64 p.N, .int .i64 p.T, .int .i64 p.K, .int .i64 p.D, .int .i64 p.R, .int .i64 p.M, .int .i64 p.X] 24) = w1 at *
  obtain ⟨p0, p1, p2, p3, p4, p5, p6, p7, p8, p9, p10, p11⟩ := par_cells hP
  have HQ := hid (aquery_c p hp A l c id A2 x c2 w1 hA1 hl hA21 hx hxu hTab1)
  have HR := hid (show ∀ e w', PutR p l id x w e w' ↔ ∃ v, e = .returned (.tuple #[v, .int .i64 (queryP p l id x)]) ∧ (queryP p l id x = 0 → OwnA w' w.heap.size v (l ++ [⟨id, x⟩])) ∧ (queryP p l id x ≠ 0 → v = .slice none 0 0) ∧ Below w.heap.size w w' from fun e w' => Iff.rfl)
  generalize queryP p l id x = E at *
  go_wp2_with (fail)
  refine HQ.out.mono ?_
  rintro e w2 ⟨rfl, hb2⟩
  have hbw := below_next hb0 hb0.size hb2
  have hA3 := hA1.below hb2
  have hA23 := hA21.below hb2
  clear HQ hb0 hP hA1 hA21 hTab1 p0 p1 p2 p3 p4 p5 p6 p7 p8 p9 p10 p11 hb2
  by_cases hE : E = 0
  · subst hE
    go_wp2_with (fail)
    refine (acopy_c A l c w2 hA3 hl).mono ?_
    rintro e w3 ⟨v3, rfl, ho3, hb3⟩
    have hA24 := hA23.below hb3
    obtain ⟨A3, c3, rfl, _⟩ := ho3.asks
    go_wp2_with (fail)
    refine (clone_c A2 x c2 w3 hA24 (by omega)).mono ?_
    rintro e w4 ⟨v4, rfl, ho4, hb4⟩
    have hr4 := ho4.rowT
    have ho5 := ho3.below hb4
    obtain ⟨A4, c4, e4, _⟩ := ho4.form
    rw [List.length_map] at e4
    subst e4
    have hb5 := below_alloc w4 (.cells #[.int .i64 id, .slice A4 x.length c4] 32)
    have hg6 := row1_new w4 [.int .i64 id, .slice A4 x.length c4] 32
    have ho6 := (ho5.below hb5).from_ (b := w.heap.size) (by exact hbw.size)
    have hr6 := hr4.below hb5
    have hb6 := below_next hbw hbw.size (hb3.trans ((hb4.mono hb3.size).trans (hb5.mono (Nat.le_trans hb3.size hb4.size))))
    clear ho3 hb3 ho4 hb4 ho5 hr4 hA24 hA23 hA3 hbw hb5
    simp only [List.toArray] at hg6 ho6 hr6 hb6
    go_wp2_with (at_builtin; refine wpList_pushA _ rfl _ _ rfl w.heap.size rfl ho6 (k := ⟨id, x⟩) rfl hg6 hr6 (by omega) hb6.size ?_; intro v7 w7 ho7 _ hb7)
    go_ret2
    rw [HR.out]
    exact ⟨v7, rfl, fun _ => ho7, fun h => absurd rfl h, hb6.trans hb7⟩
  · have hne : (E != 0) = true := by simpa using hE
    go_wp2
    go_ret2
    rw [HR.out]
    exact ⟨_, rfl, fun h => absurd h hE, fun _ => rfl, hbw⟩
end Go.Proofs.YtpdgalclnlbeaaaDoor
end
