/-
  Queries in a row; their numbers: the program's.
-/
import Derived.Test.YtmmmdidbnjcooaaDoorFxA
import Derived.Test.YtmmmdidbnjcooaaDoorLitB
import Derived.Test.YtmmmdidbnjcooaaDoorRaE
import Derived.Lib.SliceRun
namespace Go.Proofs.YtmmmdidbnjcooaaDoor
open Go Go.RowKit Go.Maps Go.Shelf Go.Proofs

def NewInts (xs : List Int) (w : World) (e : Ending) (w' : World) : Prop := ∃ v, e = .returned v ∧ Own w' w.heap.size 2 v (xs.map (.int .i64)) ∧ Below w.heap.size w w'

set_option maxRecDepth 100000 in
set_option maxHeartbeats 1000000 in
theorem clone_c (A : Option Addr) (l : List Int) (c : Nat) (w : World) (hA : Cells w A (l.map (.int .i64))) (hl : l.length ≤ 17592186044415) :
    Calls Tryd.prog 62 #[.slice A l.length c] w (NewInts l w) := by
  go_enter Tryd.func62, Tryd.ntmps62
  cases A with
  | none =>
    have h0 : l = [] := by
      rcases hA with h | ⟨b, off, h, _⟩
      · simpa using h
      · cases h
    subst h0
    have he : (binOp .eql 36 (.slice none 0 c) (.slice none 0 0)).run Tryd.prog w = .ok (.bool true) w := Lib.run_eql_slice_nil w _ _ _ _ _ _ _ Tryd.underlying36
    go_wp2
    go_ret
    exact ⟨_, rfl, by simpa using Own.nil w w.heap.size 2, Below.refl _ _⟩
  | some A =>
    have hr := row1_new w [] 2
    have hb := below_alloc w (.cells #[] 2)
    have hown : Own (w.alloc (.cells #[] 2)) w.heap.size 2 (.slice (some ⟨w.heap.size, 0, none⟩) 0 0) [] := by
      simpa using hr.own (base := w.heap.size) (Nat.le_refl _) (by simp)
    have hA2 := hA.below hb
    have he : (binOp .eql 36 (.slice (some A) l.length c) (.slice none 0 0)).run Tryd.prog w = .ok (.bool false) w := Lib.run_eql_slice_nil w _ _ _ _ _ _ _ Tryd.underlying36
    have hlen : (l.map (Value.int .i64)).length = l.length := by simp
    go_wp2_with (at_builtin; refine wpList_appends elt_i64 _ rfl _ _ rfl w.heap.size hown rfl hA2 (by simp; rfl) (fun u hu => by simp only [List.mem_map] at hu; obtain ⟨z, _, rfl⟩ := hu; rfl) (by simp; omega) (by simp; omega) (by simp) ?_; intro v' w5 hown5 _ hb8)
    go_ret
    exact ⟨_, rfl, by simpa using hown5, hb.trans hb8⟩

/-- a query. -/
structure Ask where
  id : Int
  x : List Int
/-- a query as two cells. -/
structure AskV where
  id : Int
  v : Value
abbrev acl (a : AskV) : List Value := [.int .i64 a.id, a.v]
theorem flatA_at (l : List AskV) (k : Nat) : (l.flatMap acl)[k * 2]? = (l[k]?).map (fun a => Value.int .i64 a.id) ∧ (l.flatMap acl)[k * 2 + 1]? = (l[k]?).map AskV.v := by
  have h0 := flat_at acl 2 (fun _ => rfl) l k 0 (by decide)
  have h1 := flat_at acl 2 (fun _ => rfl) l k 1 (by decide)
  rw [Nat.add_zero] at h0
  rw [h0, h1]
  cases l[k]? <;> exact ⟨rfl, rfl⟩
theorem flatA_len (l : List AskV) : (l.flatMap acl).length = l.length * 2 := by
  induction l with
  | nil => rfl
  | cons a l ih => rw [List.flatMap_cons, List.length_append, ih, List.length_cons]; simp; omega
/-- these cells read as these queries. -/
def AsksV (w : World) (vs : List AskV) (l : List Ask) : Prop := vs.length = l.length ∧ ∀ (i : Nat) (a : Ask), l[i]? = some a → ∃ u, vs[i]? = some u ∧ u.id = a.id ∧ RowI w u.v a.x
/-- the slice at A reads as these queries. -/
def Asks (w : World) (A : Option Addr) (l : List Ask) : Prop := ∃ vs : List AskV, Cells w A (vs.flatMap acl) ∧ AsksV w vs l
theorem AsksV.keep {w w' : World} {vs : List AskV} {l : List Ask} (h : AsksV w vs l) (hk : ∀ p : Addr, p.block < w.heap.size → w'.cell? p = w.cell? p) : AsksV w' vs l :=
  ⟨h.1, fun i a hi => let ⟨u, h1, h2, h3⟩ := h.2 i a hi; ⟨u, h1, h2, h3.keep hk⟩⟩
theorem Asks.below {w w' : World} {A : Option Addr} {l : List Ask} (h : Asks w A l) (hb : Below w.heap.size w w') : Asks w' A l := by
  obtain ⟨vs, h1, h2⟩ := h
  exact ⟨vs, h1.below hb, h2.keep fun _ hp => hb.cell hp⟩
theorem Asks.dr {w w' : World} {A : Option Addr} {l : List Ask} (h : Asks w A l) (hd : Dr w w') : Asks w' A l := by
  obtain ⟨n, rfl⟩ := hd; exact h
theorem asks_none (w : World) : Asks w none [] := ⟨[], .inl rfl, rfl, fun i a h => by simp at h⟩
theorem Asks.at_ {w : World} {A : Option Addr} {l : List Ask} (h : Asks w A l) {k : Nat} {a : Ask} (hk : l[k]? = some a) :
    ∃ b off A' c, A = some ⟨b, off, none⟩ ∧ w.cell? ⟨b, off + k * 2, none⟩ = some (.int .i64 a.id) ∧ w.cell? ⟨b, off + k * 2 + 1, none⟩ = some (.slice A' a.x.length c) ∧ Cells w A' (a.x.map (.int .i64)) ∧ a.x.length ≤ 9223372036854775807 := by
  obtain ⟨vs, h1, _, h3⟩ := h
  obtain ⟨u, hu, hid, A', c, hv, hc, hl⟩ := h3 k a hk
  obtain ⟨f1, f2⟩ := flatA_at vs k
  rw [hu] at f1 f2
  obtain ⟨b, off, rfl, hcell⟩ := h1.at_ f1
  obtain ⟨b2, off2, e2, hcell2⟩ := h1.at_ f2
  cases e2
  refine ⟨b, off, A', c, rfl, by rw [hcell]; show some (Value.int .i64 u.id) = _; rw [hid], ?_, hc, hl⟩
  rw [← hv, Nat.add_assoc]; exact hcell2
/-- the first of them. -/
theorem Asks.take {w : World} {A : Option Addr} {l : List Ask} (h : Asks w A l) (k : Nat) : Asks w A (l.take k) := by
  obtain ⟨vs, h1, h2, h3⟩ := h
  refine ⟨vs.take k, ?_, by rw [List.length_take, List.length_take, h2], fun i a hi => ?_⟩
  · have e : vs.flatMap acl = (vs.take k).flatMap acl ++ (vs.drop k).flatMap acl := by rw [← List.flatMap_append, List.take_append_drop]
    rcases h1 with h | ⟨b, off, rfl, hc⟩
    · rw [e] at h
      exact .inl (List.append_eq_nil_iff.1 h).1
    · refine .inr ⟨b, off, rfl, fun i u hu => hc i u ?_⟩
      rw [e, List.getElem?_append_left (List.getElem?_eq_some_iff.1 hu).1]
      exact hu
  · rw [List.getElem?_take] at hi
    split at hi
    · rename_i hik
      obtain ⟨u, hu, h4⟩ := h3 i a hi
      exact ⟨u, by rw [List.getElem?_take, if_pos hik]; exact hu, h4⟩
    · cases hi
/-- what queries are. -/
structure AskOk (l : List Ask) : Prop where
  few : l.length ≤ 1000
  id : ∀ a ∈ l, I64 a.id
  x : ∀ a ∈ l, I64s a.x
  len : ∀ a ∈ l, a.x.length ≤ 1000000
theorem AskOk.take {l : List Ask} (h : AskOk l) (k : Nat) : AskOk (l.take k) := ⟨by have := h.few; rw [List.length_take]; omega, fun a ha => h.id a (List.mem_of_mem_take ha), fun a ha => h.x a (List.mem_of_mem_take ha), fun a ha => h.len a (List.mem_of_mem_take ha)⟩
theorem elt_rowsA : Elt Tryd.prog 26 25 (.slice none 0 0) 24 := Elt.of Tryd.underlying26 (by kernel_rfl) rfl
/-- the rows of queries, and of more. -/
def rowsP (p : Par) (l : List Ask) (more : List (List Int)) : List (List Int) := l.map (fun a => rowS p a.x) ++ more.map (rowS p)
theorem OwnRows.grid {w : World} {base : Nat} {e0 e : TypeId} {v : Value} {f : List (List Int)} (h : OwnRows w base e0 e v (f.map u64v)) : ∃ A c, v = .slice A f.length c ∧ Grid w A f := by
  obtain ⟨vs, h1, h2, h3⟩ := h
  obtain ⟨A, c, rfl, hc⟩ := h1.form
  have hl : vs.length = f.length := by rw [h2, List.length_map]
  refine ⟨A, c, by rw [hl], vs, hc, hl, fun i l hi => ?_⟩
  obtain ⟨u, hu⟩ := get_of_lt (l := vs) (k := i) (by rw [hl]; exact (List.getElem?_eq_some_iff.1 hi).1)
  obtain ⟨A', c', rfl, hcs, hln⟩ := (h3 i u (u64v l) hu (by rw [List.getElem?_map, hi]; rfl)).form
  rw [List.length_map] at hln
  exact ⟨_, hu, A', c', by rw [List.length_map], hcs, hln⟩
theorem rowS_len (p : Par) (x : List Int) : (rowS p x).length ≤ 5 := by
  unfold rowS
  split
  · rename_i h
    have := (fits_iff p).1 h
    have h1 := this.D
    rw [List.length_append, padded_len]; simp; omega
  · simp
theorem rowsP_ok (p : Par) (l : List Ask) (more : List (List Int)) (h : l.length ≤ 1000) (h2 : more.length ≤ 1000) : RowsOk (rowsP p l more) where
  few := by unfold rowsP; simp; omega
  len r hr := by
    have : ∃ x, r = rowS p x := by
      rcases List.mem_append.1 hr with h | h <;> obtain ⟨a, _, rfl⟩ := List.mem_map.1 h <;> exact ⟨_, rfl⟩
    obtain ⟨x, rfl⟩ := this
    have := rowS_len p x; omega
  u r hr := by
    have : ∃ x, r = rowS p x := by
      rcases List.mem_append.1 hr with h | h <;> obtain ⟨a, _, rfl⟩ := List.mem_map.1 h <;> exact ⟨_, rfl⟩
    obtain ⟨x, rfl⟩ := this
    exact rowS_u64 p x
theorem par_cells {w : World} {g : Nat} {e : TypeId} {p : Par} (h : Row1 w g e (pcells p)) : w.cell? ⟨g, 0, none⟩ = some (.int .u64 p.P) ∧ w.cell? ⟨g, 1, none⟩ = some (.int .u64 p.Q) ∧ w.cell? ⟨g, 2, none⟩ = some (.int .u64 p.G) ∧ w.cell? ⟨g, 3, none⟩ = some (.int .u64 p.H) ∧ w.cell? ⟨g, 4, none⟩ = some (.int .i64 p.Nodes) ∧ w.cell? ⟨g, 5, none⟩ = some (.int .i64 p.N) ∧ w.cell? ⟨g, 6, none⟩ = some (.int .i64 p.T) ∧ w.cell? ⟨g, 7, none⟩ = some (.int .i64 p.K) ∧ w.cell? ⟨g, 8, none⟩ = some (.int .i64 p.D) ∧ w.cell? ⟨g, 9, none⟩ = some (.int .i64 p.R) ∧ w.cell? ⟨g, 10, none⟩ = some (.int .i64 p.M) ∧ w.cell? ⟨g, 11, none⟩ = some (.int .i64 p.X) :=
  ⟨h.cell rfl, h.cell rfl, h.cell rfl, h.cell rfl, h.cell rfl, h.cell rfl, h.cell rfl, h.cell rfl, h.cell rfl, h.cell rfl, h.cell rfl, h.cell rfl⟩
set_option maxRecDepth 100000 in
set_option maxHeartbeats 2000000 in
theorem arows_c (p : Par) (hp : p.ok) (A : Option Addr) (l : List Ask) (c : Nat) (A2 : Option Addr) (more : List (List Int)) (c2 : Nat) (w : World) (hA : Asks w A l) (hl : AskOk l) (hA2 : GridI w A2 more) (hm : more.length ≤ 1000) (hmu : Ints more) (hml : ∀ x ∈ more, x.length ≤ 1000000) :
    Calls Tryd.prog 53 #[pval p, .slice A l.length c, .slice A2 more.length c2] w fun e w' => ∃ v, e = .returned v ∧ OwnRows w' w.heap.size 25 24 v ((rowsP p l more).map u64v) ∧ Below w.heap.size w w' := by
  have HL := hid hl
  have HA := hid hA
  have HA2 := hid hA2
  have hlf := hl.few
  have HB0 := hid (below_alloc w (.cells (pcells p).toArray 34))
  have HP0 := hid (row1_new w (pcells p) 34)
  clear hA hA2 hl
  go_enter Tryd.func53, Tryd.ntmps53
  go_wp2
  generalize w.alloc (.cells #[.int .u64 p.P, .int .u64 p.Q, .int .u64 p.G, .int .u64 p.H, .int .i64 p.Nodes, .int .i64 p.N, .int .i64 p.T, .int .i64 p.K, .int .i64 p.D, .int .i64 p.R, .int .i64 p.M, .int .i64 p.X] 34) = w1 at *
  go_loopw [7, 14] (fun o i wr => ∃ k : Nat, i = .int .i64 (k : Int) ∧ k ≤ l.length ∧ Hid (OwnRows wr w.heap.size 25 24 o ((rowsP p (l.take k) []).map u64v) ∧ Row1 wr w.heap.size 34 (pcells p) ∧ Below w.heap.size w wr)) (fun _ i _ => l.length - (intOf i).toNat)
  case atStart => exact ⟨0, rfl, by omega, hid ⟨OwnRows.nil _ _ _ _, HP0.out, HB0.out⟩⟩
  case round =>
    obtain ⟨k, rfl, hk, HI⟩ := hrel
    rename_i o wr
    by_cases hlt : k < l.length
    · obtain ⟨a, ha⟩ := get_of_lt hlt
      obtain ⟨b, off, A', c', rfl, ca, cx, hcs, hxl⟩ := (HA.out.below HI.out.2.2).at_ ha
      have hbx := below_alloc wr (.cells #[.int .i64 a.id, .slice A' a.x.length c'] 38)
      obtain ⟨p0, p1, p2, p3, p4, p5, p6, p7, p8, p9, p10, p11⟩ := par_cells (HI.out.2.1.below hbx)
      have HR := hid (frow_c p hp A' a.x c' (wr.alloc (.cells #[.int .i64 a.id, .slice A' a.x.length c'] 38)) (hcs.below hbx) (by have := HL.out.len a (List.mem_of_getElem? ha); omega) (HL.out.x a (List.mem_of_getElem? ha)))
      have HS := hid (show (rowsP p (l.take (k + 1)) []).map u64v = (rowsP p (l.take k) []).map u64v ++ [u64v (rowS p a.x)] by unfold rowsP; rw [take_snocR ha]; simp)
      have HBX := hid hbx
      have hlen : (rowsP p (l.take k) []).length = k := by unfold rowsP; simp; omega
      clear ha hcs hbx
      generalize rowS p a.x = r at *
      go_wp2_with (first
        | (go_at_call 61; refine HR.out.mono ?_; rintro e w3 ⟨v3, rfl, ho3, hb3⟩
           have hB3 := below_next HBX.out HBX.out.size hb3
           have hRows := HI.out.1.below hB3
           obtain ⟨vs, ho, hvl, hvr⟩ := hRows
           have hvs : vs.length = k := by rw [hvl, List.length_map, hlen]
           have hrt := ho3.rowT
           obtain ⟨A9, c9, rfl, _⟩ := ho3.form
           rw [List.length_map] at hrt
           have hsz3 : w.heap.size ≤ w3.heap.size := by have h1 := HI.out.2.2.size; have h2 := hB3.size; omega)
        | (at_builtin; refine wpList_push elt_rowsA w3 rfl _ _ rfl w.heap.size ho rfl _ rfl rfl (by rw [hvs]; omega) (by rw [hvs]; omega) hsz3 ?_; intro v' w5 ho5 hk5 hb5))
      have HN := hid (show OwnRows w5 w.heap.size 25 24 v' ((rowsP p (l.take (k + 1)) []).map u64v) ∧ Row1 w5 w.heap.size 34 (pcells p) ∧ Below w.heap.size w w5 from by
        have hPb := (HI.out.2.1.below hB3)
        refine ⟨by rw [HS.out]; exact OwnRows.push (by decide) hvl hvr ho hrt ho5 hk5, hPb.keep (hk5 _ hPb.lt (own_ne_row ho hPb (by decide))), (below_next HI.out.2.2 HI.out.2.2.size hB3).trans hb5⟩)
      clear ho5 hk5 hb5 HR HI hrt hvr ho ho3 hb3 hB3
      go_roundw
      case rel => exact ⟨k + 1, by go_num, by omega, HN⟩
      case measure => simp [intOf]; omega
    · obtain rfl : k = l.length := by omega
      rw [List.take_length] at HI
      have HW1 := hid HI.out
      clear HI HB0 HP0 HA
      go_wp2
      generalize wr = w2 at *
      go_loopw [7, 28] (fun o i wr => ∃ k : Nat, i = .int .i64 (k : Int) ∧ k ≤ more.length ∧ Hid (OwnRows wr w.heap.size 25 24 o ((rowsP p l (more.take k)).map u64v) ∧ Row1 wr w.heap.size 34 (pcells p) ∧ Below w.heap.size w wr)) (fun _ i _ => more.length - (intOf i).toNat)
      case atStart => exact ⟨0, rfl, by omega, hid HW1.out⟩
      case round =>
        obtain ⟨k, rfl, hk, HI⟩ := hrel
        rename_i o wr
        by_cases hlt : k < more.length
        · obtain ⟨x, hx⟩ := get_of_lt hlt
          obtain ⟨b, off, A', c', rfl, cx, hcs, hxl⟩ := (HA2.out.below HI.out.2.2).at_ hx
          obtain ⟨p0, p1, p2, p3, p4, p5, p6, p7, p8, p9, p10, p11⟩ := par_cells HI.out.2.1
          have HR := hid (frow_c p hp A' x c' wr hcs (by have := hml x (List.mem_of_getElem? hx); omega) (hmu x (List.mem_of_getElem? hx)))
          have HS := hid (show (rowsP p l (more.take (k + 1))).map u64v = (rowsP p l (more.take k)).map u64v ++ [u64v (rowS p x)] by unfold rowsP; rw [take_snocR hx]; simp)
          have hlen : (rowsP p l (more.take k)).length = l.length + k := by unfold rowsP; simp; omega
          clear hx hcs
          generalize rowS p x = r at *
          go_wp2_with (first
            | (go_at_call 61; refine HR.out.mono ?_; rintro e w3 ⟨v3, rfl, ho3, hb3⟩
               have hB3 := hb3
               have hRows := HI.out.1.below hB3
               obtain ⟨vs, ho, hvl, hvr⟩ := hRows
               have hvs : vs.length = l.length + k := by rw [hvl, List.length_map, hlen]
               have hrt := ho3.rowT
               obtain ⟨A9, c9, rfl, _⟩ := ho3.form
               rw [List.length_map] at hrt
               have hsz3 : w.heap.size ≤ w3.heap.size := by have h1 := HI.out.2.2.size; have h2 := hB3.size; omega)
            | (at_builtin; refine wpList_push elt_rowsA w3 rfl _ _ rfl w.heap.size ho rfl _ rfl rfl (by rw [hvs]; omega) (by rw [hvs]; omega) hsz3 ?_; intro v' w5 ho5 hk5 hb5))
          have HN := hid (show OwnRows w5 w.heap.size 25 24 v' ((rowsP p l (more.take (k + 1))).map u64v) ∧ Row1 w5 w.heap.size 34 (pcells p) ∧ Below w.heap.size w w5 from by
            have hPb := (HI.out.2.1.below hB3)
            refine ⟨by rw [HS.out]; exact OwnRows.push (by decide) hvl hvr ho hrt ho5 hk5, hPb.keep (hk5 _ hPb.lt (own_ne_row ho hPb (by decide))), (below_next HI.out.2.2 HI.out.2.2.size hB3).trans hb5⟩)
          clear ho5 hk5 hb5 HR HI hrt hvr ho ho3 hb3 hB3
          go_roundw
          case rel => exact ⟨k + 1, by go_num, by omega, HN⟩
          case measure => simp [intOf]; omega
        · obtain rfl : k = more.length := by omega
          rw [List.take_length] at HI
          go_wp2
          go_ret
          exact ⟨_, rfl, HI.out.1, HI.out.2.2⟩
end Go.Proofs.YtmmmdidbnjcooaaDoor
