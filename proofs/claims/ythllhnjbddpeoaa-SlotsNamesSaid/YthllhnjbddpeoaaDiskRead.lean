/-
  PROVED HERE: DiskRead: what was written last to a sector is read there, with 00s behind it; other sectors stay, and the platter: for every steps, every write, every other sector.
-/
import Derived.Test.YthllhnjbddpeoaaDkO
import Derived.ChangeAlike
import Derived.Handed
namespace Go.Proofs.Ythllhnjbddpeoaa
open Go.ChangeShapes Go.WideShapes Go.ChangeAt Go.RowKit Go.Maps Go.Shelf Go.Proofs

theorem zeros_i (z : Int) (w : World) (h0 : 0 ≤ z) (hn : z ≤ 1000000) :
    Calls Try.prog 21 #[.int .i64 z] w fun e w' => e = .returned (.string (zs z.toNat)) ∧ Below w.heap.size w w' := by
  obtain ⟨n, rfl⟩ : ∃ n : Nat, z = n := ⟨z.toNat, by omega⟩
  exact zeros_c n w (by omega)
theorem write_plat (d : Dk) (a : Int) (s : ByteArray) (x : Int) : (d.write a s).plat x = d.plat x := by
  have h := d.burn_PC.1
  unfold Dk.write
  split
  · rfl
  · split
    · split
      · rfl
      · split
        · simp only [Dk.plat, h]
        · simp only [Dk.plat, h]
    · rfl
theorem writeE_ok {d : Dk} {a : Int} {s : ByteArray} (h : d.writeE a s = 0) : d.de = false ∧ isS a = true ∧ s.size ≤ 512 ∧ d.burnB = true := by
  unfold Dk.writeE at h
  cases hd : d.de with
  | true => rw [hd] at h; simp at h
  | false =>
    rw [hd] at h
    simp only [Bool.false_eq_true, if_false] at h
    split at h
    · rename_i hi
      split at h
      · omega
      · split at h
        · rename_i hb
          exact ⟨rfl, hi, by omega, hb⟩
        · omega
    · omega
theorem burn_de {d : Dk} (h : d.burnB = true) : d.burn.de = d.de := by
  unfold Dk.burn Dk.burnB at *
  split
  · rename_i hf
    rw [hf] at h
    simp only [Bool.true_and, Bool.not_eq_true', beq_eq_false_iff_ne] at h
    rw [if_neg h]
  · rfl
theorem write_done {d : Dk} {a : Int} {s : ByteArray} (h : d.writeE a s = 0) : d.write a s = { d.burn with C := d.C ++ [⟨a, pad s⟩] } ∧ d.burn.P = d.P ∧ d.burn.de = false := by
  obtain ⟨h1, h2, h3, h4⟩ := writeE_ok h
  refine ⟨?_, d.burn_PC.1, by rw [burn_de h4]; exact h1⟩
  unfold Dk.write
  rw [h1, h2, h4]
  simp only [Bool.false_eq_true, if_false, if_true]
  rw [if_neg (by omega)]
theorem lastC_snoc (C : List Pt) (p : Pt) (x : Int) : lastC (C ++ [p]) x = if p.1 = x then some p else lastC C x := by
  unfold lastC
  rw [List.reverse_append]
  simp only [List.reverse_cons, List.reverse_nil, List.nil_append, List.singleton_append]
  by_cases h : p.1 = x
  · rw [if_pos h, List.find?_cons_of_pos (by simpa using h)]
  · rw [if_neg h, List.find?_cons_of_neg (by simpa using h)]
theorem read_write {d : Dk} {a : Int} {s : ByteArray} (h : d.writeE a s = 0) (x : Int) : (d.write a s).read x = if a = x then pad s else d.read x := by
  obtain ⟨h1, h2, h3⟩ := write_done h
  obtain ⟨h4, _⟩ := writeE_ok h
  rw [h1]
  simp only [Dk.read, h3, h4, Bool.false_eq_true, if_false, lastC_snoc]
  by_cases hx : a = x
  · rw [if_pos hx, if_pos hx]
  · rw [if_neg hx, if_neg hx]
    simp only [Dk.plat, h2]

set_option maxRecDepth 100000 in
set_option maxHeartbeats 2000000 in
theorem diskRead_c (A : Option Addr) (l : List St) (c : Nat) (a : Int) (s : ByteArray) (o : Int) (w : World) (hA : CellsS w A l) (hl : l.length ≤ 9223372036854775807) (ho : ∀ u ∈ l, u.Ok w) (ha : I64 a) (hs : s.size ≤ 9223372036854775807) (hoo : I64 o) [DecidableEq Lit] :
    Calls Try.prog 3 #[.slice A l.length c, .int .i64 a, .string s, .int .i64 o] w fun e w' => e = .returned (.bool true) ∧ Below w.heap.size w w' := by
  have HO := hid ho
  have HA := hid hA
  clear ho hA
  go_enter Try.func3, Try.ntmps3
  go_wp2_with (fail)
  refine (works_c w).mono ?_
  rintro e w1 ⟨rfl, hb⟩
  go_wp2_with (fail)
  refine (long_c A l c w1 (HA.out.below hb) hl fun u hu => ⟨(HO.out u hu).s, (HO.out u hu).kl⟩).mono ?_
  rintro e w2 ⟨⟨b, rfl, hfew⟩, hd⟩
  replace hb := below_dr hb hd
  cases b with
  | true =>
    clear hfew hd
    go_wp2_with (fail)
    refine (works_c w2).mono ?_
    rintro e w3 ⟨rfl, hb3⟩
    go_wp2
    go_ret
    exact ⟨rfl, below_next hb hb.size hb3⟩
  | false =>
    have hfl := hfew rfl
    clear hfew hd
    by_cases h6 : 600 < s.size
    · go_wp2_with (fail)
      refine (works_c w2).mono ?_
      rintro e w3 ⟨rfl, hb3⟩
      go_wp2
      go_ret
      exact ⟨rfl, below_next hb hb.size hb3⟩
    · have hz : ((0 : Int) != 0) = false := rfl
      go_wp2_with (fail)
      refine (after_c A l c w2 (HA.out.below hb) hfl fun u hu => Ok.below (HO.out u hu) hb).mono ?_
      rintro e w3 ⟨g, gm, v, rfl, hD, hB⟩
      have hok := runs_ok (w := w) l HO.out
      generalize runs l = d at *
      have HB := hid (⟨hB.g, hB.gm⟩ : w2.heap.size ≤ g ∧ w2.heap.size ≤ gm)
      go_wp2_with (fail)
      refine (read_c g gm v d o _ hD hoo (by have := hok.len; omega)).mono ?_
      rintro e w4 ⟨rfl, hb4⟩
      replace hD := hD.below hb4
      replace hB := hB.below hb4
      clear hb4
      go_wp2_with (fail)
      refine (platter_c g gm v d a _ hD ha).mono ?_
      rintro e w5 ⟨rfl, hb5⟩
      replace hD := hD.below hb5
      replace hB := hB.below hb5
      clear hb5
      go_wp2_with (fail)
      refine (write_c g gm v d l.length a s _ hD hok (by omega) ha hs).mono ?_
      rintro e w6 ⟨v', rfl, hD, hTh, hT⟩
      replace hB := hB.step hTh hT
      clear hTh hT
      have hok2 := hok.write a s
      have hlen2 : (d.write a s).C.length ≤ 1000000 := by have := hok2.len; omega
      by_cases hE : d.writeE a s = 0
      · rw [hE]
        have HR := hid (read_write hE)
        have hs5 := (writeE_ok hE).2.2.1
        have HW := hid (write_plat d a s a)
        clear hE
        generalize d.write a s = d2 at *
        go_wp2_with (fail)
        refine (read_c g gm v' d2 a _ hD ha hlen2).mono ?_
        rintro e w7 ⟨rfl, hb7⟩
        rw [show d2.read a = s ++ zs (512 - s.size) by rw [HR.out, if_pos rfl]; rfl]
        replace hD := hD.below hb7
        replace hB := hB.below hb7
        clear hb7
        go_wp2_with (fail)
        refine (zeros_i (512 - (s.size : Int)) _ (by omega) (by omega)).mono ?_
        rintro e w8 ⟨rfl, hb8⟩
        rw [show (512 - (s.size : Int)).toNat = 512 - s.size by omega]
        replace hD := hD.below hb8
        replace hB := hB.below hb8
        have hzs := zs_size (512 - s.size)
        clear hb8
        by_cases hao : a = o
        · subst hao
          go_wp2_with (fail)
          refine (platter_c g gm v' d2 a _ hD ha).mono ?_
          rintro e w9 ⟨rfl, hb9⟩
          rw [HW.out]
          replace hB := hB.below hb9
          clear hb9
          go_wp2
          go_ret
          exact ⟨ret_bool (by simp), below_next hb hb.size hB.b⟩
        · have q1 : (o == a) = false := by simpa using fun h => hao h.symm
          go_wp2_with (fail)
          refine (read_c g gm v' d2 o _ hD hoo hlen2).mono ?_
          rintro e w9 ⟨rfl, hb9⟩
          rw [show d2.read o = d.read o by rw [HR.out, if_neg hao]]
          replace hD := hD.below hb9
          replace hB := hB.below hb9
          clear hb9
          go_wp2_with (fail)
          refine (platter_c g gm v' d2 a _ hD ha).mono ?_
          rintro e w10 ⟨rfl, hb10⟩
          rw [HW.out]
          replace hB := hB.below hb10
          clear hb10
          go_wp2
          go_ret
          exact ⟨ret_bool (by simp), below_next hb hb.size hB.b⟩
      · have hE2 : (d.writeE a s != 0) = true := by simpa using hE
        have HW := hid (write_plat d a s a)
        clear hE
        generalize d.writeE a s = ee at *
        generalize d.write a s = d2 at *
        go_wp2_with (fail)
        refine (platter_c g gm v' d2 a _ hD ha).mono ?_
        rintro e w7 ⟨rfl, hb7⟩
        rw [HW.out]
        replace hB := hB.below hb7
        clear hb7
        go_wp2
        go_ret
        exact ⟨ret_bool (by simp), below_next hb hb.size hB.b⟩
set_option maxRecDepth 100000 in
theorem diskRead_lifted (os : Os) (started : os.Started) (H : Type) (enc : TypeId × Value → H) :
    ReturnsInHanded {} Try.checked os 3 .any (Rows.diskReadSpec.pre6 enc Try.prog Try.f3 Rows.diskReadRow.domain false) (Rows.diskReadSpec.post enc Try.prog Try.f3 false true false false) := by
  haveI : DecidableEq Lit := fun a b => Classical.propDecidable (a = b)
  refine returnsInHanded_of_change_sized (C := Try.checked) Try.own started (by kernel_rfl) Try.func3
    (ChangeSpec.witness6 (enc := enc) (C := Try.checked) false ⟨#[], #[.slice none 0 0, .int .i64 0, .string ⟨#[]⟩, .int .i64 0], []⟩ 8 (by kernel_rfl) (by kernel_rfl) (by kernel_rfl) (by kernel_rfl)) ?_
  intro W base args ds gs before hval0 hW hcnd hsz0 _
  have hval : ∀ (j : Nat) t v, Try.f3.params[j]? = some t → args[j]? = some v → Value.okWide Try.prog W .any base t v := hval0
  have hW' := hW
  obtain ⟨p, q, hA0, hV, rfl, hfz, hnd⟩ := hW
  have hA : DataW.TrodAll enc Try.prog W 0 (fun _ => true) true Try.f3.params.toList args.toList ds p := hA0
  rw [Try.params3] at hA hval
  obtain ⟨v0, v1, v2, v3, d0, d1, d2, d3, p0, p1, p2, p3, rfl, rfl, rfl, h0, h1, h2, h3⟩ := trodAll_four hA
  obtain ⟨rfl, rfl⟩ := trodVars_none hV
  have hsz : ∀ n ∈ DataW.weightsEach Try.prog [22, 3, 9, 3] [d0, d1, d2, d3], n ≤ reachBytes := fun n hn => by
    have := List.all_eq_true.1 hsz0 n (by rw [Try.params3]; exact hn)
    simpa using this
  obtain ⟨_, k0⟩ := one_ofV Try.underlying22 (hval 0 22 v0 rfl rfl) h0
  obtain ⟨A0, x0, c0, rfl, a0, b0, e0⟩ := steps_at k0 (fun n hn => hsz n (DataW.weights_mem_each (j := 0) rfl rfl n hn))
  obtain ⟨x1, rfl, _, _, w1⟩ := open_int Try.underlying3 (hval 1 3 v1 rfl rfl) h1
  obtain ⟨x2, rfl, _, _, w2⟩ := Go.ChangeMaps.open_string Try.underlying9 (hval 2 9 v2 rfl rfl) h2
  obtain ⟨x3, rfl, _, _, w3⟩ := open_int Try.underlying3 (hval 3 3 v3 rfl rfl) h3
  clear hA0 hval0
  refine (diskRead_c A0 x0 c0 x1 x2 x3 W a0 b0 e0 (i64_of w1) (by unfold maxLen at w2; omega) (i64_of w3)).mono fun e W' ⟨he, hb⟩ => ?_
  subst he
  exact ⟨_, rfl, post_true hW' hb Try.laidOut (by kernel_rfl) rfl rfl rfl rfl rfl Try.underlying4⟩

theorem diskRead_holds : Rows.DiskReadSaid :=
  OpenClaim.holds_of_wide 3 Try.f3 rfl rfl rfl rfl rfl rfl rfl ⟨rfl, rfl, rfl, rfl, rfl⟩ rfl rfl rfl rfl rfl (by kernel_rfl) Try.func3 (by kernel_rfl)
    (of_decide_eq_true (by kernel_rfl)) (by unfold Func.isWrapper; first | (rw [if_pos (by decide +kernel)]; kernel_rfl) | (rw [if_neg (by decide +kernel)]; exact ⟨rfl, rfl⟩))
    (fun os started H enc _ => diskRead_lifted os started H enc)
#print axioms diskRead_holds
end Go.Proofs.Ythllhnjbddpeoaa
