/-
  What statements on admitted queries ask first: few ones; a prime.
-/
import Derived.Test.YtpdgalclnlbeaaaDoorAdmQ1
import Derived.Test.YtpdgalclnlbeaaaDoorAdmQ2
import Derived.Test.YtpdgalclnlbeaaaDoorAdmQ3
import Derived.Test.YtpdgalclnlbeaaaDoorAdmQ4
import Derived.Test.YtpdgalclnlbeaaaDoorAdmQ5
import Derived.Test.YtpdgalclnlbeaaaDoorAdmQ6
import Derived.Test.YtpdgalclnlbeaaaDoorAdmQ7
import Derived.Test.YtpdgalclnlbeaaaDoorAdmQ8
import Derived.Test.YtpdgalclnlbeaaaDoorAdP
namespace Go.Proofs.YtpdgalclnlbeaaaDoor
open Go Go.RowKit Go.Maps Go.Shelf Go.Proofs

attribute [local go_sem] Oper.semAt_some

set_option maxRecDepth 100000 in
set_option maxHeartbeats 1000000 in
theorem large21_c (A : Option Addr) (l : List Ask) (c : Nat) (w : World) (hA : Asks w A l) (hln : l.length ≤ 9223372036854775807) :
    Calls Tryd.prog 4 #[.slice A l.length c] w fun e w' => (∃ b, e = .returned (.bool b) ∧ (b = false → l.length ≤ 10 ∧ ∀ a ∈ l, a.x.length ≤ 40)) ∧ Below w.heap.size w w' := by
  have HA := hid hA
  clear hA
  go_enter Tryd.func4, Tryd.ntmps4
  by_cases h10 : (l.length : Int) > 10
  · go_wp2
    go_ret
    exact ⟨⟨true, rfl, fun h => by cases h⟩, Below.refl _ _⟩
  · go_wp2
    go_loopw [3] (fun i wr => ∃ k : Nat, i = .int .i64 (k : Int) ∧ k ≤ l.length ∧ Hid ((∀ a ∈ l.take k, a.x.length ≤ 40) ∧ Below w.heap.size w wr)) (fun i _ => l.length - (intOf i).toNat)
    case atStart => exact ⟨0, rfl, by omega, hid ⟨fun a h => by simp at h, Below.refl _ _⟩⟩
    case round =>
      obtain ⟨k, rfl, hk, HI⟩ := hrel
      by_cases hlt : k < l.length
      · have hlt' : (k : Int) < (l.length : Int) := by omega
        obtain ⟨a, ha⟩ := get_of_lt hlt
        obtain ⟨b, off, A', c', rfl, _, cx, _, _⟩ := (HA.out.below HI.out.2).at_ ha
        have HH := hid ha
        clear ha
        by_cases h40 : (a.x.length : Int) > 40
        · go_wp2
          go_ret
          exact ⟨⟨true, rfl, fun h => by cases h⟩, HI.out.2⟩
        · have HN := hid (show (∀ a ∈ l.take (k + 1), a.x.length ≤ 40) ∧ Below w.heap.size w wr from ⟨fun z hz => by
            rw [take_snocR HH.out] at hz
            rcases List.mem_append.1 hz with h | h
            · exact HI.out.1 z h
            · rw [List.mem_singleton.1 h]; omega, HI.out.2⟩)
          clear HI
          go_wp2
          go_roundw
          case rel => exact ⟨k + 1, by go_num, by omega, HN⟩
          case measure => simp [intOf]; omega
      · obtain rfl : k = l.length := by omega
        have HE := hid (show ∀ a ∈ l, a.x.length ≤ 40 by have := HI.out.1; rwa [List.take_length] at this)
        go_wp2
        go_ret
        exact ⟨⟨false, rfl, fun _ => ⟨by omega, HE.out⟩⟩, HI.out.2⟩
abbrev someP : List Int := [2, 3, 11, 101, 65537, 2305843009213693951]
def prPar (p : Par) : Par := if primeV p.Q = true then p else { p with Q := someP.getD (p.Q % 6).toNat 0 }
theorem someP_ok : ∀ q ∈ someP, primeV q = true := by
  have h : (someP.all fun q => primeV q) = true := by decide +kernel
  intro q hq
  exact List.all_eq_true.1 h q hq
theorem someP_at {n : Int} (_h0 : 0 ≤ n) : someP.getD (n % 6).toNat 0 ∈ someP := by
  have hl : (n % 6).toNat < someP.length := by simp; omega
  rw [List.getD_eq_getElem?_getD, List.getElem?_eq_getElem hl]
  exact List.getElem_mem hl
theorem cellP {w : World} {g : Nat} {e : TypeId} (h : Row1 w g e (someP.map (.int .u64))) {n : Int} (_h0 : 0 ≤ n) : w.cell? ⟨g, (n % 6).toNat, none⟩ = some (.int .u64 (someP.getD (n % 6).toNat 0)) := by
  have hl : (n % 6).toNat < someP.length := by simp; omega
  refine h.cell ?_
  rw [List.getElem?_map, List.getD_eq_getElem?_getD, List.getElem?_eq_getElem hl]; rfl
theorem prPar_ok {p : Par} (hp : p.ok) : (prPar p).ok ∧ primeV (prPar p).Q = true ∧ (prPar p).R = p.R := by
  unfold prPar
  split
  · rename_i h
    exact ⟨hp, h, rfl⟩
  · have h1 := someP_ok _ (someP_at hp.Q.lo)
    obtain ⟨h2, h3⟩ := okm_prime h1
    refine ⟨⟨hp.P, ⟨by show 0 ≤ someP.getD _ 0; omega, by have := okm_le h2; show someP.getD _ 0 < _; omega⟩, hp.G, hp.H, hp.Nodes, hp.N, hp.T, hp.K, hp.D, hp.R, hp.M, hp.X⟩, h1, rfl⟩
end Go.Proofs.YtpdgalclnlbeaaaDoor
