/-
  Three and more primes: the odd part of p - 1 divides n - 1.
-/
import Derived.Test.YtpdgalclnlbeaaaDoorPsA
namespace Go.Psi

/-- the odd primes up to 131, in groups. -/
def lG : List (Nat × List Nat) := [(3, [3]), (5, [5]), (7, [7]), (143, [11, 13]), (7429, [17, 19, 23]), (33263, [29, 31, 37]), (82861, [41, 43, 47]), (12780049, [53, 59, 61, 67]), (33984931, [71, 73, 79, 83]), (871933, [89, 97, 101]), (135745657, [103, 107, 109, 113]), (16637, [127, 131])]
/-- some base is no l-th power. -/
noncomputable def noRoot (p l : Nat) : Bool := Bool.rec true (tst (Nat.div (Nat.sub p 1) l) p false more) (Nat.beq (pw2 (Nat.div (Nat.sub p 1) l) p) 1)
noncomputable def ordL (p o : Nat) (l : List Nat) : Bool := List.rec true (fun x _ ih => and2 (ite2 (Nat.beq (Nat.mod o x) 0) (noRoot p x) true) ih) l
noncomputable def ordG (p o : Nat) (l : List (Nat × List Nat)) : Bool := List.rec true (fun x _ ih => and2 (ite2 (Nat.beq (Nat.gcd o x.1) 1) true (ordL p o x.2)) ih) l
/-- o holds no odd prime l, up to 131, of which all bases are l-th powers. -/
def allW : Nat := 262948239526313870385685898536205956450305483726315
noncomputable def ordOk (p o : Nat) : Bool := Bool.rec (ordG p o lG) true (Nat.beq (Nat.gcd o allW) 1)
theorem noRoot_spec {p l : Nat} (h1 : 1 < p) (h : noRoot p l = true) : ∃ a ∈ p12, ¬ Cg p ((a : Int) ^ ((p - 1) / l)) 1 := by
  replace h : (Bool.rec true (tst ((p - 1) / l) p false more) (Nat.beq (pw2 ((p - 1) / l) p) 1) : Bool) = true := h
  rcases beq_cases (pw2 ((p - 1) / l) p) 1 with ⟨e, _⟩ | ⟨_, hne⟩
  · rw [e] at h
    rcases tst_spec _ _ _ _ h with ⟨a, ha, hn⟩ | h
    · exact ⟨a, more_p12 a ha, fun hc => hn (pwa_one h1 hc)⟩
    · cases h
  · exact ⟨2, by decide, fun hc => hne (pw2_one h1 hc)⟩
theorem ordL_spec {p o : Nat} : ∀ l : List Nat, ordL p o l = true → ∀ x ∈ l, x ∣ o → noRoot p x = true
  | y :: l, h, x, hx, hd => by
    obtain ⟨h1, h2⟩ := and2_iff.1 h
    rcases List.mem_cons.1 hx with rfl | hx
    · exact (ite2_iff.1 h1).1 (beq_of (Nat.mod_eq_zero_of_dvd hd))
    · exact ordL_spec l h2 x hx hd
theorem ordG_spec {p o : Nat} : ∀ l : List (Nat × List Nat), ordG p o l = true → ∀ y ∈ l, ∀ x ∈ y.2, x ∣ y.1 → 1 < x → x ∣ o → noRoot p x = true
  | z :: l, h, y, hy, x, hx, hd, h1x, hp => by
    obtain ⟨h1, h2⟩ := and2_iff.1 h
    rcases List.mem_cons.1 hy with rfl | hy
    · rcases beq_cases (Nat.gcd o y.1) 1 with ⟨_, e⟩ | ⟨e, _⟩
      · exfalso
        have := Nat.dvd_gcd hp hd
        rw [e] at this
        have := Nat.le_of_dvd (by omega) this
        omega
      · exact ordL_spec _ ((ite2_iff.1 h1).2 e) x hx hp
    · exact ordG_spec l h2 y hy x hx hd h1x hp
def lGOk : Bool := (List.range 132).all fun l => decide (l < 3) || (decide (l % 2 = 0) || (((List.range l).any fun d => decide (1 < d) && decide (l % d = 0)) || (decide (allW % l = 0) && (lG.any fun y => decide (l ∈ y.2) && decide (y.1 % l = 0)))))
theorem lG_ok : lGOk = true := by decide +kernel
theorem ordOk_spec {p o l : Nat} (h1 : 1 < p) (h : ordOk p o = true) (hl : Pr l) (ho : l % 2 = 1) (h131 : l ≤ 131) (hd : l ∣ o) : ∃ a ∈ p12, ¬ Cg p ((a : Int) ^ ((p - 1) / l)) 1 := by
  have k := List.all_eq_true.1 lG_ok l (List.mem_range.2 (by omega))
  simp only [Bool.or_eq_true, decide_eq_true_eq, List.any_eq_true, List.mem_range, Bool.and_eq_true] at k
  have h2 := hl.1
  rcases k with k | k | ⟨d, k1, k2, k3⟩ | ⟨kw, y, hy, k1, k2⟩
  · omega
  · omega
  · rcases hl.2 d (Nat.dvd_of_mod_eq_zero k3) with e | e <;> omega
  · unfold ordOk at h
    rcases beq_cases (Nat.gcd o allW) 1 with ⟨_, e⟩ | ⟨e, _⟩
    · exfalso
      have := Nat.dvd_gcd hd (Nat.dvd_of_mod_eq_zero kw)
      rw [e] at this
      have := Nat.le_of_dvd (by omega) this
      omega
    · rw [e] at h
      exact noRoot_spec h1 (ordG_spec lG h y hy l k1 (Nat.dvd_of_mod_eq_zero k2) (by omega) hd)
noncomputable def mulB (c x : Nat) : Bool := Nat.ble c (Nat.mul (lo x) x)
theorem mulB_le {c x : Nat} (h : mulB c x = true) : c ≤ lo x * x := Nat.le_of_ble_eq_true h
theorem lo_132b : mulB 240200000 132 = true := by decide +kernel
theorem lo_132 : 240200000 ≤ lo 132 * 132 := mulB_le lo_132b
/-- the index of what passes is small. -/
theorem index_le {n p : Nat} (hn : Pass n) (hp : Pr p) (hd : p ∣ n) (hP : p ≤ 240200000) : (p - 1) / Nat.gcd (n - 1) (p - 1) ≤ 131 := by
  have hb := pass_big hn hp hd
  have ho := hp.odd (by omega)
  have hr := roots_of hn hp hd hb
  have hb3 := hn.big
  have hodd := hn.odd
  have hg1 : Nat.gcd (n - 1) (p - 1) ∣ p - 1 := Nat.gcd_dvd_right _ _
  have hge : 2 ∣ Nat.gcd (n - 1) (p - 1) := Nat.dvd_gcd (by omega) (by omega)
  have hpos : 0 < Nat.gcd (n - 1) (p - 1) := Nat.gcd_pos_of_pos_right _ (by omega)
  generalize Nat.gcd (n - 1) (p - 1) = g at *
  obtain ⟨v, hv⟩ := hg1
  have ev : (p - 1) / g = v := by rw [hv, Nat.mul_div_cancel_left _ hpos]
  rw [ev]
  rcases Nat.lt_or_ge 131 v with h | h
  · exfalso
    rcases Nat.lt_or_ge 100 p with h100 | h100
    · have h1 := lo_le hp ho hpos (by omega) hr (v := v) (by omega) h100
      have h2 := lo_mono (show 132 ≤ v from h)
      have h3 : lo 132 * 132 ≤ g * v := Nat.mul_le_mul (Nat.le_trans h2 h1) h
      have := lo_132
      omega
    · have : v ≤ g * v := Nat.le_mul_of_pos_left v hpos
      omega
  · exact h
/-- an odd divisor of p - 1 divides n - 1. -/
theorem odd_dvd {n p o : Nat} (hn : Pass n) (hp : Pr p) (hd : p ∣ n) (hP : p ≤ 240200000) (hok : ordOk p o = true) (ho : o % 2 = 1) (hop : o ∣ p - 1) : o ∣ n - 1 := by
  have hb := pass_big hn hp hd
  have hr := roots_of hn hp hd hb
  have hi := index_le hn hp hd hP
  have hb3 := hn.big
  have hg1 : Nat.gcd (n - 1) (p - 1) ∣ p - 1 := Nat.gcd_dvd_right _ _
  have hg2 : Nat.gcd (n - 1) (p - 1) ∣ n - 1 := Nat.gcd_dvd_left _ _
  have hpos : 0 < Nat.gcd (n - 1) (p - 1) := Nat.gcd_pos_of_pos_right _ (by omega)
  generalize Nat.gcd (n - 1) (p - 1) = g at *
  obtain ⟨v, hv⟩ := hg1
  have ev : (p - 1) / g = v := by rw [hv, Nat.mul_div_cancel_left _ hpos]
  rw [ev] at hi
  have hco : Nat.Coprime o v := by
    rcases Nat.lt_or_ge (Nat.gcd o v) 2 with h | h
    · have h0 : 0 < Nat.gcd o v := Nat.gcd_pos_of_pos_left _ (by omega)
      show Nat.gcd o v = 1
      omega
    · exfalso
      obtain ⟨l, hl, hld, _⟩ := exists_least h
      have l1 : l ∣ o := Nat.dvd_trans hld (Nat.gcd_dvd_left _ _)
      have l2 : l ∣ v := Nat.dvd_trans hld (Nat.gcd_dvd_right _ _)
      have hv0 : 0 < v := Nat.pos_of_ne_zero fun e => by rw [e, Nat.mul_zero] at hv; omega
      have hl131 : l ≤ 131 := Nat.le_trans (Nat.le_of_dvd hv0 l2) hi
      have hlo : l % 2 = 1 := by
        rcases Nat.mod_two_eq_zero_or_one l with e | e
        · have := Nat.dvd_trans (Nat.dvd_of_mod_eq_zero e) l1
          omega
        · exact e
      obtain ⟨a, ha, hne⟩ := ordOk_spec (by omega) hok hl hlo hl131 l1
      refine hne (cg_pow_dvd (hr a ha) ?_)
      obtain ⟨w, hw⟩ := l2
      have : p - 1 = l * (g * w) := by rw [hv, hw, Nat.mul_left_comm]
      rw [this, Nat.mul_div_cancel_left _ hl.pos]
      exact Nat.dvd_mul_right _ _
  refine Nat.dvd_trans (hco.dvd_of_dvd_mul_right ?_) hg2
  rw [← hv]; exact hop
end Go.Psi

/-! Three and more primes: what p1 and p2 leave of n. -/
namespace Go.Psi

theorem dvd_of_cg {m : Nat} {x y : Nat} (h : Cg m (x : Int) (y : Int)) (hlt : y < m) (_hx : y ≤ x) : ∃ k, x = y + m * k := by
  have h1 := cg_iff.1 h
  rw [Nat.mod_eq_of_lt hlt] at h1
  exact ⟨x / m, by have := Nat.div_add_mod x m; omega⟩
theorem cg_ge {m : Nat} {x y : Nat} (h : Cg m (x : Int) (y : Int)) (hlt : y < m) : ∃ k, x = y + m * k := by
  have h1 := cg_iff.1 h
  rw [Nat.mod_eq_of_lt hlt] at h1
  exact ⟨x / m, by have := Nat.div_add_mod x m; omega⟩
/-- n is one of a row of numbers. -/
theorem pair_row {n p1 p2 c o1 o2 E o' t0 t1 : Nat} (hp1 : Pr p1) (hn : n = p1 * p2 * c) (hn0 : 0 < n) (h1 : o1 ∣ n - 1) (h2 : o2 ∣ n - 1) (e1 : o1 ∣ p1 - 1) (e2 : p2 - 1 = E * o2) (hp2 : 1 < p2) (hodd : o1 % 2 = 1) (hco : Nat.Coprime (o1 / Nat.gcd o1 o2) p2)
    (ho' : o' = o1 / Nat.gcd o1 o2) (k1 : (1 + o2 * t0) % p1 = 0) (k2 : (E + p2 * t1) % o' = 0) (l0 : t0 < p1) (l1 : t1 < o') :
    ∃ k, n = p2 * (1 + o2 * (t0 + p1 * ((t1 + (o' - t0 % o')) % o'))) + k * (p2 * (o2 * (p1 * o'))) := by
  have hc0 : 0 < p1 * c := Nat.pos_of_ne_zero fun e => by
    have : n = p2 * (p1 * c) := by rw [hn, Nat.mul_comm p1 p2, Nat.mul_assoc]
    rw [e, Nat.mul_zero] at this; omega
  have en : n = p2 * (p1 * c) := by rw [hn, Nat.mul_comm p1 p2, Nat.mul_assoc]
  have ep2 : p2 = 1 + E * o2 := by omega
  -- o2 divides p1 c - 1
  have d2 : o2 ∣ p1 * c - 1 := by
    have e3 : n - 1 = (p1 * c - 1) + o2 * (E * (p1 * c)) := by
      have : n = p1 * c + o2 * (E * (p1 * c)) := by
        rw [en]
        conv => lhs; rw [ep2]
        rw [Nat.add_mul, Nat.one_mul, Nat.mul_comm E o2, Nat.mul_assoc]
      omega
    rw [e3] at h2
    exact (Nat.dvd_add_left (Nat.dvd_mul_right _ _)).1 h2
  obtain ⟨t, ht⟩ := d2
  have hpc : p1 * c = 1 + o2 * t := by omega
  have hn1 : n - 1 = o2 * (E + p2 * t) := by
    rw [en, hpc, Nat.mul_add, Nat.mul_one, Nat.mul_add]
    have : p2 * (o2 * t) = o2 * (p2 * t) := Nat.mul_left_comm _ _ _
    rw [this, Nat.mul_comm o2 E]
    omega
  have ho1 : 0 < o1 := by omega
  have hg : 0 < Nat.gcd o1 o2 := Nat.gcd_pos_of_pos_left _ ho1
  have hoe : o1 = Nat.gcd o1 o2 * o' := by rw [ho']; exact (Nat.mul_div_cancel' (Nat.gcd_dvd_left _ _)).symm
  have ho0 : 0 < o' := by omega
  have d1 : o' ∣ E + p2 * t := by
    rw [hn1] at h1
    have h3 : Nat.gcd o1 o2 * o' ∣ Nat.gcd o1 o2 * (o2 / Nat.gcd o1 o2 * (E + p2 * t)) := by
      rw [← Nat.mul_assoc, Nat.mul_div_cancel' (Nat.gcd_dvd_right _ _), ← hoe]; exact h1
    have h4 := Nat.dvd_of_mul_dvd_mul_left hg h3
    have h5 : Nat.Coprime o' (o2 / Nat.gcd o1 o2) := by rw [ho']; exact Nat.coprime_div_gcd_div_gcd hg
    exact h5.dvd_of_dvd_mul_left h4
  -- p1 and o'
  have c1 : Cg p1 (t : Int) (t0 : Int) := by
    have a1 : p1 ∣ 1 + o2 * t := ⟨c, hpc.symm⟩
    have a2 : p1 ∣ 1 + o2 * t0 := Nat.dvd_of_mod_eq_zero k1
    have hno : ¬ p1 ∣ o2 := fun h => by
      have : p1 ∣ 1 := (Nat.dvd_add_left (Nat.dvd_trans h (Nat.dvd_mul_right _ _))).1 a1
      have := Nat.le_of_dvd (by omega) this
      have := hp1.1
      omega
    refine Cg.cancel (hp1.coprime hno) ?_
    obtain ⟨x, hx⟩ := a1
    obtain ⟨y, hy⟩ := a2
    refine ⟨(x : Int) - y, ?_⟩
    have hx' : ((1 + o2 * t : Nat) : Int) = ((p1 * x : Nat) : Int) := by rw [hx]
    have hy' : ((1 + o2 * t0 : Nat) : Int) = ((p1 * y : Nat) : Int) := by rw [hy]
    rw [Int.natCast_add, Int.natCast_mul, Int.natCast_mul] at hx' hy'
    rw [Int.mul_sub]; omega
  rw [← ho'] at hco
  have c2 : Cg o' (t : Int) (t1 : Int) := by
    refine Cg.cancel hco ?_
    obtain ⟨x, hx⟩ := d1
    obtain ⟨y, hy⟩ := Nat.dvd_of_mod_eq_zero k2
    refine ⟨(x : Int) - y, ?_⟩
    have hx' : ((E + p2 * t : Nat) : Int) = ((o' * x : Nat) : Int) := by rw [hx]
    have hy' : ((E + p2 * t1 : Nat) : Int) = ((o' * y : Nat) : Int) := by rw [hy]
    rw [Int.natCast_add, Int.natCast_mul, Int.natCast_mul] at hx' hy'
    rw [Int.mul_sub]; omega
  obtain ⟨m, hm⟩ := cg_ge c1 l0
  -- m modulo o'
  have hp1' : Cg o' (p1 : Int) ((1 : Nat) : Int) := by
    have hd : o' ∣ p1 - 1 := Nat.dvd_trans ⟨Nat.gcd o1 o2, by rw [Nat.mul_comm]; exact hoe⟩ e1
    obtain ⟨x, hx⟩ := hd
    refine ⟨x, ?_⟩
    have h9 := hp1.1
    have : ((p1 : Nat) : Int) = ((1 + o' * x : Nat) : Int) := by rw [← hx]; omega
    rw [this, Int.natCast_add, Int.natCast_mul]; omega
  have c3 : Cg o' (m : Int) (((t1 + (o' - t0 % o')) % o' : Nat) : Int) := by
    refine Cg.trans ?_ (cg_mod o' _).symm
    have h3 : Cg o' ((t0 + m : Nat) : Int) (t1 : Int) := by
      refine Cg.trans ?_ c2
      rw [hm, Int.natCast_add, Int.natCast_add, Int.natCast_mul]
      refine (Cg.refl _ _).add ?_
      have := (hp1'.symm.mul (Cg.refl o' (m : Int)))
      rw [Int.natCast_one, Int.one_mul] at this
      exact this
    have h4 : Cg o' (((o' - t0 % o') : Nat) : Int) (-(t0 : Int)) := by
      have h5 := Nat.mod_lt t0 ho0
      obtain ⟨x, hx⟩ := cg_mod o' t0
      refine ⟨1 + (-x), ?_⟩
      rw [Int.natCast_sub (by omega), Int.mul_add, Int.mul_neg, ← hx]
      omega
    have h6 := h3.symm.add h4
    rw [Int.natCast_add] at h6 ⊢
    have e5 : ((t0 : Nat) : Int) + (m : Int) + -(t0 : Int) = m := by omega
    rw [e5] at h6
    exact h6.symm
  obtain ⟨k, hk⟩ := cg_ge c3 (Nat.mod_lt _ ho0)
  refine ⟨k, ?_⟩
  generalize (t1 + (o' - t0 % o')) % o' = s at *
  rw [en, hpc, hm, hk]
  have e6 : p1 * (s + o' * k) = p1 * s + p1 * (o' * k) := Nat.mul_add _ _ _
  have e7 : o2 * (t0 + p1 * (s + o' * k)) = o2 * (t0 + p1 * s) + o2 * (p1 * (o' * k)) := by rw [e6, ← Nat.add_assoc, Nat.mul_add]
  rw [e7, ← Nat.add_assoc, Nat.mul_add]
  congr 1
  simp only [Nat.mul_left_comm, Nat.mul_comm]
end Go.Psi

/-! Three and more primes: the class of what divides n. -/
namespace Go.Psi

def qrMulOk : Bool := odds.all fun r => (List.range r).all fun x => (List.range r).all fun y => decide (x = 0) || (decide (y = 0) || (qr r (x * y) == (qr r x == qr r y)))
theorem qrMul_ok : qrMulOk = true := by decide +kernel
theorem qr_mul {r x y : Nat} (hr : r ∈ odds) (hx : x % r ≠ 0) (hy : y % r ≠ 0) : qr r (x * y) = (qr r x == qr r y) := by
  have hpos : 0 < r := by have := (odds_small r hr).1; omega
  have h := List.all_eq_true.1 (List.all_eq_true.1 (List.all_eq_true.1 qrMul_ok r hr) (x % r) (List.mem_range.2 (Nat.mod_lt _ hpos))) (y % r) (List.mem_range.2 (Nat.mod_lt _ hpos))
  rw [decide_eq_false hx, decide_eq_false hy, Bool.false_or, Bool.false_or] at h
  have h2 := beq_iff_eq.1 h
  rw [qr_mod (Nat.mod_mod x r), qr_mod (Nat.mod_mod y r)] at h2
  rw [← h2]
  exact qr_mod (by rw [← Nat.mul_mod])
def qrOneOk : Bool := odds.all fun r => qr r 1
theorem qrOne_ok : qrOneOk = true := by decide +kernel
theorem qr_one {r : Nat} (hr : r ∈ odds) : qr r 1 = true := List.all_eq_true.1 qrOne_ok r hr
theorem odds_le : ∀ r ∈ odds, r ≤ 37 := by decide
/-- as 1, or as p. -/
def One (c : Nat) : Prop := c % 8 = 1 ∧ ∀ r ∈ odds, c % r ≠ 0 ∧ qr r c = true
def Like (p c : Nat) : Prop := c % 8 = p % 8 ∧ ∀ r ∈ odds, c % r ≠ 0 ∧ qr r c = qr r p
theorem one_one : One 1 := ⟨rfl, fun r hr => ⟨by have := (odds_small r hr).1; rw [Nat.mod_eq_of_lt this]; omega, qr_one hr⟩⟩
theorem pr_odds : ∀ r ∈ odds, Pr r := by
  intro r hr
  have : ∀ r ∈ odds, r ∈ ls := by decide
  exact ls_pr r (this r hr)
theorem mul_mod_ne {r x y : Nat} (hr : r ∈ odds) (hx : x % r ≠ 0) (hy : y % r ≠ 0) : x * y % r ≠ 0 := fun h => by
  rcases (pr_odds r hr).dvd_mul (Nat.dvd_of_mod_eq_zero h) with k | k
  · exact hx (Nat.mod_eq_zero_of_dvd k)
  · exact hy (Nat.mod_eq_zero_of_dvd k)
theorem One.mul {x y : Nat} (h : One x) (k : One y) : One (x * y) := ⟨by rw [Nat.mul_mod, h.1, k.1], fun r hr => ⟨mul_mod_ne hr (h.2 r hr).1 (k.2 r hr).1, by rw [qr_mul hr (h.2 r hr).1 (k.2 r hr).1, (h.2 r hr).2, (k.2 r hr).2]; rfl⟩⟩
theorem One.mulL {p x y : Nat} (h : One x) (k : Like p y) : Like p (x * y) := ⟨by rw [Nat.mul_mod, h.1, k.1, Nat.one_mul, Nat.mod_mod], fun r hr => ⟨mul_mod_ne hr (h.2 r hr).1 (k.2 r hr).1, by rw [qr_mul hr (h.2 r hr).1 (k.2 r hr).1, (h.2 r hr).2, (k.2 r hr).2]; simp⟩⟩
theorem Like.mul {p x y : Nat} (hp : p % 2 = 1) (h : Like p x) (k : Like p y) : One (x * y) := ⟨by
  rw [Nat.mul_mod, h.1, k.1]
  have : p % 8 = 1 ∨ p % 8 = 3 ∨ p % 8 = 5 ∨ p % 8 = 7 := by omega
  rcases this with e | e | e | e <;> rw [e], fun r hr => ⟨mul_mod_ne hr (h.2 r hr).1 (k.2 r hr).1, by rw [qr_mul hr (h.2 r hr).1 (k.2 r hr).1, (h.2 r hr).2, (k.2 r hr).2]; simp⟩⟩
theorem pow_parts {p : Nat} (hp : 2 < p) (ho : p % 2 = 1) : ∃ e f, p - 1 = 2 ^ e * f ∧ f % 2 = 1 ∧ 0 < e := by
  obtain ⟨e, f, h, hf⟩ := odd_part (p - 1 + 1) (p - 1) (by omega) (by omega)
  exact ⟨e, f, h, hf, Nat.pos_of_ne_zero fun h0 => by subst h0; rw [Nat.pow_zero, Nat.one_mul] at h; omega⟩
theorem mod4_one {p e f : Nat} (hp : 2 < p) (h : p - 1 = 2 ^ e * f) (he : 2 ≤ e) : p % 4 = 1 := by
  obtain ⟨k, rfl⟩ : ∃ k, e = k + 2 := ⟨e - 2, by omega⟩
  rw [Nat.pow_add, Nat.mul_right_comm] at h
  omega
theorem mod4_three {p f : Nat} (hp : 2 < p) (h : p - 1 = 2 ^ 1 * f) (hf : f % 2 = 1) : p % 4 = 3 := by
  rw [Nat.pow_one] at h; omega
/-- all signs 1. -/
def AllOne (p : Nat) : Prop := ∀ a ∈ p12, chi a p = true
theorem one_of {q : Nat} (hq : Pr q) (hb : 40 < q) (h4 : q % 4 = 1) (h : AllOne q) : One q := by
  have oq := hq.odd (by omega)
  refine ⟨?_, fun r hr => ?_⟩
  · have h2 := h 2 (by decide)
    rw [chi_two oq] at h2
    simp only [Bool.or_eq_true, decide_eq_true_eq] at h2
    omega
  · have hz : q % r ≠ 0 := hq.mod_ne (odds_small r hr).1 (by have := odds_le r hr; omega)
    refine ⟨hz, ?_⟩
    have := chi_qr hr oq hz
    rw [h r (List.mem_cons_of_mem _ hr), h4] at this
    simpa using this.symm
/-- the primes of n: as p, or as 1. -/
theorem prime_class {n p q : Nat} (hn : Pass n) (hp : Pr p) (hq : Pr q) (hpd : p ∣ n) (hqd : q ∣ n) (hne : ¬ One p) : Like p q ∨ One q := by
  have bp := pass_big hn hp hpd
  have bq := pass_big hn hq hqd
  have op := hp.odd (by omega)
  have oq := hq.odd (by omega)
  obtain ⟨e, f, h1, h2, h3⟩ := pow_parts (by omega) op
  obtain ⟨e', f', h1', h2', h3'⟩ := pow_parts (by omega) oq
  rcases Nat.lt_trichotomy e e' with h | h | h
  · have hs := (signs_of hn hp hq hpd hqd bp bq h1 h2 h1' h2').2 h
    exact .inr (one_of hq bq (mod4_one (by omega) h1' (by omega)) hs)
  · subst h
    have hs := (signs_of hn hp hq hpd hqd bp bq h1 h2 h1' h2').1 rfl
    have h4 : q % 4 = p % 4 := by
      rcases Nat.lt_or_ge e 2 with he | he
      · obtain rfl : e = 1 := by omega
        rw [mod4_three (by omega) h1 h2, mod4_three (by omega) h1' h2']
      · rw [mod4_one (by omega) h1 he, mod4_one (by omega) h1' he]
    refine .inl ⟨?_, fun r hr => ?_⟩
    · have h5 := hs 2 (by decide)
      rw [chi_two op, chi_two oq] at h5
      have h6 : (p % 8 = 1 ∨ p % 8 = 7) ↔ (q % 8 = 1 ∨ q % 8 = 7) := by
        have := Bool.eq_iff_iff.1 h5
        simpa using this
      omega
    · have hz : q % r ≠ 0 := hq.mod_ne (odds_small r hr).1 (by have := odds_le r hr; omega)
      have hz' : p % r ≠ 0 := hp.mod_ne (odds_small r hr).1 (by have := odds_le r hr; omega)
      exact ⟨hz, (qr_eq hr op oq hz' hz h4.symm (hs r (List.mem_cons_of_mem _ hr))).symm⟩
  · exact absurd (one_of hp bp (mod4_one (by omega) h1 (by omega)) ((signs_of hn hq hp hqd hpd bq bp h1' h2' h1 h2).2 h)) hne
/-- what divides n: as p, or as 1. -/
theorem class_of {n p : Nat} (hn : Pass n) (hp : Pr p) (hpd : p ∣ n) (hne : ¬ One p) : ∀ f c : Nat, c < f → 0 < c → c ∣ n → Like p c ∨ One c
  | 0, c, h, _, _ => by omega
  | f + 1, c, h, h0, hd => by
    by_cases h1 : c = 1
    · subst h1; exact .inr one_one
    · obtain ⟨q, hq, ⟨c', hc⟩, _⟩ := exists_least (n := c) (by omega)
      subst hc
      have hq2 := hq.1
      have hc0 : 0 < c' := Nat.pos_of_ne_zero fun e => by subst e; simp at h0
      have hlt : c' < q * c' := by
        have : 2 * c' ≤ q * c' := Nat.mul_le_mul_right c' hq2
        omega
      have op := hp.odd (by have := pass_big hn hp hpd; omega)
      have ih := class_of hn hp hpd hne f c' (by omega) hc0 (Nat.dvd_trans (Nat.dvd_mul_left _ _) hd)
      rcases prime_class hn hp hq hpd (Nat.dvd_trans (Nat.dvd_mul_right _ _) hd) hne with k | k
      · rcases ih with i | i
        · exact .inr (k.mul op i)
        · rw [Nat.mul_comm]; exact .inl (i.mulL k)
      · rcases ih with i | i
        · exact .inl (k.mulL i)
        · exact .inr (k.mul i)
/-- the power of 2 in p - 1, or 8. -/
noncomputable def Wv (p : Nat) : Nat := Bool.rec 8 (Nat.gcd (Nat.sub p 1) 18446744073709551616) (Nat.ble 8 (Nat.gcd (Nat.sub p 1) 18446744073709551616))
theorem gcd_pow {p e f : Nat} (h : p - 1 = 2 ^ e * f) (hf : f % 2 = 1) (he : e ≤ 64) : Nat.gcd (p - 1) 18446744073709551616 = 2 ^ e := by
  rw [h, show (18446744073709551616 : Nat) = 2 ^ e * 2 ^ (64 - e) by rw [← Nat.pow_add, show e + (64 - e) = 64 by omega], Nat.gcd_mul_left]
  have : Nat.Coprime f (2 ^ (64 - e)) := Nat.Coprime.pow_right _ (Nat.Coprime.symm (pr2.coprime fun hd => by have := Nat.mod_eq_zero_of_dvd hd; omega))
  rw [this, Nat.mul_one]
theorem prime_two {n p q : Nat} (hn : Pass n) (hp : Pr p) (hq : Pr q) (hpd : p ∣ n) (hqd : q ∣ n) (hne : ¬ One p) {e f : Nat} (h1 : p - 1 = 2 ^ e * f) (h2 : f % 2 = 1) : 2 ^ e ∣ q - 1 := by
  have bp := pass_big hn hp hpd
  have bq := pass_big hn hq hqd
  have op := hp.odd (by omega)
  have oq := hq.odd (by omega)
  obtain ⟨e', f', h1', h2', h3'⟩ := pow_parts (by omega) oq
  rcases Nat.lt_or_ge e' e with h | h
  · exact absurd (one_of hp bp (mod4_one (by omega) h1 (by omega)) ((signs_of hn hq hp hqd hpd bq bp h1' h2' h1 h2).2 h)) hne
  · rw [h1', show e' = e + (e' - e) by omega, Nat.pow_add, Nat.mul_assoc]
    exact Nat.dvd_mul_right _ _
theorem all_two {n : Nat} {m : Nat} (hm : 1 < m) (h : ∀ q, Pr q → q ∣ n → m ∣ q - 1) : ∀ f c : Nat, c < f → 0 < c → c ∣ n → c % m = 1
  | 0, c, h, _, _ => by omega
  | f + 1, c, hlt, h0, hd => by
    by_cases h1 : c = 1
    · subst h1; exact Nat.mod_eq_of_lt hm
    · obtain ⟨q, hq, ⟨c', hc⟩, _⟩ := exists_least (n := c) (by omega)
      subst hc
      have hq2 := hq.1
      have hc0 : 0 < c' := Nat.pos_of_ne_zero fun e => by subst e; simp at h0
      have hlt' : c' < q * c' := by
        have : 2 * c' ≤ q * c' := Nat.mul_le_mul_right c' hq2
        omega
      have ih := all_two hm h f c' (by omega) hc0 (Nat.dvd_trans (Nat.dvd_mul_left _ _) hd)
      obtain ⟨x, hx⟩ := h q hq (Nat.dvd_trans (Nat.dvd_mul_right _ _) hd)
      have hqm : q % m = 1 := by
        rw [show q = 1 + m * x by omega, Nat.add_mul_mod_self_left]; exact Nat.mod_eq_of_lt hm
      rw [Nat.mul_mod, hqm, ih]; exact Nat.mod_eq_of_lt hm
/-- the class, and what is left modulo Wv. -/
theorem class_w {n p c : Nat} (hn : Pass n) (hN : n ≤ 2305843009213693952) (hp : Pr p) (hpd : p ∣ n) (hne : ¬ One p) (h0 : 0 < c) (hd : c ∣ n) : (Like p c ∧ c % Wv p = p % Wv p) ∨ (One c ∧ c % Wv p = 1) := by
  have bp := pass_big hn hp hpd
  have hb := hn.big
  have op := hp.odd (by omega)
  obtain ⟨e, f, h1, h2, h3⟩ := pow_parts (by omega) op
  have he : e ≤ 64 := by
    rcases Nat.lt_or_ge 64 e with h | h
    · exfalso
      have h5 : 2 ^ 65 ≤ 2 ^ e := Nat.pow_le_pow_right (by omega) h
      have h6 : 2 ^ e ≤ p - 1 := by rw [h1]; exact Nat.le_mul_of_pos_right _ (by omega)
      have h7 := Nat.le_of_dvd (by omega) hpd
      omega
    · exact h
  have hcl := class_of hn hp hpd hne (c + 1) c (by omega) h0 hd
  unfold Wv
  have eg : Nat.gcd (Nat.sub p 1) 18446744073709551616 = 2 ^ e := gcd_pow h1 h2 he
  rw [eg]
  rcases ble_cases 8 (2 ^ e) with ⟨k, hle⟩ | ⟨k, _⟩
  · rw [k]
    have hcm := all_two (m := 2 ^ e) (by omega) (fun q hq hqd => prime_two hn hp hq hpd hqd hne h1 h2) (c + 1) c (by omega) h0 hd
    have hpm : p % 2 ^ e = 1 := by
      rw [show p = 1 + 2 ^ e * f by omega, Nat.add_mul_mod_self_left]; exact Nat.mod_eq_of_lt (by omega)
    rcases hcl with h | h
    · exact .inl ⟨h, by show c % 2 ^ e = p % 2 ^ e; rw [hcm, hpm]⟩
    · exact .inr ⟨h, hcm⟩
  · rw [k]
    rcases hcl with h | h
    · exact .inl ⟨h, h.1⟩
    · exact .inr ⟨h, h.1⟩
theorem Wv_dvd (p : Nat) : Wv p ∣ 2 ^ 64 := by
  unfold Wv
  cases Nat.ble 8 (Nat.gcd (Nat.sub p 1) 18446744073709551616)
  · show 8 ∣ 2 ^ 64
    exact ⟨2 ^ 61, by decide⟩
  · exact Nat.gcd_dvd_right (p - 1) 18446744073709551616
theorem Wv_ge (p : Nat) : 8 ≤ Wv p := by
  unfold Wv
  cases h : Nat.ble 8 (Nat.gcd (Nat.sub p 1) 18446744073709551616)
  · exact Nat.le_refl 8
  · exact Nat.le_of_ble_eq_true h
end Go.Psi

/-! Three and more primes: the test of a pair of primes. -/
namespace Go.Psi

/-- N. -/
def NN : Nat := 2305843009213693952
/-- 1 / x modulo the prime p (a hint: nothing is proved of it). -/
noncomputable def st8 (a q e s x : Nat) : Nat := Nat.mod (Nat.mul (Nat.pow x (nat_lit 256)) (Nat.pow a (Nat.land (Nat.shiftRight e s) (nat_lit 255)))) q
noncomputable def pw8 (a e q : Nat) : Nat := st8 a q e (nat_lit 0) (st8 a q e (nat_lit 8) (st8 a q e (nat_lit 16) (Nat.mod (Nat.pow a (Nat.shiftRight e (nat_lit 24))) q)))
noncomputable def pinv (x p : Nat) : Nat := pw8 (Nat.mod x p) (Nat.sub p 2) p
/-- o' p2 o2 E, and the two hints: done with, or R n0 M. -/
noncomputable def pairT (R : Nat → Nat → Bool) (p1 p2 o2 E o' t0 t1 : Nat) : Bool :=
  and2 (and2 (Nat.beq (Nat.mod (Nat.add 1 (Nat.mul o2 t0)) p1) 0) (and2 (Nat.beq (Nat.mod (Nat.add E (Nat.mul p2 t1)) o') 0) (and2 (Nat.ble (Nat.succ t0) p1) (Nat.ble (Nat.succ t1) o'))))
    ((fun n0 => ite2 (Nat.ble (Nat.succ NN) n0) true (R n0 (Nat.mul p2 (Nat.mul o2 (Nat.mul p1 o'))))) (Nat.mul p2 (Nat.add 1 (Nat.mul o2 (Nat.add t0 (Nat.mul p1 (Nat.mod (Nat.add t1 (Nat.sub o' (Nat.mod t0 o'))) o')))))))
noncomputable def pairO (R : Nat → Nat → Bool) (p1 p2 o2 E o' : Nat) : Bool :=
  pairT R p1 p2 o2 E o' (Nat.mod (Nat.mul (pinv o2 p1) (Nat.sub p1 1)) p1) (Nat.mod (Nat.sub o' (Nat.mod (Nat.mul E (Nat.div (Nat.succ (Nat.mul o' (Nat.sub p2 (pinv o' p2)))) p2)) o')) o')
/-- the odd part of p - 1, and that part less its threes. -/
noncomputable def oddp (p : Nat) : Nat := Nat.div (Nat.sub p 1) (Nat.gcd (Nat.sub p 1) 18446744073709551616)
/-- the greatest powers of the odd primes up to 131, below 2.5e8. -/
def allV : Nat := 14716539477863458049030425205084412437144112024353979090189388715307277287438301227500271401546447141746954750931219932047100760662647268668803188977368361643441410911779355493393400527550724509306264561879581977705643904948487886474609375
noncomputable def oddr (p : Nat) : Nat := Nat.div (oddp p) (Nat.gcd (oddp p) allV)
noncomputable def odd3 (p : Nat) : Nat := Nat.div (oddp p) (Nat.gcd (oddp p) 12157665459056928801)
noncomputable def pairC (R : Nat → Nat → Bool) (p1 o1 p2 o2 : Nat) : Bool :=
  and2 (and2 (Nat.beq (Nat.mod o1 2) 1) (and2 (Nat.beq (Nat.mod (Nat.sub p1 1) o1) 0) (and2 (Nat.beq (Nat.mod o2 2) 1) (and2 (Nat.beq (Nat.mod (Nat.sub p2 1) o2) 0) (Nat.ble p1 p2)))))
    (ite2 (Nat.beq (Nat.mod o2 p1) 0) true (pairO R p1 p2 o2 (Nat.div (Nat.sub p2 1) o2) (Nat.div o1 (Nat.gcd o1 o2))))
theorem pairT_spec {R : Nat → Nat → Bool} {p1 p2 n c o1 o2 E o' t0 t1 : Nat} (h : pairT R p1 p2 o2 E o' t0 t1 = true) (hp1 : Pr p1) (hn0 : 0 < n) (hN : n ≤ NN) (e : n = p1 * p2 * c) (g1 : o1 ∣ n - 1) (g2 : o2 ∣ n - 1) (f1 : o1 ∣ p1 - 1) (f2 : p2 - 1 = E * o2) (hp2 : 1 < p2) (hodd : o1 % 2 = 1) (hco : Nat.Coprime (o1 / Nat.gcd o1 o2) p2) (ho' : o' = o1 / Nat.gcd o1 o2) :
    ∃ n0 M k, n = n0 + k * M ∧ R n0 M = true ∧ p1 * p2 ∣ M := by
  obtain ⟨h3, h4⟩ := and2_iff.1 h
  obtain ⟨c1, h5⟩ := and2_iff.1 h3
  obtain ⟨c2, h6⟩ := and2_iff.1 h5
  obtain ⟨c3, c4⟩ := and2_iff.1 h6
  obtain ⟨k, hk⟩ := pair_row hp1 e hn0 g1 g2 f1 f2 hp2 hodd hco ho' (Nat.eq_of_beq_eq_true c1) (Nat.eq_of_beq_eq_true c2) (Nat.le_of_ble_eq_true c3) (Nat.le_of_ble_eq_true c4)
  refine ⟨_, _, k, hk, (ite2_iff.1 h4).2 ?_, ?_⟩
  · rcases ble_cases (Nat.succ NN) (p2 * (1 + o2 * (t0 + p1 * ((t1 + (o' - t0 % o')) % o')))) with ⟨he, hle⟩ | ⟨he, _⟩
    · exfalso
      have := Nat.le_trans (Nat.le_add_right _ _) (Nat.le_of_eq hk.symm)
      exact absurd (Nat.le_trans hle (Nat.le_trans this hN)) (Nat.not_succ_le_self _)
    · exact he
  · exact ⟨o2 * o', by simp only [Nat.mul_left_comm, Nat.mul_comm]⟩
theorem pairC_spec {R : Nat → Nat → Bool} {p1 p2 o1 o2 n c : Nat} (h : pairC R p1 o1 p2 o2 = true) (hn : Pass n) (hN : n ≤ NN) (hp1 : Pr p1) (hp2 : Pr p2) (e : n = p1 * p2 * c) (b1 : p1 ≤ 240200000) (b2 : p2 ≤ 240200000) (k1 : ordOk p1 o1 = true) (k2 : ordOk p2 o2 = true) :
    ∃ n0 M k, n = n0 + k * M ∧ R n0 M = true ∧ p1 * p2 ∣ M := by
  have d1 : p1 ∣ n := ⟨p2 * c, by rw [e, Nat.mul_assoc]⟩
  have d2 : p2 ∣ n := ⟨p1 * c, by rw [e, Nat.mul_assoc, Nat.mul_left_comm]⟩
  obtain ⟨h1, h2⟩ := and2_iff.1 h
  obtain ⟨a1, h3⟩ := and2_iff.1 h1
  obtain ⟨a2, h4⟩ := and2_iff.1 h3
  obtain ⟨a3, h5⟩ := and2_iff.1 h4
  obtain ⟨a4, a5⟩ := and2_iff.1 h5
  have o1' : o1 % 2 = 1 := Nat.eq_of_beq_eq_true a1
  have o2' : o2 % 2 = 1 := Nat.eq_of_beq_eq_true a3
  have f1 : o1 ∣ p1 - 1 := Nat.dvd_of_mod_eq_zero (Nat.eq_of_beq_eq_true a2)
  have f2 : o2 ∣ p2 - 1 := Nat.dvd_of_mod_eq_zero (Nat.eq_of_beq_eq_true a4)
  have g1 := odd_dvd hn hp1 d1 b1 k1 o1' f1
  have g2 := odd_dvd hn hp2 d2 b2 k2 o2' f2
  have hb := hn.big
  have hq1 := hp1.1
  have hz : ¬ p1 ∣ o2 := fun hd => by
    have h6 : p1 ∣ n - (n - 1) := Nat.dvd_sub d1 (Nat.dvd_trans hd g2)
    rw [show n - (n - 1) = 1 by omega] at h6
    have := Nat.le_of_dvd (by omega) h6
    omega
  have h7 : pairO R p1 p2 o2 (Nat.div (Nat.sub p2 1) o2) (Nat.div o1 (Nat.gcd o1 o2)) = true := (ite2_iff.1 h2).2 (by
    rcases beq_cases (Nat.mod o2 p1) 0 with ⟨_, k⟩ | ⟨k, _⟩
    · exact absurd (Nat.dvd_of_mod_eq_zero k) hz
    · exact k)
  have hle : p1 ≤ p2 := Nat.le_of_ble_eq_true a5
  have hpos : 0 < o1 / Nat.gcd o1 o2 := Nat.div_pos (Nat.le_of_dvd (by omega) (Nat.gcd_dvd_left _ _)) (Nat.gcd_pos_of_pos_left _ (by omega))
  have hlt : o1 / Nat.gcd o1 o2 < p2 := by
    have h8 := Nat.div_le_self o1 (Nat.gcd o1 o2)
    have h9 := Nat.le_of_dvd (by omega) f1
    omega
  exact pairT_spec h7 hp1 (by omega) hN e g1 g2 f1 (Nat.div_mul_cancel f2).symm hp2.1 o1' (Nat.Coprime.symm (hp2.coprime (Pr.not_dvd_lt hpos hlt))) rfl
/-- n n0 + k M: by loops. -/
noncomputable def restL (C : Nat → Bool) (n0 M : Nat) : Bool := Nat.rec true (fun k ih => and2 (C (Nat.add n0 (Nat.mul k M))) ih) (Nat.succ (Nat.div (Nat.sub NN n0) M))
theorem restL_spec {C : Nat → Bool} {n0 M k : Nat} (h : restL C n0 M = true) (hM : 0 < M) (hN : n0 + k * M ≤ NN) : C (n0 + k * M) = true := by
  refine rec_all (f := fun k => C (Nat.add n0 (Nat.mul k M))) h k (Nat.lt_succ_of_le ?_)
  show k ≤ (NN - n0) / M
  rw [Nat.le_div_iff_mul_le hM]
  omega
end Go.Psi

/-! Three and more primes: rows of c, by its class. -/
namespace Go.Psi

/-- squares and others modulo r, as bits. -/
def xtab : List (Nat × Nat × Nat) := [(3, 2, 4), (5, 18, 12), (7, 22, 104), (11, 570, 1476), (13, 5658, 2532), (17, 107286, 23784), (19, 199410, 324876), (23, 340830, 8047776), (29, 332473074, 204397836), (31, 303908790, 1843574856), (37, 96068509338, 41370444132)]
def xtabOk : Bool := xtab.all fun x => decide (x.1 ∈ odds) && ((List.range x.1).all fun j => (Nat.testBit x.2.1 j == qr x.1 j) && (Nat.testBit x.2.2 j == (decide (j ≠ 0) && !qr x.1 j)) && (decide (x.2.1 < 2 ^ x.1) && decide (x.2.2 < 2 ^ x.1)))
theorem xtab_ok : xtabOk = true := by decide +kernel
structure XT (r R N : Nat) : Prop where
  mem : r ∈ odds
  sq : ∀ j, j < r → R.testBit j = qr r j
  no : ∀ j, j < r → N.testBit j = (decide (j ≠ 0) && !qr r j)
  ltR : R < 2 ^ r
  ltN : N < 2 ^ r
theorem xt_of {x : Nat × Nat × Nat} (hx : x ∈ xtab) : XT x.1 x.2.1 x.2.2 := by
  have h := List.all_eq_true.1 xtab_ok x hx
  simp only [Bool.and_eq_true, decide_eq_true_eq, List.all_eq_true, List.mem_range, beq_iff_eq] at h
  obtain ⟨h1, h2⟩ := h
  have hpos : 0 < x.1 := by have := (odds_small _ h1).1; omega
  exact ⟨h1, fun j hj => (h2 j hj).1.1, fun j hj => (h2 j hj).1.2, (h2 0 hpos).2.1, (h2 0 hpos).2.2⟩
/-- is x a square? -/
noncomputable def sqB (r R x : Nat) : Bool := Nat.beq (Nat.mod (Nat.shiftRight R (Nat.mod x r)) 2) 1
theorem sqB_eq {r R N : Nat} (h : XT r R N) (x : Nat) : sqB r R x = qr r x := by
  have hpos : 0 < r := by have := (odds_small _ h.mem).1; omega
  have h1 := h.sq (x % r) (Nat.mod_lt _ hpos)
  rw [qr_mod (Nat.mod_mod x r)] at h1
  rw [← h1]
  show Nat.beq ((R >>> (x % r)) % 2) 1 = _
  rw [Nat.testBit_eq_decide_div_mod_eq, ← Nat.shiftRight_eq_div_pow]
  rcases beq_cases ((R >>> (x % r)) % 2) 1 with ⟨e, k⟩ | ⟨e, k⟩
  · rw [e, decide_eq_true k]
  · rw [e, decide_eq_false k]
/-- which pattern. -/
noncomputable def sel (R N : Nat) (w s : Bool) : Nat := Bool.rec (Bool.rec R N w) (Bool.rec N R w) s
theorem sel_bit {r R N : Nat} (h : XT r R N) {w s : Bool} {j : Nat} (hj : j < r) (hz : j ≠ 0) (hq : (s == qr r j) = w) : (sel R N w s).testBit j = true := by
  have h1 := h.sq j hj
  have h2 := h.no j hj
  rw [decide_eq_true hz, Bool.true_and] at h2
  subst hq
  cases s <;> cases hq : qr r j <;> rw [hq] at h1 h2
  · exact h2
  · exact h1
  · exact h2
  · exact h1
/-- the places k < L at which c0 + k m is a square modulo r (w), or none. -/
noncomputable def cpat (r R N c0 m L : Nat) (w : Bool) : Nat :=
  Bool.rec (Nat.shiftRight (Nat.mul (sel R N w (sqB r R m)) (rep r (Nat.add (Nat.div L r) 2))) (Nat.mod (Nat.mul c0 (Nat.pow (Nat.mod m r) (Nat.sub r 2))) r)) (Nat.sub (Nat.pow 2 L) 1) (Nat.beq (Nat.mod m r) 0)
theorem cpat_bit {r R N c0 m L k : Nat} {w : Bool} (h : XT r R N) (hk : k < L) (hz : (c0 + k * m) % r ≠ 0) (hq : qr r (c0 + k * m) = w) : (cpat r R N c0 m L w).testBit k = true := by
  have hr := pr_odds r h.mem
  have hpos := hr.pos
  unfold cpat
  rcases beq_cases (Nat.mod m r) 0 with ⟨e, _⟩ | ⟨e, hne⟩
  · rw [e]; exact ones_bit hk
  · rw [e]
    have hro : r % 2 = 1 := by
      have : ∀ r ∈ odds, r % 2 = 1 := by decide
      exact this r h.mem
    have hnd : ¬ r ∣ m := fun hd => hne (Nat.mod_eq_zero_of_dvd hd)
    have hr2 := hr.1
    -- s m = c0
    have hs : Cg r (((c0 * (m % r) ^ (r - 2) % r * m : Nat) : Nat) : Int) (c0 : Int) := by
      have h1 := fermat hr hro hnd
      have h2 : Cg r ((c0 * (m % r) ^ (r - 2) % r : Nat) : Int) ((c0 : Int) * (m : Int) ^ (r - 2)) := by
        refine (cg_mod r _).trans ?_
        rw [Int.natCast_mul, Int.natCast_pow]
        exact (Cg.refl _ _).mul ((cg_mod r m).pow _)
      rw [Int.natCast_mul]
      refine (h2.mul (Cg.refl r (m : Int))).trans ?_
      rw [Int.mul_assoc, ← Int.pow_succ, show (r - 2).succ = r - 1 by omega]
      have := (Cg.refl r (c0 : Int)).mul h1
      rwa [Int.mul_one] at this
    show ((sel R N w (sqB r R m) * rep r (L / r + 2)) >>> (c0 * (m % r) ^ (r - 2) % r)).testBit k = true
    have hsl := Nat.mod_lt (c0 * (m % r) ^ (r - 2)) hpos
    generalize c0 * (m % r) ^ (r - 2) % r = s at *
    have hmod : (c0 + k * m) % r = (m * ((s + k) % r)) % r := by
      refine cg_iff.1 ?_
      have h3 : Cg r ((m * ((s + k) % r) : Nat) : Int) ((s * m + k * m : Nat) : Int) := by
        rw [← Nat.add_mul, Int.natCast_mul, Int.natCast_mul, Int.mul_comm]
        exact (cg_mod r _).mul (Cg.refl _ _)
      refine Cg.trans ?_ h3.symm
      rw [Int.natCast_add, Int.natCast_add (s * m)]
      exact hs.symm.add (Cg.refl _ _)
    have hlt : sel R N w (sqB r R m) < 2 ^ r := by
      unfold sel
      cases w <;> cases sqB r R m <;> first | exact h.ltR | exact h.ltN
    rw [Nat.testBit_shiftRight, rep_bit hpos hlt _ _ (by
      have h2 := Nat.div_add_mod L r
      have h3 := Nat.mod_lt L hpos
      have h4 : r * (L / r + 2) = r * (L / r) + 2 * r := by rw [Nat.mul_add, Nat.mul_comm r 2]
      omega)]
    have hz2 : m * ((s + k) % r) % r ≠ 0 := by rw [← hmod]; exact hz
    have hjz : (s + k) % r ≠ 0 := fun e => hz2 (by rw [e, Nat.mul_zero, Nat.zero_mod])
    refine sel_bit h (Nat.mod_lt _ hpos) hjz ?_
    rw [sqB_eq h, ← hq, ← qr_mul h.mem hne (by rw [Nat.mod_mod]; exact hjz)]
    exact qr_mod hmod.symm
/-- modulo 8. -/
theorem mod8_fact : ∀ x, x < 8 → ∀ m, m < 8 → ∀ y, y < 8 → m % 2 = 1 → y = ((x + y * m) % 8 + 8 - x) * m % 8 := by decide +kernel
noncomputable def cpat8 (c0 m L t : Nat) : Nat := Nat.mul (Nat.pow 2 (Nat.mod (Nat.mul (Nat.sub (Nat.add t 8) (Nat.mod c0 8)) (Nat.mod m 8)) 8)) (rep 8 (Nat.add (Nat.div L 8) 1))
theorem cpat8_bit {c0 m L t k : Nat} (hm : m % 2 = 1) (hk : k < L) (ht : (c0 + k * m) % 8 = t) : (cpat8 c0 m L t).testBit k = true := by
  have e : k % 8 = (t + 8 - c0 % 8) * (m % 8) % 8 := by
    have h := mod8_fact (c0 % 8) (Nat.mod_lt _ (by omega)) (m % 8) (Nat.mod_lt _ (by omega)) (k % 8) (Nat.mod_lt _ (by omega)) (by omega)
    have h2 : (c0 % 8 + k % 8 * (m % 8)) % 8 = (c0 + k * m) % 8 := by rw [Nat.add_mod, Nat.mod_mod, Nat.mul_mod, Nat.mod_mod, Nat.mod_mod, ← Nat.mul_mod, ← Nat.add_mod]
    rw [h2, ht] at h
    exact h
  show (2 ^ ((t + 8 - c0 % 8) * (m % 8) % 8) * rep 8 (L / 8 + 1)).testBit k = true
  rw [rep_bit (by omega) (Nat.pow_lt_pow_right (by omega) (Nat.mod_lt _ (by omega))) _ _ (by omega), ← e, Nat.testBit_two_pow, decide_eq_true rfl]
noncomputable def maskC (w : Nat × Nat × Nat → Bool) (c0 m L base : Nat) (l : List (Nat × Nat × Nat)) : Nat := List.rec base (fun x _ ih => Nat.land (cpat x.1 x.2.1 x.2.2 c0 m L (w x)) ih) l
theorem maskC_bit {w : Nat × Nat × Nat → Bool} {c0 m L base k : Nat} (hk : k < L) (hb : base.testBit k = true) : ∀ l : List (Nat × Nat × Nat), (∀ x ∈ l, XT x.1 x.2.1 x.2.2 ∧ (c0 + k * m) % x.1 ≠ 0 ∧ qr x.1 (c0 + k * m) = w x) → (maskC w c0 m L base l).testBit k = true
  | [], _ => hb
  | x :: l, h => by
    obtain ⟨h1, h2, h3⟩ := h x (List.mem_cons_self ..)
    refine (Nat.testBit_and _ _ _).trans ?_
    rw [cpat_bit h1 hk h2 h3, Bool.true_and]
    exact maskC_bit hk hb l fun y hy => h y (List.mem_cons_of_mem _ hy)
/-- all places of a row of bits, by leaves. (The mark tg is not to be 0.) -/
noncomputable def walk (slow : Nat → Bool) (tg d X : Nat) : Bool :=
  tree (fun off X => Bool.rec false (leaf (fun _ => 1) (fun i => slow (Nat.add off i)) 20000 X) (Nat.ble (Nat.succ X) lim)) tg 8192 d 0 (Nat.lor (Nat.shiftLeft X 64) tg)
theorem walk_spec {slow : Nat → Bool} {tg d X : Nat} (h : walk slow tg d X = true) {t : Nat} (ht : X.testBit t = true) : slow t = true := by
  have := tree_spec _ (fun m => slow m = true) (fun off Y hY t ht => by
    rcases ble_cases (Nat.succ Y) lim with ⟨e, hl⟩ | ⟨e, _⟩
    · rw [e] at hY
      rcases leaf_spec _ _ _ _ hY hl t ht with h | h
      · exact absurd rfl h
      · exact h
    · rw [e] at hY; cases hY) _ 8192 d 0 _ h t (by
    show ((X <<< 64 ||| tg) >>> 64).testBit t = true
    rw [Nat.testBit_shiftRight, Nat.testBit_or, Nat.testBit_shiftLeft, Nat.add_sub_cancel_left, ht, decide_eq_true (by omega)]; rfl)
  rw [Nat.zero_add] at this
  exact this
end Go.Psi

/-! Three and more primes: what a pair leaves is refuted. -/
namespace Go.Psi

noncomputable def oneB (c : Nat) (l : List (Nat × Nat × Nat)) : Bool := List.rec (Nat.beq (Nat.mod c 8) 1) (fun x _ ih => and2 (sqB x.1 x.2.1 c) ih) l
noncomputable def likeB (p c : Nat) (l : List (Nat × Nat × Nat)) : Bool := List.rec (Nat.beq (Nat.mod c 8) (Nat.mod p 8)) (fun x _ ih => and2 (Bool.rec (Bool.rec true false (sqB x.1 x.2.1 c)) (sqB x.1 x.2.1 c) (sqB x.1 x.2.1 p)) ih) l
theorem oneB_of {c : Nat} (h : One c) : ∀ l : List (Nat × Nat × Nat), (∀ x ∈ l, x ∈ xtab) → oneB c l = true
  | [], _ => beq_of h.1
  | x :: l, hl => by
    have hx := xt_of (hl x (List.mem_cons_self ..))
    refine and2_iff.2 ⟨?_, oneB_of h l fun y hy => hl y (List.mem_cons_of_mem _ hy)⟩
    rw [sqB_eq hx]
    exact (h.2 _ hx.mem).2
theorem likeB_of {p c : Nat} (h : Like p c) : ∀ l : List (Nat × Nat × Nat), (∀ x ∈ l, x ∈ xtab) → likeB p c l = true
  | [], _ => beq_of h.1
  | x :: l, hl => by
    have hx := xt_of (hl x (List.mem_cons_self ..))
    refine and2_iff.2 ⟨?_, likeB_of h l fun y hy => hl y (List.mem_cons_of_mem _ hy)⟩
    rw [sqB_eq hx, sqB_eq hx, (h.2 _ hx.mem).2]
    cases qr x.1 p <;> rfl
/-- how deep a tree. -/
noncomputable def dep (K : Nat) : Nat := Bool.rec (Bool.rec 8 4 (Nat.ble K 131071)) 0 (Nat.ble K 8191)
noncomputable def restM (n0 M c0 m K : Nat) (w : Nat × Nat × Nat → Bool) : Bool :=
  walk (fun k => fail (Nat.add n0 (Nat.mul k M))) (Nat.succ (Nat.mod n0 1152921504606846976)) (dep K) (maskC w c0 m (Nat.succ K) (Nat.sub (Nat.pow 2 (Nat.succ K)) 1) xtab)
theorem restM_spec {n0 M c0 m K k : Nat} {w : Nat × Nat × Nat → Bool} (h : restM n0 M c0 m K w = true) (hk : k ≤ K) (hw : ∀ x ∈ xtab, (c0 + k * m) % x.1 ≠ 0 ∧ qr x.1 (c0 + k * m) = w x) : fail (n0 + k * M) = true := by
  refine walk_spec (slow := fun k => fail (Nat.add n0 (Nat.mul k M))) h (t := k) ?_
  exact maskC_bit (Nat.lt_succ_of_le hk) (ones_bit (Nat.lt_succ_of_le hk)) xtab fun x hx => ⟨xt_of hx, hw x hx⟩
/-- the same, in blocks. -/
noncomputable def restB (n0 M c0 m K : Nat) (w : Nat × Nat × Nat → Bool) : Bool :=
  ite2 (Nat.ble K 2097151) (restM n0 M c0 m K w)
    (Nat.rec true (fun j ih => and2 (restM (Nat.add n0 (Nat.mul (Nat.mul j 2097152) M)) M (Nat.add c0 (Nat.mul (Nat.mul j 2097152) m)) m 2097151 w) ih) (Nat.succ (Nat.div K 2097152)))
theorem restB_spec {n0 M c0 m K k : Nat} {w : Nat × Nat × Nat → Bool} (h : restB n0 M c0 m K w = true) (hk : k ≤ K) (hw : ∀ x ∈ xtab, (c0 + k * m) % x.1 ≠ 0 ∧ qr x.1 (c0 + k * m) = w x) : fail (n0 + k * M) = true := by
  rcases ble_cases K 2097151 with ⟨e, _⟩ | ⟨e, _⟩
  · exact restM_spec ((ite2_iff.1 h).1 e) hk hw
  · have hd := Nat.div_add_mod k 2097152
    have hl := Nat.mod_lt k (show 2097152 > 0 by omega)
    have h1 := rec_all (f := fun j => restM (Nat.add n0 (Nat.mul (Nat.mul j 2097152) M)) M (Nat.add c0 (Nat.mul (Nat.mul j 2097152) m)) m 2097151 w) ((ite2_iff.1 h).2 e) (k / 2097152) (Nat.lt_succ_of_le (Nat.div_le_div_right hk))
    have ek : k = k / 2097152 * 2097152 + k % 2097152 := by omega
    generalize k / 2097152 = j at *
    generalize k % 2097152 = r at *
    have e1 : c0 + j * 2097152 * m + r * m = c0 + k * m := by rw [ek, Nat.add_mul]; omega
    have e2 : n0 + j * 2097152 * M + r * M = n0 + k * M := by rw [ek, Nat.add_mul]; omega
    rw [← e2]
    exact restM_spec h1 (by omega) fun x hx => by
      show (c0 + j * 2097152 * m + r * m) % x.1 ≠ 0 ∧ qr x.1 (c0 + j * 2097152 * m + r * m) = w x
      rw [e1]; exact hw x hx
/-- one type of c: modulo W it is t. -/
noncomputable def restT (C : Nat → Bool) (P W t n0 M c0 m k0 : Nat) (w : Nat × Nat × Nat → Bool) : Bool :=
  and2 (and2 (Nat.beq (Nat.mod (Nat.add c0 (Nat.mul k0 m)) W) t) (Nat.ble (Nat.succ k0) W))
    ((fun n1 => ite2 (Nat.ble (Nat.succ NN) n1) true (ite2 (Nat.ble (Nat.div (Nat.sub NN n1) (Nat.mul W M)) 60) (restL (fun n => ite2 (C (Nat.div n P)) (fail n) true) n1 (Nat.mul W M))
      (restB n1 (Nat.mul W M) (Nat.add c0 (Nat.mul k0 m)) (Nat.mul W m) (Nat.div (Nat.sub NN n1) (Nat.mul W M)) w))) (Nat.add n0 (Nat.mul k0 M)))
theorem restT_spec {C : Nat → Bool} {P W t n0 M c0 m k0 k c n : Nat} {w : Nat × Nat × Nat → Bool} (h : restT C P W t n0 M c0 m k0 w = true) (hP : 0 < P) (hW : W ∣ 2 ^ 64) (hm : m % 2 = 1) (eM : M = P * m) (ec : c = c0 + k * m) (en : n = n0 + k * M) (eP : n = P * c) (hn : Pass n) (hN : n ≤ NN) (ht : c % W = t) (hC : C c = true) (hw : ∀ x ∈ xtab, c % x.1 ≠ 0 ∧ qr x.1 c = w x) : False := by
  obtain ⟨h1, h2⟩ := and2_iff.1 h
  obtain ⟨h3, h4⟩ := and2_iff.1 h1
  have h3' : (c0 + k0 * m) % W = t := Nat.eq_of_beq_eq_true h3
  have h4' : k0 < W := Nat.le_of_ble_eq_true h4
  have hco : Nat.Coprime W m := by
    have : Nat.Coprime (2 ^ 64) m := Nat.Coprime.pow_left 64 (pr2.coprime fun hd => by have := Nat.mod_eq_zero_of_dvd hd; omega)
    exact Nat.Coprime.coprime_dvd_left hW this
  have hk : Cg W (k : Int) (k0 : Int) := by
    refine Cg.cancel hco ?_
    have h5 : Cg W ((c0 + k * m : Nat) : Int) ((c0 + k0 * m : Nat) : Int) := cg_iff.2 (by rw [h3', ← ec, ht])
    obtain ⟨x, hx⟩ := h5
    refine ⟨x, ?_⟩
    rw [← hx]
    simp only [Int.natCast_add, Int.natCast_mul, Int.mul_comm]
    omega
  obtain ⟨j, hj⟩ := cg_ge hk h4'
  have en1 : n = n0 + k0 * M + j * (W * M) := by
    rw [en, hj, Nat.add_mul, ← Nat.add_assoc]
    congr 1
    simp only [Nat.mul_left_comm, Nat.mul_comm]
  have ec1 : c = c0 + k0 * m + j * (W * m) := by
    rw [ec, hj, Nat.add_mul, ← Nat.add_assoc]
    congr 1
    simp only [Nat.mul_left_comm, Nat.mul_comm]
  have hf : fail n = true := by
    replace h2 : ite2 (Nat.ble (Nat.succ NN) (n0 + k0 * M)) true (ite2 (Nat.ble (Nat.div (Nat.sub NN (n0 + k0 * M)) (W * M)) 60) (restL (fun n => ite2 (C (Nat.div n P)) (fail n) true) (n0 + k0 * M) (W * M)) (restB (n0 + k0 * M) (W * M) (c0 + k0 * m) (W * m) (Nat.div (Nat.sub NN (n0 + k0 * M)) (W * M)) w)) = true := h2
    have hM : 0 < W * M := by
      rw [eM]
      exact Nat.mul_pos (by omega) (Nat.mul_pos hP (by omega))
    have hle : j ≤ (NN - (n0 + k0 * M)) / (W * M) := by
      rw [Nat.le_div_iff_mul_le hM]; omega
    rcases ble_cases (Nat.succ NN) (n0 + k0 * M) with ⟨_, k1⟩ | ⟨e, _⟩
    · exfalso
      have : n0 + k0 * M ≤ n := by rw [en1]; exact Nat.le_add_right _ _
      exact absurd (Nat.le_trans k1 (Nat.le_trans this hN)) (Nat.not_succ_le_self _)
    · have h5 := (ite2_iff.1 h2).2 e
      rcases ble_cases (Nat.div (Nat.sub NN (n0 + k0 * M)) (W * M)) 60 with ⟨e, _⟩ | ⟨e, _⟩
      · have h6 := restL_spec ((ite2_iff.1 h5).1 e) (k := j) hM (by rw [← en1]; exact hN)
        rw [← en1] at h6
        have h7 := (ite2_iff.1 h6).1 (by
          show C (n / P) = true
          rw [eP, Nat.mul_div_cancel_left c hP]; exact hC)
        exact h7
      · have h6 := restB_spec ((ite2_iff.1 h5).2 e) hle fun x hx => by rw [← ec1]; exact hw x hx
        rwa [← en1] at h6
  exact fail_no hn (by unfold NN at hN; omega) hf
/-- where c is t modulo W (a hint). -/
noncomputable def kat (W t c0 m : Nat) : Nat := Nat.mod (Nat.mul (Nat.sub (Nat.add t W) (Nat.mod c0 W)) (pwa (Nat.mod m W) (Nat.sub (Nat.div W 2) 1) W)) W
noncomputable def restC (p1 P W n0 M c0 m : Nat) : Bool :=
  and2 (Nat.beq (Nat.mod m 2) 1)
    (and2 (restT (fun c => oneB c xtab) P W 1 n0 M c0 m (kat W 1 c0 m) (fun _ => true))
      (restT (fun c => likeB p1 c xtab) P W (Nat.mod p1 W) n0 M c0 m (kat W (Nat.mod p1 W) c0 m) (fun x => sqB x.1 x.2.1 p1)))
/-- all n = n0 + k M. -/
noncomputable def rest (p1 p2 n0 M : Nat) : Bool := restC p1 (Nat.mul p1 p2) (Wv p1) n0 M (Nat.div n0 (Nat.mul p1 p2)) (Nat.div M (Nat.mul p1 p2))
theorem rest_no {p1 p2 n n0 M k c : Nat} (h : rest p1 p2 n0 M = true) (hP : 0 < p1 * p2) (hn : Pass n) (hN : n ≤ NN) (e : n = p1 * p2 * c) (hd : p1 * p2 ∣ M) (ek : n = n0 + k * M) (hc : (Like p1 c ∧ c % Wv p1 = p1 % Wv p1) ∨ (One c ∧ c % Wv p1 = 1)) : False := by
  replace h : restC p1 (p1 * p2) (Wv p1) n0 M (n0 / (p1 * p2)) (M / (p1 * p2)) = true := h
  obtain ⟨m, rfl⟩ := hd
  have em : p1 * p2 * m / (p1 * p2) = m := Nat.mul_div_cancel_left m hP
  rw [em] at h
  have e0 : n0 = p1 * p2 * (c - k * m) := by
    rw [Nat.mul_sub, ← e, ek]
    have : p1 * p2 * (k * m) = k * (p1 * p2 * m) := Nat.mul_left_comm _ _ _
    rw [this]; omega
  have e1 : n0 / (p1 * p2) = c - k * m := by rw [e0, Nat.mul_div_cancel_left _ hP]
  have hle : k * m ≤ c := by
    have h9 : p1 * p2 * (k * m) ≤ p1 * p2 * c := by
      have : p1 * p2 * (k * m) = k * (p1 * p2 * m) := Nat.mul_left_comm _ _ _
      rw [this, ← e, ek]; omega
    exact Nat.le_of_mul_le_mul_left h9 hP
  have ec : c = n0 / (p1 * p2) + k * m := by rw [e1]; omega
  obtain ⟨h1, h2⟩ := and2_iff.1 h
  obtain ⟨h3, h4⟩ := and2_iff.1 h2
  have hm : m % 2 = 1 := Nat.eq_of_beq_eq_true h1
  rcases hc with ⟨hl, hw⟩ | ⟨hl, hw⟩
  · exact restT_spec h4 hP (Wv_dvd p1) hm rfl ec ek e hn hN hw (likeB_of hl xtab fun x hx => hx) fun x hx => by
      rw [sqB_eq (xt_of hx)]; exact hl.2 _ (xt_of hx).mem
  · exact restT_spec h3 hP (Wv_dvd p1) hm rfl ec ek e hn hN hw (oneB_of hl xtab fun x hx => hx) fun x hx => hl.2 _ (xt_of hx).mem
end Go.Psi

/-! Three and more primes: the primes p2 that are as p1. -/
namespace Go.Psi

/-- groups: m, 1 / 24 modulo m; for each r: the squares; j with 24 j a square; with 24 j none. -/
def ytab : List (Nat × Nat × List (Nat × Nat × Nat × Nat)) := [(5005, 2294, [(5, 18, 18, 12), (7, 22, 104, 22), (11, 570, 1476, 570), (13, 5658, 2532, 5658)]), (323, 175, [(17, 107286, 23784, 107286), (19, 199410, 199410, 324876)]), (667, 139, [(23, 340830, 340830, 8047776), (29, 332473074, 332473074, 204397836)]), (1147, 239, [(31, 303908790, 1843574856, 303908790), (37, 96068509338, 41370444132, 96068509338)])]
def ztab : List (Nat × Nat × List Nat) := [(1763, 955, [41, 43]), (2491, 519, [47, 53]), (3599, 150, [59, 61]), (4757, 3766, [67, 71]), (5767, 4085, [73, 79]), (7387, 1539, [83, 89]), (9797, 7756, [97, 101]), (11021, 8725, [103, 107]), (12317, 9751, [109, 113]), (16637, 13171, [127, 131]), (19043, 10315, [137, 139]), (22499, 12187, [149, 151]), (25591, 18127, [157, 163]), (28891, 6019, [167, 173]), (32399, 1350, [179, 181]), (36863, 1536, [191, 193]), (39203, 21235, [197, 199])]
noncomputable def grpY (p m : Nat) (l : List (Nat × Nat × Nat × Nat)) : Nat :=
  List.rec (Nat.sub (Nat.pow 2 m) 1) (fun x _ ih => Nat.land (Nat.mul (Bool.rec x.2.2.2 x.2.2.1 (sqB x.1 x.2.1 p)) (rep x.1 (Nat.succ (Nat.div m x.1)))) ih) l
noncomputable def grpZ (m : Nat) (l : List Nat) : Nat :=
  List.rec (Nat.sub (Nat.pow 2 m) 1) (fun r _ ih => Nat.land (Nat.mul (Nat.sub (Nat.sub (Nat.pow 2 r) 1) 1) (rep r (Nat.succ (Nat.div m r)))) ih) l
def ytabOk : Bool := ytab.all fun g => decide (1 < g.1) && (decide (24 * g.2.1 % g.1 = 1) && (g.2.2.all fun x => decide (x.1 ∈ odds) && (decide (g.1 % x.1 = 0) && ((xtab.any fun y => decide (y.1 = x.1) && decide (y.2.1 = x.2.1)) && (decide (x.2.2.1 < 2 ^ x.1) && (decide (x.2.2.2 < 2 ^ x.1) && ((List.range x.1).all fun j =>
  (Nat.testBit x.2.2.1 j == qr x.1 (24 * j)) && (Nat.testBit x.2.2.2 j == (decide (24 * j % x.1 ≠ 0) && !qr x.1 (24 * j))))))))))
theorem ytab_ok : ytabOk = true := by decide +kernel
def ztabOk : Bool := ztab.all fun g => decide (1 < g.1) && (decide (24 * g.2.1 % g.1 = 1) && (g.2.2.all fun r => decide (2 < r) && (decide (r < 200) && decide (g.1 % r = 0))))
theorem ztab_ok : ztabOk = true := by decide +kernel
structure YT (m : Nat) (x : Nat × Nat × Nat × Nat) : Prop where
  mem : x.1 ∈ odds
  dvd : x.1 ∣ m
  xt : ∃ N, XT x.1 x.2.1 N
  ltR : x.2.2.1 < 2 ^ x.1
  ltN : x.2.2.2 < 2 ^ x.1
  sq : ∀ j, j < x.1 → x.2.2.1.testBit j = qr x.1 (24 * j)
  no : ∀ j, j < x.1 → x.2.2.2.testBit j = (decide (24 * j % x.1 ≠ 0) && !qr x.1 (24 * j))
theorem ytab_of {g : Nat × Nat × List (Nat × Nat × Nat × Nat)} (hg : g ∈ ytab) : 1 < g.1 ∧ 24 * g.2.1 % g.1 = 1 ∧ ∀ x ∈ g.2.2, YT g.1 x := by
  have h := List.all_eq_true.1 ytab_ok g hg
  simp only [Bool.and_eq_true, decide_eq_true_eq, List.all_eq_true, List.mem_range, beq_iff_eq, List.any_eq_true] at h
  obtain ⟨h1, h2, h3⟩ := h
  refine ⟨h1, h2, fun x hx => ?_⟩
  obtain ⟨k1, k2, ⟨y, hy, k3, k4⟩, k5, k6, k7⟩ := h3 x hx
  refine ⟨k1, Nat.dvd_of_mod_eq_zero k2, ⟨y.2.2, ?_⟩, k5, k6, fun j hj => (k7 j hj).1, fun j hj => (k7 j hj).2⟩
  have := xt_of hy
  rw [k3, k4] at this
  exact this
theorem ztab_of {g : Nat × Nat × List Nat} (hg : g ∈ ztab) : 1 < g.1 ∧ 24 * g.2.1 % g.1 = 1 ∧ ∀ r ∈ g.2.2, 2 < r ∧ r < 200 ∧ r ∣ g.1 := by
  have h := List.all_eq_true.1 ztab_ok g hg
  simp only [Bool.and_eq_true, decide_eq_true_eq, List.all_eq_true] at h
  exact ⟨h.1, h.2.1, fun r hr => ⟨(h.2.2 r hr).1, (h.2.2 r hr).2.1, Nat.dvd_of_mod_eq_zero (h.2.2 r hr).2.2⟩⟩
/-- the place of b + 24 (T0 + t). -/
theorem form_mod {r i b T0 t J : Nat} (hi : Cg r ((24 * i : Nat) : Int) ((1 : Nat) : Int)) (hJ : Cg r (J : Int) ((T0 + b * i + t : Nat) : Int)) : (24 * (J % r)) % r = (b + 24 * (T0 + t)) % r := by
  refine cg_iff.1 ?_
  have h1 : Cg r ((24 * (J % r) : Nat) : Int) ((24 * (T0 + b * i + t) : Nat) : Int) := by
    rw [Int.natCast_mul, Int.natCast_mul]
    exact (Cg.refl _ _).mul ((cg_mod r J).trans hJ)
  refine h1.trans ?_
  have e : 24 * (T0 + b * i + t) = b * (24 * i) + 24 * (T0 + t) := by
    have : 24 * (b * i) = b * (24 * i) := Nat.mul_left_comm _ _ _
    omega
  rw [e, Int.natCast_add, Int.natCast_add b, Int.natCast_mul]
  refine Cg.add ?_ (Cg.refl _ _)
  have := (Cg.refl r (b : Int)).mul hi
  rwa [Int.natCast_one, Int.mul_one] at this
theorem inv24 {m i r : Nat} (h : 24 * i % m = 1) (hm : 1 < m) (hd : r ∣ m) : Cg r ((24 * i : Nat) : Int) ((1 : Nat) : Int) :=
  (cg_iff.2 (by rw [h, Nat.mod_eq_of_lt hm] : 24 * i % m = 1 % m)).of_dvd hd
theorem grpY_lt (p m : Nat) : ∀ l, grpY p m l < 2 ^ m
  | [] => Nat.sub_lt (Nat.pow_pos (by omega)) (by omega)
  | x :: l => Nat.and_lt_two_pow _ (grpY_lt p m l)
theorem grpZ_lt (m : Nat) : ∀ l, grpZ m l < 2 ^ m
  | [] => Nat.sub_lt (Nat.pow_pos (by omega)) (by omega)
  | x :: l => Nat.and_lt_two_pow _ (grpZ_lt m l)
theorem grpY_bit {p m j : Nat} (hj : j < m) : ∀ l : List (Nat × Nat × Nat × Nat), (∀ x ∈ l, YT m x ∧ 24 * (j % x.1) % x.1 ≠ 0 ∧ qr x.1 (24 * (j % x.1)) = qr x.1 p) → (grpY p m l).testBit j = true
  | [], _ => ones_bit hj
  | x :: l, h => by
    obtain ⟨h1, h2, h3⟩ := h x (List.mem_cons_self ..)
    obtain ⟨N, hx⟩ := h1.xt
    have hpos : 0 < x.1 := by have := (odds_small _ h1.mem).1; omega
    have hlt : (Bool.rec x.2.2.2 x.2.2.1 (sqB x.1 x.2.1 p) : Nat) < 2 ^ x.1 := by cases sqB x.1 x.2.1 p <;> first | exact h1.ltR | exact h1.ltN
    refine (Nat.testBit_and _ _ _).trans ?_
    rw [rep_in hpos hlt hj, sqB_eq hx, ← h3]
    have hjr := Nat.mod_lt j hpos
    have a1 := h1.sq _ hjr
    have a2 := h1.no _ hjr
    rw [decide_eq_true h2, Bool.true_and] at a2
    have key : Nat.testBit (Bool.rec x.2.2.2 x.2.2.1 (qr x.1 (24 * (j % x.1))) : Nat) (j % x.1) = true := by
      cases hq : qr x.1 (24 * (j % x.1)) <;> rw [hq] at a1 a2
      · exact a2
      · exact a1
    rw [key, Bool.true_and]
    exact grpY_bit hj l fun y hy => h y (List.mem_cons_of_mem _ hy)
theorem two_off {r j : Nat} (hj : j < r) (h0 : j ≠ 0) : (2 ^ r - 1 - 1).testBit j = true := by
  have := ones_but (show 0 < r by omega) hj h0
  rwa [Nat.pow_zero] at this
theorem grpZ_bit {m j : Nat} (hj : j < m) : ∀ l : List Nat, (∀ r ∈ l, 0 < r ∧ j % r ≠ 0) → (grpZ m l).testBit j = true
  | [], _ => ones_bit hj
  | r :: l, h => by
    obtain ⟨h1, h2⟩ := h r (List.mem_cons_self ..)
    refine (Nat.testBit_and _ _ _).trans ?_
    have hlt : Nat.sub (Nat.sub (Nat.pow 2 r) 1) 1 < 2 ^ r := by
      have : 0 < 2 ^ r := Nat.pow_pos (by omega)
      show 2 ^ r - 1 - 1 < 2 ^ r
      omega
    rw [rep_in h1 hlt hj]
    have k : (Nat.sub (Nat.sub (Nat.pow 2 r) 1) 1).testBit (j % r) = true := two_off (Nat.mod_lt _ h1) h2
    rw [k, Bool.true_and]
    exact grpZ_bit hj l fun y hy => h y (List.mem_cons_of_mem _ hy)
theorem zExt {g : Nat × Nat × List Nat} (hg : g ∈ ztab) {T0 b L j t : Nat} (ht : t < L) (h : ∀ r, 2 < r → r < 200 → (b + 24 * (T0 + t)) % r ≠ 0) :
    (Nat.shiftRight (qx g.1 (grpZ g.1 g.2.2) L j) (Nat.mod (Nat.add T0 (Nat.mul b g.2.1)) g.1)).testBit t = true := by
  obtain ⟨g1, g2, g3⟩ := ztab_of hg
  have hpos : 0 < g.1 := by omega
  refine (qx_bit hpos (grpZ_lt _ _) ht (Nat.mod_lt _ hpos)).trans ?_
  show (grpZ g.1 g.2.2).testBit (((T0 + b * g.2.1) % g.1 + t) % g.1) = true
  refine grpZ_bit (Nat.mod_lt _ hpos) _ fun r hr => ?_
  obtain ⟨k1, k2, k3⟩ := g3 r hr
  refine ⟨by omega, fun e => h r k1 k2 ?_⟩
  rw [← form_mod (inv24 g2 g1 k3) (place_cg k3), e, Nat.mul_zero, Nat.zero_mod]
theorem yExt {g : Nat × Nat × List (Nat × Nat × Nat × Nat)} (hg : g ∈ ytab) {p T0 b L j t : Nat} (ht : t < L) (h : ∀ r ∈ odds, (b + 24 * (T0 + t)) % r ≠ 0 ∧ qr r (b + 24 * (T0 + t)) = qr r p) :
    (Nat.shiftRight (qx g.1 (grpY p g.1 g.2.2) L j) (Nat.mod (Nat.add T0 (Nat.mul b g.2.1)) g.1)).testBit t = true := by
  obtain ⟨g1, g2, g3⟩ := ytab_of hg
  have hpos : 0 < g.1 := by omega
  refine (qx_bit hpos (grpY_lt _ _ _) ht (Nat.mod_lt _ hpos)).trans ?_
  show (grpY p g.1 g.2.2).testBit (((T0 + b * g.2.1) % g.1 + t) % g.1) = true
  refine grpY_bit (Nat.mod_lt _ hpos) _ fun x hx => ?_
  have k := g3 x hx
  have e := form_mod (inv24 g2 g1 k.dvd) (place_cg (T0 := T0) (w := b) (t := t) k.dvd)
  obtain ⟨h1, h2⟩ := h x.1 k.mem
  exact ⟨k, by rw [e]; exact h1, by rw [qr_mod e]; exact h2⟩
def lY5005 : List (Nat × Nat × Nat × Nat) := [(5, 18, 18, 12), (7, 22, 104, 22), (11, 570, 1476, 570), (13, 5658, 2532, 5658)]
noncomputable def qY5005 (p L d : Nat) : Nat := qx (nat_lit 5005) (grpY p (nat_lit 5005) lY5005) L (Nat.add d (nat_lit 3))
theorem mY5005 : (5005, 2294, lY5005) ∈ ytab := by decide +kernel
def lY323 : List (Nat × Nat × Nat × Nat) := [(17, 107286, 23784, 107286), (19, 199410, 199410, 324876)]
noncomputable def qY323 (p L d : Nat) : Nat := qx (nat_lit 323) (grpY p (nat_lit 323) lY323) L (Nat.add d (nat_lit 6))
theorem mY323 : (323, 175, lY323) ∈ ytab := by decide +kernel
def lY667 : List (Nat × Nat × Nat × Nat) := [(23, 340830, 340830, 8047776), (29, 332473074, 332473074, 204397836)]
noncomputable def qY667 (p L d : Nat) : Nat := qx (nat_lit 667) (grpY p (nat_lit 667) lY667) L (Nat.add d (nat_lit 5))
theorem mY667 : (667, 139, lY667) ∈ ytab := by decide +kernel
def lY1147 : List (Nat × Nat × Nat × Nat) := [(31, 303908790, 1843574856, 303908790), (37, 96068509338, 41370444132, 96068509338)]
noncomputable def qY1147 (p L d : Nat) : Nat := qx (nat_lit 1147) (grpY p (nat_lit 1147) lY1147) L (Nat.add d (nat_lit 4))
theorem mY1147 : (1147, 239, lY1147) ∈ ytab := by decide +kernel
def lZ1763 : List Nat := [41, 43]
noncomputable def qZ1763 (L d : Nat) : Nat := qx (nat_lit 1763) (grpZ (nat_lit 1763) lZ1763) L (Nat.add d (nat_lit 4))
theorem mZ1763 : (1763, 955, lZ1763) ∈ ztab := by decide +kernel
def lZ2491 : List Nat := [47, 53]
noncomputable def qZ2491 (L d : Nat) : Nat := qx (nat_lit 2491) (grpZ (nat_lit 2491) lZ2491) L (Nat.add d (nat_lit 3))
theorem mZ2491 : (2491, 519, lZ2491) ∈ ztab := by decide +kernel
def lZ3599 : List Nat := [59, 61]
noncomputable def qZ3599 (L d : Nat) : Nat := qx (nat_lit 3599) (grpZ (nat_lit 3599) lZ3599) L (Nat.add d (nat_lit 3))
theorem mZ3599 : (3599, 150, lZ3599) ∈ ztab := by decide +kernel
def lZ4757 : List Nat := [67, 71]
noncomputable def qZ4757 (L d : Nat) : Nat := qx (nat_lit 4757) (grpZ (nat_lit 4757) lZ4757) L (Nat.add d (nat_lit 3))
theorem mZ4757 : (4757, 3766, lZ4757) ∈ ztab := by decide +kernel
def lZ5767 : List Nat := [73, 79]
noncomputable def qZ5767 (L d : Nat) : Nat := qx (nat_lit 5767) (grpZ (nat_lit 5767) lZ5767) L (Nat.add d (nat_lit 2))
theorem mZ5767 : (5767, 4085, lZ5767) ∈ ztab := by decide +kernel
def lZ7387 : List Nat := [83, 89]
noncomputable def qZ7387 (L d : Nat) : Nat := qx (nat_lit 7387) (grpZ (nat_lit 7387) lZ7387) L (Nat.add d (nat_lit 2))
theorem mZ7387 : (7387, 1539, lZ7387) ∈ ztab := by decide +kernel
def lZ9797 : List Nat := [97, 101]
noncomputable def qZ9797 (L d : Nat) : Nat := qx (nat_lit 9797) (grpZ (nat_lit 9797) lZ9797) L (Nat.add d (nat_lit 2))
theorem mZ9797 : (9797, 7756, lZ9797) ∈ ztab := by decide +kernel
def lZ11021 : List Nat := [103, 107]
noncomputable def qZ11021 (L d : Nat) : Nat := qx (nat_lit 11021) (grpZ (nat_lit 11021) lZ11021) L (Nat.add d (nat_lit 2))
theorem mZ11021 : (11021, 8725, lZ11021) ∈ ztab := by decide +kernel
def lZ12317 : List Nat := [109, 113]
noncomputable def qZ12317 (L d : Nat) : Nat := qx (nat_lit 12317) (grpZ (nat_lit 12317) lZ12317) L (Nat.add d (nat_lit 2))
theorem mZ12317 : (12317, 9751, lZ12317) ∈ ztab := by decide +kernel
def lZ16637 : List Nat := [127, 131]
noncomputable def qZ16637 (L d : Nat) : Nat := qx (nat_lit 16637) (grpZ (nat_lit 16637) lZ16637) L (Nat.add d (nat_lit 1))
theorem mZ16637 : (16637, 13171, lZ16637) ∈ ztab := by decide +kernel
def lZ19043 : List Nat := [137, 139]
noncomputable def qZ19043 (L d : Nat) : Nat := qx (nat_lit 19043) (grpZ (nat_lit 19043) lZ19043) L (Nat.add d (nat_lit 1))
theorem mZ19043 : (19043, 10315, lZ19043) ∈ ztab := by decide +kernel
def lZ22499 : List Nat := [149, 151]
noncomputable def qZ22499 (L d : Nat) : Nat := qx (nat_lit 22499) (grpZ (nat_lit 22499) lZ22499) L (Nat.add d (nat_lit 1))
theorem mZ22499 : (22499, 12187, lZ22499) ∈ ztab := by decide +kernel
def lZ25591 : List Nat := [157, 163]
noncomputable def qZ25591 (L d : Nat) : Nat := qx (nat_lit 25591) (grpZ (nat_lit 25591) lZ25591) L (Nat.add d (nat_lit 1))
theorem mZ25591 : (25591, 18127, lZ25591) ∈ ztab := by decide +kernel
def lZ28891 : List Nat := [167, 173]
noncomputable def qZ28891 (L d : Nat) : Nat := qx (nat_lit 28891) (grpZ (nat_lit 28891) lZ28891) L (Nat.add d (nat_lit 1))
theorem mZ28891 : (28891, 6019, lZ28891) ∈ ztab := by decide +kernel
def lZ32399 : List Nat := [179, 181]
noncomputable def qZ32399 (L d : Nat) : Nat := qx (nat_lit 32399) (grpZ (nat_lit 32399) lZ32399) L (Nat.add d (nat_lit 1))
theorem mZ32399 : (32399, 1350, lZ32399) ∈ ztab := by decide +kernel
def lZ36863 : List Nat := [191, 193]
noncomputable def qZ36863 (L d : Nat) : Nat := qx (nat_lit 36863) (grpZ (nat_lit 36863) lZ36863) L (Nat.add d (nat_lit 1))
theorem mZ36863 : (36863, 1536, lZ36863) ∈ ztab := by decide +kernel
def lZ39203 : List Nat := [197, 199]
noncomputable def qZ39203 (L d : Nat) : Nat := qx (nat_lit 39203) (grpZ (nat_lit 39203) lZ39203) L (Nat.add d (nat_lit 1))
theorem mZ39203 : (39203, 21235, lZ39203) ∈ ztab := by decide +kernel
noncomputable def maskZU (T0 b L d n : Nat) : Nat := (Nat.land (Nat.shiftRight (qZ1763 L d) (Nat.mod (Nat.add T0 (Nat.mul b (nat_lit 955))) (nat_lit 1763))) (Nat.land (Nat.shiftRight (qZ2491 L d) (Nat.mod (Nat.add T0 (Nat.mul b (nat_lit 519))) (nat_lit 2491))) (Nat.land (Nat.shiftRight (qZ3599 L d) (Nat.mod (Nat.add T0 (Nat.mul b (nat_lit 150))) (nat_lit 3599))) (Nat.land (Nat.shiftRight (qZ4757 L d) (Nat.mod (Nat.add T0 (Nat.mul b (nat_lit 3766))) (nat_lit 4757))) (Nat.land (Nat.shiftRight (qZ5767 L d) (Nat.mod (Nat.add T0 (Nat.mul b (nat_lit 4085))) (nat_lit 5767))) (Nat.land (Nat.shiftRight (qZ7387 L d) (Nat.mod (Nat.add T0 (Nat.mul b (nat_lit 1539))) (nat_lit 7387))) (Nat.land (Nat.shiftRight (qZ9797 L d) (Nat.mod (Nat.add T0 (Nat.mul b (nat_lit 7756))) (nat_lit 9797))) (Nat.land (Nat.shiftRight (qZ11021 L d) (Nat.mod (Nat.add T0 (Nat.mul b (nat_lit 8725))) (nat_lit 11021))) (Nat.land (Nat.shiftRight (qZ12317 L d) (Nat.mod (Nat.add T0 (Nat.mul b (nat_lit 9751))) (nat_lit 12317))) (Nat.land (Nat.shiftRight (qZ16637 L d) (Nat.mod (Nat.add T0 (Nat.mul b (nat_lit 13171))) (nat_lit 16637))) (Nat.land (Nat.shiftRight (qZ19043 L d) (Nat.mod (Nat.add T0 (Nat.mul b (nat_lit 10315))) (nat_lit 19043))) (Nat.land (Nat.shiftRight (qZ22499 L d) (Nat.mod (Nat.add T0 (Nat.mul b (nat_lit 12187))) (nat_lit 22499))) (Nat.land (Nat.shiftRight (qZ25591 L d) (Nat.mod (Nat.add T0 (Nat.mul b (nat_lit 18127))) (nat_lit 25591))) (Nat.land (Nat.shiftRight (qZ28891 L d) (Nat.mod (Nat.add T0 (Nat.mul b (nat_lit 6019))) (nat_lit 28891))) (Nat.land (Nat.shiftRight (qZ32399 L d) (Nat.mod (Nat.add T0 (Nat.mul b (nat_lit 1350))) (nat_lit 32399))) (Nat.land (Nat.shiftRight (qZ36863 L d) (Nat.mod (Nat.add T0 (Nat.mul b (nat_lit 1536))) (nat_lit 36863))) (Nat.land (Nat.shiftRight (qZ39203 L d) (Nat.mod (Nat.add T0 (Nat.mul b (nat_lit 21235))) (nat_lit 39203))) (Nat.sub (Nat.pow (nat_lit 2) n) (nat_lit 1)))))))))))))))))))
noncomputable def maskYU (p T0 b L d base : Nat) : Nat := (Nat.land (Nat.shiftRight (qY5005 p L d) (Nat.mod (Nat.add T0 (Nat.mul b (nat_lit 2294))) (nat_lit 5005))) (Nat.land (Nat.shiftRight (qY323 p L d) (Nat.mod (Nat.add T0 (Nat.mul b (nat_lit 175))) (nat_lit 323))) (Nat.land (Nat.shiftRight (qY667 p L d) (Nat.mod (Nat.add T0 (Nat.mul b (nat_lit 139))) (nat_lit 667))) (Nat.land (Nat.shiftRight (qY1147 p L d) (Nat.mod (Nat.add T0 (Nat.mul b (nat_lit 239))) (nat_lit 1147))) base))))
theorem maskZU_bit {T0 b L d n t : Nat} (ht : t < L) (hn : t < n) (h : ∀ r, 2 < r → r < 200 → (b + 24 * (T0 + t)) % r ≠ 0) : (maskZU T0 b L d n).testBit t = true :=
  (and_bit (zExt mZ1763 ht h) (and_bit (zExt mZ2491 ht h) (and_bit (zExt mZ3599 ht h) (and_bit (zExt mZ4757 ht h) (and_bit (zExt mZ5767 ht h) (and_bit (zExt mZ7387 ht h) (and_bit (zExt mZ9797 ht h) (and_bit (zExt mZ11021 ht h) (and_bit (zExt mZ12317 ht h) (and_bit (zExt mZ16637 ht h) (and_bit (zExt mZ19043 ht h) (and_bit (zExt mZ22499 ht h) (and_bit (zExt mZ25591 ht h) (and_bit (zExt mZ28891 ht h) (and_bit (zExt mZ32399 ht h) (and_bit (zExt mZ36863 ht h) (and_bit (zExt mZ39203 ht h) (ones_bit hn))))))))))))))))))
theorem maskYU_bit {p T0 b L d t base : Nat} (ht : t < L) (hb : base.testBit t = true) (h : ∀ r ∈ odds, (b + 24 * (T0 + t)) % r ≠ 0 ∧ qr r (b + 24 * (T0 + t)) = qr r p) : (maskYU p T0 b L d base).testBit t = true :=
  (and_bit (yExt mY5005 ht h) (and_bit (yExt mY323 ht h) (and_bit (yExt mY667 ht h) (and_bit (yExt mY1147 ht h) hb))))
end Go.Psi

/-! Three and more primes: all p2 of a p1. -/
namespace Go.Psi

/-- 2^(q - 1) is 1 modulo a prime; else it is none. -/
noncomputable def comp (q : Nat) : Bool := Bool.rec true (tst (Nat.sub q 1) q false more) (Nat.beq (pw2 (Nat.sub q 1) q) 1)
theorem comp_no {q : Nat} (h : comp q = true) (hq : Pr q) (hb : 40 < q) : False := by
  have ho := hq.odd (by omega)
  replace h : (Bool.rec true (tst (q - 1) q false more) (Nat.beq (pw2 (q - 1) q) 1) : Bool) = true := h
  rcases beq_cases (pw2 (q - 1) q) 1 with ⟨e, _⟩ | ⟨_, hne⟩
  · rw [e] at h
    rcases tst_spec _ _ _ _ h with ⟨a, ha, hn⟩ | h
    · exact hn (pwa_one (by omega) (fermat hq ho (not_dvd_p12 hb (more_p12 a ha))))
    · cases h
  · exact hne (pw2_one (by omega) (fermat hq ho (not_dvd_p12 hb (show 2 ∈ p12 by decide))))
/-- p1 and p2: done with. -/
noncomputable def pairA (R : Nat → Nat → Bool) (p1 o1 p2 o2 : Nat) : Bool := and2 (ordOk p2 o2) (pairC R p1 o1 p2 o2)
noncomputable def pairF (p1 o1 p2 : Nat) : Bool := Bool.rec (Bool.rec (Bool.rec (comp p2) true (pairA (rest p1 p2) p1 o1 p2 (odd3 p2))) true (pairA (rest p1 p2) p1 o1 p2 (oddp p2))) true (pairA (fun _ _ => false) p1 o1 p2 (oddr p2))
theorem pairA_no {R : Nat → Nat → Bool} {p1 o1 p2 o2 n c : Nat} (h : pairA R p1 o1 p2 o2 = true) (hR : ∀ n0 M, R n0 M = true → rest p1 p2 n0 M = true) (hn : Pass n) (hN : n ≤ NN) (hp1 : Pr p1) (hp2 : Pr p2) (e : n = p1 * p2 * c) (b1 : p1 ≤ 240200000) (b2 : p2 ≤ 240200000) (k1 : ordOk p1 o1 = true) (hno : ¬ One p1) : False := by
  have hP : 0 < p1 * p2 := Nat.mul_pos hp1.pos hp2.pos
  have hb := hn.big
  have hc0 : 0 < c := Nat.pos_of_ne_zero fun h0 => by rw [h0, Nat.mul_zero] at e; omega
  have d1 : p1 ∣ n := ⟨p2 * c, by rw [e, Nat.mul_assoc]⟩
  have dc : c ∣ n := ⟨p1 * p2, by rw [e, Nat.mul_comm]⟩
  obtain ⟨h2, h1⟩ := and2_iff.1 h
  obtain ⟨n0, M, k, ek, hr, hd⟩ := pairC_spec h1 hn hN hp1 hp2 e b1 b2 k1 h2
  exact rest_no (hR _ _ hr) hP hn hN e hd ek (class_w hn (by unfold NN at hN; exact hN) hp1 d1 hno hc0 dc)
theorem pairF_no {p1 o1 p2 n c : Nat} (h : pairF p1 o1 p2 = true) (hn : Pass n) (hN : n ≤ NN) (hp1 : Pr p1) (hp2 : Pr p2) (e : n = p1 * p2 * c) (b1 : p1 ≤ 240200000) (b2 : p2 ≤ 240200000) (k1 : ordOk p1 o1 = true) (hno : ¬ One p1) : False := by
  have d2 : p2 ∣ n := ⟨p1 * c, by rw [e, Nat.mul_assoc, Nat.mul_left_comm]⟩
  unfold pairF at h
  cases hw : pairA (fun _ _ => false) p1 o1 p2 (oddr p2) with
  | true => exact pairA_no hw (fun _ _ h => by cases h) hn hN hp1 hp2 e b1 b2 k1 hno
  | false =>
    rw [hw] at h
    replace h : (Bool.rec (Bool.rec (comp p2) true (pairA (rest p1 p2) p1 o1 p2 (odd3 p2))) true (pairA (rest p1 p2) p1 o1 p2 (oddp p2)) : Bool) = true := h
    cases hx : pairA (rest p1 p2) p1 o1 p2 (oddp p2) with
    | true => exact pairA_no hx (fun _ _ h => h) hn hN hp1 hp2 e b1 b2 k1 hno
    | false =>
      rw [hx] at h
      replace h : (Bool.rec (comp p2) true (pairA (rest p1 p2) p1 o1 p2 (odd3 p2)) : Bool) = true := h
      cases hy : pairA (rest p1 p2) p1 o1 p2 (odd3 p2) with
      | true => exact pairA_no hy (fun _ _ h => h) hn hN hp1 hp2 e b1 b2 k1 hno
      | false =>
        rw [hy] at h
        exact comp_no h hp2 (pass_big hn hp2 d2)
/-- all places of a row of bits, with a sieve. -/
noncomputable def walkG (g : Nat → Nat) (slow : Nat → Bool) (tg d X : Nat) : Bool :=
  tree (fun off X => Bool.rec false (leaf (fun i => g (Nat.add off i)) (fun i => slow (Nat.add off i)) 20000 X) (Nat.ble (Nat.succ X) lim)) tg 8192 d 0 (Nat.lor (Nat.shiftLeft X 64) tg)
theorem walkG_spec {g : Nat → Nat} {slow : Nat → Bool} {tg d X : Nat} (h : walkG g slow tg d X = true) {t : Nat} (ht : X.testBit t = true) : g t ≠ 1 ∨ slow t = true := by
  have := tree_spec _ (fun m => g m ≠ 1 ∨ slow m = true) (fun off Y hY t ht => by
    rcases ble_cases (Nat.succ Y) lim with ⟨e, hl⟩ | ⟨e, _⟩
    · rw [e] at hY
      exact leaf_spec _ _ _ _ hY hl t ht
    · rw [e] at hY; cases hY) _ 8192 d 0 _ h t (by
    show ((X <<< 64 ||| tg) >>> 64).testBit t = true
    rw [Nat.testBit_shiftRight, Nat.testBit_or, Nat.testBit_shiftLeft, Nat.add_sub_cancel_left, ht, decide_eq_true (by omega)]; rfl)
  rw [Nat.zero_add] at this
  exact this
/-- a small prime in q (none is asked below 3000). -/
noncomputable def gP (q : Nat) : Nat := Bool.rec 1 (Nat.gcd prim q) (Nat.ble 3000 q)
theorem gP_one {q : Nat} (hq : Pr q) : gP q = 1 := by
  unfold gP
  rcases ble_cases 3000 q with ⟨e, h⟩ | ⟨e, _⟩
  · rw [e]; exact prim_coprime hq h
  · rw [e]
noncomputable def clsP (p1 o1 b T0 d n : Nat) : Bool :=
  walkG (fun t => gP (Nat.add b (Nat.mul 24 (Nat.add T0 t)))) (fun t => pairF p1 o1 (Nat.add b (Nat.mul 24 (Nat.add T0 t)))) (Nat.mod (Nat.add T0 (Nat.mul 67108864 p1)) 18446744073709551616) (Nat.succ d)
    (maskYU p1 T0 b (Nat.mul 16384 (Nat.pow 2 d)) d (maskZU T0 b (Nat.mul 16384 (Nat.pow 2 d)) d n))
theorem clsP_spec {p1 o1 b T0 d n : Nat} (h : clsP p1 o1 b T0 d n = true) {t : Nat} (ht : t < 16384 * 2 ^ d) (hn : t < n) (hq : Pr (b + 24 * (T0 + t))) (hb : 200 < b + 24 * (T0 + t)) (hl : Like p1 (b + 24 * (T0 + t))) : pairF p1 o1 (b + 24 * (T0 + t)) = true := by
  unfold clsP at h
  have hz := maskZU_bit (T0 := T0) (b := b) (L := 16384 * 2 ^ d) (d := d) (n := n) (t := t) ht hn fun r h1 h2 => hq.mod_ne (by omega) (by omega)
  have hm := maskYU_bit (p := p1) (d := d) ht hz fun r hr => hl.2 r hr
  rcases walkG_spec h hm with h1 | h1
  · exact absurd (gP_one hq) h1
  · exact h1
/-- all p2 that are as p1, from p1 to where p1 p2^2 is N. -/
noncomputable def rowP (p1 o1 : Nat) : Bool :=
  (fun s => and2 (Nat.ble (Nat.succ NN) (Nat.mul (Nat.mul (Nat.succ s) (Nat.succ s)) p1)) (rowc (fun T0 d n => clsP p1 o1 (Nat.mod p1 24) T0 d n) (Nat.succ (Nat.div p1 24)) (Nat.succ (Nat.sub (Nat.div s 24) (Nat.div p1 24))))) (isq 60 (Nat.div NN p1) 1518500250)
theorem like_mod24 {p q : Nat} (h : Like p q) (hp : p % 3 ≠ 0) : q % 24 = p % 24 := by
  have h3 := h.2 3 (by decide)
  have k3 : q % 3 = p % 3 := by
    have a1 := (one_all (x := q)).1
    have a2 := (one_all (x := p)).1
    have b1 : q % 3 = 1 → qr 3 q = true := fun e => by rw [qr_mod (show q % 3 = 1 % 3 by omega)]; exact qr_one (by decide)
    have b2 : p % 3 = 1 → qr 3 p = true := fun e => by rw [qr_mod (show p % 3 = 1 % 3 by omega)]; exact qr_one (by decide)
    have h4 := h3.1
    have h5 := h3.2
    rcases (show q % 3 = 1 ∨ q % 3 = 2 by omega) with e | e
    · have := a2 (by rw [← h5]; exact b1 e); omega
    · rcases (show p % 3 = 1 ∨ p % 3 = 2 by omega) with e' | e'
      · have := a1 (by rw [h5]; exact b2 e'); omega
      · omega
  have := h.1
  omega
theorem rowP_spec {p1 o1 p2 : Nat} (h : rowP p1 o1 = true) (h3 : p1 % 3 ≠ 0) (hq : Pr p2) (hlt : p1 < p2) (h200 : 200 < p2) (hN : p1 * (p2 * p2) ≤ NN) (hl : Like p1 p2) : pairF p1 o1 p2 = true := by
  obtain ⟨h1, h2⟩ := and2_iff.1 h
  generalize isq 60 (Nat.div NN p1) 1518500250 = s at *
  have k3 : NN < (s + 1) * (s + 1) * p1 := Nat.le_of_ble_eq_true h1
  have hs : p2 ≤ s := Decidable.byContradiction fun hn => by
    have : (s + 1) * (s + 1) * p1 ≤ p2 * p2 * p1 := Nat.mul_le_mul_right _ (Nat.mul_le_mul (by omega) (by omega))
    rw [Nat.mul_comm (p2 * p2)] at this
    omega
  have e24 := like_mod24 hl h3
  have d1 := Nat.div_add_mod p1 24
  have d2 := Nat.div_add_mod p2 24
  have d3 : p2 / 24 ≤ s / 24 := Nat.div_le_div_right hs
  obtain ⟨T', d, n, hc, g1, g2, g3⟩ := rowc_spec h2 (T := p2 / 24) (show p1 / 24 + 1 ≤ p2 / 24 by omega) (by show p2 / 24 < p1 / 24 + 1 + (s / 24 - p1 / 24 + 1); omega)
  have e : Nat.mod p1 24 + 24 * (T' + (p2 / 24 - T')) = p2 := by show p1 % 24 + 24 * (T' + (p2 / 24 - T')) = p2; omega
  have := clsP_spec hc (t := p2 / 24 - T') (by omega) (by omega) (by rw [e]; exact hq) (by rw [e]; exact h200) (by rw [e]; exact hl)
  rwa [e] at this
end Go.Psi

/-! Three and more primes: primes as 1; all that is asked of a p1. -/
namespace Go.Psi

/-- the primes up to 251700000 that are as 1. -/
def OL : List Nat := [1083289, 2043001, 3818929, 4280329, 5390449, 5829121, 6104641, 6500209, 6589969, 6868801, 7504561, 7623529, 7887889, 7921489, 8254801, 8465209, 8803369, 9033649, 9257329, 9919849, 10105489, 10505401, 10582441, 10939009, 11182609, 11236681, 11395609, 11400481, 11597569, 11809561, 12338041, 12348961, 13154761, 13426009, 13807249, 15737929, 15861169, 16570129, 16754929, 16889161, 16922161, 16931209, 17139721, 17264641, 17378089, 17535961, 17666401, 17802409, 17898169, 18310681, 18517249, 18596449, 18760681, 18915649, 19487329, 19536001, 19554649, 19684729, 20043409, 20219809, 20322481, 21067201, 21172369, 21480001, 22000801, 22066801, 22081921, 22093369, 22197289, 22202569, 22294801, 22521409, 22637521, 22684561, 23565481, 23654569, 23888929, 24384649, 24531049, 24583441, 24818641, 24847729, 25390369, 25752169, 25846921, 25970569, 26044489, 26336209, 26669449, 26733529, 27048121, 27249121, 27920281, 27940201, 28034449, 28618489, 28633609, 28660129, 29178241, 29375641, 29588329, 29961649, 30321769, 30573481, 30619801, 31182649, 31241401, 31248361, 31319929, 31924489, 32345569, 32576569, 32666929, 32830249, 33082729, 34080601, 34163089, 34384249, 34430449, 34596769, 34919641, 35435761, 36015841, 36055009, 36101641, 36226129, 36427609, 36435169, 36813841, 36851929, 37028161, 37036609, 37228801, 37444969, 37793809, 37893769, 38100001, 38165689, 38176609, 38391721, 38767369, 38805649, 38919169, 39255841, 39329161, 39382729, 39407449, 39589489, 40351609, 41018041, 41384281, 41751889, 42163969, 42486889, 42687121, 42691489, 42698041, 42721849, 42872041, 43034209, 43197361, 43371241, 43682521, 44062489, 44410129, 44729161, 44962129, 45519769, 45762721, 45997249, 47287249, 47674201, 47778481, 47878009, 47932369, 48473881, 48543049, 48753769, 49085689, 49460161, 50742169, 50773321, 51032809, 51471289, 51550801, 51568969, 51852529, 52106209, 52346449, 52442329, 52685161, 52765969, 52887409, 52995121, 53111809, 53160409, 53973529, 54327001, 54951121, 54987529, 55146529, 55478329, 55514281, 55858009, 56403169, 56471809, 56988649, 57401569, 57559441, 57702241, 57935329, 58236721, 58578601, 58649809, 58809529, 58956769, 59315881, 59372569, 59499001, 59576521, 59744689, 59941729, 60054289, 60151081, 60214729, 60570409, 60651361, 60916249, 61113649, 61247761, 61383001, 62173609, 62295601, 62298889, 62365801, 62827249, 63620209, 63728809, 64133281, 64181209, 64311361, 64404649, 64515049, 64607761, 64682809, 64800649, 64825489, 64969969, 64974001, 65041729, 65357161, 65397721, 65520361, 65556241, 65716561, 65897329, 66400489, 66820009, 67381609, 67460761, 67769641, 67796089, 67858729, 68034121, 68115961, 68204761, 68381329, 68444401, 68451601, 68538649, 68646769, 69127249, 69392761, 69626041, 69930961, 70023409, 70023529, 70139689, 70259401, 70770001, 71030521, 72107281, 72303529, 72388801, 72592129, 72654409, 72842641, 72944041, 73065001, 73185841, 73313881, 73413649, 73473481, 73895761, 74845681, 75472609, 75582049, 75808489, 75974089, 76036921, 76250329, 76385761, 76385929, 76465321, 76661209, 77222161, 77869009, 78176641, 78649561, 78698929, 79148689, 79318009, 79399681, 79418641, 79510369, 79676809, 79895929, 80017081, 80203561, 80250361, 80491009, 80657329, 80755249, 81152569, 81169201, 81513961, 81593521, 81638881, 81661969, 82245601, 82286689, 82363009, 82474921, 82532641, 83443369, 83652409, 83890249, 83969209, 84275689, 84374161, 84666481, 84875569, 85017409, 85166041, 85645849, 86022049, 86046601, 86144041, 86199961, 86526001, 86848969, 87135049, 88081249, 88131289, 88336609, 89188969, 89288761, 89871961, 89902849, 90463129, 90578401, 90579889, 91267201, 91273009, 91296241, 91532809, 91711489, 91840849, 92296681, 92422201, 92548681, 92664289, 92700169, 93508321, 93586249, 93587209, 94360561, 94400329, 94713529, 94931929, 95150449, 95561761, 96136681, 96149089, 96304849, 96436729, 96522721, 96563041, 96843289, 96848761, 96957961, 97086889, 97094761, 97426081, 97616401, 97762921, 97946689, 97963009, 97972681, 98275321, 98297761, 99452809, 99590929, 99827809, 100490569, 100504849, 100781041, 100940449, 101141569, 101352241, 101982409, 102009961, 102010561, 102291121, 102295561, 102525721, 102597889, 102804601, 102899449, 103017721, 103111009, 103130329, 103184449, 103525249, 103725241, 103892881, 104224849, 104329681, 104818921, 104896009, 104973961, 104987089, 104988361, 104996761, 105094441, 105185809, 105487321, 105541489, 105738649, 106124929, 106230601, 106376209, 106415929, 106600321, 107035681, 107268529, 107701441, 107763769, 107880529, 107990689, 108015769, 108026689, 108345169, 108501121, 108522649, 108753649, 108922969, 109076881, 109359121, 109599169, 109900729, 110089849, 110116561, 110430961, 110490241, 110562841, 110606521, 110707081, 110761561, 110813641, 110900689, 111081721, 111245689, 111288241, 111592441, 111716641, 112074769, 112366081, 112436041, 112456369, 112521049, 112675369, 112732489, 112842601, 113430529, 113474761, 113479081, 113597929, 113633881, 113668801, 113977249, 114117721, 114242881, 114393841, 114420289, 114521521, 114530641, 114864649, 115039681, 115491289, 115500529, 115591921, 116062489, 116426209, 116747569, 116812081, 116924809, 117051169, 117060241, 117102241, 117128449, 117145081, 117311041, 117362569, 117424609, 117496681, 117565009, 117647209, 117733729, 118104529, 118174081, 118315129, 118404049, 118507489, 118638601, 118732849, 118967209, 119023921, 119270761, 119445481, 119756569, 119847289, 119904409, 120023929, 120052321, 120298201, 120827281, 121138081, 121147849, 121495201, 121535569, 121597921, 121675009, 121738369, 122007649, 122014489, 122190721, 122374729, 122438761, 122580481, 123013801, 123143329, 123463201, 123514609, 123516649, 123605689, 123790489, 123840649, 123982681, 124587241, 124601929, 124684921, 124776961, 125356729, 125669041, 125851441, 126033769, 126264121, 126278881, 126367201, 126544609, 126764401, 127622401, 127718809, 127817881, 128020201, 128101009, 128364289, 128401849, 128491609, 128587369, 129041641, 129106849, 129137761, 129212329, 129266281, 129529009, 129922321, 130092169, 130213561, 130224649, 130345609, 131001049, 131042209, 131300569, 131428441, 131543281, 131550241, 131610649, 131682769, 131705401, 131779561, 132203569, 132548641, 132698329, 133042849, 133390321, 134072689, 134112001, 134246401, 134270161, 134313001, 134349121, 134447041, 134591209, 134638729, 134827729, 134891689, 134898481, 135358129, 135376201, 135717481, 136238281, 136606369, 136868449, 136918681, 137298121, 137439241, 137876209, 138393649, 138563881, 138667489, 138759721, 139210009, 139490521, 139509841, 139819681, 140066809, 140610409, 141010321, 141086401, 141247681, 141502729, 141668641, 141800569, 141841561, 142225561, 142361209, 142409089, 142871569, 142915081, 143183569, 143483209, 143645329, 143670409, 143869489, 144189049, 144265489, 144336481, 144350761, 144912769, 145063801, 145365529, 145373881, 145523401, 145676521, 145679689, 145782121, 146103169, 146428489, 146465089, 146521489, 147373801, 147475441, 147493369, 147636889, 147820201, 148147609, 148162921, 148284889, 148811881, 149069449, 149086921, 149306089, 149521969, 149769481, 149839369, 149980609, 150033601, 150930649, 150939721, 150957361, 151006249, 151035481, 151110961, 151245649, 151319809, 151545241, 152081329, 152118121, 152440369, 152591209, 152713201, 153517081, 153633769, 153663409, 153907009, 154062841, 154128529, 154131121, 154345129, 154563049, 155382529, 155418649, 155696641, 155782201, 155923849, 156833161, 156841129, 157047361, 157331329, 157486729, 157620961, 157652881, 157839049, 157917841, 157981321, 158126329, 158154481, 158216809, 158296609, 158777089, 158869489, 159105769, 159222001, 159328849, 159459169, 159864769, 160323601, 160800721, 161575969, 161716129, 161755441, 162252841, 162335209, 162365641, 162578641, 163293601, 163516609, 163779529, 164089249, 164193121, 164474209, 165442729, 165990889, 166142089, 166184929, 166406881, 166447681, 166466161, 166899769, 167291881, 167475169, 167521561, 167567401, 167797081, 168196081, 168473761, 168478249, 168586441, 168608449, 168681529, 168784009, 168946801, 168985441, 169269409, 169273129, 169457929, 169730089, 169758241, 170083369, 170454001, 170570929, 170578489, 170666521, 170775361, 171047881, 171105169, 171135721, 171451921, 171509881, 172025569, 172260001, 172275601, 172541209, 172547281, 172652089, 172724161, 172784329, 172952641, 172995001, 173103529, 173518489, 173644969, 173789641, 174331609, 174363289, 174408529, 174895681, 175059481, 175110049, 175244281, 175245841, 175260121, 175355569, 175484929, 175684609, 175712161, 175742449, 175959001, 176056609, 176281249, 176709289, 176761729, 176776609, 177175441, 177362641, 177373681, 177757969, 178452481, 178921681, 178964041, 179099761, 179147929, 179293321, 179780329, 180032161, 180161809, 180229729, 180452281, 180537289, 180566929, 180593449, 180711001, 180751561, 181342561, 181409881, 181452049, 181599289, 182102761, 182414761, 182618881, 182668249, 182710609, 182759329, 183073081, 183297409, 183593281, 183608569, 183787321, 184008841, 184279489, 184614049, 184673449, 184777609, 185269681, 185309569, 185345161, 185787001, 185790361, 185814841, 185870281, 186028441, 186136129, 186512041, 186535969, 186722449, 187276489, 187332601, 187496761, 187720009, 187782169, 187819129, 188424721, 188427409, 188624881, 188846641, 189059809, 189134521, 189140449, 189632689, 189805009, 189824881, 190223881, 190253281, 190261009, 191111281, 191121529, 191711809, 192695281, 192800521, 193011289, 193308361, 193528729, 193791049, 194067241, 194345449, 194361049, 194405689, 194471281, 194534209, 194591329, 194723929, 194738041, 194903641, 195094201, 195188569, 195197209, 195666409, 196022401, 196341601, 196608889, 196779361, 196789849, 196878529, 197108209, 197237401, 197316289, 197367769, 197389201, 197707129, 197797609, 197888161, 198030361, 198037921, 198043609, 198173089, 198488761, 198663721, 198711241, 198767209, 198854881, 198857569, 198910009, 198956521, 199049041, 199264081, 199448089, 199672489, 199698409, 199797361, 200362009, 200440321, 200687041, 200777329, 201369169, 201372649, 201533809, 201615241, 201735769, 202042129, 202126681, 202603129, 202667089, 202948321, 203435761, 203771929, 204001249, 204153049, 204324481, 204446089, 204614881, 204712369, 204990361, 205083649, 205355329, 205472089, 206071009, 206300329, 206384161, 206974681, 207011401, 207131929, 207193561, 207276001, 207284401, 207308929, 207587689, 207696889, 207980161, 208018561, 208189081, 208249441, 208312729, 208587289, 208597489, 209252761, 209552641, 209666521, 209762809, 210042121, 210677041, 210995929, 211162249, 211300489, 211322329, 211474561, 211576369, 211984369, 212202169, 212332129, 212890441, 212929201, 212994721, 213029569, 213130681, 213246049, 213259201, 213343321, 213788689, 213822361, 213924649, 214112809, 214158961, 214836241, 215244241, 215386609, 215746441, 215885569, 216265921, 216519601, 216585121, 217137649, 217183849, 217200481, 217273081, 217431769, 217471489, 217559281, 217849921, 217906441, 218072089, 218754649, 218975761, 219073969, 219306649, 219496369, 220051129, 220366129, 220404409, 220451401, 220529521, 220877281, 220954969, 221021761, 221078881, 221357161, 221391361, 221735089, 221972521, 222111289, 222207049, 222213289, 222793321, 222821041, 222876889, 223134409, 223553929, 223562329, 223728961, 224287561, 224362609, 224590081, 225191521, 225443689, 225477121, 225578929, 225808969, 226064281, 226297369, 226518769, 226694329, 226939969, 227018089, 227261329, 227351881, 227490649, 227505721, 227530801, 227896321, 228022369, 228037681, 228053281, 228653569, 229052041, 229225441, 229474249, 229483081, 229532689, 230196409, 230238121, 230303089, 230568361, 230661601, 230769289, 230867641, 230893441, 230991289, 231078961, 231162409, 231221929, 231254521, 231553921, 232150801, 232417201, 232491169, 232498561, 232669369, 232704481, 232782001, 233016169, 233456521, 233655601, 233736409, 234165649, 234640849, 234743161, 234813121, 234835441, 234847369, 235195801, 235312081, 235463881, 235615249, 235780801, 236693209, 236840041, 237235441, 237257329, 237346201, 237379321, 237470689, 237948481, 238216729, 238319449, 238383601, 238686529, 238783801, 238792009, 239106169, 239198521, 239367241, 239465521, 239687809, 239751121, 240020089, 240242809, 240361081, 240378961, 240818449, 240920761, 241010641, 241094569, 241281049, 241975561, 242119201, 242451169, 242845849, 243102721, 243255769, 243375889, 243790369, 243837169, 243853801, 243948721, 243996769, 244128889, 244652521, 244668649, 244982929, 245339329, 245385529, 245427121, 245458249, 245694289, 245765881, 245828521, 246199801, 246231001, 246394201, 246572881, 246603361, 246630409, 246697201, 246837361, 247025689, 247097449, 247099609, 247406041, 247473769, 247670329, 247737961, 248016409, 248057209, 248263129, 248604409, 248614921, 249186961, 249314521, 249498649, 249616249, 249647161, 249720241, 249930409, 250062121, 250138849, 250393081, 250640569, 250823329, 250931641, 250982449, 251134321, 251174401, 251643001]
noncomputable def elem (x : Nat) (l : List Nat) : Bool := List.rec false (fun y _ ih => Bool.rec ih true (Nat.beq x y)) l
theorem elem_spec {x : Nat} : ∀ l : List Nat, elem x l = true → x ∈ l
  | [], h => by cases h
  | y :: l, h => by
    replace h : (Bool.rec (elem x l) true (Nat.beq x y) : Bool) = true := h
    rcases beq_cases x y with ⟨_, e⟩ | ⟨e, _⟩
    · rw [e]; exact List.mem_cons_self ..
    · rw [e] at h; exact List.mem_cons_of_mem _ (elem_spec l h)
noncomputable def clsO (T0 d n : Nat) : Bool :=
  walkG (fun t => gP (Nat.add 1 (Nat.mul 24 (Nat.add T0 t)))) (fun t => Bool.rec (comp (Nat.add 1 (Nat.mul 24 (Nat.add T0 t)))) true (elem (Nat.add 1 (Nat.mul 24 (Nat.add T0 t))) OL)) (Nat.succ (Nat.mod T0 1152921504606846976)) (Nat.succ d)
    (maskYU 1 T0 1 (Nat.mul 16384 (Nat.pow 2 d)) d (maskZU T0 1 (Nat.mul 16384 (Nat.pow 2 d)) d n))
theorem clsO_spec {T0 d n : Nat} (h : clsO T0 d n = true) {t : Nat} (ht : t < 16384 * 2 ^ d) (hn : t < n) (hq : Pr (1 + 24 * (T0 + t))) (hb : 200 < 1 + 24 * (T0 + t)) (hl : One (1 + 24 * (T0 + t))) : 1 + 24 * (T0 + t) ∈ OL := by
  unfold clsO at h
  have hz := maskZU_bit (T0 := T0) (b := 1) (L := 16384 * 2 ^ d) (d := d) (n := n) (t := t) ht hn fun r h1 h2 => hq.mod_ne (by omega) (by omega)
  have hm := maskYU_bit (p := 1) (d := d) ht hz fun r hr => ⟨(hl.2 r hr).1, by rw [(hl.2 r hr).2, qr_one hr]⟩
  rcases walkG_spec h hm with h1 | h1
  · exact absurd (gP_one hq) h1
  · replace h1 : (Bool.rec (comp (1 + 24 * (T0 + t))) true (elem (1 + 24 * (T0 + t)) OL) : Bool) = true := h1
    cases hx : elem (1 + 24 * (T0 + t)) OL with
    | true => exact elem_spec _ hx
    | false => rw [hx] at h1; exact (comp_no h1 hq (by omega)).elim
theorem one_mod24 {x : Nat} (h : One x) : x % 24 = 1 := by
  have h3 := (one_all (x := x)).1 (h.2 3 (by decide)).2
  have := h.1
  omega
/-- p1 with the primes as 1. -/
noncomputable def rowL (p1 o1 : Nat) (l : List Nat) : Bool :=
  List.rec true (fun x _ ih => ite2 (Nat.ble x p1) ih (ite2 (Nat.ble (Nat.mul p1 (Nat.mul x x)) NN) (and2 (pairF p1 o1 x) ih) true)) l
def srt : Nat → List Nat → Bool
  | _, [] => true
  | a, x :: l => decide (a ≤ x) && srt x l
theorem srt_ok : srt 0 OL = true := by decide +kernel
theorem srt_le : ∀ (l : List Nat) (a : Nat), srt a l = true → ∀ x ∈ l, a ≤ x
  | y :: l, a, h, x, hx => by
    rw [srt, Bool.and_eq_true, decide_eq_true_eq] at h
    rcases List.mem_cons.1 hx with rfl | hx
    · exact h.1
    · exact Nat.le_trans h.1 (srt_le l y h.2 x hx)
theorem rowL_spec {p1 o1 x : Nat} (hlt : p1 < x) (hN : p1 * (x * x) ≤ NN) : ∀ (l : List Nat) (a : Nat), srt a l = true → rowL p1 o1 l = true → x ∈ l → pairF p1 o1 x = true
  | y :: l, a, hs, h, hx => by
    rw [srt, Bool.and_eq_true, decide_eq_true_eq] at hs
    have hyx : y ≤ x := by
      rcases List.mem_cons.1 hx with rfl | hx
      · exact Nat.le_refl _
      · exact srt_le l y hs.2 x hx
    replace h : ite2 (Nat.ble y p1) (rowL p1 o1 l) (ite2 (Nat.ble (p1 * (y * y)) NN) (and2 (pairF p1 o1 y) (rowL p1 o1 l)) true) = true := h
    have hyN : Nat.ble (p1 * (y * y)) NN = true := Nat.ble_eq_true_of_le (Nat.le_trans (Nat.mul_le_mul_left p1 (Nat.mul_le_mul hyx hyx)) hN)
    rcases ble_cases y p1 with ⟨e, hle⟩ | ⟨e, _⟩
    · rcases List.mem_cons.1 hx with rfl | hx
      · omega
      · exact rowL_spec hlt hN l y hs.2 ((ite2_iff.1 h).1 e) hx
    · obtain ⟨h1, h2⟩ := and2_iff.1 ((ite2_iff.1 ((ite2_iff.1 h).2 e)).1 hyN)
      rcases List.mem_cons.1 hx with rfl | hx
      · exact h1
      · exact rowL_spec hlt hN l y hs.2 h2 hx
/-- all that is asked of p1. -/
noncomputable def okQ (p1 o1 : Nat) : Bool := and2 (ordOk p1 o1) (and2 (Bool.rec true false (oneB p1 xtab)) (and2 (rowP p1 o1) (rowL p1 o1 OL)))
noncomputable def okP (p1 : Nat) : Bool := Bool.rec (okQ p1 (odd3 p1)) true (okQ p1 (oddp p1))
theorem okP_spec {p1 : Nat} (h : okP p1 = true) : ∃ o1, ordOk p1 o1 = true ∧ ¬ One p1 ∧ rowP p1 o1 = true ∧ rowL p1 o1 OL = true := by
  have key : ∀ o1, okQ p1 o1 = true → ordOk p1 o1 = true ∧ ¬ One p1 ∧ rowP p1 o1 = true ∧ rowL p1 o1 OL = true := fun o1 h => by
    obtain ⟨h1, h2⟩ := and2_iff.1 h
    obtain ⟨h3, h4⟩ := and2_iff.1 h2
    obtain ⟨h5, h6⟩ := and2_iff.1 h4
    refine ⟨h1, fun ho => ?_, h5, h6⟩
    rw [oneB_of ho xtab fun x hx => hx] at h3
    cases h3
  unfold okP at h
  cases hx : okQ p1 (oddp p1) with
  | true => exact ⟨_, key _ hx⟩
  | false => rw [hx] at h; exact ⟨_, key _ h⟩
/-- beside 1083289. -/
noncomputable def pairQ (p2 o : Nat) : Bool := and2 (ordOk p2 o) (pairC (restL fail) 1083289 (oddp 1083289) p2 o)
noncomputable def pairB (p2 : Nat) : Bool := Bool.rec (Bool.rec (pairQ p2 (oddr p2)) true (pairQ p2 (odd3 p2))) true (pairQ p2 (oddp p2))
theorem pairB_some {p2 : Nat} (h : pairB p2 = true) : ∃ o, pairQ p2 o = true := by
  unfold pairB at h
  cases hx : pairQ p2 (oddp p2) with
  | true => exact ⟨_, hx⟩
  | false =>
    rw [hx] at h
    replace h : (Bool.rec (pairQ p2 (oddr p2)) true (pairQ p2 (odd3 p2)) : Bool) = true := h
    cases hy : pairQ p2 (odd3 p2) with
    | true => exact ⟨_, hy⟩
    | false => rw [hy] at h; exact ⟨_, h⟩
theorem ord_one : ordOk 1083289 (oddp 1083289) = true := by decide +kernel
theorem pairB_no {p2 n c : Nat} (h : pairB p2 = true) (hn : Pass n) (hN : n ≤ NN) (hp1 : Pr 1083289) (hp2 : Pr p2) (e : n = 1083289 * p2 * c) (b2 : p2 ≤ 240200000) : False := by
  obtain ⟨o, ho⟩ := pairB_some h
  obtain ⟨h1, h2⟩ := and2_iff.1 ho
  have hb := hn.big
  have hc0 : 0 < c := Nat.pos_of_ne_zero fun h0 => by rw [h0, Nat.mul_zero] at e; omega
  obtain ⟨n0, M, k, ek, hr, hd⟩ := pairC_spec h2 hn hN hp1 hp2 e (by omega) b2 ord_one h1
  by_cases hM : M = 0
  · subst hM
    have e0 : n = n0 + 0 * 0 := by rw [ek, Nat.mul_zero]
    have h3 : fail (n0 + 0 * 0) = true := rec_all (f := fun k => fail (Nat.add n0 (Nat.mul k 0))) hr 0 (Nat.succ_pos _)
    rw [← e0] at h3
    exact fail_no hn (by unfold NN at hN; omega) h3
  · have h3 := restL_spec hr (Nat.pos_of_ne_zero hM) (k := k) (by rw [← ek]; exact hN)
    rw [← ek] at h3
    exact fail_no hn (by unfold NN at hN; omega) h3
end Go.Psi

/-! What passes is a prime. -/
namespace Go.Psi

/-- what the kernel's runs show of three and more primes. -/
structure Runs3 : Prop where
  small : ∀ p ∈ primL, 40 < p → okP p = true
  big : ∀ p, p % 2 = 1 → 40 < p → p ≤ 1321123 → p ≠ 1083289 → Nat.gcd prim p = 1 → okP p = true
  ones : ∀ j, j < 20 → clsO (Nat.mul 524288 j) 5 524288 = true
  one1 : ∀ p, p % 2 = 1 → 1083289 < p → p ≤ 1458965 → Nat.gcd prim p = 1 → pairB p = true
noncomputable def primNo (x : Nat) : Nat → Bool := Nat.rec true (fun d ih => and2 (Bool.rec true (Nat.ble x (Nat.add d 2)) (Nat.beq (Nat.mod x (Nat.add d 2)) 0)) ih)
noncomputable def primLOk : Bool := List.rec true (fun x _ ih => and2 (primNo x 54) ih) primL
theorem primL_ok : primLOk = true := by decide +kernel
theorem primNo_spec {x : Nat} : ∀ {n : Nat}, primNo x n = true → ∀ d, d < n → x % (d + 2) = 0 → x ≤ d + 2
  | n + 1, h, d, hd, h0 => by
    obtain ⟨h1, h2⟩ := and2_iff.1 h
    by_cases e : d = n
    · subst e
      rcases beq_cases (Nat.mod x (Nat.add d 2)) 0 with ⟨k, _⟩ | ⟨_, k⟩
      · rw [k] at h1; exact Nat.le_of_ble_eq_true h1
      · exact absurd h0 k
    · exact primNo_spec h2 d (by omega) h0
theorem primL_ge : ∀ x ∈ primL, 2 ≤ x := by
  have h : (primL.all fun x => decide (2 ≤ x)) = true := by decide +kernel
  intro x hx
  exact of_decide_eq_true (List.all_eq_true.1 h x hx)
theorem primL_lt : ∀ x ∈ primL, x < 3000 := by
  intro x hx
  have := List.all_eq_true.1 primL_small x hx
  simp only [Bool.and_eq_true, decide_eq_true_eq] at this
  exact this.2
theorem primL_pr : ∀ x ∈ primL, Pr x := by
  have key : ∀ l : List Nat, (List.rec true (fun x _ ih => and2 (primNo x 54) ih) l : Bool) = true → ∀ x ∈ l, primNo x 54 = true := by
    intro l
    induction l with
    | nil => intro _ x hx; cases hx
    | cons y l ih =>
      intro h x hx
      obtain ⟨h1, h2⟩ := and2_iff.1 h
      rcases List.mem_cons.1 hx with rfl | hx
      · exact h1
      · exact ih h2 x hx
  intro x hx
  have h := key primL primL_ok x hx
  have h2 := primL_ge x hx
  have h3 := primL_lt x hx
  obtain ⟨l, hl, hd, hmin⟩ := exists_least h2
  have hl2 := hl.1
  by_cases e : l = x
  · rw [← e]; exact hl
  · exfalso
    obtain ⟨m, hm⟩ := hd
    have hm1 : 2 ≤ m := by
      rcases Nat.lt_or_ge m 2 with h4 | h4
      · have : m = 0 ∨ m = 1 := by omega
        rcases this with rfl | rfl
        · omega
        · omega
      · exact h4
    have h4 := hmin m hm1 ⟨l, by rw [Nat.mul_comm]; exact hm⟩
    have h5 : l * l ≤ x := by rw [hm]; exact Nat.mul_le_mul_left l h4
    have h6 : l < 56 := by
      rcases Nat.lt_or_ge l 56 with h7 | h7
      · exact h7
      · have := Nat.mul_le_mul h7 h7; omega
    have h7 := primNo_spec h (l - 2) (by omega) (by rw [show l - 2 + 2 = l by omega]; exact Nat.mod_eq_zero_of_dvd ⟨m, hm⟩)
    have h8 : l < x := by
      have : l * 2 ≤ l * m := Nat.mul_le_mul_left l hm1
      omega
    omega
/-- a prime is in the list, or coprime to all in it. -/
theorem prim_cases {p : Nat} (hp : Pr p) : p ∈ primL ∨ Nat.gcd prim p = 1 := by
  by_cases h : p ∣ prim
  · rw [prim_eq] at h
    obtain ⟨x, hx, hd⟩ := dvd_prodL hp primL h
    have := hp.eq_of_dvd (primL_pr x hx) hd
    rw [this]; exact .inl hx
  · refine .inr ?_
    have := hp.coprime h
    rw [Nat.gcd_comm]; exact this
theorem okP_of (R : Runs3) {p : Nat} (hp : Pr p) (hb : 40 < p) (hle : p ≤ 1321123) (hne : p ≠ 1083289) : okP p = true := by
  rcases prim_cases hp with h | h
  · exact R.small p h hb
  · exact R.big p (hp.odd (by omega)) hb hle hne h
theorem one_mem (R : Runs3) {x : Nat} (hp : Pr x) (hb : 200 < x) (hle : x ≤ 240200000) (h : One x) : x ∈ OL := by
  have e := one_mod24 h
  have d := Nat.div_add_mod x 24
  have d2 := Nat.div_add_mod (x / 24) 524288
  have d3 := Nat.mod_lt (x / 24) (show 524288 > 0 by omega)
  have hc := R.ones (x / 24 / 524288) (by omega)
  have e2 : 1 + 24 * (Nat.mul 524288 (x / 24 / 524288) + x / 24 % 524288) = x := by
    show 1 + 24 * (524288 * (x / 24 / 524288) + x / 24 % 524288) = x
    omega
  have := clsO_spec hc (t := x / 24 % 524288) (by omega) d3 (by rw [e2]; exact hp) (by rw [e2]; exact hb) (by rw [e2]; exact h)
  rwa [e2] at this
/-- below 201 no two are alike, and none is as 1. -/
def any13 (x : Nat) : Bool := [2, 3, 5, 7, 11, 13].any fun d => decide (x % d = 0)
noncomputable def smallLike : Bool := (List.range 160).all fun i => any13 (41 + i) || (((List.range i).all fun j => any13 (41 + j) || !(likeB (41 + j) (41 + i) xtab)) && !(oneB (41 + i) xtab))
theorem smallLike_ok : smallLike = true := by decide +kernel
theorem pr_small13 {q : Nat} (hq : Pr q) (hb : 40 < q) : any13 q = false := by
  cases hc : any13 q with
  | false => rfl
  | true =>
    exfalso
    obtain ⟨d, hd, h1⟩ := List.any_eq_true.1 hc
    have h2 := of_decide_eq_true h1
    have h3 : d = 2 ∨ d = 3 ∨ d = 5 ∨ d = 7 ∨ d = 11 ∨ d = 13 := by simpa using hd
    rcases hq.2 d (Nat.dvd_of_mod_eq_zero h2) with e | e <;> omega
theorem big_like {p q : Nat} (hp : Pr p) (hq : Pr q) (hb : 40 < p) (hlt : p < q) (h : Like p q ∨ One q) : 200 < q := by
  rcases Nat.lt_or_ge 200 q with h' | h'
  · exact h'
  exfalso
  have k := List.all_eq_true.1 smallLike_ok (q - 41) (List.mem_range.2 (by omega))
  rw [show 41 + (q - 41) = q by omega, pr_small13 hq (by omega), Bool.false_or, Bool.and_eq_true] at k
  rcases h with h | h
  · have k2 := List.all_eq_true.1 k.1 (p - 41) (List.mem_range.2 (by omega))
    rw [show 41 + (p - 41) = p by omega, pr_small13 hp hb, Bool.false_or, likeB_of h xtab fun x hx => hx] at k2
    cases k2
  · have k2 := k.2
    rw [oneB_of h xtab fun x hx => hx] at k2
    cases k2
noncomputable def olSmall : Bool := List.rec true (fun x _ ih => and2 (Bool.rec (Nat.ble 1321124 x) true (Nat.beq x 1083289)) ih) OL
theorem olSmall_ok : olSmall = true := by decide +kernel
theorem ol_small {x : Nat} (hx : x ∈ OL) (h : x ≤ 1321123) : x = 1083289 := by
  have key : ∀ l : List Nat, (List.rec true (fun x _ ih => and2 (Bool.rec (Nat.ble 1321124 x) true (Nat.beq x 1083289)) ih) l : Bool) = true → ∀ x ∈ l, (Bool.rec (Nat.ble 1321124 x) true (Nat.beq x 1083289) : Bool) = true := by
    intro l
    induction l with
    | nil => intro _ x hx; cases hx
    | cons y l ih =>
      intro h x hx
      obtain ⟨h1, h2⟩ := and2_iff.1 h
      rcases List.mem_cons.1 hx with rfl | hx
      · exact h1
      · exact ih h2 x hx
  have k := key OL olSmall_ok x hx
  rcases beq_cases x 1083289 with ⟨_, e⟩ | ⟨e, _⟩
  · exact e
  · rw [e] at k
    have : 1321124 ≤ x := Nat.le_of_ble_eq_true k
    omega
/-- three and more primes. -/
theorem three (R : Runs3) {n p1 p2 c : Nat} (hn : Pass n) (hN : n ≤ NN) (hp1 : Pr p1) (hp2 : Pr p2) (hlt : p1 < p2) (hc : p2 ≤ c) (e : n = p1 * p2 * c) : False := by
  have d1 : p1 ∣ n := ⟨p2 * c, by rw [e, Nat.mul_assoc]⟩
  have d2 : p2 ∣ n := ⟨p1 * c, by rw [e, Nat.mul_assoc, Nat.mul_left_comm]⟩
  have b1 := pass_big hn hp1 d1
  have hN2 : p1 * (p2 * p2) ≤ NN := by
    refine Nat.le_trans ?_ hN
    rw [e, Nat.mul_assoc]
    exact Nat.mul_le_mul_left p1 (Nat.mul_le_mul_left p2 hc)
  have h1 : p1 ≤ 1321123 := by
    rcases Nat.lt_or_ge 1321123 p1 with h | h
    · exfalso
      have : 1321124 * (1321124 * 1321124) ≤ p1 * (p2 * p2) := Nat.mul_le_mul h (Nat.mul_le_mul (by omega) (by omega))
      unfold NN at hN2
      omega
    · exact h
  have h2 : p2 ≤ 240200000 := by
    rcases Nat.lt_or_ge 240200000 p2 with h | h
    · exfalso
      have : 41 * (240200001 * 240200001) ≤ p1 * (p2 * p2) := Nat.mul_le_mul b1 (Nat.mul_le_mul h h)
      unfold NN at hN2
      omega
    · exact h
  by_cases h0 : p1 = 1083289
  · subst h0
    have h3 : p2 ≤ 1458965 := by
      rcases Nat.lt_or_ge 1458965 p2 with h | h
      · exfalso
        have : 1083289 * (1458966 * 1458966) ≤ 1083289 * (p2 * p2) := Nat.mul_le_mul_left _ (Nat.mul_le_mul h h)
        unfold NN at hN2
        omega
      · exact h
    have h4 : Nat.gcd prim p2 = 1 := by
      rcases prim_cases hp2 with h | h
      · have := primL_lt p2 h; omega
      · exact h
    exact pairB_no (R.one1 p2 (hp2.odd (by omega)) hlt h3 h4) hn hN hp1 hp2 e h2
  · have hok := okP_of R hp1 b1 h1 h0
    obtain ⟨o1, k1, k2, k3, k4⟩ := okP_spec hok
    have h3 : p1 % 3 ≠ 0 := hp1.mod_ne (by omega) (by omega)
    have op := hp1.odd (by omega)
    have hcl := prime_class hn hp1 hp2 d1 d2 k2
    have h200 := big_like hp1 hp2 b1 hlt hcl
    have hf : pairF p1 o1 p2 = true := by
      rcases hcl with h | h
      · exact rowP_spec k3 h3 hp2 hlt h200 hN2 h
      · exact rowL_spec hlt hN2 OL 0 srt_ok k4 (one_mem R hp2 h200 h2 h)
    exact pairF_no hf hn hN hp1 hp2 e (by omega) h2 k1 k2
/-- no composite number up to 2^61 passes the test to the 12 bases. -/
theorem psi (R : Runs) (R3 : Runs3) {n : Nat} (hn : Pass n) (hN : n ≤ NN) : Pr n := by
  have hb := hn.big
  obtain ⟨p1, hp1, ⟨m, hm⟩, hmin⟩ := exists_least (n := n) (by omega)
  by_cases e1 : m = 1
  · rw [hm, e1, Nat.mul_one]; exact hp1
  exfalso
  have hm0 : m ≠ 0 := fun h => by rw [h, Nat.mul_zero] at hm; omega
  obtain ⟨p2, hp2, ⟨c, hc⟩, hmin2⟩ := exists_least (n := m) (by omega)
  have d2 : p2 ∣ n := ⟨p1 * c, by rw [hm, hc, Nat.mul_left_comm]⟩
  have hne : p1 ≠ p2 := fun h => no_square hn hN hp1 ⟨c, by rw [hm, hc, ← h, Nat.mul_assoc]⟩
  have hle := hmin p2 hp2.1 d2
  by_cases e2 : c = 1
  · have e : n = p1 * p2 := by rw [hm, hc, e2, Nat.mul_one]
    rw [e] at hn hN
    exact two_primes R hp1 hp2 hne hn hN
  · have hc0 : c ≠ 0 := fun h => by rw [h, Nat.mul_zero] at hc; omega
    have h3 := hmin2 c (by omega) ⟨p2, by rw [hc, Nat.mul_comm]⟩
    exact three R3 hn hN hp1 hp2 (by omega) h3 (by rw [hm, hc, Nat.mul_assoc])
end Go.Psi

/-! The kernel's runs: how their parts are joined. -/
namespace Go.Psi

/-- f at all i < n: n runs. -/
def Chk (n : Nat) (f : Nat → Bool) : Prop := ∀ i, i < n → f i = true
theorem Chk.zero (f : Nat → Bool) : Chk 0 f := fun i h => by omega
theorem Chk.succ {n : Nat} {f : Nat → Bool} (h : Chk n f) (k : f n = true) : Chk (n + 1) f := fun i hi => by
  by_cases e : i = n
  · rw [e]; exact k
  · exact h i (by omega)
/-- rows of v: n of them from m i on. -/
noncomputable def oddF (v m i : Nat) : Bool := rowsF fb0 v (Nat.div (lo v) 2) (Nat.mul m i) m
noncomputable def manyB (v n : Nat) : Bool := Nat.ble (many0 v (Nat.div (lo v) 2)) n
def OddR (a b : Nat) : Prop := ∀ v, v % 2 = 1 → a ≤ v → v < b → ∀ j, j < many0 v (lo v / 2) → rowj fb0 v (lo v / 2) j = true
theorem OddR.trans {a b c : Nat} (h : OddR a b) (k : OddR b c) : OddR a c := fun v h1 h2 h3 => by
  rcases Nat.lt_or_ge v b with h4 | h4
  · exact h v h1 h2 h4
  · exact k v h1 h4 h3
theorem odd_one {v : Nat} (hv : v % 2 = 1) (m K : Nat) (hm : 0 < m) (h : Chk K (oddF v m)) (hb : manyB v (m * K) = true) : OddR v (v + 2) := fun w h1 h2 h3 j hj => by
  obtain rfl : w = v := by omega
  have hb' : many0 w (lo w / 2) ≤ m * K := Nat.le_of_ble_eq_true hb
  have hd := Nat.div_add_mod j m
  have hl := Nat.mod_lt j hm
  have hi : j / m < K := (Nat.div_lt_iff_lt_mul hm).2 (by rw [Nat.mul_comm K m]; omega)
  exact rowsF_spec (h (j / m) hi) (show m * (j / m) ≤ j by omega) (show j < m * (j / m) + m by omega)
/-- the row of k, from a on, the i-th n places. -/
noncomputable def evF (k a n i : Nat) : Bool := row (fbE k) (okc2 k) (okm2 5 18 k) (okm2 7 22 k) 2 0 k (Nat.add a (Nat.mul n i)) (Nat.add a (Nat.add (Nat.mul n i) n))
noncomputable def evA (k a : Nat) : Bool := Nat.ble a (Nat.div (lo k) 2)
noncomputable def evB (k b : Nat) : Bool := Nat.ble (Nat.succ N4) (Nat.mul (Nat.mul b b) k)
def EvR (a b : Nat) : Prop := ∀ k, k % 2 = 0 → a ≤ k → k < b → ∀ h, lo k / 2 ≤ h → h * h * k ≤ N4 → Sgn2 k h → Done (fbE k) (2 * 0) (2 * k) h
theorem EvR.trans {a b c : Nat} (h : EvR a b) (k : EvR b c) : EvR a c := fun v h1 h2 h3 => by
  rcases Nat.lt_or_ge v b with h4 | h4
  · exact h v h1 h2 h4
  · exact k v h1 h4 h3
theorem ev_one {k : Nat} (hk : k % 2 = 0) (a n K : Nat) (hn : 0 < n) (h : Chk K (evF k a n)) (ha : evA k a = true) (hb : evB k (a + n * K) = true) : EvR k (k + 2) := fun w h1 h2 h3 x hx hN s => by
  obtain rfl : w = k := by omega
  have ha' : a ≤ lo w / 2 := Nat.le_of_ble_eq_true ha
  have hb' : N4 + 1 ≤ (a + n * K) * (a + n * K) * w := Nat.le_of_ble_eq_true hb
  have hlt : x < a + n * K := Decidable.byContradiction fun hn => by
    have : (a + n * K) * (a + n * K) * w ≤ x * x * w := Nat.mul_le_mul_right _ (Nat.mul_le_mul (by omega) (by omega))
    omega
  have hd := Nat.div_add_mod (x - a) n
  have hl := Nat.mod_lt (x - a) hn
  have hi : (x - a) / n < K := (Nat.div_lt_iff_lt_mul hn).2 (by rw [Nat.mul_comm K n]; omega)
  exact row_spec (h ((x - a) / n) hi) (show a + n * ((x - a) / n) ≤ x by omega) (show x ≤ a + (n * ((x - a) / n) + n) by omega) (okc2_of s) (okm2_5 s) (okm2_7 s) s.R s.S
theorem ev_row2 {k : Nat} (hk : k % 2 = 0) (h : row2 fbE (Nat.div (lo k) 2) k = true) : EvR k (k + 2) := fun w h1 h2 h3 x hx hN s => by
  obtain rfl : w = k := by omega
  exact row2_spec h hx hN s
/-- p1 = 2 (m i + j) + 1, j < m. -/
noncomputable def loopP (a m i : Nat) : Bool :=
  Nat.rec true (fun j ih => and2 (ite2 (Nat.beq (Nat.gcd prim (Nat.succ (Nat.mul 2 (Nat.add a (Nat.add (Nat.mul m i) j))))) 1) (Bool.rec (okP (Nat.succ (Nat.mul 2 (Nat.add a (Nat.add (Nat.mul m i) j))))) true (Nat.beq (Nat.succ (Nat.mul 2 (Nat.add a (Nat.add (Nat.mul m i) j)))) 1083289)) true) ih) m
def BigR (a b : Nat) : Prop := ∀ p, p % 2 = 1 → a ≤ p / 2 → p / 2 < b → p ≠ 1083289 → Nat.gcd prim p = 1 → okP p = true
theorem BigR.trans {a b c : Nat} (h : BigR a b) (k : BigR b c) : BigR a c := fun v h1 h2 h3 => by
  rcases Nat.lt_or_ge (v / 2) b with h4 | h4
  · exact h v h1 h2 h4
  · exact k v h1 h4 h3
theorem big_of (a m K : Nat) (hm : 0 < m) (h : Chk K (loopP a m)) : BigR a (a + m * K) := fun p h1 h2 h3 h4 h5 => by
  have hd := Nat.div_add_mod (p / 2 - a) m
  have hl := Nat.mod_lt (p / 2 - a) hm
  have hi : (p / 2 - a) / m < K := (Nat.div_lt_iff_lt_mul hm).2 (by rw [Nat.mul_comm K m]; omega)
  have k := rec_all (f := fun j => ite2 (Nat.beq (Nat.gcd prim (Nat.succ (Nat.mul 2 (Nat.add a (Nat.add (Nat.mul m ((p / 2 - a) / m)) j))))) 1) (Bool.rec (okP (Nat.succ (Nat.mul 2 (Nat.add a (Nat.add (Nat.mul m ((p / 2 - a) / m)) j))))) true (Nat.beq (Nat.succ (Nat.mul 2 (Nat.add a (Nat.add (Nat.mul m ((p / 2 - a) / m)) j)))) 1083289)) true) (h _ hi) ((p / 2 - a) % m) hl
  have e : Nat.succ (Nat.mul 2 (Nat.add a (Nat.add (Nat.mul m ((p / 2 - a) / m)) ((p / 2 - a) % m)))) = p := by
    show 2 * (a + (m * ((p / 2 - a) / m) + (p / 2 - a) % m)) + 1 = p
    omega
  rw [e] at k
  have k2 := (ite2_iff.1 k).1 (beq_of h5)
  rcases beq_cases p 1083289 with ⟨_, k3⟩ | ⟨k3, _⟩
  · exact absurd k3 h4
  · rw [k3] at k2; exact k2
/-- beside 1083289. -/
noncomputable def loopB (a m i : Nat) : Bool :=
  Nat.rec true (fun j ih => and2 (ite2 (Nat.beq (Nat.gcd prim (Nat.succ (Nat.mul 2 (Nat.add a (Nat.add (Nat.mul m i) j))))) 1) (pairB (Nat.succ (Nat.mul 2 (Nat.add a (Nat.add (Nat.mul m i) j))))) true) ih) m
def OneR (a b : Nat) : Prop := ∀ p, p % 2 = 1 → a ≤ p / 2 → p / 2 < b → Nat.gcd prim p = 1 → pairB p = true
theorem OneR.trans {a b c : Nat} (h : OneR a b) (k : OneR b c) : OneR a c := fun v h1 h2 h3 => by
  rcases Nat.lt_or_ge (v / 2) b with h4 | h4
  · exact h v h1 h2 h4
  · exact k v h1 h4 h3
theorem one1_of (a m K : Nat) (hm : 0 < m) (h : Chk K (loopB a m)) : OneR a (a + m * K) := fun p h1 h2 h3 h5 => by
  have hd := Nat.div_add_mod (p / 2 - a) m
  have hl := Nat.mod_lt (p / 2 - a) hm
  have hi : (p / 2 - a) / m < K := (Nat.div_lt_iff_lt_mul hm).2 (by rw [Nat.mul_comm K m]; omega)
  have k := rec_all (f := fun j => ite2 (Nat.beq (Nat.gcd prim (Nat.succ (Nat.mul 2 (Nat.add a (Nat.add (Nat.mul m ((p / 2 - a) / m)) j))))) 1) (pairB (Nat.succ (Nat.mul 2 (Nat.add a (Nat.add (Nat.mul m ((p / 2 - a) / m)) j))))) true) (h _ hi) ((p / 2 - a) % m) hl
  have e : Nat.succ (Nat.mul 2 (Nat.add a (Nat.add (Nat.mul m ((p / 2 - a) / m)) ((p / 2 - a) % m)))) = p := by
    show 2 * (a + (m * ((p / 2 - a) / m) + (p / 2 - a) % m)) + 1 = p
    omega
  rw [e] at k
  exact (ite2_iff.1 k).1 (beq_of h5)
/-- primes as 1: the i-th 524288 places. -/
noncomputable def onesF (i : Nat) : Bool := clsO (Nat.mul 524288 i) 5 524288
/-- the lists of small primes. -/
def SmR (l : List Nat) : Prop := ∀ p ∈ l, okP p = true
theorem SmR.nil : SmR [] := fun p h => by cases h
theorem SmR.cons {p : Nat} {l : List Nat} (h : okP p = true) (k : SmR l) : SmR (p :: l) := fun q hq => by
  rcases List.mem_cons.1 hq with rfl | hq
  · exact h
  · exact k q hq
/-- f of a number that is worked out first. -/
noncomputable def fo (x : Nat) (f : Nat → Bool) : Bool := Nat.rec (f 0) (fun n _ => f (Nat.succ n)) x
theorem fo_eq (x : Nat) (f : Nat → Bool) : fo x f = f x := by cases x <;> rfl
/-- groups of odd v: a + 2 i, i < n; each in K parts of m rows. -/
noncomputable def oddG (a K m t : Nat) : Bool :=
  fo (Nat.add a (Nat.mul 2 (Nat.div t K))) fun v => fo (Nat.div (lo v) 2) fun L => rowsF fb0 v L (Nat.mul m (Nat.mod t K)) m
noncomputable def manyG (a M n : Nat) : Bool := Nat.rec true (fun i ih => and2 (manyB (Nat.add a (Nat.mul 2 i)) M) ih) n
theorem odd_grp (a n m K : Nat) {b c : Nat} (h : Chk c (oddG a K m)) (hc : n * K = c) (hb : manyG a (m * K) n = true) (ha : a % 2 = 1) (hm : 0 < m) (hK : 0 < K) (eb : a + 2 * n = b) : OddR a b := fun v h1 h2 h3 j hj => by
  have hi : (v - a) / 2 < n := by omega
  have ev : a + 2 * ((v - a) / 2) = v := by omega
  have hb1 := rec_all (f := fun i => manyB (Nat.add a (Nat.mul 2 i)) (m * K)) hb _ hi
  have ev' : Nat.add a (Nat.mul 2 ((v - a) / 2)) = v := ev
  simp only [ev'] at hb1
  have hb' : many0 v (lo v / 2) ≤ m * K := Nat.le_of_ble_eq_true hb1
  have hd := Nat.div_add_mod j m
  have hl := Nat.mod_lt j hm
  have hi2 : j / m < K := (Nat.div_lt_iff_lt_mul hm).2 (by rw [Nat.mul_comm K m]; omega)
  have ht : (v - a) / 2 * K + j / m < c := by
    rw [← hc]
    calc (v - a) / 2 * K + j / m < (v - a) / 2 * K + K := by omega
      _ = ((v - a) / 2 + 1) * K := by rw [Nat.succ_mul]
      _ ≤ n * K := Nat.mul_le_mul_right K hi
  have k := h _ ht
  have d1 : ((v - a) / 2 * K + j / m) / K = (v - a) / 2 := by
    rw [Nat.add_comm, Nat.add_mul_div_right _ _ hK, Nat.div_eq_of_lt hi2, Nat.zero_add]
  have d2 : ((v - a) / 2 * K + j / m) % K = j / m := by
    rw [Nat.add_comm, Nat.add_mul_mod_self_right, Nat.mod_eq_of_lt hi2]
  unfold oddG at k
  rw [show Nat.div ((v - a) / 2 * K + j / m) K = (v - a) / 2 from d1, show Nat.mod ((v - a) / 2 * K + j / m) K = j / m from d2, ev', fo_eq, fo_eq] at k
  exact rowsF_spec k (show m * (j / m) ≤ j by omega) (show j < m * (j / m) + m by omega)
/-- each odd v whole. -/
noncomputable def oddH (a t : Nat) : Bool :=
  fo (Nat.add a (Nat.mul 2 t)) fun v => fo (Nat.div (lo v) 2) fun L => fo (many0 v L) fun M => rowsF fb0 v L 0 M
theorem odd_all (a n : Nat) {b : Nat} (h : Chk n (oddH a)) (ha : a % 2 = 1) (eb : a + 2 * n = b) : OddR a b := fun v h1 h2 h3 j hj => by
  have ev : Nat.add a (Nat.mul 2 ((v - a) / 2)) = v := by show a + 2 * ((v - a) / 2) = v; omega
  have k := h ((v - a) / 2) (by omega)
  unfold oddH at k
  rw [ev, fo_eq, fo_eq, fo_eq] at k
  exact rowsF_spec k (Nat.zero_le j) (by rw [Nat.zero_add]; exact hj)
/-- groups of even k: a + 2 i, i < n; each in K parts of m places. -/
noncomputable def evG (a K m t : Nat) : Bool :=
  fo (Nat.add a (Nat.mul 2 (Nat.div t K))) fun k => fo (Nat.add (Nat.div (lo k) 2) (Nat.mul m (Nat.mod t K))) fun s => fo (Nat.add s m) fun e =>
    row (fbE k) (okc2 k) (okm2 5 18 k) (okm2 7 22 k) 2 0 k s e
noncomputable def evB1 (M k : Nat) : Bool := Nat.ble (Nat.succ N4) (Nat.mul (Nat.mul (Nat.add (Nat.div (lo k) 2) M) (Nat.add (Nat.div (lo k) 2) M)) k)
noncomputable def evBG (a M n : Nat) : Bool := Nat.rec true (fun i ih => and2 (evB1 M (Nat.add a (Nat.mul 2 i))) ih) n
theorem ev_grp (a n m K : Nat) {b c : Nat} (h : Chk c (evG a K m)) (hc : n * K = c) (hb : evBG a (m * K) n = true) (ha : a % 2 = 0) (hm : 0 < m) (hK : 0 < K) (eb : a + 2 * n = b) : EvR a b := fun v h1 h2 h3 x hx hN s => by
  have hi : (v - a) / 2 < n := by omega
  have ev' : Nat.add a (Nat.mul 2 ((v - a) / 2)) = v := by show a + 2 * ((v - a) / 2) = v; omega
  have hb1 := rec_all (f := fun i => evB1 (m * K) (Nat.add a (Nat.mul 2 i))) hb _ hi
  simp only [ev'] at hb1
  have hb' : N4 + 1 ≤ (lo v / 2 + m * K) * (lo v / 2 + m * K) * v := Nat.le_of_ble_eq_true hb1
  have hlt : x < lo v / 2 + m * K := Decidable.byContradiction fun hn => by
    have : (lo v / 2 + m * K) * (lo v / 2 + m * K) * v ≤ x * x * v := Nat.mul_le_mul_right _ (Nat.mul_le_mul (by omega) (by omega))
    omega
  generalize hj : x - lo v / 2 = j at *
  have hd := Nat.div_add_mod j m
  have hl := Nat.mod_lt j hm
  have hi2 : j / m < K := (Nat.div_lt_iff_lt_mul hm).2 (by rw [Nat.mul_comm K m]; omega)
  have ht : (v - a) / 2 * K + j / m < c := by
    rw [← hc]
    calc (v - a) / 2 * K + j / m < (v - a) / 2 * K + K := by omega
      _ = ((v - a) / 2 + 1) * K := by rw [Nat.succ_mul]
      _ ≤ n * K := Nat.mul_le_mul_right K hi
  have k := h _ ht
  have d1 : ((v - a) / 2 * K + j / m) / K = (v - a) / 2 := by
    rw [Nat.add_comm, Nat.add_mul_div_right _ _ hK, Nat.div_eq_of_lt hi2, Nat.zero_add]
  have d2 : ((v - a) / 2 * K + j / m) % K = j / m := by
    rw [Nat.add_comm, Nat.add_mul_mod_self_right, Nat.mod_eq_of_lt hi2]
  unfold evG at k
  rw [show Nat.div ((v - a) / 2 * K + j / m) K = (v - a) / 2 from d1, show Nat.mod ((v - a) / 2 * K + j / m) K = j / m from d2, ev', fo_eq, fo_eq, fo_eq] at k
  exact row_spec k (show lo v / 2 + m * (j / m) ≤ x by omega) (show x ≤ lo v / 2 + m * (j / m) + m by omega) (okc2_of s) (okm2_5 s) (okm2_7 s) s.R s.S
/-- each even k whole. -/
noncomputable def evH (a t : Nat) : Bool :=
  fo (Nat.add a (Nat.mul 2 t)) fun k => fo (Nat.div (lo k) 2) fun L => row2 fbE L k
theorem ev_all (a n : Nat) {b : Nat} (h : Chk n (evH a)) (ha : a % 2 = 0) (eb : a + 2 * n = b) : EvR a b := fun v h1 h2 h3 x hx hN s => by
  have ev : Nat.add a (Nat.mul 2 ((v - a) / 2)) = v := by show a + 2 * ((v - a) / 2) = v; omega
  have k := h ((v - a) / 2) (by omega)
  unfold evH at k
  rw [ev, fo_eq, fo_eq] at k
  exact row2_spec k hx hN s
end Go.Psi
