/- Plain facts on residues modulo the primes up to 251: powers, inverses, orders, generators. No program in sight. -/
import Derived.RowKit
namespace Go.Proofs.Ytikbgcpcbhoblaa.Md
open Go.RowKit

def PL : List Nat := [2,3,5,7,11,13,17,19,23,29,31,37,41,43,47,53,59,61,67,71,73,79,83,89,97,101,103,107,109,113,127,131,137,139,149,151,157,163,167,173,179,181,191,193,197,199,211,223,227,229,233,239,241,251]
def GL : List (Nat × Nat) := [(2, 1), (3, 2), (5, 2), (7, 3), (11, 2), (13, 2), (17, 3), (19, 2), (23, 5), (29, 2), (31, 3), (37, 2), (41, 6), (43, 3), (47, 5), (53, 2), (59, 2), (61, 2), (67, 2), (71, 7), (73, 5), (79, 3), (83, 2), (89, 3), (97, 5), (101, 2), (103, 5), (107, 2), (109, 6), (113, 3), (127, 3), (131, 2), (137, 3), (139, 2), (149, 2), (151, 6), (157, 5), (163, 2), (167, 5), (173, 2), (179, 2), (181, 2), (191, 19), (193, 5), (197, 2), (199, 3), (211, 2), (223, 3), (227, 2), (229, 6), (233, 3), (239, 7), (241, 7), (251, 6)]

theorem fermat_all : (PL.all fun p => (List.range p).all fun x => x == 0 || x^(p-1) % p == 1) = true := by decide +kernel
theorem gens_all : (GL.all fun q => decide (0 < q.2) && decide (q.2 < q.1) && (List.range (q.1-1)).all fun n => n == 0 || q.2^n % q.1 != 1) = true := by decide +kernel
theorem gl_fst : GL.map Prod.fst = PL := by decide +kernel
theorem pl_bounds : (PL.all fun p => decide (2 ≤ p) && decide (p ≤ 251)) = true := by decide +kernel

/-- p is one of the 54 primes. -/
def IsP (p : Int) : Prop := ∃ q ∈ PL, p = (q : Int)
theorem IsP.two {p : Int} (h : IsP p) : 2 ≤ p := by
  obtain ⟨q, hq, rfl⟩ := h
  have := List.all_eq_true.mp pl_bounds q hq
  simp at this; omega
theorem IsP.most {p : Int} (h : IsP p) : p ≤ 251 := by
  obtain ⟨q, hq, rfl⟩ := h
  have := List.all_eq_true.mp pl_bounds q hq
  simp at this; omega

theorem emod_pow (a p : Int) (n : Nat) : (a % p) ^ n % p = a ^ n % p := by
  induction n with
  | zero => simp
  | succ n ih =>
    rw [Int.pow_succ, Int.pow_succ, Int.mul_emod, ih, Int.emod_emod, ← Int.mul_emod]
theorem mul_l (a b p : Int) : (a % p) * b % p = a * b % p := by rw [Int.mul_emod, Int.emod_emod, ← Int.mul_emod]
theorem mul_r (a b p : Int) : a * (b % p) % p = a * b % p := by rw [Int.mul_emod, Int.emod_emod, ← Int.mul_emod]
theorem add_l (a b p : Int) : ((a % p) + b) % p = (a + b) % p := by rw [Int.add_emod, Int.emod_emod, ← Int.add_emod]
theorem add_r (a b p : Int) : (a + (b % p)) % p = (a + b) % p := by rw [Int.add_emod, Int.emod_emod, ← Int.add_emod]
theorem sub_l (a b p : Int) : ((a % p) - b) % p = (a - b) % p := by rw [Int.sub_emod, Int.emod_emod, ← Int.sub_emod]
theorem sub_r (a b p : Int) : (a - (b % p)) % p = (a - b) % p := by rw [Int.sub_emod, Int.emod_emod, ← Int.sub_emod]

theorem rest_range {p : Int} (h : 2 ≤ p) (a : Int) : 0 ≤ a % p ∧ a % p < p := ⟨Int.emod_nonneg _ (by omega), Int.emod_lt_of_pos _ (by omega)⟩
theorem rest_id {p a : Int} (h0 : 0 ≤ a) (h : a < p) : a % p = a := Int.emod_eq_of_lt h0 h

theorem fermat {p : Int} (hp : IsP p) {a : Int} (ha : a % p ≠ 0) : a ^ (p - 1).toNat % p = 1 := by
  have h2 := hp.two
  obtain ⟨h0, h1⟩ := rest_range h2 a
  rw [← emod_pow]
  generalize a % p = x at *
  obtain ⟨q, hq, rfl⟩ := hp
  obtain ⟨y, rfl⟩ := Int.eq_ofNat_of_zero_le h0
  have := List.all_eq_true.mp (List.all_eq_true.mp fermat_all q hq) y (List.mem_range.mpr (by omega))
  simp only [Bool.or_eq_true, beq_iff_eq] at this
  rcases this with h | h
  · subst h; exact absurd rfl ha
  · rw [show ((q : Int) - 1).toNat = q - 1 by omega, ← Int.natCast_pow, ← Int.natCast_emod, h]; rfl

theorem one_mod {p : Int} (h : 2 ≤ p) : 1 % p = 1 := Int.emod_eq_of_lt (by omega) (by omega)

/-- No zero divisors. -/
theorem no_zero {p : Int} (hp : IsP p) {a b : Int} (h : a * b % p = 0) : a % p = 0 ∨ b % p = 0 := by
  by_cases ha : a % p = 0
  · exact .inl ha
  · right
    have hf := fermat hp ha
    have h2 := hp.two
    have e : (p - 1).toNat = (p - 2).toNat + 1 := by omega
    rw [e, Int.pow_succ] at hf
    have : b % p = (a ^ (p - 2).toNat * a * b) % p := by rw [← mul_l, hf, Int.one_mul]
    rw [this, Int.mul_assoc, ← mul_r, h, Int.mul_zero]; rfl

/-- The inverse: a power. -/
def inv (p a : Int) : Int := a ^ (p - 2).toNat % p
theorem inv_mul {p : Int} (hp : IsP p) {a : Int} (ha : a % p ≠ 0) : inv p a * a % p = 1 := by
  have h2 := hp.two
  have hf := fermat hp ha
  have e : (p - 1).toNat = (p - 2).toNat + 1 := by omega
  rw [e, Int.pow_succ] at hf
  rw [inv, mul_l, hf]
theorem inv_range {p : Int} (h : 2 ≤ p) (a : Int) : 0 ≤ inv p a ∧ inv p a < p := rest_range h _
theorem inv_rest (p a : Int) : inv p (a % p) = inv p a := emod_pow _ _ _
theorem inv_ne {p : Int} (hp : IsP p) {a : Int} (ha : a % p ≠ 0) : inv p a % p ≠ 0 := by
  intro h
  have := inv_mul hp ha
  rw [← mul_l, h] at this
  have h2 := hp.two
  simp at this
theorem cancel {p : Int} (hp : IsP p) {a x y : Int} (ha : a % p ≠ 0) (h : x * a % p = y * a % p) : x % p = y % p := by
  have hi := inv_mul hp ha
  have e : ∀ z : Int, z % p = (z * a % p) * inv p a % p := by
    intro z
    rw [mul_l, Int.mul_assoc, Int.mul_comm a, ← mul_r, hi, Int.mul_one]
  rw [e x, e y, h]

theorem pow_ne {p : Int} (hp : IsP p) {a : Int} (ha : a % p ≠ 0) (n : Nat) : a ^ n % p ≠ 0 := by
  induction n with
  | zero => rw [Int.pow_zero, one_mod hp.two]; decide
  | succ n ih =>
    intro h
    rw [Int.pow_succ] at h
    rcases no_zero hp h with h | h
    · exact ih h
    · exact ha h

/-- Powers repeat behind an exponent with the power 1. -/
theorem pow_period {p a : Int} (h2 : 2 ≤ p) {k : Nat} (h : a ^ k % p = 1) (n : Nat) : a ^ n % p = a ^ (n % k) % p := by
  have : ∀ q r : Nat, a ^ (k * q + r) % p = a ^ r % p := by
    intro q r
    rw [Int.pow_add, Int.pow_mul, ← mul_l, ← emod_pow, h, Int.one_pow, one_mod h2, Int.one_mul]
  conv => lhs; rw [← Nat.div_add_mod n k]
  exact this _ _

/-- The order: the least exponent from 1 on with the power 1. -/
theorem least_exists {P : Nat → Prop} [DecidablePred P] (n : Nat) (h1 : 1 ≤ n) (h : P n) : ∃ m, 1 ≤ m ∧ m ≤ n ∧ P m ∧ ∀ i, 1 ≤ i → i < m → ¬ P i := by
  induction n using Nat.strongRecOn with
  | _ n ih =>
    by_cases e : ∃ i, i < n ∧ 1 ≤ i ∧ P i
    · obtain ⟨i, hi, h1i, hP⟩ := e
      obtain ⟨m, a, b, c, d⟩ := ih i hi h1i hP
      exact ⟨m, a, by omega, c, d⟩
    · exact ⟨n, h1, Nat.le_refl _, h, fun i hi hlt hP => e ⟨i, hlt, hi, hP⟩⟩

structure IsOrd (p a : Int) (m : Nat) : Prop where
  pos : 1 ≤ m
  one : a ^ m % p = 1
  least : ∀ i, 1 ≤ i → i < m → a ^ i % p ≠ 1
theorem ord_exists {p : Int} (hp : IsP p) {a : Int} (ha : a % p ≠ 0) : ∃ m, IsOrd p a m ∧ m ≤ (p - 1).toNat := by
  have h2 := hp.two
  obtain ⟨m, h1, hm, hP, hl⟩ := least_exists (P := fun n => a ^ n % p = 1) (p - 1).toNat (by omega) (fermat hp ha)
  exact ⟨m, ⟨h1, hP, hl⟩, hm⟩
theorem IsOrd.dvd {p a : Int} {m : Nat} (h2 : 2 ≤ p) (h : IsOrd p a m) {n : Nat} (hn : a ^ n % p = 1) : n % m = 0 := by
  have := pow_period h2 h.one n
  rw [hn] at this
  by_cases e : n % m = 0
  · exact e
  · exact absurd this.symm (h.least _ (by omega) (Nat.mod_lt _ h.pos))
theorem IsOrd.of_dvd {p a : Int} {m : Nat} (h2 : 2 ≤ p) (h : IsOrd p a m) {n : Nat} (hn : n % m = 0) : a ^ n % p = 1 := by
  rw [pow_period h2 h.one, hn, Int.pow_zero, one_mod h2]
theorem IsOrd.unique {p a : Int} {m n : Nat} (h : IsOrd p a m) (k : IsOrd p a n) : m = n := by
  rcases Nat.lt_trichotomy m n with hlt | he | hgt
  · exact absurd h.one (k.least _ h.pos hlt)
  · exact he
  · exact absurd k.one (h.least _ k.pos hgt)
theorem IsOrd.rest {p a : Int} {m : Nat} (h : IsOrd p (a % p) m) : IsOrd p a m :=
  ⟨h.pos, by rw [← emod_pow]; exact h.one, fun i a b => by rw [← emod_pow]; exact h.least i a b⟩
theorem IsOrd.to_rest {p a : Int} {m : Nat} (h : IsOrd p a m) : IsOrd p (a % p) m :=
  ⟨h.pos, by rw [emod_pow]; exact h.one, fun i a b => by rw [emod_pow]; exact h.least i a b⟩

/-- There is an element of the order p - 1. -/
theorem gen_exists {p : Int} (hp : IsP p) : ∃ g : Int, 1 ≤ g ∧ g < p ∧ IsOrd p g (p - 1).toNat := by
  have hp' := hp
  have h2 := hp.two
  obtain ⟨q, hq, rfl⟩ := hp
  rw [← gl_fst] at hq
  obtain ⟨⟨q', g⟩, hm, rfl⟩ := List.mem_map.mp hq
  have := List.all_eq_true.mp gens_all _ hm
  simp only [Bool.and_eq_true, decide_eq_true_eq, List.all_eq_true, List.mem_range, Bool.or_eq_true, beq_iff_eq, bne_iff_ne] at this
  obtain ⟨⟨hg0, hg1⟩, hl⟩ := this
  simp only at hg0 hg1 hl h2 hp' ⊢
  have hne : (g : Int) % (q' : Int) ≠ 0 := by rw [rest_id (by omega) (by omega)]; omega
  refine ⟨g, by omega, by omega, by omega, fermat hp' hne, fun i h1 hi he => ?_⟩
  rcases hl i (by omega) with h | h
  · omega
  · rw [← Int.natCast_pow, ← Int.natCast_emod] at he
    exact h (by omega)

/-- Every element other than 0 is a power of a generator (counting: p - 1 different powers). -/
theorem pow_inj {p g : Int} (hp : IsP p) {m : Nat} (hg : IsOrd p g m) (hgn : g % p ≠ 0) {i j : Nat} (hi : i < m) (hj : j < m) (h : g ^ i % p = g ^ j % p) : i = j := by
  have key : ∀ i j : Nat, i < j → j < m → g ^ i % p = g ^ j % p → False := by
    intro i j hij hjm he
    have : (1 : Int) % p = g ^ (j - i) % p := by
      refine cancel hp (pow_ne hp hgn i) ?_
      rw [Int.one_mul, ← Int.pow_add, show j - i + i = j by omega, he]
    rw [one_mod hp.two] at this
    exact hg.least (j - i) (by omega) (by omega) this.symm
  rcases Nat.lt_trichotomy i j with h1 | h1 | h1
  · exact (key i j h1 hj h).elim
  · exact h1
  · exact (key j i h1 hi h.symm).elim
theorem nodup_len : ∀ (l : List Nat) (n : Nat), l.Nodup → (∀ x ∈ l, x < n) → l.length ≤ n
  | l, 0, _, h => by cases l with
    | nil => simp
    | cons a l => exact absurd (h a (by simp)) (by omega)
  | l, n + 1, hd, h => by
    by_cases hm : n ∈ l
    · have h1 := nodup_len (l.erase n) n (hd.erase n) (fun x hx => by
        have h2 := (List.Nodup.mem_erase_iff hd).mp hx
        have h3 := h x h2.2
        omega)
      have := List.length_erase_of_mem hm
      have : 0 < l.length := List.length_pos_of_mem hm
      omega
    · have := nodup_len l n hd (fun x hx => by
        have h1 := h x hx
        have : x ≠ n := fun e => hm (e ▸ hx)
        omega)
      omega
theorem log_exists {p g : Int} (hp : IsP p) (hg : IsOrd p g (p - 1).toNat) (hgn : g % p ≠ 0) {a : Int} (ha : a % p ≠ 0) : ∃ i : Nat, i < (p - 1).toNat ∧ g ^ i % p = a % p := by
  have h2 := hp.two
  by_cases e : ∃ i : Nat, i < (p - 1).toNat ∧ g ^ i % p = a % p
  · exact e
  · exfalso
    have hr := rest_range h2 a
    let f : Nat → Nat := fun i => (g ^ i % p).toNat - 1
    have hf : ∀ i, 1 ≤ g ^ i % p ∧ g ^ i % p < p := fun i => by
      have := rest_range h2 (g ^ i)
      have := pow_ne hp hgn i
      omega
    let l := ((a % p).toNat - 1) :: (List.range (p - 1).toNat).map f
    have hn : l.Nodup := by
      refine List.nodup_cons.mpr ⟨fun hm => ?_, ?_⟩
      · obtain ⟨i, hi, he⟩ := List.mem_map.mp hm
        have := hf i
        exact e ⟨i, List.mem_range.mp hi, by simp only [f] at he; omega⟩
      · refine List.Pairwise.map _ (fun i j hij => ?_) (List.Pairwise.and List.pairwise_lt_range (List.Pairwise.and_mem.mp List.pairwise_lt_range) )
        intro he
        have h1 := hf i
        have h3 := hf j
        have hm := hij.2
        have := pow_inj hp hg hgn (List.mem_range.mp hm.1) (List.mem_range.mp hm.2.1) (by simp only [f] at he; omega)
        have := hij.1
        omega
    have hlen := nodup_len l (p - 1).toNat hn (fun x hx => by
      rcases List.mem_cons.mp hx with rfl | hm
      · omega
      · obtain ⟨i, _, rfl⟩ := List.mem_map.mp hm
        have := hf i
        simp only [f]; omega)
    simp only [l, List.length_cons, List.length_map, List.length_range] at hlen
    omega

/-- Euler: a square root exists or the half power is p - 1. -/
theorem euler {p : Int} (hp : IsP p) (h3 : 2 < p) {a : Int} (ha : a % p ≠ 0) (hno : ∀ x : Int, 0 ≤ x → x < p → x * x % p ≠ a % p) : a ^ ((p - 1) / 2).toNat % p = p - 1 := by
  have h2 := hp.two
  obtain ⟨g, hg0, hg1, hg⟩ := gen_exists hp
  have hgn : g % p ≠ 0 := by rw [rest_id (by omega) hg1]; omega
  obtain ⟨i, hi, he⟩ := log_exists hp hg hgn ha
  have hodd : i % 2 = 1 := by
    by_cases e : i % 2 = 0
    · exfalso
      have hr := rest_range h2 (g ^ (i / 2))
      refine hno (g ^ (i / 2) % p) hr.1 hr.2 ?_
      rw [mul_l, mul_r, ← Int.pow_add, show i / 2 + i / 2 = i by omega, he]
    · omega
  -- the half power squares to 1, and is not 1
  have hev : (p - 1) % 2 = 0 := by
    obtain ⟨q, hq, rfl⟩ := hp
    have : (PL.all fun p => p == 2 || (p - 1) % 2 == 0) = true := by decide +kernel
    have := List.all_eq_true.mp this q hq
    simp only [Bool.or_eq_true, beq_iff_eq] at this
    omega
  generalize hm : ((p - 1) / 2).toNat = m
  have hm2 : (p - 1).toNat = m + m := by omega
  have e1 : a ^ m % p = g ^ (i * m) % p := by rw [← emod_pow, ← he, emod_pow, ← Int.pow_mul]
  have e2 : g ^ (i * m) % p = g ^ m % p := by
    rw [pow_period h2 hg.one (i * m), hm2]
    have hmp : 1 ≤ m := by omega
    have : i * m = (m + m) * (i / 2) + m := by
      have hi2 : i = 2 * (i / 2) + 1 := by omega
      conv => lhs; rw [hi2]
      rw [Nat.add_mul, Nat.mul_comm 2, Nat.mul_assoc, Nat.mul_comm (i / 2), Nat.two_mul, Nat.one_mul]
    rw [this, Nat.mul_add_mod, Nat.mod_eq_of_lt (by omega)]
  have hne : g ^ m % p ≠ 1 := hg.least m (by omega) (by omega)
  have hsq : (g ^ m % p - 1) * (g ^ m % p + 1) % p = 0 := by
    have h1 : g ^ m % p * (g ^ m % p) % p = 1 := by rw [mul_l, mul_r, ← Int.pow_add, ← hm2]; exact hg.one
    have : (g ^ m % p - 1) * (g ^ m % p + 1) = g ^ m % p * (g ^ m % p) - 1 := by grind
    rw [this, Int.sub_emod, h1, one_mod h2]; rfl
  have hr := rest_range h2 (g ^ m)
  rw [e1, e2]
  rcases no_zero hp hsq with h | h
  · exfalso
    by_cases h0 : g ^ m % p = 0
    · exact pow_ne hp hgn m h0
    · rw [rest_id (by omega) (by omega)] at h; omega
  · by_cases hlt : g ^ m % p + 1 < p
    · rw [rest_id (by omega) hlt] at h; omega
    · omega
end Go.Proofs.Ytikbgcpcbhoblaa.Md
