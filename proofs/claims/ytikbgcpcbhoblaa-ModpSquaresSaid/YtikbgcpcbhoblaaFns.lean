/- What each printed function of package modp and of its reference answers, for every integer argument: one lemma a function. -/
import Derived.Test.YtikbgcpcbhoblaaPModpx1
import Derived.Test.YtikbgcpcbhoblaaPModpx2
import Derived.Test.YtikbgcpcbhoblaaPModpx3
import Derived.Test.YtikbgcpcbhoblaaPModpx4
import Derived.Test.YtikbgcpcbhoblaaPModpx5
import Derived.Test.YtikbgcpcbhoblaaPModpx6
import Derived.Test.YtikbgcpcbhoblaaPModpx7
import Derived.Test.YtikbgcpcbhoblaaPModpx8
import Derived.Test.YtikbgcpcbhoblaaPModpx9
import Derived.Test.YtikbgcpcbhoblaaMath
namespace Go.Proofs.Ytikbgcpcbhoblaa.Fn
open Go.RowKit Go.Proofs.YtikbgcpcbhoblaaW.PrintWords Go.Proofs.Ytikbgcpcbhoblaa.PModp Go.Proofs.Ytikbgcpcbhoblaa.Md

/-- An int: what fits 64 bits. -/
def I64 (a : Int) : Prop := -9223372036854775808 ≤ a ∧ a ≤ 9223372036854775807
theorem i64_of {a : Int} (h : (Lit.int .i64 a).wf = true) : I64 a := by
  simp only [Lit.wf, Bool.and_eq_true, decide_eq_true_eq] at h
  exact h
theorem i32_of {a : Int} (h : (Lit.int .i32 a).wf = true) : -2147483648 ≤ a ∧ a ≤ 2147483647 := by
  simp only [Lit.wf, Bool.and_eq_true, decide_eq_true_eq] at h
  exact h
theorem wrap_id {a : Int} (h0 : -9223372036854775808 ≤ a) (h1 : a ≤ 9223372036854775807) : wrap64 a = a := by unfold wrap64; omega

theorem ev_bind {α β : Type} {g : Nat → Option α} {f : Nat → α → Option β} {a : α} {r : β} (h : Ev g a) : Ev (fun n => (g n).bind (f n)) r ↔ Ev (fun n => f n a) r := by
  refine ⟨fun hb => ?_, fun hf => Ev.bind h hf⟩
  obtain ⟨K, h⟩ := h
  obtain ⟨K', hb⟩ := hb
  refine ⟨max K K', fun n hn => ?_⟩
  have h2 : (g n).bind (f n) = some r := hb n (by omega)
  rw [h n (by omega)] at h2
  exact h2

theorem ev_succ {α : Type} {g : Nat → Option α} {r : α} (h : Ev (fun k => g (k + 1)) r) : Ev g r := Ev.step (fun _ => rfl) h

/-- p is a prime up to 251, as a Bool. -/
def isPb (p : Int) : Bool := decide (0 ≤ p) && PL.contains p.toNat
theorem isPb_iff (p : Int) : isPb p = true ↔ IsP p := by
  unfold isPb IsP
  simp only [Bool.and_eq_true, decide_eq_true_eq, List.contains_iff_mem]
  constructor
  · rintro ⟨h0, h⟩; exact ⟨_, h, by omega⟩
  · rintro ⟨q, hq, rfl⟩; exact ⟨by omega, by simpa using hq⟩
theorem not_isP_of {p : Int} (h : p < 2 ∨ 251 < p) : isPb p = false := by
  cases e : isPb p with
  | false => rfl
  | true =>
    have hp := (isPb_iff p).mp e
    have := hp.two
    have := hp.most
    omega

theorem prime_small : ((List.range 252).all fun q => modp_Prime.f 20 (q : Int) == some (isPb q)) = true := by decide +kernel
theorem prime_big_l {p : Int} (hp : p < 2 ∨ 251 < p) (d : Nat) : ∀ (k : Nat) (x : Int), 0 ≤ x → x ≤ 16 → 16 - x = d → d < k → modp_Prime.l0 k p x = some false := by
  induction d with
  | zero =>
    intro k x h0 h1 hd hk
    obtain ⟨k, rfl⟩ : ∃ m, k = m + 1 := ⟨k - 1, by omega⟩
    simp only [modp_Prime.l0]
    rw [if_neg (by omega)]
    by_cases h : p > 1
    · rw [if_pos h]
      have : ¬ p ≤ 251 := by omega
      simp [this]
    · rw [if_neg h]
  | succ d ih =>
    intro k x h0 h1 hd hk
    obtain ⟨k, rfl⟩ : ∃ m, k = m + 1 := ⟨k - 1, by omega⟩
    have hn := ih k (x + 1) (by omega) (by omega) (by omega) (by omega)
    simp only [modp_Prime.l0]
    rw [wrap_id (a := x + 1) (by omega) (by omega), hn, if_pos (by omega)]
    by_cases hx : x > 1
    · rw [if_pos hx, if_neg (by omega)]
      split
      · split <;> rfl
      · rfl
    · rw [if_neg hx]
theorem prime_ev (p : Int) : Ev (fun k => modp_Prime.f k p) (isPb p) := by
  by_cases h : p < 2 ∨ 251 < p
  · rw [not_isP_of h]
    exact Ev.of (modp_Prime.mono p) (k := 17) (by unfold modp_Prime.f; exact prime_big_l h 16 17 0 (by omega) (by omega) (by omega) (by omega))
  · obtain ⟨q, rfl⟩ := Int.eq_ofNat_of_zero_le (show 0 ≤ p by omega)
    have := List.all_eq_true.mp prime_small q (List.mem_range.mpr (by omega))
    exact Ev.of (modp_Prime.mono _) (k := 20) (by simpa using this)
theorem rprime_small : ((List.range 252).all fun q => torusref01_Prime.f 300 (q : Int) == some (isPb q)) = true := by decide +kernel
theorem rprime_ev (p : Int) : Ev (fun k => torusref01_Prime.f k p) (isPb p) := by
  by_cases h : p < 2 ∨ 251 < p
  · rw [not_isP_of h]
    refine Ev.of (torusref01_Prime.mono p) (k := 1) ?_
    unfold torusref01_Prime.f
    by_cases h2 : p < 2
    · rw [if_pos h2]; rfl
    · rw [if_neg h2]
      have : p > 251 := by omega
      simp [this, torusref01_Prime.j0]
  · obtain ⟨q, rfl⟩ := Int.eq_ofNat_of_zero_le (show 0 ≤ p by omega)
    have := List.all_eq_true.mp rprime_small q (List.mem_range.mpr (by omega))
    exact Ev.of (torusref01_Prime.mono _) (k := 300) (by simpa using this)

theorem of_yes {p : Int} (hp : IsP p) : Ev (fun k => modp_of.f k p) (p, 0) := by
  simp only [modp_of.f]
  rw [ev_bind (prime_ev p)]
  simp only [(isPb_iff p).mpr hp, if_true]
  exact Ev.now _
theorem of_no {p : Int} (hp : ¬ IsP p) : Ev (fun k => modp_of.f k p) (0, 8) := by
  have : isPb p = false := by rw [Bool.eq_false_iff]; exact fun h => hp ((isPb_iff p).mp h)
  simp only [modp_of.f]
  rw [ev_bind (prime_ev p)]
  simp only [this]
  exact Ev.now _
theorem rprime_yes {p : Int} (hp : IsP p) : Ev (fun k => torusref01_Prime.f k p) true := (isPb_iff p).mpr hp ▸ rprime_ev p
theorem rprime_no {p : Int} (hp : ¬ IsP p) : Ev (fun k => torusref01_Prime.f k p) false := by
  have : isPb p = false := by rw [Bool.eq_false_iff]; exact fun h => hp ((isPb_iff p).mp h)
  exact this ▸ rprime_ev p

theorem tmod_cases (a : Int) {p : Int} (h2 : 2 ≤ p) : -p < Int.tmod a p ∧ Int.tmod a p < p ∧ (Int.tmod a p) % p = a % p ∧ (0 ≤ a → Int.tmod a p = a % p) ∧ (a < 0 → Int.tmod a p ≤ 0) := by
  rw [Int.tmod_eq_emod]
  have := rest_range h2 a
  have hn : (p.natAbs : Int) = p := by omega
  refine ⟨?_, ?_, ?_, ?_, ?_⟩
  · split <;> omega
  · split <;> omega
  · split
    · simp
    · rw [hn]
      have : a % p - p = a % p + p * (-1) := by omega
      rw [this, Int.add_mul_emod_self_left, Int.emod_emod]
  · intro h0; rw [if_pos (.inl h0)]; simp
  · intro h0
    split
    · rename_i h
      rcases h with h | h
      · omega
      · have := Int.emod_eq_zero_of_dvd h; omega
    · omega
/-- The residue, by the program's way. -/
theorem rest_f {p : Int} (h2 : 2 ≤ p) (h251 : p ≤ 251) (a : Int) : modp_field_rest.f p a = some (a % p) := by
  obtain ⟨h0, h1, h3, _, _⟩ := tmod_cases a h2
  unfold modp_field_rest.f
  rw [if_neg (by omega), wrap_id (by omega) (by omega), Int.tmod_eq_emod_of_nonneg (by omega), ← h3, Int.add_emod_right]
theorem rmod_f {p : Int} (h2 : 2 ≤ p) (h251 : p ≤ 251) (a : Int) : (if p = 0 then (none : Option Int) else (if (Int.tmod a p) < 0 then (some (wrap64 ((Int.tmod a p) + p))) else (some (Int.tmod a p)))) = some (a % p) := by
  obtain ⟨h0, h1, h3, h4, _⟩ := tmod_cases a h2
  have hr := rest_range h2 a
  rw [if_neg (by omega)]
  by_cases h : Int.tmod a p < 0
  · rw [if_pos h, wrap_id (by omega) (by omega), ← h3, ← Int.add_emod_right, Int.emod_eq_of_lt (by omega) (by omega)]
  · rw [if_neg h, ← h3, Int.emod_eq_of_lt (by omega) (by omega)]
theorem mod_ev {p : Int} (hp : IsP p) (a : Int) : Ev (fun k => modp_Mod.f k p a) (a % p) := by
  simp only [modp_Mod.f]
  rw [ev_bind (of_yes hp)]
  simp only [if_true, rest_f hp.two hp.most, Option.bind_some]
  exact Ev.now _
theorem mod_no {p : Int} (hp : ¬ IsP p) (a : Int) : Ev (fun k => modp_Mod.f k p a) 0 := by
  simp only [modp_Mod.f]
  rw [ev_bind (of_no hp)]
  exact Ev.now _
theorem rmod_ev {p : Int} (hp : IsP p) (a : Int) : Ev (fun k => torusref01_Mod.f k p a) (a % p) := by
  simp only [torusref01_Mod.f]
  rw [ev_bind (rprime_yes hp)]
  simp only [if_true, rmod_f hp.two hp.most]
  exact Ev.now _
theorem rmod_no {p : Int} (hp : ¬ IsP p) (a : Int) : Ev (fun k => torusref01_Mod.f k p a) 0 := by
  simp only [torusref01_Mod.f]
  rw [ev_bind (rprime_no hp)]
  exact Ev.now _

section
variable {p : Int}
theorem small_mul (h251 : p ≤ 251) {x y : Int} (hx : 0 ≤ x ∧ x < p) (hy : 0 ≤ y ∧ y < p) : 0 ≤ x * y ∧ x * y ≤ 62500 := by
  refine ⟨Int.mul_nonneg hx.1 hy.1, ?_⟩
  have := Int.mul_le_mul (show x ≤ 250 by omega) (show y ≤ 250 by omega) hy.1 (by omega)
  omega
theorem add_ev (hp : IsP p) (a b : Int) : Ev (fun k => modp_Add.f k p a b) ((a + b) % p, 0) := by
  have ha := rest_range hp.two a
  have hb := rest_range hp.two b
  have := hp.most
  simp only [modp_Add.f]
  rw [ev_bind (of_yes hp)]
  simp only [if_true, rest_f hp.two hp.most, Option.bind_some]
  rw [wrap_id (by omega) (by omega), add_l, add_r]
  exact Ev.now _
theorem sub_ev (hp : IsP p) (a b : Int) : Ev (fun k => modp_Sub.f k p a b) ((a - b) % p, 0) := by
  have ha := rest_range hp.two a
  have hb := rest_range hp.two b
  have := hp.most
  simp only [modp_Sub.f]
  rw [ev_bind (of_yes hp)]
  simp only [if_true, rest_f hp.two hp.most, Option.bind_some]
  rw [wrap_id (by omega) (by omega), sub_l, sub_r]
  exact Ev.now _
theorem mul_ev (hp : IsP p) (a b : Int) : Ev (fun k => modp_Mul.f k p a b) (a * b % p, 0) := by
  have hm := small_mul hp.most (rest_range hp.two a) (rest_range hp.two b)
  simp only [modp_Mul.f]
  rw [ev_bind (of_yes hp)]
  simp only [if_true, rest_f hp.two hp.most, Option.bind_some]
  rw [wrap_id (by omega) (by omega), mul_l, mul_r]
  exact Ev.now _
theorem radd_ev (hp : IsP p) (a b : Int) : Ev (fun k => torusref01_Add.f k p a b) ((a + b) % p, 0) := by
  have ha := rest_range hp.two a
  have hb := rest_range hp.two b
  have := hp.most
  simp only [torusref01_Add.f]
  rw [ev_bind (rprime_yes hp)]
  simp only [if_true]
  rw [ev_bind (rmod_ev hp a), ev_bind (rmod_ev hp b), wrap_id (by omega) (by omega), ev_bind (rmod_ev hp _), add_l, add_r]
  exact Ev.now _
theorem rsub_ev (hp : IsP p) (a b : Int) : Ev (fun k => torusref01_Sub.f k p a b) ((a - b) % p, 0) := by
  have ha := rest_range hp.two a
  have hb := rest_range hp.two b
  have := hp.most
  simp only [torusref01_Sub.f]
  rw [ev_bind (rprime_yes hp)]
  simp only [if_true]
  rw [ev_bind (rmod_ev hp a), ev_bind (rmod_ev hp b), wrap_id (by omega) (by omega), ev_bind (rmod_ev hp _), sub_l, sub_r]
  exact Ev.now _
theorem rmul_ev (hp : IsP p) (a b : Int) : Ev (fun k => torusref01_Mul.f k p a b) (a * b % p, 0) := by
  have hm := small_mul hp.most (rest_range hp.two a) (rest_range hp.two b)
  simp only [torusref01_Mul.f]
  rw [ev_bind (rprime_yes hp)]
  simp only [if_true]
  rw [ev_bind (rmod_ev hp a), ev_bind (rmod_ev hp b), wrap_id (by omega) (by omega), ev_bind (rmod_ev hp _), mul_l, mul_r]
  exact Ev.now _
theorem add_no (hp : ¬ IsP p) (a b : Int) : Ev (fun k => modp_Add.f k p a b) (0, 8) := by
  simp only [modp_Add.f]; rw [ev_bind (of_no hp)]; exact Ev.now _
theorem sub_no (hp : ¬ IsP p) (a b : Int) : Ev (fun k => modp_Sub.f k p a b) (0, 8) := by
  simp only [modp_Sub.f]; rw [ev_bind (of_no hp)]; exact Ev.now _
theorem mul_no (hp : ¬ IsP p) (a b : Int) : Ev (fun k => modp_Mul.f k p a b) (0, 8) := by
  simp only [modp_Mul.f]; rw [ev_bind (of_no hp)]; exact Ev.now _
theorem radd_no (hp : ¬ IsP p) (a b : Int) : Ev (fun k => torusref01_Add.f k p a b) (0, 8) := by
  simp only [torusref01_Add.f]; rw [ev_bind (rprime_no hp)]; exact Ev.now _
theorem rsub_no (hp : ¬ IsP p) (a b : Int) : Ev (fun k => torusref01_Sub.f k p a b) (0, 8) := by
  simp only [torusref01_Sub.f]; rw [ev_bind (rprime_no hp)]; exact Ev.now _
theorem rmul_no (hp : ¬ IsP p) (a b : Int) : Ev (fun k => torusref01_Mul.f k p a b) (0, 8) := by
  simp only [torusref01_Mul.f]; rw [ev_bind (rprime_no hp)]; exact Ev.now _

/-! powers -/
theorem tmod_two (n : Int) (h : 0 ≤ n) : Int.tmod n 2 = n % 2 := Int.tmod_eq_emod_of_nonneg h
theorem power_l (h2 : 2 ≤ p) (h251 : p ≤ 251) (d : Nat) : ∀ (k : Nat) (n out b : Int), n.toNat ≤ d → 0 ≤ n → n ≤ 9223372036854775807 → 0 ≤ out → out < p → 0 ≤ b → b < p → d < k →
    modp_field_power.l0 k p n out b = some (out * b ^ n.toNat % p) := by
  induction d using Nat.strongRecOn with
  | _ d ih =>
    intro k n out b hd h0 h64 ho0 ho1 hb0 hb1 hk
    obtain ⟨k, rfl⟩ : ∃ m, k = m + 1 := ⟨k - 1, by omega⟩
    simp only [modp_field_power.l0]
    by_cases hn : n > 0
    · have hdiv : Int.tdiv n 2 = n / 2 := Int.tdiv_eq_ediv_of_nonneg h0
      have hbb := small_mul h251 ⟨hb0, hb1⟩ ⟨hb0, hb1⟩
      have hob := small_mul h251 ⟨ho0, ho1⟩ ⟨hb0, hb1⟩
      have hr1 := rest_range h2 (b * b)
      have hr2 := rest_range h2 (out * b)
      have hN : n.toNat = 2 * (n / 2).toNat + (n % 2).toNat := by omega
      have hsq : ∀ m : Nat, (b * b) ^ m = b ^ (2 * m) := fun m => by rw [Int.pow_mul, show b ^ 2 = b * b by rw [Int.pow_succ, Int.pow_one]]
      rw [if_pos hn, hdiv, wrap_id (a := n / 2) (by omega) (by omega), wrap_id (a := out * b) (by omega) (by omega), wrap_id (a := b * b) (by omega) (by omega),
        Int.tmod_eq_emod_of_nonneg hbb.1, Int.tmod_eq_emod_of_nonneg hob.1, tmod_two n h0]
      simp only [show p ≠ 0 by omega, if_false]
      by_cases ho : n % 2 = 1
      · rw [if_pos ho, ih (n / 2).toNat (by omega) k _ _ _ (Nat.le_refl _) (by omega) (by omega) hr2.1 hr2.2 hr1.1 hr1.2 (by omega)]
        congr 1
        rw [mul_l, ← mul_r, emod_pow, mul_r, hN, ho, hsq, show (1 : Int).toNat = 1 from rfl, Int.pow_add, Int.pow_one, Int.mul_assoc, Int.mul_comm b]
      · rw [if_neg ho, ih (n / 2).toNat (by omega) k _ _ _ (Nat.le_refl _) (by omega) (by omega) ho0 ho1 hr1.1 hr1.2 (by omega)]
        congr 1
        rw [← mul_r, emod_pow, mul_r, hN, show n % 2 = 0 by omega, hsq]; rfl
    · rw [if_neg hn, show n = 0 by omega]
      simp [rest_id ho0 ho1]
theorem pow_f_ev (h2 : 2 ≤ p) (h251 : p ≤ 251) (a n : Int) (h0 : 0 ≤ n) (h64 : n ≤ 9223372036854775807) : Ev (fun k => modp_field_power.f k p a n) (a ^ n.toNat % p) := by
  have hr := rest_range h2 a
  refine Ev.of (modp_field_power.mono p a n) (k := n.toNat + 1) ?_
  unfold modp_field_power.f
  rw [rest_f h2 h251, Option.bind_some, power_l h2 h251 n.toNat _ _ _ _ (Nat.le_refl _) h0 h64 (by omega) (by omega) hr.1 hr.2 (by omega), Int.one_mul, emod_pow]
theorem inverse_ev (h2 : 2 ≤ p) (h251 : p ≤ 251) (a : Int) : Ev (fun k => modp_field_inverse.f k p a) (inv p a) := by
  simp only [modp_field_inverse.f]
  rw [wrap_id (by omega) (by omega), ev_bind (pow_f_ev h2 h251 a _ (by omega) (by omega))]
  exact Ev.now _
theorem inv_zero (hp : IsP p) {a : Int} (ha : a % p = 0) : Ev (fun k => modp_Inv.f k p a) (0, 9) := by
  simp only [modp_Inv.f]
  rw [ev_bind (of_yes hp)]
  simp only [if_true, rest_f hp.two hp.most, Option.bind_some, ha]
  exact Ev.now _
theorem inv_ev (hp : IsP p) {a : Int} (ha : a % p ≠ 0) : Ev (fun k => modp_Inv.f k p a) (inv p a, 0) := by
  simp only [modp_Inv.f]
  rw [ev_bind (of_yes hp)]
  simp only [if_true, rest_f hp.two hp.most, Option.bind_some, ha, if_false]
  rw [ev_bind (inverse_ev hp.two hp.most a)]
  exact Ev.now _
theorem inv_no (hp : ¬ IsP p) (a : Int) : Ev (fun k => modp_Inv.f k p a) (0, 8) := by
  simp only [modp_Inv.f]; rw [ev_bind (of_no hp)]; exact Ev.now _
theorem div_ev (hp : IsP p) (a : Int) {b : Int} (hb : b % p ≠ 0) : Ev (fun k => modp_Div.f k p a b) (a * inv p b % p, 0) := by
  simp only [modp_Div.f]
  rw [ev_bind (inv_ev hp hb)]
  simp only [if_true]
  rw [ev_bind (mul_ev hp _ _)]
  exact Ev.now _
theorem div_zero (hp : IsP p) (a : Int) {b : Int} (hb : b % p = 0) : Ev (fun k => modp_Div.f k p a b) (0, 9) := by
  simp only [modp_Div.f]; rw [ev_bind (inv_zero hp hb)]; exact Ev.now _
theorem div_no (hp : ¬ IsP p) (a b : Int) : Ev (fun k => modp_Div.f k p a b) (0, 8) := by
  simp only [modp_Div.f]; rw [ev_bind (inv_no hp b)]; exact Ev.now _

/-- The reference's inverse: the first that serves. -/
theorem rinv_l (hp : IsP p) (a v : Int) (e : Int) (d : Nat) : ∀ (x : Int), 1 ≤ x → x ≤ p → p - x = d → ((∀ y : Int, x ≤ y → y < p → y * (a % p) % p ≠ 1) ∧ v = 0 ∧ e = 9 ∨ (x ≤ v ∧ v < p ∧ v * (a % p) % p = 1 ∧ (∀ y : Int, 1 ≤ y → y < v → y * (a % p) % p ≠ 1) ∧ e = 0)) →
    Ev (fun k => torusref01_Inv.l0 k p a x) (v, e) := by
  have h2 := hp.two
  have h251 := hp.most
  have hr := rest_range h2 a
  induction d with
  | zero =>
    intro x h1 hx hd h
    refine Ev.step (f := fun k => some (v, e)) (fun k => ?_) (Ev.now _)
    simp only [torusref01_Inv.l0]
    rw [if_neg (by omega)]
    rcases h with ⟨_, rfl, rfl⟩ | ⟨_, _, _, _⟩
    · rfl
    · omega
  | succ d ih =>
    intro x h1 hx hd h
    have hm := small_mul (p := p) h251 (x := x) (y := a % p) ⟨by omega, by omega⟩ hr
    refine Ev.step (f := fun k => (torusref01_Mod.f k p a).bind fun t327 => (if p = 0 then (none) else (if (Int.tmod (wrap64 (x * t327)) p) = 1 then (some (x, 0)) else (torusref01_Inv.l0 k p a (wrap64 (x + 1)))))) (fun k => ?_) ?_
    · simp only [torusref01_Inv.l0]
      rw [if_pos (by omega)]
    · rw [ev_bind (rmod_ev hp a)]
      rw [wrap_id (a := x * (a % p)) (by omega) (by omega), wrap_id (a := x + 1) (by omega) (by omega), Int.tmod_eq_emod_of_nonneg hm.1]
      simp only [show p ≠ 0 by omega, if_false]
      by_cases hc : x * (a % p) % p = 1
      · simp only [hc, if_true]
        rcases h with ⟨h, _, _⟩ | ⟨hv, hv2, hv3, hv4, rfl⟩
        · exact absurd hc (h x (by omega) (by omega))
        · have : v = x := by
            by_cases hlt : x < v
            · exact absurd hc (hv4 x h1 hlt)
            · omega
          subst this
          exact Ev.now _
      · simp only [hc, if_false]
        refine ih (x + 1) (by omega) (by omega) (by omega) ?_
        rcases h with ⟨h, h'⟩ | ⟨hv, hv2, hv3, hv4⟩
        · exact .inl ⟨fun y hy => h y (by omega), h'⟩
        · refine .inr ⟨?_, hv2, hv3, hv4⟩
          have : v ≠ x := fun e => hc (e ▸ hv3)
          omega
theorem rinv_ev (hp : IsP p) {a : Int} (ha : a % p ≠ 0) : Ev (fun k => torusref01_Inv.f k p a) (inv p a, 0) := by
  have h2 := hp.two
  simp only [torusref01_Inv.f]
  rw [ev_bind (rprime_yes hp)]
  simp only [if_true]
  have hi := inv_range h2 a
  have h1 := inv_mul hp ha
  have hne : inv p a ≠ 0 := fun e => by rw [e] at h1; simp at h1
  refine rinv_l hp a _ _ (p - 1).toNat 1 (by omega) (by omega) (by omega) (.inr ⟨by omega, hi.2, by rw [mul_r]; exact h1, fun y hy1 hy2 hy => ?_, rfl⟩)
  rw [mul_r, ← h1] at hy
  have := cancel hp ha hy
  rw [rest_id (by omega) (by omega), rest_id hi.1 hi.2] at this
  omega
theorem rinv_zero (hp : IsP p) {a : Int} (ha : a % p = 0) : Ev (fun k => torusref01_Inv.f k p a) (0, 9) := by
  have h2 := hp.two
  simp only [torusref01_Inv.f]
  rw [ev_bind (rprime_yes hp)]
  simp only [if_true]
  refine rinv_l hp a _ _ (p - 1).toNat 1 (by omega) (by omega) (by omega) (.inl ⟨fun y _ _ => ?_, rfl, rfl⟩)
  rw [ha]; simp
theorem rinv_no (hp : ¬ IsP p) (a : Int) : Ev (fun k => torusref01_Inv.f k p a) (0, 8) := by
  simp only [torusref01_Inv.f]; rw [ev_bind (rprime_no hp)]; exact Ev.now _
theorem rdiv_ev (hp : IsP p) (a : Int) {b : Int} (hb : b % p ≠ 0) : Ev (fun k => torusref01_Div.f k p a b) (a * inv p b % p, 0) := by
  simp only [torusref01_Div.f]
  rw [ev_bind (rinv_ev hp hb)]
  simp only [if_true]
  rw [ev_bind (rmul_ev hp _ _)]
  exact Ev.now _
theorem rdiv_zero (hp : IsP p) (a : Int) {b : Int} (hb : b % p = 0) : Ev (fun k => torusref01_Div.f k p a b) (0, 9) := by
  simp only [torusref01_Div.f]; rw [ev_bind (rinv_zero hp hb)]; exact Ev.now _
theorem rdiv_no (hp : ¬ IsP p) (a b : Int) : Ev (fun k => torusref01_Div.f k p a b) (0, 8) := by
  simp only [torusref01_Div.f]; rw [ev_bind (rinv_no hp b)]; exact Ev.now _
end
end Go.Proofs.Ytikbgcpcbhoblaa.Fn
