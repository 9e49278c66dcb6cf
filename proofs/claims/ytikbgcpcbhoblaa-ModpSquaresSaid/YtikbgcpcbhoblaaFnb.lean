/- What the printed functions Order, Generator, Log, Pow, Root, Sum and their references answer; the primes chosen by a number; the chapter's examples. -/
import Derived.Test.YtikbgcpcbhoblaaFns
namespace Go.Proofs.Ytikbgcpcbhoblaa.Fn
open Go.RowKit Go.Proofs.YtikbgcpcbhoblaaW.PrintWords Go.Proofs.Ytikbgcpcbhoblaa.PModp Go.Proofs.Ytikbgcpcbhoblaa.Md
section
variable {p : Int}

/-! orders -/
theorem order_l (hp : IsP p) {a : Int} {m : Nat} (ho : IsOrd p a m) (hm : m ≤ 250) (d : Nat) : ∀ n : Nat, 1 ≤ n → n ≤ m → m - n = d → Ev (fun k => modp_field_order.l0 k p a n (a ^ n % p)) (m : Int) := by
  have h2 := hp.two
  have h251 := hp.most
  induction d with
  | zero =>
    intro n h1 hn hd
    obtain rfl : n = m := by omega
    refine Ev.step (f := fun _ => some (n : Int)) (fun k => ?_) (Ev.now _)
    simp only [modp_field_order.l0]
    rw [if_pos ho.one]
  | succ d ih =>
    intro n h1 hn hd
    have hs := small_mul h251 (rest_range h2 (a ^ n)) (rest_range h2 a)
    refine Ev.step (f := fun k => modp_field_order.l0 k p a ((n + 1 : Nat) : Int) (a ^ (n + 1) % p)) (fun k => ?_) (ih (n + 1) (by omega) (by omega) (by omega))
    simp only [modp_field_order.l0]
    rw [if_neg (ho.least n h1 (by omega)), rest_f h2 h251, Option.bind_some, if_neg (by omega), wrap_id (by omega) (by omega), wrap_id (by omega) (by omega), Int.tmod_eq_emod_of_nonneg hs.1, mul_l, mul_r, ← Int.pow_succ]
    rfl
theorem order_zero (hp : IsP p) {a : Int} (ha : a % p = 0) : Ev (fun k => modp_Order.f k p a) (0, 9) := by
  simp only [modp_Order.f]
  rw [ev_bind (of_yes hp)]
  simp only [if_true, rest_f hp.two hp.most, Option.bind_some, ha]
  exact Ev.now _
theorem order_ev (hp : IsP p) {a : Int} (ha : a % p ≠ 0) {m : Nat} (ho : IsOrd p a m) (hm : m ≤ 250) : Ev (fun k => modp_Order.f k p a) ((m : Int), 0) := by
  simp only [modp_Order.f]
  rw [ev_bind (of_yes hp)]
  simp only [if_true, rest_f hp.two hp.most, Option.bind_some, ha, if_false]
  have h : Ev (fun k => modp_field_order.f k p a) (m : Int) := by
    simp only [modp_field_order.f, rest_f hp.two hp.most, Option.bind_some]
    have := order_l hp ho hm (m - 1) 1 (Nat.le_refl _) ho.pos rfl
    rw [Int.pow_one] at this
    exact this
  rw [ev_bind h]
  exact Ev.now _
theorem order_no (hp : ¬ IsP p) (a : Int) : Ev (fun k => modp_Order.f k p a) (0, 8) := by
  simp only [modp_Order.f]; rw [ev_bind (of_no hp)]; exact Ev.now _
theorem rorder_l (hp : IsP p) {a : Int} {m : Nat} (ho : IsOrd p a m) (hm : m ≤ 250) (d : Nat) : ∀ n : Nat, 1 ≤ n → n ≤ m → m - n = d → Ev (fun k => torusref01_Order.l0 k p (a % p) (a ^ n % p) n) ((m : Int), 0) := by
  have h2 := hp.two
  have h251 := hp.most
  induction d with
  | zero =>
    intro n h1 hn hd
    obtain rfl : n = m := by omega
    refine Ev.step (f := fun _ => some ((n : Int), 0)) (fun k => ?_) (Ev.now _)
    simp only [torusref01_Order.l0]
    rw [if_pos ho.one]
  | succ d ih =>
    intro n h1 hn hd
    have hs := small_mul h251 (rest_range h2 (a ^ n)) (rest_range h2 a)
    refine Ev.step (f := fun k => torusref01_Order.l0 k p (a % p) (a ^ (n + 1) % p) ((n + 1 : Nat) : Int)) (fun k => ?_) (ih (n + 1) (by omega) (by omega) (by omega))
    simp only [torusref01_Order.l0]
    rw [if_neg (ho.least n h1 (by omega)), if_neg (by omega), wrap_id (by omega) (by omega), wrap_id (by omega) (by omega), Int.tmod_eq_emod_of_nonneg hs.1, mul_l, mul_r, ← Int.pow_succ]
    rfl
theorem rorder_zero (hp : IsP p) {a : Int} (ha : a % p = 0) : Ev (fun k => torusref01_Order.f k p a) (0, 9) := by
  simp only [torusref01_Order.f]
  rw [ev_bind (rprime_yes hp)]
  simp only [if_true]
  rw [ev_bind (rmod_ev hp a)]
  simp only [ha, if_true]
  exact Ev.now _
theorem rorder_ev (hp : IsP p) {a : Int} (ha : a % p ≠ 0) {m : Nat} (ho : IsOrd p a m) (hm : m ≤ 250) : Ev (fun k => torusref01_Order.f k p a) ((m : Int), 0) := by
  simp only [torusref01_Order.f]
  rw [ev_bind (rprime_yes hp)]
  simp only [if_true]
  rw [ev_bind (rmod_ev hp a)]
  simp only [ha, if_false]
  have := rorder_l hp ho hm (m - 1) 1 (Nat.le_refl _) ho.pos rfl
  rw [Int.pow_one] at this
  exact this
theorem rorder_no (hp : ¬ IsP p) (a : Int) : Ev (fun k => torusref01_Order.f k p a) (0, 8) := by
  simp only [torusref01_Order.f]; rw [ev_bind (rprime_no hp)]; exact Ev.now _

/-! the generator -/
structure IsGen (p g : Int) : Prop where
  one : 1 ≤ g
  lt : g < p
  ord : IsOrd p g (p - 1).toNat
  least : ∀ i, 1 ≤ i → i < g → ¬ IsOrd p i (p - 1).toNat
theorem gen_least (hp : IsP p) : ∃ g, IsGen p g := by
  obtain ⟨g, h1, h2, h3⟩ := gen_exists hp
  obtain ⟨n, rfl⟩ := Int.eq_ofNat_of_zero_le (show 0 ≤ g by omega)
  haveI : DecidablePred fun n : Nat => IsOrd p n (p - 1).toNat := fun _ => Classical.propDecidable _
  obtain ⟨m, a, b, c, d⟩ := least_exists (P := fun n : Nat => IsOrd p n (p - 1).toNat) n (by omega) h3
  refine ⟨m, by omega, by omega, c, fun i h1 hi h => ?_⟩
  obtain ⟨j, rfl⟩ := Int.eq_ofNat_of_zero_le (show 0 ≤ i by omega)
  exact d j (by omega) (by omega) h
theorem gen_l1_yes (hp : IsP p) {g : Int} (ho : IsOrd p g (p - 1).toNat) (e : Nat) : ∀ d : Int, 0 ≤ d → d ≤ p - 1 → p - 1 - d = e → Ev (fun k => modp_Generator.l1 k p p g p g (p - 1) d) (g, 0) := by
  have h2 := hp.two
  have h251 := hp.most
  induction e with
  | zero =>
    intro d h0 hd he
    refine Ev.step (f := fun _ => some (g, 0)) (fun k => ?_) (Ev.now _)
    simp only [modp_Generator.l1]
    rw [if_neg (by omega)]
  | succ e ih =>
    intro d h0 hd he
    have hn := ih (d + 1) (by omega) (by omega) (by omega)
    by_cases hd0 : d > 0
    · by_cases hdv : Int.tmod (p - 1) d = 0
      · refine Ev.step (f := fun k => (modp_field_power.f k p g d).bind fun t133 => (if t133 = 1 then (modp_Generator.l0 k p p p (wrap64 (g + 1))) else (modp_Generator.l1 k p p g p g (p - 1) (d + 1)))) (fun k => ?_) ?_
        · simp only [modp_Generator.l1]
          rw [if_pos (by omega), if_pos hd0, if_neg (by omega), wrap_id (a := p - 1) (by omega) (by omega), if_pos hdv, wrap_id (a := d + 1) (by omega) (by omega)]
        · rw [ev_bind (pow_f_ev h2 h251 g d h0 (by omega))]
          simp only [ho.least d.toNat (by omega) (by omega), if_false]
          exact hn
      · refine Ev.step (f := fun k => modp_Generator.l1 k p p g p g (p - 1) (d + 1)) (fun k => ?_) hn
        simp only [modp_Generator.l1]
        rw [if_pos (by omega), if_pos hd0, if_neg (by omega), wrap_id (a := p - 1) (by omega) (by omega), if_neg hdv, wrap_id (a := d + 1) (by omega) (by omega)]
    · refine Ev.step (f := fun k => modp_Generator.l1 k p p g p g (p - 1) (d + 1)) (fun k => ?_) hn
      simp only [modp_Generator.l1]
      rw [if_pos (by omega), if_neg hd0, wrap_id (a := d + 1) (by omega) (by omega)]
theorem gen_l1_no (hp : IsP p) {g : Int} (h1 : 1 ≤ g) (hg : g < p) {m : Nat} (ho : IsOrd p g m) (hm : m < (p - 1).toNat) (hdiv : (p - 1).toNat % m = 0) (r : Int × Int) (hr : Ev (fun k => modp_Generator.l0 k p p p (g + 1)) r) (e : Nat) :
    ∀ d : Int, 0 ≤ d → d ≤ m → (m : Int) - d = e → Ev (fun k => modp_Generator.l1 k p p g p g (p - 1) d) r := by
  have h2 := hp.two
  have h251 := hp.most
  have hmp := ho.pos
  induction e with
  | zero =>
    intro d h0 hd he
    obtain rfl : d = m := by omega
    refine Ev.step (f := fun k => (modp_field_power.f k p g (m : Int)).bind fun t133 => (if t133 = 1 then (modp_Generator.l0 k p p p (g + 1)) else (modp_Generator.l1 k p p g p g (p - 1) ((m : Int) + 1)))) (fun k => ?_) ?_
    · have : Int.tmod (p - 1) (m : Int) = 0 := by
        rw [Int.tmod_eq_emod_of_nonneg (by omega), show p - 1 = (((p - 1).toNat : Nat) : Int) by omega, ← Int.natCast_emod, hdiv]; rfl
      simp only [modp_Generator.l1]
      rw [if_pos (by omega), if_pos (by omega), if_neg (by omega), wrap_id (a := p - 1) (by omega) (by omega), if_pos this, wrap_id (a := (m : Int) + 1) (by omega) (by omega), wrap_id (a := g + 1) (by omega) (by omega)]
    · rw [ev_bind (pow_f_ev h2 h251 g m h0 (by omega))]
      simp only [Int.toNat_natCast, ho.one, if_true]
      exact hr
  | succ e ih =>
    intro d h0 hd he
    have hn := ih (d + 1) (by omega) (by omega) (by omega)
    by_cases hd0 : d > 0
    · by_cases hdv : Int.tmod (p - 1) d = 0
      · refine Ev.step (f := fun k => (modp_field_power.f k p g d).bind fun t133 => (if t133 = 1 then (modp_Generator.l0 k p p p (wrap64 (g + 1))) else (modp_Generator.l1 k p p g p g (p - 1) (d + 1)))) (fun k => ?_) ?_
        · simp only [modp_Generator.l1]
          rw [if_pos (by omega), if_pos hd0, if_neg (by omega), wrap_id (a := p - 1) (by omega) (by omega), if_pos hdv, wrap_id (a := d + 1) (by omega) (by omega)]
        · rw [ev_bind (pow_f_ev h2 h251 g d h0 (by omega))]
          simp only [ho.least d.toNat (by omega) (by omega), if_false]
          exact hn
      · refine Ev.step (f := fun k => modp_Generator.l1 k p p g p g (p - 1) (d + 1)) (fun k => ?_) hn
        simp only [modp_Generator.l1]
        rw [if_pos (by omega), if_pos hd0, if_neg (by omega), wrap_id (a := p - 1) (by omega) (by omega), if_neg hdv, wrap_id (a := d + 1) (by omega) (by omega)]
    · refine Ev.step (f := fun k => modp_Generator.l1 k p p g p g (p - 1) (d + 1)) (fun k => ?_) hn
      simp only [modp_Generator.l1]
      rw [if_pos (by omega), if_neg hd0, wrap_id (a := d + 1) (by omega) (by omega)]
theorem gen_l0 (hp : IsP p) {g : Int} (hg : IsGen p g) (e : Nat) : ∀ x : Int, 0 ≤ x → x ≤ g → g - x = e → Ev (fun k => modp_Generator.l0 k p p p x) (g, 0) := by
  have h2 := hp.two
  have h251 := hp.most
  have hg1 := hg.one
  have hg2 := hg.lt
  induction e with
  | zero =>
    intro x h0 hx he
    obtain rfl : x = g := by omega
    refine Ev.step (f := fun k => modp_Generator.l1 k p p x p x (p - 1) 0) (fun k => ?_) (gen_l1_yes hp hg.ord (p - 1).toNat 0 (by omega) (by omega) (by omega))
    simp only [modp_Generator.l0]
    rw [if_pos (by omega), if_neg (by omega), wrap_id (a := p - 1) (by omega) (by omega)]
  | succ e ih =>
    intro x h0 hx he
    have hn := ih (x + 1) (by omega) (by omega) (by omega)
    by_cases hx0 : x = 0
    · refine Ev.step (f := fun k => modp_Generator.l0 k p p p (x + 1)) (fun k => ?_) hn
      simp only [modp_Generator.l0]
      rw [if_pos (by omega), if_pos hx0, wrap_id (a := x + 1) (by omega) (by omega)]
    · have hxn : x % p ≠ 0 := by rw [rest_id h0 (by omega)]; exact hx0
      obtain ⟨m, ho, hm⟩ := ord_exists hp hxn
      have hne : m ≠ (p - 1).toNat := fun e => hg.least x (by omega) (by omega) (e ▸ ho)
      refine Ev.step (f := fun k => modp_Generator.l1 k p p x p x (p - 1) 0) (fun k => ?_) (gen_l1_no hp (by omega) (by omega) ho (by omega) (ho.dvd h2 (fermat hp hxn)) _ hn m 0 (by omega) (by omega) (by omega))
      simp only [modp_Generator.l0]
      rw [if_pos (by omega), if_neg hx0, wrap_id (a := p - 1) (by omega) (by omega)]
theorem gen_ev (hp : IsP p) {g : Int} (hg : IsGen p g) : Ev (fun k => modp_Generator.f k p) (g, 0) := by
  have := hg.one
  simp only [modp_Generator.f]
  rw [ev_bind (of_yes hp)]
  simp only [if_true]
  exact gen_l0 hp hg g.toNat 0 (by omega) (by omega) (by omega)
theorem gen_no (hp : ¬ IsP p) : Ev (fun k => modp_Generator.f k p) (0, 8) := by
  simp only [modp_Generator.f]; rw [ev_bind (of_no hp)]; exact Ev.now _
theorem rgen_l0 (hp : IsP p) {g : Int} (hg : IsGen p g) (e : Nat) : ∀ x : Int, 1 ≤ x → x ≤ g → g - x = e → Ev (fun k => torusref01_Generator.l0 k p x) (g, 0) := by
  have h2 := hp.two
  have h251 := hp.most
  have hg1 := hg.one
  have hg2 := hg.lt
  induction e with
  | zero =>
    intro x h0 hx he
    obtain rfl : x = g := by omega
    have hxn : x % p ≠ 0 := by rw [rest_id (by omega) (by omega)]; omega
    refine Ev.step (f := fun k => (torusref01_Prime.f k p).bind fun t336 => (torusref01_Generator.j1 k p x t336)) (fun k => ?_) ?_
    · simp only [torusref01_Generator.l0]
      rw [if_pos (by omega)]
    · rw [ev_bind (rprime_yes hp)]
      refine Ev.step (f := fun k => (torusref01_Order.f k p x).bind fun bt337 => (if bt337.1 = (p - 1) then (some (x, 0)) else (torusref01_Generator.l0 k p (wrap64 (x + 1))))) (fun k => ?_) ?_
      · simp only [torusref01_Generator.j1, if_true]
        rw [wrap_id (a := p - 1) (by omega) (by omega)]
      · rw [ev_bind (rorder_ev hp hxn hg.ord (by omega))]
        have : (((p - 1).toNat : Nat) : Int) = p - 1 := by omega
        simp only [this, if_true]
        exact Ev.now _
  | succ e ih =>
    intro x h0 hx he
    have hn := ih (x + 1) (by omega) (by omega) (by omega)
    have hxn : x % p ≠ 0 := by rw [rest_id (by omega) (by omega)]; omega
    obtain ⟨m, ho, hm⟩ := ord_exists hp hxn
    have hne : m ≠ (p - 1).toNat := fun e => hg.least x (by omega) (by omega) (e ▸ ho)
    refine Ev.step (f := fun k => (torusref01_Prime.f k p).bind fun t336 => (torusref01_Generator.j1 k p x t336)) (fun k => ?_) ?_
    · simp only [torusref01_Generator.l0]
      rw [if_pos (by omega)]
    · rw [ev_bind (rprime_yes hp)]
      refine Ev.step (f := fun k => (torusref01_Order.f k p x).bind fun bt337 => (if bt337.1 = (p - 1) then (some (x, 0)) else (torusref01_Generator.l0 k p (x + 1)))) (fun k => ?_) ?_
      · simp only [torusref01_Generator.j1, if_true]
        rw [wrap_id (a := p - 1) (by omega) (by omega), wrap_id (a := x + 1) (by omega) (by omega)]
      · rw [ev_bind (rorder_ev hp hxn ho (by omega))]
        have : (m : Int) ≠ p - 1 := by omega
        simp only [this, if_false]
        exact hn
theorem rgen_ev (hp : IsP p) {g : Int} (hg : IsGen p g) : Ev (fun k => torusref01_Generator.f k p) (g, 0) := by
  have := hg.one
  simp only [torusref01_Generator.f]
  exact rgen_l0 hp hg (g - 1).toNat 1 (by omega) (by omega) (by omega)
theorem rgen_no (hp : ¬ IsP p) : Ev (fun k => torusref01_Generator.f k p) (0, 8) := by
  have hj : Ev (fun k => torusref01_Generator.j1 k p 1 false) (0, 8) := Ev.step (f := fun _ => some (0, 8)) (fun k => by simp [torusref01_Generator.j1]) (Ev.now _)
  simp only [torusref01_Generator.f]
  by_cases h : 1 < p
  · refine Ev.step (f := fun k => (torusref01_Prime.f k p).bind fun t336 => (torusref01_Generator.j1 k p 1 t336)) (fun k => ?_) ?_
    · simp only [torusref01_Generator.l0]
      rw [if_pos h]
    · rw [ev_bind (rprime_no hp)]
      exact hj
  · refine Ev.step (f := fun k => torusref01_Generator.j1 k p 1 false) (fun k => ?_) hj
    simp only [torusref01_Generator.l0]
    rw [if_neg h]

/-! powers with any exponent -/
/-- The power of an element other than 0: the exponent modulo p - 1. -/
def powv (p a n : Int) : Int := a ^ (n % (p - 1)).toNat % p
theorem pow_red (hp : IsP p) {a : Int} (ha : a % p ≠ 0) {n : Int} (h0 : 0 ≤ n) : a ^ n.toNat % p = powv p a n := by
  have h2 := hp.two
  rw [powv, pow_period h2 (fermat hp ha)]
  congr 2
  have : n % (p - 1) = ((n.toNat % (p - 1).toNat : Nat) : Int) := by
    rw [Int.natCast_emod]
    congr 1 <;> omega
  omega
theorem pow_zero_no (hp : IsP p) {a : Int} (ha : a % p = 0) {n : Int} (h : n < 0) : Ev (fun k => modp_Pow.f k p a n) (0, 9) := by
  simp only [modp_Pow.f]
  rw [ev_bind (of_yes hp)]
  simp only [if_true, show ¬ n ≥ 0 by omega, if_false, rest_f hp.two hp.most, Option.bind_some, ha]
  exact Ev.now _
theorem pow_nn (hp : IsP p) (a : Int) {n : Int} (h : 0 ≤ n) (h64 : n ≤ 9223372036854775807) : Ev (fun k => modp_Pow.f k p a n) (a ^ n.toNat % p, 0) := by
  simp only [modp_Pow.f]
  rw [ev_bind (of_yes hp)]
  simp only [if_true, show n ≥ 0 from h]
  rw [ev_bind (pow_f_ev hp.two hp.most a n h h64)]
  exact Ev.now _
theorem pow_ev (hp : IsP p) {a : Int} (ha : a % p ≠ 0) {n : Int} (hn : I64 n) : Ev (fun k => modp_Pow.f k p a n) (powv p a n, 0) := by
  have h2 := hp.two
  have h251 := hp.most
  by_cases h : 0 ≤ n
  · rw [← pow_red hp ha h]
    exact pow_nn hp a h hn.2
  · simp only [modp_Pow.f]
    rw [ev_bind (of_yes hp)]
    simp only [if_true, show ¬ n ≥ 0 by omega, if_false, rest_f h2 h251, Option.bind_some, ha]
    rw [wrap_id (a := p - 1) (by omega) (by omega)]
    simp only [show p - 1 ≠ 0 by omega, if_false]
    rw [ev_bind (inverse_ev h2 h251 a)]
    have hb : -p < Int.tmod n (p - 1) ∧ Int.tmod n (p - 1) ≤ 0 ∧ ((Int.tmod n (p - 1) = 0 ∧ n % (p - 1) = 0) ∨ (n % (p - 1) = p - 1 + Int.tmod n (p - 1) ∧ Int.tmod n (p - 1) < 0)) := by
      rw [Int.tmod_eq_emod]
      have h1 := Int.emod_nonneg n (show p - 1 ≠ 0 by omega)
      have h3 := Int.emod_lt_of_pos n (show 0 < p - 1 by omega)
      split
      · rename_i hc
        rcases hc with hc | hc
        · omega
        · have := Int.emod_eq_zero_of_dvd hc; omega
      · have : n % (p - 1) ≠ 0 := fun e => by
          rename_i hc
          exact hc (.inr (Int.dvd_of_emod_eq_zero e))
        omega
    obtain ⟨hb1, hb2, hb3⟩ := hb
    generalize Int.tmod n (p - 1) = t at hb1 hb2 hb3 ⊢
    rw [wrap_id (a := -t) (by omega) (by omega), ev_bind (pow_f_ev h2 h251 _ _ (by omega) (by omega))]
    have : inv p a ^ (-t).toNat % p = powv p a n := by
      rw [powv]
      rcases hb3 with ⟨h1, h3⟩ | ⟨h1, h3⟩
      · rw [h1, h3]; simp
      · have e1 : inv p a ^ (-t).toNat * a ^ (-t).toNat % p = 1 := by
          rw [← Int.mul_pow, ← emod_pow, inv_mul hp ha, Int.one_pow, one_mod h2]
        have e2 : a ^ (n % (p - 1)).toNat * a ^ (-t).toNat % p = 1 := by
          rw [← Int.pow_add, show (n % (p - 1)).toNat + (-t).toNat = (p - 1).toNat by omega, fermat hp ha]
        exact cancel hp (pow_ne hp ha _) (e1.trans e2.symm)
    rw [this]
    exact Ev.now _
theorem pow_no (hp : ¬ IsP p) (a n : Int) : Ev (fun k => modp_Pow.f k p a n) (0, 8) := by
  simp only [modp_Pow.f]; rw [ev_bind (of_no hp)]; exact Ev.now _
theorem rpow_l (h2 : 2 ≤ p) (h251 : p ≤ 251) {x : Int} (hx : 0 ≤ x ∧ x < p) (c : Nat) (hc : c ≤ 251) (d : Nat) : ∀ (i : Nat), i ≤ c → c - i = d → Ev (fun k => torusref01_Pow.l0 k p x c (x ^ i % p) i) (x ^ c % p, 0) := by
  induction d with
  | zero =>
    intro i hi hd
    obtain rfl : i = c := by omega
    refine Ev.step (f := fun _ => some (x ^ i % p, 0)) (fun k => ?_) (Ev.now _)
    simp only [torusref01_Pow.l0]
    rw [if_neg (by omega)]
  | succ d ih =>
    intro i hi hd
    have hs := small_mul h251 (rest_range h2 (x ^ i)) hx
    refine Ev.step (f := fun k => torusref01_Pow.l0 k p x c (x ^ (i + 1) % p) ((i + 1 : Nat) : Int)) (fun k => ?_) (ih (i + 1) (by omega) (by omega))
    simp only [torusref01_Pow.l0]
    rw [if_pos (by omega), if_neg (by omega), wrap_id (by omega) (by omega), wrap_id (by omega) (by omega), Int.tmod_eq_emod_of_nonneg hs.1, mul_l, ← Int.pow_succ]
    rfl
theorem rpow_ev (hp : IsP p) {a : Int} (ha : a % p ≠ 0) (n : Int) : Ev (fun k => torusref01_Pow.f k p a n) (powv p a n, 0) := by
  have h2 := hp.two
  have h251 := hp.most
  simp only [torusref01_Pow.f]
  rw [ev_bind (rprime_yes hp)]
  simp only [if_true]
  rw [ev_bind (rmod_ev hp a)]
  simp only [ha, if_false]
  rw [wrap_id (a := p - 1) (by omega) (by omega)]
  simp only [show p - 1 ≠ 0 by omega, if_false]
  have h1 := Int.emod_nonneg n (show p - 1 ≠ 0 by omega)
  have h3 := Int.emod_lt_of_pos n (show 0 < p - 1 by omega)
  have key : Ev (fun k => torusref01_Pow.j0 k p (a % p) (n % (p - 1))) (powv p a n, 0) := by
    refine Ev.step (f := fun k => torusref01_Pow.l0 k p (a % p) (n % (p - 1)) 1 0) (fun k => by simp only [torusref01_Pow.j0]) ?_
    have := rpow_l h2 h251 (rest_range h2 a) (n % (p - 1)).toNat (by omega) _ 0 (by omega) rfl
    rw [Int.pow_zero, one_mod h2, emod_pow, show (((n % (p - 1)).toNat : Nat) : Int) = n % (p - 1) by omega] at this
    exact this
  have ht : Int.tmod n (p - 1) = n % (p - 1) ∨ (Int.tmod n (p - 1) < 0 ∧ Int.tmod n (p - 1) + (p - 1) = n % (p - 1)) := by
    rw [Int.tmod_eq_emod]
    split
    · left; omega
    · right; omega
  rcases ht with ht | ⟨hl, ht⟩
  · rw [ht]
    simp only [show ¬ n % (p - 1) < 0 by omega, if_false]
    exact key
  · simp only [hl, if_true]
    rw [wrap_id (a := Int.tmod n (p - 1) + p) (by omega) (by omega), wrap_id (by omega) (by omega), show Int.tmod n (p - 1) + p - 1 = n % (p - 1) by omega]
    exact key
theorem rpow_zero (hp : IsP p) {a : Int} (ha : a % p = 0) (n : Int) : Ev (fun k => torusref01_Pow.f k p a n) (if n < 0 then (0, 9) else if n = 0 then (1, 0) else (0, 0)) := by
  simp only [torusref01_Pow.f]
  rw [ev_bind (rprime_yes hp)]
  simp only [if_true]
  rw [ev_bind (rmod_ev hp a)]
  simp only [ha, if_true]
  by_cases h : n < 0
  · simp only [h, if_true]; exact Ev.now _
  · by_cases h0 : n = 0
    · simp only [h0, if_true]; exact Ev.now _
    · simp only [h, h0, if_false]; exact Ev.now _
theorem pow_zero (hp : IsP p) {a : Int} (ha : a % p = 0) {n : Int} (hn : I64 n) : Ev (fun k => modp_Pow.f k p a n) (if n < 0 then (0, 9) else if n = 0 then (1, 0) else (0, 0)) := by
  by_cases h : n < 0
  · simp only [h, if_true]; exact pow_zero_no hp ha h
  · have := pow_nn hp a (show 0 ≤ n by omega) hn.2
    by_cases h0 : n = 0
    · subst h0
      simp only [Int.toNat_zero, Int.pow_zero, one_mod hp.two] at this
      simpa using this
    · simp only [h, h0, if_false]
      have e : a ^ n.toNat % p = 0 := by
        obtain ⟨m, hm⟩ : ∃ m, n.toNat = m + 1 := ⟨n.toNat - 1, by omega⟩
        rw [hm, Int.pow_succ, ← mul_r, ha, Int.mul_zero]; rfl
      rw [e] at this
      exact this
theorem rpow_no (hp : ¬ IsP p) (a n : Int) : Ev (fun k => torusref01_Pow.f k p a n) (0, 8) := by
  simp only [torusref01_Pow.f]; rw [ev_bind (rprime_no hp)]; exact Ev.now _

/-! logarithms -/
/-- What a search for the first exponent below N finds, from n on. -/
def LogIs (p b a : Int) (N n : Nat) (v e : Int) : Prop := (∀ i : Nat, n ≤ i → i < N → b ^ i % p ≠ a % p) ∧ v = 0 ∧ e = 4 ∨ ∃ j : Nat, v = j ∧ n ≤ j ∧ j < N ∧ b ^ j % p = a % p ∧ (∀ i : Nat, i < j → b ^ i % p ≠ a % p) ∧ e = 0
theorem log_l (hp : IsP p) {b a : Int} {v e : Int} (d : Nat) : ∀ n : Nat, n ≤ (p - 1).toNat → (p - 1).toNat - n = d → LogIs p b a (p - 1).toNat n v e → Ev (fun k => modp_Log.l0 k p b a p (b ^ n % p) (p - 1) n) (v, e) := by
  have h2 := hp.two
  have h251 := hp.most
  induction d with
  | zero =>
    intro n hn hd h
    refine Ev.step (f := fun _ => some (v, e)) (fun k => ?_) (Ev.now _)
    simp only [modp_Log.l0]
    rw [if_neg (by omega)]
    rcases h with ⟨_, rfl, rfl⟩ | ⟨j, _, _, _, _⟩
    · rfl
    · omega
  | succ d ih =>
    intro n hn hd h
    have hs := small_mul h251 (rest_range h2 (b ^ n)) (rest_range h2 b)
    by_cases hc : b ^ n % p = a % p
    · refine Ev.step (f := fun _ => some (v, e)) (fun k => ?_) (Ev.now _)
      simp only [modp_Log.l0]
      rw [if_pos (by omega), rest_f h2 h251, Option.bind_some, if_pos hc]
      rcases h with ⟨h, _, _⟩ | ⟨j, rfl, hj1, hj2, hj3, hj4, rfl⟩
      · exact absurd hc (h n (by omega) (by omega))
      · have : j = n := by
          by_cases hlt : n < j
          · exact absurd hc (hj4 n hlt)
          · omega
        rw [this]
    · refine Ev.step (f := fun k => modp_Log.l0 k p b a p (b ^ (n + 1) % p) (p - 1) ((n + 1 : Nat) : Int)) (fun k => ?_) (ih (n + 1) (by omega) (by omega) ?_)
      · simp only [modp_Log.l0]
        rw [if_pos (by omega), rest_f h2 h251, Option.bind_some, if_neg hc, rest_f h2 h251, Option.bind_some, if_neg (by omega), wrap_id (by omega) (by omega), wrap_id (by omega) (by omega), Int.tmod_eq_emod_of_nonneg hs.1, mul_l, mul_r, ← Int.pow_succ]
        rfl
      · rcases h with ⟨h, h'⟩ | ⟨j, hj0, hj1, hj2, hj3, hj4⟩
        · exact .inl ⟨fun i hi => h i (by omega), h'⟩
        · refine .inr ⟨j, hj0, ?_, hj2, hj3, hj4⟩
          have : j ≠ n := fun e => hc (e ▸ hj3)
          omega
theorem log_ev (hp : IsP p) {b a : Int} (hb : b % p ≠ 0) (ha : a % p ≠ 0) {v e : Int} (h : LogIs p b a (p - 1).toNat 0 v e) : Ev (fun k => modp_Log.f k p b a) (v, e) := by
  have h2 := hp.two
  have h251 := hp.most
  simp only [modp_Log.f]
  rw [ev_bind (of_yes hp)]
  simp only [if_true, rest_f h2 h251, Option.bind_some, ha, hb, if_false]
  rw [wrap_id (by omega) (by omega)]
  have := log_l hp _ 0 (by omega) rfl h
  rw [Int.pow_zero, one_mod h2] at this
  exact this
theorem log_zero (hp : IsP p) {b a : Int} (h : b % p = 0 ∨ a % p = 0) : Ev (fun k => modp_Log.f k p b a) (0, 9) := by
  simp only [modp_Log.f]
  rw [ev_bind (of_yes hp)]
  simp only [if_true, rest_f hp.two hp.most, Option.bind_some]
  by_cases hb : b % p = 0
  · simp only [hb, if_true]; exact Ev.now _
  · simp only [hb, h.resolve_left hb, if_true, if_false]; exact Ev.now _
theorem log_no (hp : ¬ IsP p) (b a : Int) : Ev (fun k => modp_Log.f k p b a) (0, 8) := by
  simp only [modp_Log.f]; rw [ev_bind (of_no hp)]; exact Ev.now _
theorem rlog_l (hp : IsP p) {b a : Int} (hb : b % p ≠ 0) {m : Nat} (hm : m ≤ 250) {v e : Int} (d : Nat) : ∀ n : Nat, n ≤ m → m - n = d → LogIs p b a m n v e → Ev (fun k => torusref01_Log.l0 k p b a m n) (v, e) := by
  have h2 := hp.two
  have h251 := hp.most
  induction d with
  | zero =>
    intro n hn hd h
    refine Ev.step (f := fun _ => some (v, e)) (fun k => ?_) (Ev.now _)
    simp only [torusref01_Log.l0]
    rw [if_neg (by omega)]
    rcases h with ⟨_, rfl, rfl⟩ | ⟨j, _, _, _, _⟩
    · rfl
    · omega
  | succ d ih =>
    intro n hn hd h
    refine Ev.step (f := fun k => (torusref01_Pow.f k p b n).bind fun bt344 => ((torusref01_Mod.f k p a).bind fun t346 => (if bt344.1 = t346 then (some ((n : Int), 0)) else (torusref01_Log.l0 k p b a m ((n + 1 : Nat) : Int))))) (fun k => ?_) ?_
    · simp only [torusref01_Log.l0]
      rw [if_pos (by omega), wrap_id (a := (n : Int) + 1) (by omega) (by omega)]
      rfl
    · rw [ev_bind (rpow_ev hp hb n), ev_bind (rmod_ev hp a)]
      rw [← pow_red hp hb (by omega), Int.toNat_natCast]
      by_cases hc : b ^ n % p = a % p
      · simp only [hc, if_true]
        rcases h with ⟨h, _, _⟩ | ⟨j, rfl, hj1, hj2, hj3, hj4, rfl⟩
        · exact absurd hc (h n (by omega) (by omega))
        · have : j = n := by
            by_cases hlt : n < j
            · exact absurd hc (hj4 n hlt)
            · omega
          rw [this]
          exact Ev.now _
      · simp only [hc, if_false]
        refine ih (n + 1) (by omega) (by omega) ?_
        rcases h with ⟨h, h'⟩ | ⟨j, hj0, hj1, hj2, hj3, hj4⟩
        · exact .inl ⟨fun i hi => h i (by omega), h'⟩
        · refine .inr ⟨j, hj0, ?_, hj2, hj3, hj4⟩
          have : j ≠ n := fun e => hc (e ▸ hj3)
          omega
theorem rlog_ev (hp : IsP p) {b a : Int} (hb : b % p ≠ 0) (ha : a % p ≠ 0) {m : Nat} (ho : IsOrd p b m) (hm : m ≤ 250) {v e : Int} (h : LogIs p b a m 0 v e) : Ev (fun k => torusref01_Log.f k p b a) (v, e) := by
  have h2 := hp.two
  simp only [torusref01_Log.f]
  rw [ev_bind (rprime_yes hp)]
  simp only [if_true]
  rw [ev_bind (rmod_ev hp b)]
  simp only [hb, if_false]
  rw [ev_bind (rmod_ev hp a)]
  have : (a % p == 0) = false := by simpa using ha
  rw [this]
  refine Ev.step (f := fun k => (torusref01_Order.f k p b).bind fun bt342 => (torusref01_Log.l0 k p b a bt342.1 0)) (fun k => by simp [torusref01_Log.j0]) ?_
  rw [ev_bind (rorder_ev hp hb ho hm)]
  exact rlog_l hp hb hm _ 0 (by omega) rfl h
theorem rlog_zero (hp : IsP p) {b a : Int} (h : b % p = 0 ∨ a % p = 0) : Ev (fun k => torusref01_Log.f k p b a) (0, 9) := by
  have hj : Ev (fun k => torusref01_Log.j0 k p b a true) (0, 9) := Ev.step (f := fun _ => some (0, 9)) (fun k => by simp [torusref01_Log.j0]) (Ev.now _)
  simp only [torusref01_Log.f]
  rw [ev_bind (rprime_yes hp)]
  simp only [if_true]
  rw [ev_bind (rmod_ev hp b)]
  by_cases hb : b % p = 0
  · simp only [hb, if_true]; exact hj
  · simp only [hb, if_false]
    rw [ev_bind (rmod_ev hp a)]
    have : (a % p == 0) = true := by simpa using h.resolve_left hb
    rw [this]; exact hj
theorem rlog_no (hp : ¬ IsP p) (b a : Int) : Ev (fun k => torusref01_Log.f k p b a) (0, 8) := by
  simp only [torusref01_Log.f]; rw [ev_bind (rprime_no hp)]; exact Ev.now _
/-- There is always an answer, the same for the order and for p - 1. -/
theorem log_is (hp : IsP p) {b : Int} {m : Nat} (ho : IsOrd p b m) (hm : m ≤ (p - 1).toNat) (a : Int) : ∃ v e, LogIs p b a m 0 v e ∧ LogIs p b a (p - 1).toNat 0 v e := by
  have h2 := hp.two
  by_cases hx : ∃ i : Nat, i < m ∧ b ^ i % p = a % p
  · obtain ⟨i, hi, he⟩ := hx
    obtain ⟨j, h1, h3, h4, h5⟩ := least_exists (P := fun n => b ^ (n - 1) % p = a % p) (i + 1) (by omega) (by simpa using he)
    have h6 : ∀ i : Nat, i < j - 1 → b ^ i % p ≠ a % p := fun i hi => by
      have := h5 (i + 1) (by omega) (by omega)
      simpa using this
    exact ⟨((j - 1 : Nat) : Int), 0, .inr ⟨j - 1, rfl, by omega, by omega, h4, h6, rfl⟩, .inr ⟨j - 1, rfl, by omega, by omega, h4, h6, rfl⟩⟩
  · refine ⟨0, 4, .inl ⟨fun i _ hi h => hx ⟨i, hi, h⟩, rfl, rfl⟩, .inl ⟨fun i _ hi h => ?_, rfl, rfl⟩⟩
    rw [pow_period h2 ho.one] at h
    exact hx ⟨i % m, Nat.mod_lt _ ho.pos, h⟩

/-! roots -/
def RootIs (p a : Int) (n : Int) (v e : Int) : Prop := (∀ x : Int, n ≤ x → x < p → x * x % p ≠ a % p) ∧ v = 0 ∧ e = 4 ∨ (n ≤ v ∧ v < p ∧ v * v % p = a % p ∧ (∀ x : Int, 0 ≤ x → x < v → x * x % p ≠ a % p) ∧ e = 0)
theorem RootIs.next {a n v e : Int} (hc : n * n % p ≠ a % p) (h : RootIs p a n v e) : RootIs p a (n + 1) v e := by
  rcases h with ⟨h, h'⟩ | ⟨hj1, hj2, hj3, hj4⟩
  · exact .inl ⟨fun i hi => h i (by omega), h'⟩
  · refine .inr ⟨?_, hj2, hj3, hj4⟩
    have : v ≠ n := fun e => hc (e ▸ hj3)
    omega
theorem RootIs.here {a n v e : Int} (h0 : 0 ≤ n) (hn : n < p) (hc : n * n % p = a % p) (h : RootIs p a n v e) : v = n ∧ e = 0 := by
  rcases h with ⟨h, _, _⟩ | ⟨hj1, hj2, hj3, hj4, rfl⟩
  · exact absurd hc (h n (by omega) (by omega))
  · refine ⟨?_, rfl⟩
    by_cases hlt : n < v
    · exact absurd hc (hj4 n h0 hlt)
    · omega
theorem RootIs.stop {a n v e : Int} (hn : p ≤ n) (h : RootIs p a n v e) : v = 0 ∧ e = 4 := by
  rcases h with ⟨_, rfl, rfl⟩ | ⟨_, _, _⟩
  · exact ⟨rfl, rfl⟩
  · omega
theorem root_is (hp : IsP p) (a : Int) : ∃ v e, RootIs p a 0 v e := by
  have h2 := hp.two
  by_cases hx : ∃ x : Int, 0 ≤ x ∧ x < p ∧ x * x % p = a % p
  · obtain ⟨x, h0, hx, he⟩ := hx
    obtain ⟨n, rfl⟩ := Int.eq_ofNat_of_zero_le h0
    obtain ⟨j, h1, h3, h4, h5⟩ := least_exists (P := fun n => ((n - 1 : Nat) : Int) * ((n - 1 : Nat) : Int) % p = a % p) (n + 1) (by omega) (by simpa using he)
    refine ⟨((j - 1 : Nat) : Int), 0, .inr ⟨by omega, by omega, h4, fun x h0 hx => ?_, rfl⟩⟩
    obtain ⟨i, rfl⟩ := Int.eq_ofNat_of_zero_le h0
    have := h5 (i + 1) (by omega) (by omega)
    simpa using this
  · exact ⟨0, 4, .inl ⟨fun x h0 hx' h => hx ⟨x, h0, hx', h⟩, rfl, rfl⟩⟩
theorem root_l (hp : IsP p) {a : Int} {v e : Int} (d : Nat) : ∀ n : Int, 0 ≤ n → n ≤ p → p - n = d → RootIs p a n v e → Ev (fun k => modp_Root.l0 k p a p p n) (v, e) := by
  have h2 := hp.two
  have h251 := hp.most
  induction d with
  | zero =>
    intro n h0 hn hd h
    obtain ⟨rfl, rfl⟩ := h.stop (by omega)
    refine Ev.step (f := fun _ => some (0, 4)) (fun k => ?_) (Ev.now _)
    simp only [modp_Root.l0]
    rw [if_neg (by omega)]
  | succ d ih =>
    intro n h0 hn hd h
    have hs := small_mul h251 (x := n) (y := n) ⟨h0, by omega⟩ ⟨h0, by omega⟩
    by_cases hc : n * n % p = a % p
    · obtain ⟨rfl, rfl⟩ := h.here h0 (by omega) hc
      refine Ev.step (f := fun _ => some (v, 0)) (fun k => ?_) (Ev.now _)
      simp only [modp_Root.l0]
      rw [if_pos (by omega), if_neg (by omega), rest_f h2 h251, Option.bind_some, wrap_id (by omega) (by omega), Int.tmod_eq_emod_of_nonneg hs.1, if_pos hc]
    · refine Ev.step (f := fun k => modp_Root.l0 k p a p p (n + 1)) (fun k => ?_) (ih (n + 1) (by omega) (by omega) (by omega) (h.next hc))
      simp only [modp_Root.l0]
      rw [if_pos (by omega), if_neg (by omega), rest_f h2 h251, Option.bind_some, wrap_id (a := n * n) (by omega) (by omega), Int.tmod_eq_emod_of_nonneg hs.1, if_neg hc, wrap_id (a := n + 1) (by omega) (by omega)]
theorem root_ev (hp : IsP p) {a v e : Int} (h : RootIs p a 0 v e) : Ev (fun k => modp_Root.f k p a) (v, e) := by
  have h2 := hp.two
  simp only [modp_Root.f]
  rw [ev_bind (of_yes hp)]
  simp only [if_true]
  exact root_l hp p.toNat 0 (by omega) (by omega) (by omega) h
theorem root_no (hp : ¬ IsP p) (a : Int) : Ev (fun k => modp_Root.f k p a) (0, 8) := by
  simp only [modp_Root.f]; rw [ev_bind (of_no hp)]; exact Ev.now _
theorem rroot_l (hp : IsP p) {a : Int} {v e : Int} (d : Nat) : ∀ n : Int, 0 ≤ n → n ≤ p → p - n = d → RootIs p a n v e → Ev (fun k => torusref01_Root.l0 k p a n) (v, e) := by
  have h2 := hp.two
  have h251 := hp.most
  induction d with
  | zero =>
    intro n h0 hn hd h
    obtain ⟨rfl, rfl⟩ := h.stop (by omega)
    refine Ev.step (f := fun _ => some (0, 4)) (fun k => ?_) (Ev.now _)
    simp only [torusref01_Root.l0]
    rw [if_neg (by omega)]
  | succ d ih =>
    intro n h0 hn hd h
    have hs := small_mul h251 (x := n) (y := n) ⟨h0, by omega⟩ ⟨h0, by omega⟩
    refine Ev.step (f := fun k => (torusref01_Mod.f k p a).bind fun t348 => (if n * n % p = t348 then (some (n, 0)) else (torusref01_Root.l0 k p a (n + 1)))) (fun k => ?_) ?_
    · simp only [torusref01_Root.l0]
      rw [if_pos (by omega), if_neg (by omega), wrap_id (a := n * n) (by omega) (by omega), Int.tmod_eq_emod_of_nonneg hs.1, wrap_id (a := n + 1) (by omega) (by omega)]
    · rw [ev_bind (rmod_ev hp a)]
      by_cases hc : n * n % p = a % p
      · obtain ⟨rfl, rfl⟩ := h.here h0 (by omega) hc
        simp only [hc, if_true]
        exact Ev.now _
      · simp only [hc, if_false]
        exact ih (n + 1) (by omega) (by omega) (by omega) (h.next hc)
theorem rroot_ev (hp : IsP p) {a v e : Int} (h : RootIs p a 0 v e) : Ev (fun k => torusref01_Root.f k p a) (v, e) := by
  have h2 := hp.two
  simp only [torusref01_Root.f]
  rw [ev_bind (rprime_yes hp)]
  simp only [if_true]
  exact rroot_l hp p.toNat 0 (by omega) (by omega) (by omega) h
theorem rroot_no (hp : ¬ IsP p) (a : Int) : Ev (fun k => torusref01_Root.f k p a) (0, 8) := by
  simp only [torusref01_Root.f]; rw [ev_bind (rprime_no hp)]; exact Ev.now _

/-! sums of lists -/
def sumTo (p : Int) (l : List Int) (i : Nat) : Int := (l.take i).foldl (fun s a => (s + a) % p) 0
theorem sumTo_succ (p : Int) (l : List Int) (i : Nat) (h : i < l.length) : sumTo p l (i + 1) = (sumTo p l i + rd l i) % p := by
  unfold sumTo rd
  rw [List.take_succ_eq_append_getElem h, List.foldl_append]
  simp [List.getD_eq_getElem?_getD, h]
theorem sumTo_range (h2 : 2 ≤ p) (l : List Int) (i : Nat) (hi : i ≤ l.length) : 0 ≤ sumTo p l i ∧ sumTo p l i < p := by
  cases i with
  | zero => simp [sumTo]; omega
  | succ i => rw [sumTo_succ p l i (by omega)]; exact rest_range h2 _
theorem sum_l (hp : IsP p) (l : List Int) (hl : l.length ≤ 9223372036854775806) (d : Nat) : ∀ i : Nat, i ≤ l.length → l.length - i = d → Ev (fun k => modp_Sum.l0 k p (sumTo p l i) l (l.length : Int) i) (sumTo p l l.length, 0) := by
  have h2 := hp.two
  have h251 := hp.most
  induction d with
  | zero =>
    intro i hi hd
    obtain rfl : i = l.length := by omega
    refine Ev.step (f := fun _ => some (sumTo p l l.length, 0)) (fun k => ?_) (Ev.now _)
    simp only [modp_Sum.l0]
    rw [if_neg (by omega)]
  | succ d ih =>
    intro i hi hd
    have hs := sumTo_range h2 l i hi
    have hr := rest_range h2 (rd l i)
    refine Ev.step (f := fun k => modp_Sum.l0 k p (sumTo p l (i + 1)) l (l.length : Int) ((i + 1 : Nat) : Int)) (fun k => ?_) (ih (i + 1) (by omega) (by omega))
    simp only [modp_Sum.l0]
    rw [if_pos (by omega), if_pos (by omega), if_pos (by omega), rest_f h2 h251, Option.bind_some, rest_f h2 h251, Option.bind_some, wrap_id (by omega) (by omega), wrap_id (by omega) (by omega), add_r, sumTo_succ p l i (by omega)]
    rfl
theorem sum_ev (hp : IsP p) (l : List Int) (hl : l.length ≤ 9223372036854775806) : Ev (fun k => modp_Sum.f k p l) (sumTo p l l.length, 0) := by
  simp only [modp_Sum.f]
  rw [ev_bind (of_yes hp)]
  simp only [if_true]
  exact sum_l hp l hl l.length 0 (by omega) rfl
theorem sum_no (hp : ¬ IsP p) (l : List Int) : Ev (fun k => modp_Sum.f k p l) (0, 8) := by
  simp only [modp_Sum.f]; rw [ev_bind (of_no hp)]; exact Ev.now _
theorem rsum_l (hp : IsP p) (l : List Int) (hl : l.length ≤ 9223372036854775806) (d : Nat) : ∀ i : Nat, i ≤ l.length → l.length - i = d → Ev (fun k => torusref01_Sum.l0 k p l (sumTo p l i) i) (sumTo p l l.length, 0) := by
  have h2 := hp.two
  have h251 := hp.most
  induction d with
  | zero =>
    intro i hi hd
    obtain rfl : i = l.length := by omega
    refine Ev.step (f := fun _ => some (sumTo p l l.length, 0)) (fun k => ?_) (Ev.now _)
    simp only [torusref01_Sum.l0]
    rw [if_neg (by omega)]
  | succ d ih =>
    intro i hi hd
    have hs := sumTo_range h2 l i hi
    have hr := rest_range h2 (rd l i)
    refine Ev.step (f := fun k => (torusref01_Mod.f k p (rd l i)).bind fun t116 => (if p = 0 then (none) else (torusref01_Sum.l0 k p l (Int.tmod (wrap64 (sumTo p l i + t116)) p) ((i + 1 : Nat) : Int)))) (fun k => ?_) ?_
    · simp only [torusref01_Sum.l0]
      rw [if_pos (by omega), if_pos (by omega), wrap_id (a := (i : Int) + 1) (by omega) (by omega)]
      rfl
    · rw [ev_bind (rmod_ev hp _)]
      simp only [show p ≠ 0 by omega, if_false]
      rw [wrap_id (by omega) (by omega), Int.tmod_eq_emod_of_nonneg (by omega), add_r, ← sumTo_succ p l i (by omega)]
      exact ih (i + 1) (by omega) (by omega)
theorem rsum_ev (hp : IsP p) (l : List Int) (hl : l.length ≤ 9223372036854775806) : Ev (fun k => torusref01_Sum.f k p l) (sumTo p l l.length, 0) := by
  simp only [torusref01_Sum.f]
  rw [ev_bind (rprime_yes hp)]
  simp only [if_true]
  exact rsum_l hp l hl l.length 0 (by omega) rfl
theorem rsum_no (hp : ¬ IsP p) (l : List Int) : Ev (fun k => torusref01_Sum.f k p l) (0, 8) := by
  simp only [torusref01_Sum.f]; rw [ev_bind (rprime_no hp)]; exact Ev.now _
end
theorem same_l (l : List Int) (hl : l.length ≤ 9223372036854775806) (d : Nat) : ∀ i : Nat, i ≤ l.length → l.length - i = d → Ev (fun k => torusref01_Same.l0 k l l i) true := by
  induction d with
  | zero =>
    intro i hi hd
    refine Ev.step (f := fun _ => some true) (fun k => ?_) (Ev.now _)
    simp only [torusref01_Same.l0]
    rw [if_neg (by omega)]
  | succ d ih =>
    intro i hi hd
    refine Ev.step (f := fun k => torusref01_Same.l0 k l l ((i + 1 : Nat) : Int)) (fun k => ?_) (ih (i + 1) (by omega) (by omega))
    simp only [torusref01_Same.l0]
    rw [if_pos (by omega), if_pos (by omega), if_pos (by omega), if_pos (by trivial), wrap_id (by omega) (by omega)]
    rfl
theorem same_ev (l : List Int) (hl : l.length ≤ 9223372036854775806) : Ev (fun k => torusref01_Same.f k l l) true := by
  simp only [torusref01_Same.f, if_true]
  exact same_l l hl l.length 0 (by omega) rfl
theorem copy_f (l : List Int) (hl : l.length < 17592186044416) : torusref01_Copy.f l = some l := by
  unfold torusref01_Copy.f
  simp only [Option.bind_some, List.length_nil, List.nil_append]
  rw [if_pos (by omega)]

/-! the chapter's examples, and the primes -/
theorem awake_ev : Ev (fun k => toruslaw01_awake.f k) true := Ev.of toruslaw01_awake.mono (k := 40) (by decide +kernel)
theorem primes_ev : Ev (fun k => torusref01_Primes.f k) (PL.map Int.ofNat) := Ev.of torusref01_Primes.mono (k := 600) (by decide +kernel)
theorem bring_f (a : Int) {n : Int} (hn : 0 < n) (h64 : n ≤ 1000000000) : torusref01_Bring.f a n = some (a % n) := by
  have h1 := Int.emod_nonneg a (show n ≠ 0 by omega)
  have h3 := Int.emod_lt_of_pos a (show 0 < n by omega)
  unfold torusref01_Bring.f
  rw [if_neg (by omega)]
  have hd : Int.tmod a n = a % n ∨ (Int.tmod a n < 0 ∧ Int.tmod a n + n = a % n) := by
    rw [Int.tmod_eq_emod]
    split
    · left; omega
    · right; omega
  rcases hd with hd | ⟨hl, hd⟩
  · rw [hd, if_neg (by omega)]
  · rw [if_pos hl, wrap_id (by omega) (by omega), hd]
theorem field_ev (a : Int) : ∃ p, IsP p ∧ Ev (fun k => torusref01_Field.f k a) p := by
  have hlen : (PL.map Int.ofNat).length = 54 := by decide +kernel
  have h1 := Int.emod_nonneg a (show (54 : Int) ≠ 0 by omega)
  have h3 := Int.emod_lt_of_pos a (show (0 : Int) < 54 by omega)
  refine ⟨rd (PL.map Int.ofNat) (a % 54), ?_, ?_⟩
  · unfold rd
    rw [List.getD_eq_getElem?_getD, List.getElem?_eq_getElem (by rw [hlen]; omega)]
    have := List.getElem_mem (l := PL.map Int.ofNat) (n := (a % 54).toNat) (by rw [hlen]; omega)
    obtain ⟨q, hq, he⟩ := List.mem_map.mp this
    exact ⟨q, hq, he.symm⟩
  · simp only [torusref01_Field.f]
    rw [ev_bind primes_ev]
    rw [hlen]
    rw [show (((54 : Nat)) : Int) = 54 from rfl, bring_f a (by omega) (by omega)]
    simp only [Option.bind_some, h1, h3, if_true]
    exact Ev.now _
end Go.Proofs.Ytikbgcpcbhoblaa.Fn
