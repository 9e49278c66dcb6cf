/- Powers modulo a prime obey the laws of exponents and Fermat's theorem, for every integer arguments. -/
import Derived.Test.YtikbgcpcbhoblaaPModpx4
import Derived.Test.YtikbgcpcbhoblaaFnb
namespace Go.Proofs.Ytikbgcpcbhoblaa.Pure
open Go.RowKit Go.Proofs.YtikbgcpcbhoblaaW.PrintWords Go.Proofs.Ytikbgcpcbhoblaa.PModp Go.Proofs.Ytikbgcpcbhoblaa.Md Go.Proofs.Ytikbgcpcbhoblaa.Fn

theorem ModpPowers : toruslaw01_ModpPowers.Pure := by
  intro w a m n _ ha hm hn
  have hm := i32_of hm
  have hn := i32_of hn
  refine Ev.rounds (g := fun k => toruslaw01_ModpPowers.f k w a m n) ?_
  simp only [toruslaw01_ModpPowers.f]
  obtain ⟨p, hp, hf⟩ := field_ev w
  have h2 := hp.two
  have h251 := hp.most
  have h1s : ∀ z : Int, -1000001 < Int.tmod z 1000001 ∧ Int.tmod z 1000001 < 1000001 := fun z => by
    have := tmod_cases z (p := 1000001) (by omega)
    omega
  rw [wrap_id (a := m) (by omega) (by omega), wrap_id (a := n) (by omega) (by omega)]
  have hx := h1s m
  have hy := h1s n
  generalize Int.tmod m 1000001 = x at hx ⊢
  generalize Int.tmod n 1000001 = y at hy ⊢
  have hxx : 0 ≤ x * x ∧ x * x ≤ 1000000000000 := by
    have e : x * x = ((x.natAbs * x.natAbs : Nat) : Int) := by rw [Int.natCast_mul]; exact Int.natAbs_mul_self.symm
    have : x.natAbs * x.natAbs ≤ 1000000 * 1000000 := Nat.mul_le_mul (by omega) (by omega)
    omega
  rw [ev_bind hf, ev_bind (mod_ev hp a)]
  by_cases h0 : a % p = 0
  · simp only [h0, if_true]
    rw [wrap_id (a := x * x) (by omega) (by omega), wrap_id (a := 1 + x * x) (by omega) (by omega), wrap_id (a := -1 - x * x) (by omega) (by omega)]
    rw [ev_bind (pow_zero hp h0 (n := 0) ⟨by omega, by omega⟩), ev_bind (pow_zero hp h0 (n := 1 + x * x) ⟨by omega, by omega⟩), ev_bind (pow_zero hp h0 (n := -1 - x * x) ⟨by omega, by omega⟩)]
    simp only [show ¬ (0 : Int) < 0 by omega, show ¬ 1 + x * x < 0 by omega, show ¬ 1 + x * x = 0 by omega, show -1 - x * x < 0 by omega, if_true, if_false]
    simp only [toruslaw01_is.f, if_true, Option.bind_some, BEq.rfl]
    rw [ev_bind awake_ev]
    exact Ev.now _
  · simp only [h0, if_false]
    have hpw : ∀ e : Int, I64 e → Ev (fun k => toruslaw01_power.f k p a e) (powv p a e) := fun e he => by
      simp only [toruslaw01_power.f]
      rw [ev_bind (pow_ev hp h0 he)]
      simp only [if_true]
      exact Ev.now _
    have hpr : ∀ b c : Int, Ev (fun k => toruslaw01_product.f k p b c) (b * c % p) := fun b c => by
      simp only [toruslaw01_product.f]
      rw [ev_bind (mul_ev hp b c)]
      simp only [if_true]
      exact Ev.now _
    have hne : p - 1 ≠ 0 := by omega
    have hr := fun z : Int => Int.emod_nonneg z hne
    have hs := fun z : Int => Int.emod_lt_of_pos z (show 0 < p - 1 by omega)
    have hmul : powv p a (x + y) = powv p a x * powv p a y % p := by
      rw [powv, powv, powv, mul_l, mul_r, ← Int.pow_add]
      have h3 := hr x; have h4 := hr y; have h5 := hs x; have h6 := hs y
      rw [pow_period h2 (fermat hp h0) ((x % (p - 1)).toNat + (y % (p - 1)).toNat)]
      congr 2
      have : (((x % (p - 1)).toNat + (y % (p - 1)).toNat) % (p - 1).toNat : Nat) = ((x + y) % (p - 1)).toNat := by
        have e : ((((x % (p - 1)).toNat + (y % (p - 1)).toNat) % (p - 1).toNat : Nat) : Int) = (x + y) % (p - 1) := by
          rw [Int.natCast_emod, Int.natCast_add, Int.toNat_of_nonneg h3, Int.toNat_of_nonneg h4, Int.toNat_of_nonneg (by omega), ← Int.add_emod]
        omega
      exact this.symm
    have hone : powv p a (p - 1) = 1 := by rw [powv, Int.emod_self, Int.toNat_zero, Int.pow_zero]; exact one_mod h2
    have hbr : powv p a (x % (p - 1)) = powv p a x := by rw [powv, powv, Int.emod_emod]
    have h1 : powv p a 1 = a % p := by rw [← pow_red hp h0 (by omega), show (1 : Int).toNat = 1 from rfl, Int.pow_one]
    rw [wrap_id (a := x + y) (by omega) (by omega), wrap_id (a := p - 1) (by omega) (by omega)]
    rw [ev_bind (hpw _ ⟨by omega, by omega⟩), ev_bind (hpw _ ⟨by omega, by omega⟩), ev_bind (hpw _ ⟨by omega, by omega⟩), ev_bind (hpr _ _)]
    simp only [hmul, if_true]
    rw [ev_bind (hpw _ ⟨by omega, by omega⟩)]
    simp only [hone, if_true]
    rw [ev_bind (hpw _ ⟨by omega, by omega⟩)]
    rw [bring_f x (by omega) (by omega)]
    simp only [Option.bind_some]
    have h7 := hr x; have h8 := hs x
    rw [ev_bind (hpw _ ⟨by omega, by omega⟩)]
    simp only [hbr, if_true]
    rw [ev_bind (hpw _ ⟨by omega, by omega⟩), ev_bind (mod_ev hp a)]
    simp only [h1, if_true]
    rw [ev_bind awake_ev]
    exact Ev.now _

end Go.Proofs.Ytikbgcpcbhoblaa.Pure
