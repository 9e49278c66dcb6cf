/- Orders divide p - 1, a power is 1 exactly if the order divides the exponent, and every element is a power of the generator. -/
import Derived.Test.YtikbgcpcbhoblaaPModpx7
import Derived.Test.YtikbgcpcbhoblaaFnb
namespace Go.Proofs.Ytikbgcpcbhoblaa.Pure
open Go.RowKit Go.Proofs.YtikbgcpcbhoblaaW.PrintWords Go.Proofs.Ytikbgcpcbhoblaa.PModp Go.Proofs.Ytikbgcpcbhoblaa.Md Go.Proofs.Ytikbgcpcbhoblaa.Fn

theorem ModpOrders : toruslaw01_ModpOrders.Pure := by
  intro w a n _ ha hn
  have hn := i64_of hn
  refine Ev.rounds (g := fun k => toruslaw01_ModpOrders.f k w a n) ?_
  simp only [toruslaw01_ModpOrders.f]
  obtain ⟨p, hp, hf⟩ := field_ev w
  have h2 := hp.two
  have h251 := hp.most
  obtain ⟨g, hg⟩ := gen_least hp
  have hg1 := hg.one
  have hg2 := hg.lt
  have hgn : g % p ≠ 0 := by rw [rest_id (by omega) (by omega)]; omega
  rw [ev_bind hf, ev_bind (gen_ev hp hg), ev_bind (mod_ev hp a)]
  by_cases h0 : a % p = 0
  · simp only [h0, if_true]
    rw [ev_bind (order_zero hp h0), ev_bind (log_zero hp (.inr h0))]
    simp only [if_true]
    rw [ev_bind awake_ev]
    exact Ev.now _
  · simp only [h0, if_false]
    obtain ⟨m, ho, hm⟩ := ord_exists hp h0
    have hm1 := ho.pos
    have hdv := ho.dvd h2 (fermat hp h0)
    obtain ⟨v, e, _, hl⟩ := log_is hp hg.ord (Nat.le_refl _) a
    have hl' := hl
    rcases hl with ⟨hno, _, _⟩ | ⟨j, rfl, _, hj, hje, _, rfl⟩
    · obtain ⟨i, hi, he⟩ := log_exists hp hg.ord hgn h0
      exact absurd he (hno i (by omega) hi)
    · rw [ev_bind (order_ev hp h0 ho (by omega)), ev_bind (order_ev hp hgn hg.ord (by omega)), ev_bind (log_ev hp hgn h0 hl')]
      have ht : Int.tmod (p - 1) (m : Int) = 0 := by
        rw [Int.tmod_eq_emod_of_nonneg (by omega), show p - 1 = (((p - 1).toNat : Nat) : Int) by omega, ← Int.natCast_emod, hdv]; rfl
      have hb : decide ((j : Int) ≥ p - 1) = false := decide_eq_false (by omega)
      rw [wrap_id (a := p - 1) (by omega) (by omega)]
      simp only [if_true, show (((p - 1).toNat : Nat) : Int) = p - 1 by omega, show ¬ (m : Int) < 1 by omega, show ¬ (m : Int) = 0 by omega, if_false, ht, show ¬ (j : Int) < 0 by omega, hb]
      refine ev_succ ?_
      simp only [toruslaw01_ModpOrders.j0, Bool.false_eq_true, if_false, show ¬ (m : Int) = 0 by omega]
      have hpw : ∀ (a : Int) (h0 : a % p ≠ 0) (e : Int), I64 e → Ev (fun k => toruslaw01_power.f k p a e) (powv p a e) := fun a h0 e he => by
        simp only [toruslaw01_power.f]
        rw [ev_bind (pow_ev hp h0 he)]
        simp only [if_true]
        exact Ev.now _
      rw [ev_bind (hpw a h0 n hn)]
      have hiff : (powv p a n == 1) = (Int.tmod n m == 0) := by
        rw [Bool.eq_iff_iff, beq_iff_eq, beq_iff_eq]
        have hq : Int.tmod n m = 0 ↔ n % (m : Int) = 0 := by
          rw [← Int.dvd_iff_tmod_eq_zero, Int.dvd_iff_emod_eq_zero]
        rw [hq]
        -- the exponent modulo p - 1, and modulo the order
        have h3 := Int.emod_nonneg n (show p - 1 ≠ 0 by omega)
        have hdd : (m : Int) ∣ p - 1 := by
          rw [show p - 1 = (((p - 1).toNat : Nat) : Int) by omega]
          exact Int.natCast_dvd_natCast.mpr (Nat.dvd_of_mod_eq_zero hdv)
        have hmm : n % (p - 1) % (m : Int) = n % (m : Int) := Int.emod_emod_of_dvd n hdd
        have hcast : (((n % (p - 1)).toNat % m : Nat) : Int) = n % (m : Int) := by
          rw [Int.natCast_emod, Int.toNat_of_nonneg h3, hmm]
        constructor
        · intro h
          have := ho.dvd h2 (n := (n % (p - 1)).toNat) h
          omega
        · intro h
          exact ho.of_dvd h2 (n := (n % (p - 1)).toNat) (by omega)
      simp only [hiff, BEq.rfl, if_true]
      rw [ev_bind (hpw g hgn j ⟨by omega, by omega⟩), ev_bind (mod_ev hp a)]
      have : powv p g j = a % p := by rw [← pow_red hp hgn (by omega), Int.toNat_natCast]; exact hje
      simp only [this, if_true]
      rw [ev_bind awake_ev]
      exact Ev.now _

end Go.Proofs.Ytikbgcpcbhoblaa.Pure
