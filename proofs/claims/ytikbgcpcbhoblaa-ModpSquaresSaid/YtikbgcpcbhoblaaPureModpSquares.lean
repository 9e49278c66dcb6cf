/- Root returns the lesser square root, and none exactly where Euler's criterion says so. -/
import Derived.Test.YtikbgcpcbhoblaaPModpx4
import Derived.Test.YtikbgcpcbhoblaaFnb
namespace Go.Proofs.Ytikbgcpcbhoblaa.Pure
open Go.RowKit Go.Proofs.YtikbgcpcbhoblaaW.PrintWords Go.Proofs.Ytikbgcpcbhoblaa.PModp Go.Proofs.Ytikbgcpcbhoblaa.Md Go.Proofs.Ytikbgcpcbhoblaa.Fn

theorem ModpSquares : toruslaw01_ModpSquares.Pure := by
  intro w a _ ha
  refine Ev.rounds (g := fun k => toruslaw01_ModpSquares.f k w a) ?_
  simp only [toruslaw01_ModpSquares.f]
  obtain ⟨p, hp, hf⟩ := field_ev w
  have h2 := hp.two
  have h251 := hp.most
  obtain ⟨v, e, hv⟩ := root_is hp a
  rw [ev_bind hf, ev_bind (root_ev hp hv)]
  have hpr : ∀ b c : Int, Ev (fun k => toruslaw01_product.f k p b c) (b * c % p) := fun b c => by
    simp only [toruslaw01_product.f]
    rw [ev_bind (mul_ev hp b c)]
    simp only [if_true]
    exact Ev.now _
  rcases hv with ⟨hno, rfl, rfl⟩ | ⟨h0, h1, h3, h4, rfl⟩
  · have ha0 : a % p ≠ 0 := fun e => hno 0 (by omega) (by omega) (by rw [e]; simp)
    have hp2 : 2 < p := by
      by_cases h : 2 < p
      · exact h
      · exfalso
        obtain rfl : p = 2 := by omega
        have := rest_range h2 a
        refine hno 1 (by omega) (by omega) ?_
        omega
    simp only [show ¬ (4 : Int) = 0 by omega, if_false, if_true]
    simp only [show p > 2 from hp2, if_true]
    rw [ev_bind (mod_ev hp a)]
    simp only [ha0, if_false]
    rw [wrap_id (a := p - 1) (by omega) (by omega), Int.tdiv_eq_ediv_of_nonneg (by omega), wrap_id (by omega) (by omega)]
    have hpw : Ev (fun k => toruslaw01_power.f k p a ((p - 1) / 2)) (p - 1) := by
      simp only [toruslaw01_power.f]
      rw [ev_bind (pow_nn hp a (n := (p - 1) / 2) (by omega) (by omega)), euler hp hp2 ha0 hno]
      simp only [if_true]
      exact Ev.now _
    rw [ev_bind hpw]
    simp only [if_true]
    rw [ev_bind awake_ev]
    exact Ev.now _
  · simp only [if_true]
    rw [ev_bind (hpr _ _), ev_bind (mod_ev hp a)]
    simp only [h3, if_true, show v ≥ 0 from h0]
    rw [wrap_id (a := -v) (by omega) (by omega), ev_bind (mod_ev hp (-v))]
    have hle : v ≤ -v % p := by
      by_cases hv0 : v = 0
      · subst hv0; simp
      · have e : -v % p = p - v := by rw [← Int.add_emod_right, Int.emod_eq_of_lt (by omega) (by omega)]; omega
        rw [e]
        by_cases hlt : p - v < v
        · exfalso
          refine h4 (p - v) (by omega) hlt ?_
          rw [← h3]
          have : (p - v) * (p - v) = v * v + p * (p - 2 * v) := by grind
          rw [this, Int.add_mul_emod_self_left]
        · omega
    simp only [hle, if_true]
    rw [ev_bind awake_ev]
    exact Ev.now _

end Go.Proofs.Ytikbgcpcbhoblaa.Pure
