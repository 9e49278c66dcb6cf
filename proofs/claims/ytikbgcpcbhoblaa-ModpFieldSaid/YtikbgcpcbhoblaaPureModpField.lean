/- Addition and multiplication modulo a prime obey the field axioms; Sub, Div and Inv undo them. -/
import Derived.Test.YtikbgcpcbhoblaaPModpx5
import Derived.Test.YtikbgcpcbhoblaaFnb
namespace Go.Proofs.Ytikbgcpcbhoblaa.Pure
open Go.RowKit Go.Proofs.YtikbgcpcbhoblaaW.PrintWords Go.Proofs.Ytikbgcpcbhoblaa.PModp Go.Proofs.Ytikbgcpcbhoblaa.Md Go.Proofs.Ytikbgcpcbhoblaa.Fn

theorem ModpField : toruslaw01_ModpField.Pure := by
  intro w a b c _ ha hb hc
  have ha := i64_of ha
  refine Ev.rounds (g := fun k => toruslaw01_ModpField.f k w a b c) ?_
  simp only [toruslaw01_ModpField.f]
  obtain ⟨p, hp, hf⟩ := field_ev w
  have h2 := hp.two
  have h251 := hp.most
  have hpl : ∀ b c : Int, Ev (fun k => toruslaw01_plus.f k p b c) ((b + c) % p) := fun b c => by
    simp only [toruslaw01_plus.f]
    rw [ev_bind (add_ev hp b c)]
    simp only [if_true]
    exact Ev.now _
  have hpr : ∀ b c : Int, Ev (fun k => toruslaw01_product.f k p b c) (b * c % p) := fun b c => by
    simp only [toruslaw01_product.f]
    rw [ev_bind (mul_ev hp b c)]
    simp only [if_true]
    exact Ev.now _
  rw [ev_bind hf, ev_bind (hpl a b), ev_bind (hpl b a)]
  simp only [Int.add_comm b a, if_true]
  rw [ev_bind (hpr a b), ev_bind (hpr b a)]
  simp only [Int.mul_comm b a, if_true]
  rw [ev_bind (hpl a b), ev_bind (hpl _ c), ev_bind (hpl b c), ev_bind (hpl a _)]
  simp only [add_l, add_r, Int.add_assoc, if_true]
  rw [ev_bind (hpr a b), ev_bind (hpr _ c), ev_bind (hpr b c), ev_bind (hpr a _)]
  simp only [mul_l, mul_r, Int.mul_assoc, if_true]
  rw [ev_bind (hpl b c), ev_bind (hpr a _), ev_bind (hpr a b), ev_bind (hpr a c), ev_bind (hpl _ _)]
  simp only [mul_r, add_l, add_r, Int.mul_add, bne_self_eq_false]
  refine ev_succ ?_
  simp only [toruslaw01_ModpField.j0, Bool.false_eq_true, if_false]
  rw [ev_bind (hpl a b), ev_bind (sub_ev hp _ b)]
  simp only [sub_l, show a + b - b = a by omega, if_true]
  rw [ev_bind (mod_ev hp a)]
  simp only [if_true]
  rw [ev_bind (hpl a 0)]
  simp only [Int.add_zero, if_true]
  rw [ev_bind (hpr a 1)]
  simp only [Int.mul_one, bne_self_eq_false]
  refine ev_succ ?_
  simp only [toruslaw01_ModpField.j1, Bool.false_eq_true, if_false]
  rw [ev_bind (hpr a b)]
  by_cases hb0 : b % p = 0
  · rw [ev_bind (div_zero hp _ hb0), ev_bind (inv_zero hp hb0), ev_bind (mod_ev hp b)]
    simp only [hb0, if_true]
    rw [ev_bind awake_ev]
    exact Ev.now _
  · have e : a * b % p * inv p b % p = a % p := by
      rw [mul_l, Int.mul_assoc, Int.mul_comm b, ← mul_r, inv_mul hp hb0, Int.mul_one]
    rw [ev_bind (div_ev hp _ hb0), ev_bind (inv_ev hp hb0), ev_bind (mod_ev hp b)]
    simp only [hb0, if_false, if_true, e]
    rw [ev_bind (hpr _ b)]
    simp only [inv_mul hp hb0, if_true]
    rw [ev_bind awake_ev]
    exact Ev.now _

end Go.Proofs.Ytikbgcpcbhoblaa.Pure
