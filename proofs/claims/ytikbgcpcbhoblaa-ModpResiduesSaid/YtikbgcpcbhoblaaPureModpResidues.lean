/- Results of package modp depend on residues only. -/
import Derived.Test.YtikbgcpcbhoblaaPModpx6
import Derived.Test.YtikbgcpcbhoblaaFnb
namespace Go.Proofs.Ytikbgcpcbhoblaa.Pure
open Go.RowKit Go.Proofs.YtikbgcpcbhoblaaW.PrintWords Go.Proofs.Ytikbgcpcbhoblaa.PModp Go.Proofs.Ytikbgcpcbhoblaa.Md Go.Proofs.Ytikbgcpcbhoblaa.Fn

theorem ModpResidues : toruslaw01_ModpResidues.Pure := by
  intro w a b n _ ha hb hn
  have hn := i64_of hn
  refine Ev.rounds (g := fun k => toruslaw01_ModpResidues.f k w a b n) ?_
  simp only [toruslaw01_ModpResidues.f]
  obtain ⟨p, hp, hf⟩ := field_ev w
  have h2 := hp.two
  have h251 := hp.most
  have hra := rest_range h2 a
  have hrb := rest_range h2 b
  have hpl : ∀ b c : Int, Ev (fun k => toruslaw01_plus.f k p b c) ((b + c) % p) := fun b c => by
    simp only [toruslaw01_plus.f]
    rw [ev_bind (add_ev hp b c)]
    simp only [if_true]
    exact Ev.now _
  have hpr : ∀ b c : Int, Ev (fun k => toruslaw01_product.f k p b c) (b * c % p) := fun b c => by
    simp only [toruslaw01_product.f]
    rw [ev_bind (mul_ev hp b c)]
    simp only [if_true]
    exact Ev.now _
  rw [ev_bind hf, ev_bind (mod_ev hp a), ev_bind (mod_ev hp b)]
  simp only [show ¬ a % p < 0 by omega, show ¬ a % p ≥ p by omega, if_false]
  rw [ev_bind (mod_ev hp (a % p))]
  simp only [Int.emod_emod, if_true]
  rw [ev_bind (hpl a b), ev_bind (hpl (a % p) (b % p))]
  simp only [add_l, add_r, if_true]
  rw [ev_bind (hpr a b), ev_bind (hpr (a % p) (b % p))]
  simp only [mul_l, mul_r, bne_self_eq_false]
  refine ev_succ ?_
  simp only [toruslaw01_ModpResidues.j0, Bool.false_eq_true, if_false]
  have hpow : ∃ r, Ev (fun k => modp_Pow.f k p a n) r ∧ Ev (fun k => modp_Pow.f k p (a % p) n) r := by
    by_cases h0 : a % p = 0
    · exact ⟨_, pow_zero hp h0 hn, pow_zero hp (by rw [Int.emod_emod]; exact h0) hn⟩
    · refine ⟨_, pow_ev hp h0 hn, ?_⟩
      have := pow_ev hp (a := a % p) (by rw [Int.emod_emod]; exact h0) hn
      rw [powv, emod_pow] at this
      exact this
  have hlog : ∃ r, Ev (fun k => modp_Log.f k p a b) r ∧ Ev (fun k => modp_Log.f k p (a % p) (b % p)) r := by
    by_cases h0 : a % p = 0 ∨ b % p = 0
    · exact ⟨_, log_zero hp h0, log_zero hp (by rw [Int.emod_emod, Int.emod_emod]; exact h0)⟩
    · have h0a : a % p ≠ 0 := fun e => h0 (.inl e)
      have h0b : b % p ≠ 0 := fun e => h0 (.inr e)
      obtain ⟨m, ho, hm⟩ := ord_exists hp h0a
      obtain ⟨v, e, _, hl⟩ := log_is hp ho hm b
      refine ⟨_, log_ev hp h0a h0b hl, log_ev hp (by rw [Int.emod_emod]; exact h0a) (by rw [Int.emod_emod]; exact h0b) ?_⟩
      unfold LogIs at hl ⊢
      simp only [emod_pow, Int.emod_emod]
      exact hl
  have hdiv : ∃ r, Ev (fun k => modp_Div.f k p a b) r ∧ Ev (fun k => modp_Div.f k p (a % p) (b % p)) r := by
    by_cases h0 : b % p = 0
    · exact ⟨_, div_zero hp _ h0, div_zero hp _ (by rw [Int.emod_emod]; exact h0)⟩
    · refine ⟨_, div_ev hp _ h0, ?_⟩
      have := div_ev hp (a % p) (b := b % p) (by rw [Int.emod_emod]; exact h0)
      rw [inv_rest, mul_l] at this
      exact this
  obtain ⟨r1, e1, f1⟩ := hpow
  obtain ⟨r2, e2, f2⟩ := hlog
  obtain ⟨r3, e3, f3⟩ := hdiv
  rw [ev_bind e1, ev_bind f1, ev_bind e2, ev_bind f2, ev_bind e3, ev_bind f3]
  simp only [if_true]
  rw [ev_bind awake_ev]
  exact Ev.now _

end Go.Proofs.Ytikbgcpcbhoblaa.Pure
