/- All functions of package modp on numbers agree with the reference, for any four integers. -/
import Derived.Test.YtikbgcpcbhoblaaPModpx10
import Derived.Test.YtikbgcpcbhoblaaFnb
namespace Go.Proofs.Ytikbgcpcbhoblaa.Pure
open Go.RowKit Go.Proofs.YtikbgcpcbhoblaaW.PrintWords Go.Proofs.Ytikbgcpcbhoblaa.PModp Go.Proofs.Ytikbgcpcbhoblaa.Md Go.Proofs.Ytikbgcpcbhoblaa.Fn

theorem ModpMatches : toruslaw01_ModpMatches.Pure := by
  intro p a b n _ ha hb hn
  have hn := i64_of hn
  refine Ev.rounds (g := fun k => toruslaw01_ModpMatches.f k p a b n) ?_
  have key : ∀ (x : Bool) (rm : Int) (r0 r1 r2 r3 r4 r5 r6 r7 r8 r9 : Int × Int),
      Ev (fun k => modp_Prime.f k p) x → Ev (fun k => torusref01_Prime.f k p) x → Ev (fun k => modp_Mod.f k p a) rm → Ev (fun k => torusref01_Mod.f k p a) rm →
      Ev (fun k => modp_Add.f k p a b) r0 → Ev (fun k => torusref01_Add.f k p a b) r0 → Ev (fun k => modp_Sub.f k p a b) r1 → Ev (fun k => torusref01_Sub.f k p a b) r1 →
      Ev (fun k => modp_Mul.f k p a b) r2 → Ev (fun k => torusref01_Mul.f k p a b) r2 → Ev (fun k => modp_Div.f k p a b) r3 → Ev (fun k => torusref01_Div.f k p a b) r3 →
      Ev (fun k => modp_Inv.f k p a) r4 → Ev (fun k => torusref01_Inv.f k p a) r4 → Ev (fun k => modp_Pow.f k p a n) r5 → Ev (fun k => torusref01_Pow.f k p a n) r5 →
      Ev (fun k => modp_Order.f k p a) r6 → Ev (fun k => torusref01_Order.f k p a) r6 → Ev (fun k => modp_Generator.f k p) r7 → Ev (fun k => torusref01_Generator.f k p) r7 →
      Ev (fun k => modp_Log.f k p a b) r8 → Ev (fun k => torusref01_Log.f k p a b) r8 → Ev (fun k => modp_Root.f k p a) r9 → Ev (fun k => torusref01_Root.f k p a) r9 →
      Ev (fun k => toruslaw01_ModpMatches.f k p a b n) true := by
    intro x rm r0 r1 r2 r3 r4 r5 r6 r7 r8 r9 hx hx' hm hm' h0 h0' h1 h1' h2 h2' h3 h3' h4 h4' h5 h5' h6 h6' h7 h7' h8 h8' h9 h9'
    simp only [toruslaw01_ModpMatches.f]
    rw [ev_bind hx, ev_bind hx']
    simp only [bne_self_eq_false, Bool.false_eq_true, if_false]
    rw [ev_bind hm, ev_bind hm']
    simp only [bne_self_eq_false]
    refine ev_succ ?_
    simp only [toruslaw01_ModpMatches.j0, Bool.false_eq_true, if_false]
    rw [ev_bind h0, ev_bind h0']
    simp only [bne_self_eq_false, if_true]
    refine ev_succ ?_
    simp only [toruslaw01_ModpMatches.j1, Bool.false_eq_true, if_false]
    rw [ev_bind h1, ev_bind h1']
    simp only [bne_self_eq_false, if_true]
    refine ev_succ ?_
    simp only [toruslaw01_ModpMatches.j2, Bool.false_eq_true, if_false]
    rw [ev_bind h2, ev_bind h2']
    simp only [bne_self_eq_false, if_true]
    refine ev_succ ?_
    simp only [toruslaw01_ModpMatches.j3, Bool.false_eq_true, if_false]
    rw [ev_bind h3, ev_bind h3']
    simp only [bne_self_eq_false, if_true]
    refine ev_succ ?_
    simp only [toruslaw01_ModpMatches.j4, Bool.false_eq_true, if_false]
    rw [ev_bind h4, ev_bind h4']
    simp only [bne_self_eq_false, if_true]
    refine ev_succ ?_
    simp only [toruslaw01_ModpMatches.j5, Bool.false_eq_true, if_false]
    rw [ev_bind h5, ev_bind h5']
    simp only [bne_self_eq_false, if_true]
    refine ev_succ ?_
    simp only [toruslaw01_ModpMatches.j6, Bool.false_eq_true, if_false]
    rw [ev_bind h6, ev_bind h6']
    simp only [bne_self_eq_false, if_true]
    refine ev_succ ?_
    simp only [toruslaw01_ModpMatches.j7, Bool.false_eq_true, if_false]
    rw [ev_bind h7, ev_bind h7']
    simp only [bne_self_eq_false, if_true]
    refine ev_succ ?_
    simp only [toruslaw01_ModpMatches.j8, Bool.false_eq_true, if_false]
    rw [ev_bind h8, ev_bind h8']
    simp only [bne_self_eq_false, if_true]
    refine ev_succ ?_
    simp only [toruslaw01_ModpMatches.j9, Bool.false_eq_true, if_false]
    rw [ev_bind h9, ev_bind h9']
    simp only [if_true]
    rw [ev_bind awake_ev]
    exact Ev.now _
  by_cases hp : IsP p
  · have h2 := hp.two
    have h251 := hp.most
    obtain ⟨g, hg⟩ := gen_least hp
    obtain ⟨v, e, hr⟩ := root_is hp a
    have hadd := add_ev hp a b
    have hinv : ∃ r, Ev (fun k => modp_Inv.f k p a) r ∧ Ev (fun k => torusref01_Inv.f k p a) r := by
      by_cases h : a % p = 0
      · exact ⟨_, inv_zero hp h, rinv_zero hp h⟩
      · exact ⟨_, inv_ev hp h, rinv_ev hp h⟩
    have hdiv : ∃ r, Ev (fun k => modp_Div.f k p a b) r ∧ Ev (fun k => torusref01_Div.f k p a b) r := by
      by_cases h : b % p = 0
      · exact ⟨_, div_zero hp a h, rdiv_zero hp a h⟩
      · exact ⟨_, div_ev hp a h, rdiv_ev hp a h⟩
    have hpow : ∃ r, Ev (fun k => modp_Pow.f k p a n) r ∧ Ev (fun k => torusref01_Pow.f k p a n) r := by
      by_cases h : a % p = 0
      · exact ⟨_, pow_zero hp h hn, rpow_zero hp h n⟩
      · exact ⟨_, pow_ev hp h hn, rpow_ev hp h n⟩
    have hord : ∃ r, Ev (fun k => modp_Order.f k p a) r ∧ Ev (fun k => torusref01_Order.f k p a) r := by
      by_cases h : a % p = 0
      · exact ⟨_, order_zero hp h, rorder_zero hp h⟩
      · obtain ⟨m, ho, hm⟩ := ord_exists hp h
        exact ⟨_, order_ev hp h ho (by omega), rorder_ev hp h ho (by omega)⟩
    have hlog : ∃ r, Ev (fun k => modp_Log.f k p a b) r ∧ Ev (fun k => torusref01_Log.f k p a b) r := by
      by_cases h : a % p = 0 ∨ b % p = 0
      · exact ⟨_, log_zero hp h, rlog_zero hp h⟩
      · have hA : a % p ≠ 0 := fun e => h (.inl e)
        have hB : b % p ≠ 0 := fun e => h (.inr e)
        obtain ⟨m, ho, hm⟩ := ord_exists hp hA
        obtain ⟨v, e, l1, l2⟩ := log_is hp ho hm b
        exact ⟨_, log_ev hp hA hB l2, rlog_ev hp hA hB ho (by omega) l1⟩
    obtain ⟨ri, i1, i2⟩ := hinv
    obtain ⟨rd', d1, d2⟩ := hdiv
    obtain ⟨rp, p1, p2⟩ := hpow
    obtain ⟨ro, o1, o2⟩ := hord
    obtain ⟨rl, l1, l2⟩ := hlog
    exact key _ _ _ _ _ _ _ _ _ _ _ _ (prime_ev p) (rprime_ev p) (mod_ev hp a) (rmod_ev hp a) (add_ev hp a b) (radd_ev hp a b) (sub_ev hp a b) (rsub_ev hp a b) (mul_ev hp a b) (rmul_ev hp a b) d1 d2 i1 i2 p1 p2 o1 o2 (gen_ev hp hg) (rgen_ev hp hg) l1 l2 (root_ev hp hr) (rroot_ev hp hr)
  · exact key _ _ _ _ _ _ _ _ _ _ _ _ (prime_ev p) (rprime_ev p) (mod_no hp a) (rmod_no hp a) (add_no hp a b) (radd_no hp a b) (sub_no hp a b) (rsub_no hp a b) (mul_no hp a b) (rmul_no hp a b) (div_no hp a b) (rdiv_no hp a b) (inv_no hp a) (rinv_no hp a) (pow_no hp a n) (rpow_no hp a n) (order_no hp a) (rorder_no hp a) (gen_no hp) (rgen_no hp) (log_no hp a b) (rlog_no hp a b) (root_no hp a) (rroot_no hp a)

end Go.Proofs.Ytikbgcpcbhoblaa.Pure
