/- Go functions as plain Lean functions, each with a proof that the Go code computes just that, and facts on them; conditions: those that each theorem states. -/
import Derived.Test.YtfmcgammhfdfnaaGreatDoorQExpansions2
import Derived.Lib.Bytealg
import Derived.Lib.Strings
import Derived.Lib.Slices
import Derived.Lib.Walk
namespace Go.Proofs.YtfmcgammhfdfnaaGreatDoor.PRatio
open Go.RowKit Go.Proofs.YtfmcgammhfdfnaaGreatDoorW.PrintWords Go.Proofs.YtfmcgammhfdfnaaGreatDoorW.PrintLast Go.Proofs.YtfmcgammhfdfnaaGreatDoorW.PrintMore
set_option linter.unusedVariables false
set_option linter.unusedSimpArgs false
set_option maxHeartbeats 8000000
set_option maxRecDepth 100000
def RQ (n d : Int) (e : Ending) (w' : World) : Prop := ∃ b A x c b' A' x' c', e = .returned (.agg #[.bool b, .slice A x c, .bool b', .slice A' x' c']) ∧ Wh w' b (.slice A x c) n ∧ Wh w' b' (.slice A' x' c') d
theorem RQ.mk {W : World} {b b' : Bool} {A A' : Option Addr} {n c n' c' : Nat} {z z' : Int} (h : Wh W b (.slice A n c) z) (h' : Wh W b' (.slice A' n' c') z') : RQ z z' (.returned (.agg #[.bool b, .slice A n c, .bool b', .slice A' n' c'])) W := by
 exact ⟨b, A, n, c, b', A', n', c', rfl, h, h'⟩
def dn (d : Int) : Int := if d = 0 then 1 else d
section
variable {W : World} {b b' : Bool} {A A' : Option Addr} {n c n' c' : Nat} {z z' : Int}
theorem num_calls (h : Wh W b (.slice A n c) z) (h' : Wh W b' (.slice A' n' c') z') : Calls Tryz.prog 119 #[.agg #[.bool b, .slice A n c, .bool b', .slice A' n' c']] W fun e w' => Below W.heap.size W w' ∧ RW z e w' := by
 have E := ((Env.start W).wh h).wh h'
 clear h h'
 go_enter Tryz.func119, Tryz.ntmps119
 go_wp2_with (first | ((with_reducible first | refine gate_box (by rfl) ?_ | refine gate_alloc (by rfl) ?_); refine bx_ E ?_; clear E; intro gb wb E; have q := E.cls; (repeat obtain ⟨_, _, q⟩ := q); clear q) | ((with_reducible refine gate_stored (t := 77) (by rfl) ?_); refine st_ (fun ws hs_ => ?_); replace E := Env.pt2 hs_ E; clear hs_; have q := E.cls; (repeat obtain ⟨_, _, q⟩ := q); clear q) | ((with_reducible refine gate_stored (t := 84) (by rfl) ?_); refine st_ (fun ws hs_ => ?_); replace E := Env.pt4 hs_ E; clear hs_; have q := E.cls; (repeat obtain ⟨_, _, q⟩ := q); clear q))
 refine bodyPost_ret (results_single rfl (.cell _ _ _ (0, 0) _ rfl E.blk Tryz.underlying77 rfl (by kernel_rfl) .nil)) rfl ?_
 exact ⟨E.below, RW.mk E.getW⟩
theorem den_calls (h : Wh W b (.slice A n c) z) (h' : Wh W b' (.slice A' n' c') z') : Calls Tryz.prog 113 #[.agg #[.bool b, .slice A n c, .bool b', .slice A' n' c']] W fun e w' => Below W.heap.size W w' ∧ RW (dn z') e w' := by
 have E := ((Env.start W).wh h).wh h'
 clear h h'
 by_cases h0 : sgnI z' = 0
 ·have hb : (sgnI z' == 0) = true := by simpa using h0
  have hz := Aside0.mk (show 1 = dn z' by rw [sgnI_zero] at h0; rw [dn, if_pos h0])
  clear h0
  go_enter Tryz.func113, Tryz.ntmps113
  go_wp2_with (first | ((with_reducible first | refine gate_box (by rfl) ?_ | refine gate_alloc (by rfl) ?_); refine bx_ E ?_; clear E; intro gb wb E; have q := E.cls; (repeat obtain ⟨_, _, q⟩ := q); clear q) | ((with_reducible refine gate_stored (t := 77) (by rfl) ?_); refine st_ (fun ws hs_ => ?_); replace E := Env.pt2 hs_ E; clear hs_; have q := E.cls; (repeat obtain ⟨_, _, q⟩ := q); clear q) | ((with_reducible refine gate_stored (t := 84) (by rfl) ?_); refine st_ (fun ws hs_ => ?_); replace E := Env.pt4 hs_ E; clear hs_; have q := E.cls; (repeat obtain ⟨_, _, q⟩ := q); clear q) | (go_at_call 84; refine env_call E (sign_calls E.getW) ?_; clear E; rintro e wc E rfl; have q := E.cls; (repeat obtain ⟨_, _, q⟩ := q); clear q) | (go_at_call 121; refine env_call E (of_calls (n := 1) (by omega) (by omega)) ?_; clear E; rintro e wc E ⟨br, Ar, nr, cr, rfl, hw_⟩; replace E := E.wh hw_; clear hw_; have q := E.cls; (repeat obtain ⟨_, _, q⟩ := q); clear q))
  refine bodyPost_ret (results_single rfl (.cell _ _ _ (0, 0) _ rfl E.blk Tryz.underlying77 rfl (by kernel_rfl) .nil)) rfl ?_
  exact ⟨E.below, RW.mk (E.getW.eq hz.out)⟩
 ·have hb : (sgnI z' == 0) = false := by simpa using h0
  have hz := Aside0.mk (show z' = dn z' by rw [sgnI_zero] at h0; rw [dn, if_neg h0])
  clear h0
  go_enter Tryz.func113, Tryz.ntmps113
  go_wp2_with (first | ((with_reducible first | refine gate_box (by rfl) ?_ | refine gate_alloc (by rfl) ?_); refine bx_ E ?_; clear E; intro gb wb E; have q := E.cls; (repeat obtain ⟨_, _, q⟩ := q); clear q) | ((with_reducible refine gate_stored (t := 77) (by rfl) ?_); refine st_ (fun ws hs_ => ?_); replace E := Env.pt2 hs_ E; clear hs_; have q := E.cls; (repeat obtain ⟨_, _, q⟩ := q); clear q) | ((with_reducible refine gate_stored (t := 84) (by rfl) ?_); refine st_ (fun ws hs_ => ?_); replace E := Env.pt4 hs_ E; clear hs_; have q := E.cls; (repeat obtain ⟨_, _, q⟩ := q); clear q) | (go_at_call 84; refine env_call E (sign_calls E.getW) ?_; clear E; rintro e wc E rfl; have q := E.cls; (repeat obtain ⟨_, _, q⟩ := q); clear q))
  refine bodyPost_ret (results_single rfl (.cell _ _ _ (0, 0) _ rfl E.blk Tryz.underlying77 rfl (by kernel_rfl) .nil)) rfl ?_
  exact ⟨E.below, RW.mk (E.getW.eq hz.out)⟩
theorem rsign_calls (h : Wh W b (.slice A n c) z) (h' : Wh W b' (.slice A' n' c') z') : Calls Tryz.prog 102 #[.agg #[.bool b, .slice A n c, .bool b', .slice A' n' c']] W fun e w' => Below W.heap.size W w' ∧ e = .returned (.int .i64 (sgnI z)) := by
 have E := ((Env.start W).wh h).wh h'
 clear h h'
 go_enter Tryz.func102, Tryz.ntmps102
 go_wp2_with (first | ((with_reducible first | refine gate_box (by rfl) ?_ | refine gate_alloc (by rfl) ?_); refine bx_ E ?_; clear E; intro gb wb E; have q := E.cls; (repeat obtain ⟨_, _, q⟩ := q); clear q) | ((with_reducible refine gate_stored (t := 77) (by rfl) ?_); refine st_ (fun ws hs_ => ?_); replace E := Env.pt2 hs_ E; clear hs_; have q := E.cls; (repeat obtain ⟨_, _, q⟩ := q); clear q) | ((with_reducible refine gate_stored (t := 84) (by rfl) ?_); refine st_ (fun ws hs_ => ?_); replace E := Env.pt4 hs_ E; clear hs_; have q := E.cls; (repeat obtain ⟨_, _, q⟩ := q); clear q) | (go_at_call 84; refine env_call E (sign_calls E.getW) ?_; clear E; rintro e wc E rfl; have q := E.cls; (repeat obtain ⟨_, _, q⟩ := q); clear q))
 go_ret
 exact ⟨E.below, rfl⟩
theorem rneg_calls (h : Wh W b (.slice A n c) z) (h' : Wh W b' (.slice A' n' c') z') : Calls Tryz.prog 105 #[.agg #[.bool b, .slice A n c, .bool b', .slice A' n' c']] W fun e w' => Below W.heap.size W w' ∧ RQ (-z) z' e w' := by
 have E := ((Env.start W).wh h).wh h'
 clear h h'
 go_enter Tryz.func105, Tryz.ntmps105
 go_wp2_with (first | ((with_reducible first | refine gate_box (by rfl) ?_ | refine gate_alloc (by rfl) ?_); refine bx_ E ?_; clear E; intro gb wb E; have q := E.cls; (repeat obtain ⟨_, _, q⟩ := q); clear q) | ((with_reducible refine gate_stored (t := 77) (by rfl) ?_); refine st_ (fun ws hs_ => ?_); replace E := Env.pt2 hs_ E; clear hs_; have q := E.cls; (repeat obtain ⟨_, _, q⟩ := q); clear q) | ((with_reducible refine gate_stored (t := 84) (by rfl) ?_); refine st_ (fun ws hs_ => ?_); replace E := Env.pt4 hs_ E; clear hs_; have q := E.cls; (repeat obtain ⟨_, _, q⟩ := q); clear q) | (refine start_ (id := 1) (n := 7) (S := fun w' => Cls w' _) (ds := [6]) (bz 7 0) (by kernel_rfl) rfl rfl E.draw.cls (fun hH => ?_); replace E := E.draw; refine pu_ 0 (some 3) (bz 7 1) ?_; refine pu_ 3 (some 6) (bz 7 9) ?_; refine ta_ 1 (some 4) (bz 7 11) hH ?_; refine ta_ 4 (some 7) (bz 7 27) hH ?_; refine on_ 2 (some 5) (bz 7 31) (fun K hK => ?_); refine gs_ Tryz.func86 ?_; refine env_call E (neg_calls E.getW) ?_; clear E; rintro e wc E ⟨br, Ar, nr, cr, rfl, hw_⟩; replace E := E.wh hw_; clear hw_; refine ⟨_, rfl, ?_⟩; refine hK.out _ _ E.cls (fun hH => ?_); clear hK K; refine nm_ (some 5) ?_; refine pu_ 5 (some 8) (bz 7 63) ?_; refine la_ 6 (none) (bz 7 127) (fun K hK => ?_); have q := E.cls; (repeat obtain ⟨_, _, q⟩ := q); clear q; refine sk_ (fun ws hs_ => ?_); replace E := Env.pt4 hs_ E; clear hs_; refine hK.out _ _ ?_; clear hK K; have q := E.cls; (repeat obtain ⟨_, _, q⟩ := q); clear q; refine done_ (by kernel_rfl) ?_; all_goals (have q := E.cls; (repeat obtain ⟨_, _, q⟩ := q); clear q)))
 refine bodyPost_ret (results_single rfl (.cell _ _ _ (0, 0) _ rfl E.blk Tryz.underlying84 rfl (by kernel_rfl) .nil)) rfl ?_
 exact ⟨E.below, RQ.mk E.getW E.getW⟩
theorem rlong_calls (h : Wh W b (.slice A n c) z) (h' : Wh W b' (.slice A' n' c') z') (hf : Fits z) (hf' : Fits z') : Calls Tryz.prog 154 #[.agg #[.bool b, .slice A n c, .bool b', .slice A' n' c']] W fun e w' => Below W.heap.size W w' ∧ e = .returned (.bool (Lg z || Lg z')) := by
 have E := ((Env.start W).wh h).wh h'
 have HF := Aside0.mk hf
 have HF' := Aside0.mk hf'
 clear h h' hf hf'
 cases h0 : Lg z <;>
 ·have hl := h0
  go_enter Tryz.func154, Tryz.ntmps154
  go_wp2_with (first | ((with_reducible first | refine gate_box (by rfl) ?_ | refine gate_alloc (by rfl) ?_); refine bx_ E ?_; clear E; intro gb wb E; have q := E.cls; (repeat obtain ⟨_, _, q⟩ := q); clear q) | ((with_reducible refine gate_stored (t := 77) (by rfl) ?_); refine st_ (fun ws hs_ => ?_); replace E := Env.pt2 hs_ E; clear hs_; have q := E.cls; (repeat obtain ⟨_, _, q⟩ := q); clear q) | ((with_reducible refine gate_stored (t := 84) (by rfl) ?_); refine st_ (fun ws hs_ => ?_); replace E := Env.pt4 hs_ E; clear hs_; have q := E.cls; (repeat obtain ⟨_, _, q⟩ := q); clear q) | (go_at_call 142; refine env_call E (long_calls E.getW (by first | exact HF.out | exact HF'.out)) ?_; clear E; rintro e wc E rfl; have q := E.cls; (repeat obtain ⟨_, _, q⟩ := q); clear q))
  go_ret
  refine ⟨E.below, ?_⟩
  simp
theorem env_first {w : World} {rows : List (World → Prop)} {bx : List (Nat × List Value × Nat)} {ad : Addr} (E : Env w W ((fun W => Wh W b (.slice (some ad) n c) z) :: rows) bx) (hz : z ≠ 0) : W.cell? ad = some (.int .u32 (rd (dg z.natAbs) 0)) := by
 have h := E.getW (b := b) (v := .slice (some ad) n c) (z := z)
 have hl : (dg z.natAbs).length ≠ 0 := fun e => by have := dg_len_zero.1 e; omega
 obtain ⟨ad', e, hx⟩ := Dg.digitB h.2 0 (by omega) (by omega)
 cases e
 have h2 : W.cell? (ad.add 0) = some (.int .u32 (rd (dg z.natAbs) 0)) := hx
 simpa [Addr.add] using h2
theorem wh_some (h : Wh W b (.slice A n c) z) (hz : z ≠ 0) : ∃ ad, A = some ad := by
 have hl : (dg z.natAbs).length ≠ 0 := fun e => by have := dg_len_zero.1 e; omega
 obtain ⟨ad, e, hx⟩ := Dg.digitB h.2 0 (by omega) (by omega)
 exact ⟨ad, e⟩
theorem one_iff {g : Nat} (hg : g ≠ 0) : g = 1 ↔ (dg (g : Int).natAbs).length ≤ 1 ∧ rd (dg (g : Int).natAbs) 0 ≤ 1 := by
 rw [Int.natAbs_natCast, dg_pos g hg]
 have e : rd (((g % 1000000000 : Nat) : Int) :: dg (g / 1000000000)) 0 = ((g % 1000000000 : Nat) : Int) := by simp [rd]
 rw [e, List.length_cons]
 constructor
 ·rintro rfl
  rw [show 1 / 1000000000 = 0 from rfl, dg_zero]
  decide
 ·rintro ⟨h1, h2⟩
  have := dg_len_zero.1 (show (dg (g / 1000000000)).length = 0 by omega)
  omega
def OverPost (n d : Int) (e : Ending) (w' : World) : Prop := RQ (n.fdiv (n.gcd d)) (d.fdiv (n.gcd d)) e w'
theorem over_pos {m d : Int} (h : Wh W b (.slice A n c) m) (h' : Wh W b' (.slice A' n' c') d) (hd : 0 < d) (hf : Fits m) (hf' : Fits d) : Calls Tryz.prog 88 #[.agg #[.bool b, .slice A n c], .agg #[.bool b', .slice A' n' c']] W fun e w' => Below W.heap.size W w' ∧ OverPost m d e w' := by
 have E := ((Env.start W).wh h).wh h'
 have HF := Aside0.mk hf
 have HF' := Aside0.mk hf'
 have hsb : decide (sgnI d < 0) = false := decide_eq_false (by rw [sgnI_neg]; omega)
 obtain ⟨g, hg⟩ : ∃ g, g = m.gcd d := ⟨_, rfl⟩
 have hg0 : g ≠ 0 := by rw [hg]; exact fun e => by have := (Int.gcd_eq_zero_iff.1 e).2; omega
 have HG := Aside0.mk hg
 have HG0 := Aside0.mk (show (g : Int) ≠ 0 by omega)
 have HFG := Aside0.mk (show Fits (g : Int) by rw [hg]; exact fits_of hf' (by rw [Int.natAbs_natCast]; exact Nat.gcd_le_right _ (by omega)))
 have hone := one_iff hg0
 have hp0 : 0 < (dg g).length := Nat.pos_of_ne_zero (fun e => hg0 (dg_len_zero.1 e))
 have hp1 : (0 < (dg g).length) = True := eq_true hp0
 have hp2 : ((0 : Int) < ((dg g).length : Int)) = True := eq_true (by omega)
 rw [Int.natAbs_natCast] at hone
 unfold OverPost
 rw [← hg]
 by_cases h1 : g = 1
 ·have hl1 : decide (1 < (dg g).length) = false := decide_eq_false (by have := hone.1 h1; omega)
  have hl3 : decide (1 < ((dg g).length : Int)) = false := decide_eq_false (by have := hone.1 h1; omega)
  have hl2 : decide (1 < rd (dg g) 0) = false := decide_eq_false (by have := hone.1 h1; omega)
  have H1 := Aside0.mk h1
  clear h h' hf hf' hd hg hg0 hone h1
  go_enter Tryz.func88, Tryz.ntmps88
  go_wp2_with (first | ((with_reducible first | refine gate_box (by rfl) ?_ | refine gate_alloc (by rfl) ?_); refine bx_ E ?_; clear E; intro gb wb E; have q := E.cls; (repeat obtain ⟨_, _, q⟩ := q); clear q) | ((first | ((with_reducible refine gate_stored (t := 77) (by rfl) ?_); refine st_ (fun ws hs_ => ?_); replace E := Env.pt2 hs_ E; clear hs_; have q := E.cls; (repeat obtain ⟨_, _, q⟩ := q); clear q) | ((with_reducible refine gate_stored (t := 84) (by rfl) ?_); refine st_ (fun ws hs_ => ?_); replace E := Env.pt4 hs_ E; clear hs_; have q := E.cls; (repeat obtain ⟨_, _, q⟩ := q); clear q)); (try have cF : _ = some (Value.int .u32 (rd (dg g) 0)) := env_first E HG0.out)) | (go_at_call 84; refine env_call E (sign_calls E.getW) ?_; clear E; rintro e wc E rfl; have q := E.cls; (repeat obtain ⟨_, _, q⟩ := q); clear q) | (go_at_call 155; refine env_call E (gcd_calls E.getW E.getW HF.out HF'.out) ?_; clear E; rintro e wc E hgc; rw [← HG.out] at hgc; obtain ⟨br, Ar, nr, cr, rfl, hw_⟩ := hgc; obtain rfl : nr = (dg g).length := hw_.2.C.1; obtain ⟨ad, rfl⟩ := wh_some hw_ HG0.out; replace E := E.wh hw_; clear hw_; have q := E.cls; (repeat obtain ⟨_, _, q⟩ := q); clear q))
  refine bodyPost_ret (results_single rfl (.cell _ _ _ (0, 0) _ rfl E.blk Tryz.underlying84 rfl (by kernel_rfl) .nil)) rfl ?_
  rw [H1.out]
  exact ⟨E.below, RQ.mk (E.getW.eq (by rw [Int.natCast_one, Int.fdiv_one])) (E.getW.eq (by rw [Int.natCast_one, Int.fdiv_one]))⟩
 ·have hbig : (1 < (dg g).length) ∨ ((dg g).length ≤ 1 ∧ 1 < rd (dg g) 0) := by have := mt hone.2 h1; omega
  clear h h' hf hf' hd hg hg0 hone h1
  rcases hbig with hl | ⟨hl, hr⟩
  ·have hl1 : decide (1 < (dg g).length) = true := decide_eq_true hl
   have hl3 : decide (1 < ((dg g).length : Int)) = true := decide_eq_true (by omega)
   clear hl
   go_enter Tryz.func88, Tryz.ntmps88
   go_wp2_with (first | ((with_reducible first | refine gate_box (by rfl) ?_ | refine gate_alloc (by rfl) ?_); refine bx_ E ?_; clear E; intro gb wb E; have q := E.cls; (repeat obtain ⟨_, _, q⟩ := q); clear q) | ((first | ((with_reducible refine gate_stored (t := 77) (by rfl) ?_); refine st_ (fun ws hs_ => ?_); replace E := Env.pt2 hs_ E; clear hs_; have q := E.cls; (repeat obtain ⟨_, _, q⟩ := q); clear q) | ((with_reducible refine gate_stored (t := 84) (by rfl) ?_); refine st_ (fun ws hs_ => ?_); replace E := Env.pt4 hs_ E; clear hs_; have q := E.cls; (repeat obtain ⟨_, _, q⟩ := q); clear q)); (try have cF : _ = some (Value.int .u32 (rd (dg g) 0)) := env_first E HG0.out)) | (go_at_call 84; refine env_call E (sign_calls E.getW) ?_; clear E; rintro e wc E rfl; have q := E.cls; (repeat obtain ⟨_, _, q⟩ := q); clear q) | (go_at_call 155; refine env_call E (gcd_calls E.getW E.getW HF.out HF'.out) ?_; clear E; rintro e wc E hgc; rw [← HG.out] at hgc; obtain ⟨br, Ar, nr, cr, rfl, hw_⟩ := hgc; obtain rfl : nr = (dg g).length := hw_.2.C.1; obtain ⟨ad, rfl⟩ := wh_some hw_ HG0.out; replace E := E.wh hw_; clear hw_; have q := E.cls; (repeat obtain ⟨_, _, q⟩ := q); clear q) | (go_at_call 120; refine env_call E (divmod_calls E.getW E.getW HG0.out (by first | exact HF.out | exact HF'.out) HFG.out) ?_; clear E; rintro e wc E ⟨br, Ar, nr, cr, br2, Ar2, nr2, cr2, rfl, hw_, hw2_⟩; replace E := (E.wh hw_).wh hw2_; clear hw_ hw2_; have q := E.cls; (repeat obtain ⟨_, _, q⟩ := q); clear q))
   refine bodyPost_ret (results_single rfl (.cell _ _ _ (0, 0) _ rfl E.blk Tryz.underlying84 rfl (by kernel_rfl) .nil)) rfl ?_
   exact ⟨E.below, RQ.mk E.getW E.getW⟩
  ·have hl1 : decide (1 < (dg g).length) = false := decide_eq_false (by omega)
   have hl3 : decide (1 < ((dg g).length : Int)) = false := decide_eq_false (by omega)
   have hl2 : decide (1 < rd (dg g) 0) = true := decide_eq_true hr
   clear hl hr
   go_enter Tryz.func88, Tryz.ntmps88
   go_wp2_with (first | ((with_reducible first | refine gate_box (by rfl) ?_ | refine gate_alloc (by rfl) ?_); refine bx_ E ?_; clear E; intro gb wb E; have q := E.cls; (repeat obtain ⟨_, _, q⟩ := q); clear q) | ((first | ((with_reducible refine gate_stored (t := 77) (by rfl) ?_); refine st_ (fun ws hs_ => ?_); replace E := Env.pt2 hs_ E; clear hs_; have q := E.cls; (repeat obtain ⟨_, _, q⟩ := q); clear q) | ((with_reducible refine gate_stored (t := 84) (by rfl) ?_); refine st_ (fun ws hs_ => ?_); replace E := Env.pt4 hs_ E; clear hs_; have q := E.cls; (repeat obtain ⟨_, _, q⟩ := q); clear q)); (try have cF : _ = some (Value.int .u32 (rd (dg g) 0)) := env_first E HG0.out)) | (go_at_call 84; refine env_call E (sign_calls E.getW) ?_; clear E; rintro e wc E rfl; have q := E.cls; (repeat obtain ⟨_, _, q⟩ := q); clear q) | (go_at_call 155; refine env_call E (gcd_calls E.getW E.getW HF.out HF'.out) ?_; clear E; rintro e wc E hgc; rw [← HG.out] at hgc; obtain ⟨br, Ar, nr, cr, rfl, hw_⟩ := hgc; obtain rfl : nr = (dg g).length := hw_.2.C.1; obtain ⟨ad, rfl⟩ := wh_some hw_ HG0.out; replace E := E.wh hw_; clear hw_; have q := E.cls; (repeat obtain ⟨_, _, q⟩ := q); clear q) | (go_at_call 120; refine env_call E (divmod_calls E.getW E.getW HG0.out (by first | exact HF.out | exact HF'.out) HFG.out) ?_; clear E; rintro e wc E ⟨br, Ar, nr, cr, br2, Ar2, nr2, cr2, rfl, hw_, hw2_⟩; replace E := (E.wh hw_).wh hw2_; clear hw_ hw2_; have q := E.cls; (repeat obtain ⟨_, _, q⟩ := q); clear q))
   refine bodyPost_ret (results_single rfl (.cell _ _ _ (0, 0) _ rfl E.blk Tryz.underlying84 rfl (by kernel_rfl) .nil)) rfl ?_
   exact ⟨E.below, RQ.mk E.getW E.getW⟩
theorem over_neg {m d : Int} (h : Wh W b (.slice A n c) m) (h' : Wh W b' (.slice A' n' c') d) (hd : d < 0) (hf : Fits m) (hf' : Fits d) : Calls Tryz.prog 88 #[.agg #[.bool b, .slice A n c], .agg #[.bool b', .slice A' n' c']] W fun e w' => Below W.heap.size W w' ∧ OverPost (-m) (-d) e w' := by
 have E := ((Env.start W).wh h).wh h'
 have hfn : Fits (-m) := by unfold Fits; rw [len_neg]; exact hf
 have hfn' : Fits (-d) := by unfold Fits; rw [len_neg]; exact hf'
 have HF := Aside0.mk hfn
 have HF' := Aside0.mk hfn'
 have hsb : decide (sgnI d < 0) = true := decide_eq_true (by rw [sgnI_neg]; omega)
 obtain ⟨g, hg⟩ : ∃ g, g = (-m).gcd (-d) := ⟨_, rfl⟩
 have hg0 : g ≠ 0 := by rw [hg]; exact fun e => by have := (Int.gcd_eq_zero_iff.1 e).2; omega
 have HG := Aside0.mk hg
 have HG0 := Aside0.mk (show (g : Int) ≠ 0 by omega)
 have HFG := Aside0.mk (show Fits (g : Int) by rw [hg]; exact fits_of hfn' (by rw [Int.natAbs_natCast]; exact Nat.gcd_le_right _ (by omega)))
 have hone := one_iff hg0
 have hp0 : 0 < (dg g).length := Nat.pos_of_ne_zero (fun e => hg0 (dg_len_zero.1 e))
 have hp1 : (0 < (dg g).length) = True := eq_true hp0
 have hp2 : ((0 : Int) < ((dg g).length : Int)) = True := eq_true (by omega)
 rw [Int.natAbs_natCast] at hone
 unfold OverPost
 rw [← hg]
 by_cases h1 : g = 1
 ·have hl1 : decide (1 < (dg g).length) = false := decide_eq_false (by have := hone.1 h1; omega)
  have hl3 : decide (1 < ((dg g).length : Int)) = false := decide_eq_false (by have := hone.1 h1; omega)
  have hl2 : decide (1 < rd (dg g) 0) = false := decide_eq_false (by have := hone.1 h1; omega)
  have H1 := Aside0.mk h1
  clear h h' hf hf' hfn hfn' hd hg hg0 hone h1
  go_enter Tryz.func88, Tryz.ntmps88
  go_wp2_with (first | ((with_reducible first | refine gate_box (by rfl) ?_ | refine gate_alloc (by rfl) ?_); refine bx_ E ?_; clear E; intro gb wb E; have q := E.cls; (repeat obtain ⟨_, _, q⟩ := q); clear q) | ((first | ((with_reducible refine gate_stored (t := 77) (by rfl) ?_); refine st_ (fun ws hs_ => ?_); replace E := Env.pt2 hs_ E; clear hs_; have q := E.cls; (repeat obtain ⟨_, _, q⟩ := q); clear q) | ((with_reducible refine gate_stored (t := 84) (by rfl) ?_); refine st_ (fun ws hs_ => ?_); replace E := Env.pt4 hs_ E; clear hs_; have q := E.cls; (repeat obtain ⟨_, _, q⟩ := q); clear q)); (try have cF : _ = some (Value.int .u32 (rd (dg g) 0)) := env_first E HG0.out)) | (go_at_call 84; refine env_call E (sign_calls E.getW) ?_; clear E; rintro e wc E rfl; have q := E.cls; (repeat obtain ⟨_, _, q⟩ := q); clear q) | (refine start_ (id := 2) (n := 6) (S := fun w' => Cls w' _) (ds := [4, 5]) (bz 6 0) (by kernel_rfl) rfl rfl E.draw.cls (fun hH => ?_); replace E := E.draw; refine ta_ 0 (some 9) (bz 6 1) hH ?_; refine ta_ 2 (some 11) (bz 6 5) hH ?_; refine on_ 1 (some 10) (bz 6 7) (fun K hK => ?_); refine gs_ Tryz.func86 ?_; refine env_call E (neg_calls E.getW) ?_; clear E; rintro e wc E ⟨br, Ar, nr, cr, rfl, hw_⟩; replace E := E.wh hw_; clear hw_; refine ⟨_, rfl, ?_⟩; refine hK.out _ _ E.cls (fun hH => ?_); clear hK K; refine nm_ (some 10) ?_; refine on_ 3 (some 12) (bz 6 15) (fun K hK => ?_); refine gs_ Tryz.func86 ?_; refine env_call E (neg_calls E.getW) ?_; clear E; rintro e wc E ⟨br, Ar, nr, cr, rfl, hw_⟩; replace E := E.wh hw_; clear hw_; refine ⟨_, rfl, ?_⟩; refine hK.out _ _ E.cls (fun hH => ?_); clear hK K; refine nm_ (some 12) ?_; refine la_ 4 (none) (bz 6 31) (fun K hK => ?_); have q := E.cls; (repeat obtain ⟨_, _, q⟩ := q); clear q; refine sk_ (fun ws hs_ => ?_); replace E := Env.pt2 hs_ E; clear hs_; refine hK.out _ _ ?_; clear hK K; have q := E.cls; (repeat obtain ⟨_, _, q⟩ := q); clear q; refine la_ 5 (none) (bz 6 63) (fun K hK => ?_); have q := E.cls; (repeat obtain ⟨_, _, q⟩ := q); clear q; refine sk_ (fun ws hs_ => ?_); replace E := Env.pt2 hs_ E; clear hs_; refine hK.out _ _ ?_; clear hK K; have q := E.cls; (repeat obtain ⟨_, _, q⟩ := q); clear q; refine done_ (by kernel_rfl) ?_; all_goals (have q := E.cls; (repeat obtain ⟨_, _, q⟩ := q); clear q)) | (go_at_call 155; refine env_call E (gcd_calls E.getW E.getW HF.out HF'.out) ?_; clear E; rintro e wc E hgc; rw [← HG.out] at hgc; obtain ⟨br, Ar, nr, cr, rfl, hw_⟩ := hgc; obtain rfl : nr = (dg g).length := hw_.2.C.1; obtain ⟨ad, rfl⟩ := wh_some hw_ HG0.out; replace E := E.wh hw_; clear hw_; have q := E.cls; (repeat obtain ⟨_, _, q⟩ := q); clear q))
  refine bodyPost_ret (results_single rfl (.cell _ _ _ (0, 0) _ rfl E.blk Tryz.underlying84 rfl (by kernel_rfl) .nil)) rfl ?_
  rw [H1.out]
  exact ⟨E.below, RQ.mk (E.getW.eq (by rw [Int.natCast_one, Int.fdiv_one])) (E.getW.eq (by rw [Int.natCast_one, Int.fdiv_one]))⟩
 ·have hbig : (1 < (dg g).length) ∨ ((dg g).length ≤ 1 ∧ 1 < rd (dg g) 0) := by have := mt hone.2 h1; omega
  clear h h' hf hf' hfn hfn' hd hg hg0 hone h1
  rcases hbig with hl | ⟨hl, hr⟩
  ·have hl1 : decide (1 < (dg g).length) = true := decide_eq_true hl
   have hl3 : decide (1 < ((dg g).length : Int)) = true := decide_eq_true (by omega)
   clear hl
   go_enter Tryz.func88, Tryz.ntmps88
   go_wp2_with (first | ((with_reducible first | refine gate_box (by rfl) ?_ | refine gate_alloc (by rfl) ?_); refine bx_ E ?_; clear E; intro gb wb E; have q := E.cls; (repeat obtain ⟨_, _, q⟩ := q); clear q) | ((first | ((with_reducible refine gate_stored (t := 77) (by rfl) ?_); refine st_ (fun ws hs_ => ?_); replace E := Env.pt2 hs_ E; clear hs_; have q := E.cls; (repeat obtain ⟨_, _, q⟩ := q); clear q) | ((with_reducible refine gate_stored (t := 84) (by rfl) ?_); refine st_ (fun ws hs_ => ?_); replace E := Env.pt4 hs_ E; clear hs_; have q := E.cls; (repeat obtain ⟨_, _, q⟩ := q); clear q)); (try have cF : _ = some (Value.int .u32 (rd (dg g) 0)) := env_first E HG0.out)) | (go_at_call 84; refine env_call E (sign_calls E.getW) ?_; clear E; rintro e wc E rfl; have q := E.cls; (repeat obtain ⟨_, _, q⟩ := q); clear q) | (refine start_ (id := 2) (n := 6) (S := fun w' => Cls w' _) (ds := [4, 5]) (bz 6 0) (by kernel_rfl) rfl rfl E.draw.cls (fun hH => ?_); replace E := E.draw; refine ta_ 0 (some 9) (bz 6 1) hH ?_; refine ta_ 2 (some 11) (bz 6 5) hH ?_; refine on_ 1 (some 10) (bz 6 7) (fun K hK => ?_); refine gs_ Tryz.func86 ?_; refine env_call E (neg_calls E.getW) ?_; clear E; rintro e wc E ⟨br, Ar, nr, cr, rfl, hw_⟩; replace E := E.wh hw_; clear hw_; refine ⟨_, rfl, ?_⟩; refine hK.out _ _ E.cls (fun hH => ?_); clear hK K; refine nm_ (some 10) ?_; refine on_ 3 (some 12) (bz 6 15) (fun K hK => ?_); refine gs_ Tryz.func86 ?_; refine env_call E (neg_calls E.getW) ?_; clear E; rintro e wc E ⟨br, Ar, nr, cr, rfl, hw_⟩; replace E := E.wh hw_; clear hw_; refine ⟨_, rfl, ?_⟩; refine hK.out _ _ E.cls (fun hH => ?_); clear hK K; refine nm_ (some 12) ?_; refine la_ 4 (none) (bz 6 31) (fun K hK => ?_); have q := E.cls; (repeat obtain ⟨_, _, q⟩ := q); clear q; refine sk_ (fun ws hs_ => ?_); replace E := Env.pt2 hs_ E; clear hs_; refine hK.out _ _ ?_; clear hK K; have q := E.cls; (repeat obtain ⟨_, _, q⟩ := q); clear q; refine la_ 5 (none) (bz 6 63) (fun K hK => ?_); have q := E.cls; (repeat obtain ⟨_, _, q⟩ := q); clear q; refine sk_ (fun ws hs_ => ?_); replace E := Env.pt2 hs_ E; clear hs_; refine hK.out _ _ ?_; clear hK K; have q := E.cls; (repeat obtain ⟨_, _, q⟩ := q); clear q; refine done_ (by kernel_rfl) ?_; all_goals (have q := E.cls; (repeat obtain ⟨_, _, q⟩ := q); clear q)) | (go_at_call 155; refine env_call E (gcd_calls E.getW E.getW HF.out HF'.out) ?_; clear E; rintro e wc E hgc; rw [← HG.out] at hgc; obtain ⟨br, Ar, nr, cr, rfl, hw_⟩ := hgc; obtain rfl : nr = (dg g).length := hw_.2.C.1; obtain ⟨ad, rfl⟩ := wh_some hw_ HG0.out; replace E := E.wh hw_; clear hw_; have q := E.cls; (repeat obtain ⟨_, _, q⟩ := q); clear q) | (go_at_call 120; refine env_call E (divmod_calls E.getW E.getW HG0.out (by first | exact HF.out | exact HF'.out) HFG.out) ?_; clear E; rintro e wc E ⟨br, Ar, nr, cr, br2, Ar2, nr2, cr2, rfl, hw_, hw2_⟩; replace E := (E.wh hw_).wh hw2_; clear hw_ hw2_; have q := E.cls; (repeat obtain ⟨_, _, q⟩ := q); clear q))
   refine bodyPost_ret (results_single rfl (.cell _ _ _ (0, 0) _ rfl E.blk Tryz.underlying84 rfl (by kernel_rfl) .nil)) rfl ?_
   exact ⟨E.below, RQ.mk E.getW E.getW⟩
  ·have hl1 : decide (1 < (dg g).length) = false := decide_eq_false (by omega)
   have hl3 : decide (1 < ((dg g).length : Int)) = false := decide_eq_false (by omega)
   have hl2 : decide (1 < rd (dg g) 0) = true := decide_eq_true hr
   clear hl hr
   go_enter Tryz.func88, Tryz.ntmps88
   go_wp2_with (first | ((with_reducible first | refine gate_box (by rfl) ?_ | refine gate_alloc (by rfl) ?_); refine bx_ E ?_; clear E; intro gb wb E; have q := E.cls; (repeat obtain ⟨_, _, q⟩ := q); clear q) | ((first | ((with_reducible refine gate_stored (t := 77) (by rfl) ?_); refine st_ (fun ws hs_ => ?_); replace E := Env.pt2 hs_ E; clear hs_; have q := E.cls; (repeat obtain ⟨_, _, q⟩ := q); clear q) | ((with_reducible refine gate_stored (t := 84) (by rfl) ?_); refine st_ (fun ws hs_ => ?_); replace E := Env.pt4 hs_ E; clear hs_; have q := E.cls; (repeat obtain ⟨_, _, q⟩ := q); clear q)); (try have cF : _ = some (Value.int .u32 (rd (dg g) 0)) := env_first E HG0.out)) | (go_at_call 84; refine env_call E (sign_calls E.getW) ?_; clear E; rintro e wc E rfl; have q := E.cls; (repeat obtain ⟨_, _, q⟩ := q); clear q) | (refine start_ (id := 2) (n := 6) (S := fun w' => Cls w' _) (ds := [4, 5]) (bz 6 0) (by kernel_rfl) rfl rfl E.draw.cls (fun hH => ?_); replace E := E.draw; refine ta_ 0 (some 9) (bz 6 1) hH ?_; refine ta_ 2 (some 11) (bz 6 5) hH ?_; refine on_ 1 (some 10) (bz 6 7) (fun K hK => ?_); refine gs_ Tryz.func86 ?_; refine env_call E (neg_calls E.getW) ?_; clear E; rintro e wc E ⟨br, Ar, nr, cr, rfl, hw_⟩; replace E := E.wh hw_; clear hw_; refine ⟨_, rfl, ?_⟩; refine hK.out _ _ E.cls (fun hH => ?_); clear hK K; refine nm_ (some 10) ?_; refine on_ 3 (some 12) (bz 6 15) (fun K hK => ?_); refine gs_ Tryz.func86 ?_; refine env_call E (neg_calls E.getW) ?_; clear E; rintro e wc E ⟨br, Ar, nr, cr, rfl, hw_⟩; replace E := E.wh hw_; clear hw_; refine ⟨_, rfl, ?_⟩; refine hK.out _ _ E.cls (fun hH => ?_); clear hK K; refine nm_ (some 12) ?_; refine la_ 4 (none) (bz 6 31) (fun K hK => ?_); have q := E.cls; (repeat obtain ⟨_, _, q⟩ := q); clear q; refine sk_ (fun ws hs_ => ?_); replace E := Env.pt2 hs_ E; clear hs_; refine hK.out _ _ ?_; clear hK K; have q := E.cls; (repeat obtain ⟨_, _, q⟩ := q); clear q; refine la_ 5 (none) (bz 6 63) (fun K hK => ?_); have q := E.cls; (repeat obtain ⟨_, _, q⟩ := q); clear q; refine sk_ (fun ws hs_ => ?_); replace E := Env.pt2 hs_ E; clear hs_; refine hK.out _ _ ?_; clear hK K; have q := E.cls; (repeat obtain ⟨_, _, q⟩ := q); clear q; refine done_ (by kernel_rfl) ?_; all_goals (have q := E.cls; (repeat obtain ⟨_, _, q⟩ := q); clear q)) | (go_at_call 155; refine env_call E (gcd_calls E.getW E.getW HF.out HF'.out) ?_; clear E; rintro e wc E hgc; rw [← HG.out] at hgc; obtain ⟨br, Ar, nr, cr, rfl, hw_⟩ := hgc; obtain rfl : nr = (dg g).length := hw_.2.C.1; obtain ⟨ad, rfl⟩ := wh_some hw_ HG0.out; replace E := E.wh hw_; clear hw_; have q := E.cls; (repeat obtain ⟨_, _, q⟩ := q); clear q) | (go_at_call 120; refine env_call E (divmod_calls E.getW E.getW HG0.out (by first | exact HF.out | exact HF'.out) HFG.out) ?_; clear E; rintro e wc E ⟨br, Ar, nr, cr, br2, Ar2, nr2, cr2, rfl, hw_, hw2_⟩; replace E := (E.wh hw_).wh hw2_; clear hw_ hw2_; have q := E.cls; (repeat obtain ⟨_, _, q⟩ := q); clear q))
   refine bodyPost_ret (results_single rfl (.cell _ _ _ (0, 0) _ rfl E.blk Tryz.underlying84 rfl (by kernel_rfl) .nil)) rfl ?_
   exact ⟨E.below, RQ.mk E.getW E.getW⟩
theorem over_rat {n d : Int} (hd : 0 < d) : n.fdiv (n.gcd d) = (Rat.divInt n d).num ∧ d.fdiv (n.gcd d) = ((Rat.divInt n d).den : Int) := by
 have hg : 0 < n.gcd d := Nat.pos_of_ne_zero (fun e => by have := (Int.gcd_eq_zero_iff.1 e).2; omega)
 rw [Rat.num_divInt, Rat.den_divInt, if_neg (by omega), Int.fdiv_eq_ediv_of_nonneg _ (by omega), Int.fdiv_eq_ediv_of_nonneg _ (by omega), Int.gcd_comm d n, Int.sign_eq_one_of_pos hd, Int.one_mul]
 refine ⟨rfl, ?_⟩
 rw [Int.natCast_ediv, Int.natAbs_of_nonneg (by omega)]
theorem over_calls {m d : Int} (h : Wh W b (.slice A n c) m) (h' : Wh W b' (.slice A' n' c') d) (hd : d ≠ 0) (hf : Fits m) (hf' : Fits d) : Calls Tryz.prog 88 #[.agg #[.bool b, .slice A n c], .agg #[.bool b', .slice A' n' c']] W fun e w' => Below W.heap.size W w' ∧ RQ (Rat.divInt m d).num (Rat.divInt m d).den e w' := by
 rcases Int.lt_or_gt_of_ne hd with hd | hd
 ·have e := over_rat (n := -m) (d := -d) (by omega)
  have := over_neg h h' hd hf hf'
  unfold OverPost at this
  rwa [e.1, e.2, Rat.neg_divInt_neg] at this
 ·have e := over_rat (n := m) (d := d) hd
  have := over_pos h h' hd hf hf'
  unfold OverPost at this
  rwa [e.1, e.2] at this
end
def Ln (z : Int) (k : Nat) : Prop := (dg z.natAbs).length ≤ k
theorem Ln.fits {z : Int} {k : Nat} (h : Ln z k) (hk : k ≤ 20000000000000) : Fits z := Nat.le_trans h hk
theorem Ln.mul {x y : Int} {a b : Nat} (hx : Ln x a) (hy : Ln y b) : Ln (x * y) (a + b) := Nat.le_trans (len_mul x y) (Nat.add_le_add hx hy)
theorem Ln.add {x y : Int} {a : Nat} (hx : Ln x a) (hy : Ln y a) : Ln (x + y) (a + 1) := by
 have := len_add x y
 unfold Ln at *
 omega
theorem Ln.mono {z : Int} {a b : Nat} (h : Ln z a) (hab : a ≤ b) : Ln z b := Nat.le_trans h hab
theorem Ln.neg {z : Int} {a : Nat} (h : Ln z a) : Ln (-z) a := by unfold Ln; rw [len_neg]; exact h
theorem Ln.dn {z : Int} {a : Nat} (h : Ln z a) (ha : 1 ≤ a) : Ln (dn z) a := by
 unfold PRatio.dn
 split
 ·have : (dg (1 : Int).natAbs).length ≤ 1 := dg_abs_len (by decide)
  exact Nat.le_trans this ha
 ·exact h
theorem dn_ne (d : Int) : dn d ≠ 0 := by
 unfold dn
 split <;> omega
def rq (n d : Int) : Rat := Rat.divInt n (dn d)
theorem rq_add (n d n' d' : Int) : Rat.divInt (n * dn d' + n' * dn d) (dn d * dn d') = rq n d + rq n' d' := (Rat.divInt_add_divInt _ _ (dn_ne _) (dn_ne _)).symm
theorem rq_div (n d n' d' : Int) (h : n' ≠ 0) : Rat.divInt (n * dn d') (dn d * n') = rq n d / rq n' d' := by
 unfold rq
 rw [Rat.div_def, Rat.divInt_eq_div n', ← Rat.divInt_eq_div]
 have : (Rat.divInt n' (dn d'))⁻¹ = Rat.divInt (dn d') n' := by
  refine Rat.inv_eq_of_mul_eq_one ?_
  rw [Rat.divInt_mul_divInt, Int.mul_comm, Rat.divInt_self' (Int.mul_ne_zero (dn_ne _) h)]
 rw [this, Rat.divInt_mul_divInt]
theorem rq_neg (n d : Int) : rq (-n) d = -rq n d := (Rat.neg_divInt _ _).symm
theorem rq_self (q : Rat) : rq q.num q.den = q := by
 unfold rq dn
 rw [if_neg (by have := q.den_nz; omega), Rat.num_divInt_den]
def RR (q : Rat) (e : Ending) (w' : World) : Prop := RQ q.num q.den e w'
section
variable {W : World} {b1 b2 b3 b4 : Bool} {A1 A2 A3 A4 : Option Addr} {x1 x2 x3 x4 c1 c2 c3 c4 k : Nat} {n d n' d' : Int}
theorem radd_calls (h1 : Wh W b1 (.slice A1 x1 c1) n) (h2 : Wh W b2 (.slice A2 x2 c2) d) (h3 : Wh W b3 (.slice A3 x3 c3) n') (h4 : Wh W b4 (.slice A4 x4 c4) d') (l1 : Ln n k) (l2 : Ln d k) (l3 : Ln n' k) (l4 : Ln d' k) (hk : 1 ≤ k) (hk' : k ≤ 1000000000000) :
  Calls Tryz.prog 115 #[.agg #[.bool b1, .slice A1 x1 c1, .bool b2, .slice A2 x2 c2], .agg #[.bool b3, .slice A3 x3 c3, .bool b4, .slice A4 x4 c4]] W fun e w' => Below W.heap.size W w' ∧ RR (rq n d + rq n' d') e w' := by
 have E := ((((Env.start W).wh h1).wh h2).wh h3).wh h4
 have L1 := Aside0.mk l1
 have L2 := Aside0.mk (l2.dn hk)
 have L3 := Aside0.mk l3
 have L4 := Aside0.mk (l4.dn hk)
 have HK := Aside0.mk hk'
 clear h1 h2 h3 h4 l1 l2 l3 l4 hk hk'
 go_enter Tryz.func115, Tryz.ntmps115
 go_wp2_with (first | ((with_reducible first | refine gate_box (by rfl) ?_ | refine gate_alloc (by rfl) ?_); refine bx_ E ?_; clear E; intro gb wb E; have q := E.cls; (repeat obtain ⟨_, _, q⟩ := q); clear q) | ((with_reducible refine gate_stored (t := 77) (by rfl) ?_); refine st_ (fun ws hs_ => ?_); replace E := Env.pt2 hs_ E; clear hs_; have q := E.cls; (repeat obtain ⟨_, _, q⟩ := q); clear q) | ((with_reducible refine gate_stored (t := 84) (by rfl) ?_); refine st_ (fun ws hs_ => ?_); replace E := Env.pt4 hs_ E; clear hs_; have q := E.cls; (repeat obtain ⟨_, _, q⟩ := q); clear q) | (refine start_ (id := 1) (n := 18) (S := fun w' => Cls w' _) (ds := [17]) (bz 18 0) (by kernel_rfl) rfl rfl E.draw.cls (fun hH => ?_); replace E := E.draw; refine pu_ 0 (some 5) (bz 18 1) ?_; refine pu_ 5 (some 10) (bz 18 33) ?_; refine ta_ 1 (some 6) (bz 18 35) hH ?_; refine ta_ 2 (some 7) (bz 18 39) hH ?_; refine ta_ 6 (some 11) (bz 18 103) hH ?_; refine ta_ 7 (some 12) (bz 18 231) hH ?_; refine ta_ 11 (some 16) (bz 18 2279) hH ?_; refine ta_ 13 (some 18) (bz 18 10471) hH ?_; refine on_ 3 (some 8) (bz 18 10479) (fun K hK => ?_); refine gs_ Tryz.func113 ?_; refine env_call E (den_calls E.getW E.getW) ?_; clear E; rintro e wc E ⟨br, Ar, nr, cr, rfl, hw_⟩; replace E := E.wh hw_; clear hw_; refine ⟨_, rfl, ?_⟩; refine hK.out _ _ E.cls (fun hH => ?_); clear hK K; refine nm_ (some 8) ?_; refine on_ 4 (some 9) (bz 18 10495) (fun K hK => ?_); refine gs_ Tryz.func122 ?_; refine env_call E (mul_calls E.getW E.getW (by have := HK.out; have h1 := L1.out; have h2 := L2.out; have h3 := L3.out; have h4 := L4.out; unfold Ln at h1 h2 h3 h4; omega)) ?_; clear E; rintro e wc E ⟨br, Ar, nr, cr, rfl, hw_⟩; replace E := E.wh hw_; clear hw_; refine ⟨_, rfl, ?_⟩; refine hK.out _ _ E.cls (fun hH => ?_); clear hK K; refine nm_ (some 9) ?_; refine on_ 8 (some 13) (bz 18 10751) (fun K hK => ?_); refine gs_ Tryz.func113 ?_; refine env_call E (den_calls E.getW E.getW) ?_; clear E; rintro e wc E ⟨br, Ar, nr, cr, rfl, hw_⟩; replace E := E.wh hw_; clear hw_; refine ⟨_, rfl, ?_⟩; refine hK.out _ _ E.cls (fun hH => ?_); clear hK K; refine nm_ (some 13) ?_; refine on_ 9 (some 14) (bz 18 11263) (fun K hK => ?_); refine gs_ Tryz.func122 ?_; refine env_call E (mul_calls E.getW E.getW (by have := HK.out; have h1 := L1.out; have h2 := L2.out; have h3 := L3.out; have h4 := L4.out; unfold Ln at h1 h2 h3 h4; omega)) ?_; clear E; rintro e wc E ⟨br, Ar, nr, cr, rfl, hw_⟩; replace E := E.wh hw_; clear hw_; refine ⟨_, rfl, ?_⟩; refine hK.out _ _ E.cls (fun hH => ?_); clear hK K; refine nm_ (some 14) ?_; refine on_ 10 (some 15) (bz 18 12287) (fun K hK => ?_); refine gs_ Tryz.func123 ?_; refine env_call E (add_calls E.getW E.getW ((L1.out.mul L4.out).fits (by have := HK.out; omega)) ((L3.out.mul L2.out).fits (by have := HK.out; omega))) ?_; clear E; rintro e wc E ⟨br, Ar, nr, cr, rfl, hw_⟩; replace E := E.wh hw_; clear hw_; refine ⟨_, rfl, ?_⟩; refine hK.out _ _ E.cls (fun hH => ?_); clear hK K; refine nm_ (some 15) ?_; refine on_ 12 (some 17) (bz 18 16383) (fun K hK => ?_); refine gs_ Tryz.func113 ?_; refine env_call E (den_calls E.getW E.getW) ?_; clear E; rintro e wc E ⟨br, Ar, nr, cr, rfl, hw_⟩; replace E := E.wh hw_; clear hw_; refine ⟨_, rfl, ?_⟩; refine hK.out _ _ E.cls (fun hH => ?_); clear hK K; refine nm_ (some 17) ?_; refine on_ 14 (some 19) (bz 18 32767) (fun K hK => ?_); refine gs_ Tryz.func113 ?_; refine env_call E (den_calls E.getW E.getW) ?_; clear E; rintro e wc E ⟨br, Ar, nr, cr, rfl, hw_⟩; replace E := E.wh hw_; clear hw_; refine ⟨_, rfl, ?_⟩; refine hK.out _ _ E.cls (fun hH => ?_); clear hK K; refine nm_ (some 19) ?_; refine on_ 15 (some 20) (bz 18 65535) (fun K hK => ?_); refine gs_ Tryz.func122 ?_; refine env_call E (mul_calls E.getW E.getW (by have := HK.out; have h1 := L1.out; have h2 := L2.out; have h3 := L3.out; have h4 := L4.out; unfold Ln at h1 h2 h3 h4; omega)) ?_; clear E; rintro e wc E ⟨br, Ar, nr, cr, rfl, hw_⟩; replace E := E.wh hw_; clear hw_; refine ⟨_, rfl, ?_⟩; refine hK.out _ _ E.cls (fun hH => ?_); clear hK K; refine nm_ (some 20) ?_; refine on_ 16 (some 21) (bz 18 131071) (fun K hK => ?_); refine gs_ Tryz.func88 ?_; refine env_call E (over_calls E.getW E.getW (Int.mul_ne_zero (dn_ne _) (dn_ne _)) (((L1.out.mul L4.out).add (L3.out.mul L2.out)).fits (by have := HK.out; omega)) ((L2.out.mul L4.out).fits (by have := HK.out; omega))) ?_; clear E; rintro e wc E ⟨br, Ar, nr, cr, br2, Ar2, nr2, cr2, rfl, hw_, hw2_⟩; replace E := (E.wh hw_).wh hw2_; clear hw_ hw2_; refine ⟨_, rfl, ?_⟩; refine hK.out _ _ E.cls (fun hH => ?_); clear hK K; refine nm_ (some 21) ?_; refine la_ 17 (none) (bz 18 262143) (fun K hK => ?_); have q := E.cls; (repeat obtain ⟨_, _, q⟩ := q); clear q; refine sk_ (fun ws hs_ => ?_); replace E := Env.pt4 hs_ E; clear hs_; refine hK.out _ _ ?_; clear hK K; have q := E.cls; (repeat obtain ⟨_, _, q⟩ := q); clear q; refine done_ (by kernel_rfl) ?_; all_goals (have q := E.cls; (repeat obtain ⟨_, _, q⟩ := q); clear q)))
 refine bodyPost_ret (results_single rfl (.cell _ _ _ (0, 0) _ rfl E.blk Tryz.underlying84 rfl (by kernel_rfl) .nil)) rfl ?_
 rw [← rq_add]
 exact ⟨E.below, RQ.mk E.getW E.getW⟩
theorem rquo_calls (h1 : Wh W b1 (.slice A1 x1 c1) n) (h2 : Wh W b2 (.slice A2 x2 c2) d) (h3 : Wh W b3 (.slice A3 x3 c3) n') (h4 : Wh W b4 (.slice A4 x4 c4) d') (l1 : Ln n k) (l2 : Ln d k) (l3 : Ln n' k) (l4 : Ln d' k) (hk : 1 ≤ k) (hk' : k ≤ 1000000000000) (h0 : n' ≠ 0) :
  Calls Tryz.prog 103 #[.agg #[.bool b1, .slice A1 x1 c1, .bool b2, .slice A2 x2 c2], .agg #[.bool b3, .slice A3 x3 c3, .bool b4, .slice A4 x4 c4]] W fun e w' => Below W.heap.size W w' ∧ RR (rq n d / rq n' d') e w' := by
 have E := ((((Env.start W).wh h1).wh h2).wh h3).wh h4
 have L1 := Aside0.mk l1
 have L2 := Aside0.mk (l2.dn hk)
 have L3 := Aside0.mk l3
 have L4 := Aside0.mk (l4.dn hk)
 have HK := Aside0.mk hk'
 have H0 := Aside0.mk h0
 clear h0
 clear h1 h2 h3 h4 l1 l2 l3 l4 hk hk'
 go_enter Tryz.func103, Tryz.ntmps103
 go_wp2_with (first | ((with_reducible first | refine gate_box (by rfl) ?_ | refine gate_alloc (by rfl) ?_); refine bx_ E ?_; clear E; intro gb wb E; have q := E.cls; (repeat obtain ⟨_, _, q⟩ := q); clear q) | ((with_reducible refine gate_stored (t := 77) (by rfl) ?_); refine st_ (fun ws hs_ => ?_); replace E := Env.pt2 hs_ E; clear hs_; have q := E.cls; (repeat obtain ⟨_, _, q⟩ := q); clear q) | ((with_reducible refine gate_stored (t := 84) (by rfl) ?_); refine st_ (fun ws hs_ => ?_); replace E := Env.pt4 hs_ E; clear hs_; have q := E.cls; (repeat obtain ⟨_, _, q⟩ := q); clear q) | (refine start_ (id := 1) (n := 12) (S := fun w' => Cls w' _) (ds := [11]) (bz 12 0) (by kernel_rfl) rfl rfl E.draw.cls (fun hH => ?_); replace E := E.draw; refine pu_ 0 (some 5) (bz 12 1) ?_; refine pu_ 7 (some 12) (bz 12 129) ?_; refine ta_ 1 (some 6) (bz 12 131) hH ?_; refine ta_ 2 (some 7) (bz 12 135) hH ?_; refine ta_ 5 (some 10) (bz 12 167) hH ?_; refine ta_ 8 (some 13) (bz 12 423) hH ?_; refine on_ 3 (some 8) (bz 12 431) (fun K hK => ?_); refine gs_ Tryz.func113 ?_; refine env_call E (den_calls E.getW E.getW) ?_; clear E; rintro e wc E ⟨br, Ar, nr, cr, rfl, hw_⟩; replace E := E.wh hw_; clear hw_; refine ⟨_, rfl, ?_⟩; refine hK.out _ _ E.cls (fun hH => ?_); clear hK K; refine nm_ (some 8) ?_; refine on_ 4 (some 9) (bz 12 447) (fun K hK => ?_); refine gs_ Tryz.func122 ?_; refine env_call E (mul_calls E.getW E.getW (by have := HK.out; have h1 := L1.out; have h2 := L2.out; have h3 := L3.out; have h4 := L4.out; unfold Ln at h1 h2 h3 h4; omega)) ?_; clear E; rintro e wc E ⟨br, Ar, nr, cr, rfl, hw_⟩; replace E := E.wh hw_; clear hw_; refine ⟨_, rfl, ?_⟩; refine hK.out _ _ E.cls (fun hH => ?_); clear hK K; refine nm_ (some 9) ?_; refine on_ 6 (some 11) (bz 12 511) (fun K hK => ?_); refine gs_ Tryz.func113 ?_; refine env_call E (den_calls E.getW E.getW) ?_; clear E; rintro e wc E ⟨br, Ar, nr, cr, rfl, hw_⟩; replace E := E.wh hw_; clear hw_; refine ⟨_, rfl, ?_⟩; refine hK.out _ _ E.cls (fun hH => ?_); clear hK K; refine nm_ (some 11) ?_; refine on_ 9 (some 14) (bz 12 1023) (fun K hK => ?_); refine gs_ Tryz.func122 ?_; refine env_call E (mul_calls E.getW E.getW (by have := HK.out; have h1 := L1.out; have h2 := L2.out; have h3 := L3.out; have h4 := L4.out; unfold Ln at h1 h2 h3 h4; omega)) ?_; clear E; rintro e wc E ⟨br, Ar, nr, cr, rfl, hw_⟩; replace E := E.wh hw_; clear hw_; refine ⟨_, rfl, ?_⟩; refine hK.out _ _ E.cls (fun hH => ?_); clear hK K; refine nm_ (some 14) ?_; refine on_ 10 (some 15) (bz 12 2047) (fun K hK => ?_); refine gs_ Tryz.func88 ?_; refine env_call E (over_calls E.getW E.getW (Int.mul_ne_zero (dn_ne _) H0.out) ((L1.out.mul L4.out).fits (by have := HK.out; omega)) ((L2.out.mul L3.out).fits (by have := HK.out; omega))) ?_; clear E; rintro e wc E ⟨br, Ar, nr, cr, br2, Ar2, nr2, cr2, rfl, hw_, hw2_⟩; replace E := (E.wh hw_).wh hw2_; clear hw_ hw2_; refine ⟨_, rfl, ?_⟩; refine hK.out _ _ E.cls (fun hH => ?_); clear hK K; refine nm_ (some 15) ?_; refine la_ 11 (none) (bz 12 4095) (fun K hK => ?_); have q := E.cls; (repeat obtain ⟨_, _, q⟩ := q); clear q; refine sk_ (fun ws hs_ => ?_); replace E := Env.pt4 hs_ E; clear hs_; refine hK.out _ _ ?_; clear hK K; have q := E.cls; (repeat obtain ⟨_, _, q⟩ := q); clear q; refine done_ (by kernel_rfl) ?_; all_goals (have q := E.cls; (repeat obtain ⟨_, _, q⟩ := q); clear q)))
 refine bodyPost_ret (results_single rfl (.cell _ _ _ (0, 0) _ rfl E.blk Tryz.underlying84 rfl (by kernel_rfl) .nil)) rfl ?_
 rw [← rq_div _ _ _ _ H0.out]
 exact ⟨E.below, RQ.mk E.getW E.getW⟩
theorem rcmp_calls (h1 : Wh W b1 (.slice A1 x1 c1) n) (h2 : Wh W b2 (.slice A2 x2 c2) d) (h3 : Wh W b3 (.slice A3 x3 c3) n') (h4 : Wh W b4 (.slice A4 x4 c4) d') (l1 : Ln n k) (l2 : Ln d k) (l3 : Ln n' k) (l4 : Ln d' k) (hk : 1 ≤ k) (hk' : k ≤ 1000000000000) :
  Calls Tryz.prog 167 #[.agg #[.bool b1, .slice A1 x1 c1, .bool b2, .slice A2 x2 c2], .agg #[.bool b3, .slice A3 x3 c3, .bool b4, .slice A4 x4 c4]] W fun e w' => Below W.heap.size W w' ∧ (fun e w' => e = .returned (.int .i64 (sgnI (n * dn d' - n' * dn d)))) e w' := by
 have E := ((((Env.start W).wh h1).wh h2).wh h3).wh h4
 have L1 := Aside0.mk l1
 have L2 := Aside0.mk (l2.dn hk)
 have L3 := Aside0.mk l3
 have L4 := Aside0.mk (l4.dn hk)
 have HK := Aside0.mk hk'
 clear h1 h2 h3 h4 l1 l2 l3 l4 hk hk'
 go_enter Tryz.func167, Tryz.ntmps167
 go_wp2_with (first | ((with_reducible first | refine gate_box (by rfl) ?_ | refine gate_alloc (by rfl) ?_); refine bx_ E ?_; clear E; intro gb wb E; have q := E.cls; (repeat obtain ⟨_, _, q⟩ := q); clear q) | ((with_reducible refine gate_stored (t := 77) (by rfl) ?_); refine st_ (fun ws hs_ => ?_); replace E := Env.pt2 hs_ E; clear hs_; have q := E.cls; (repeat obtain ⟨_, _, q⟩ := q); clear q) | ((with_reducible refine gate_stored (t := 84) (by rfl) ?_); refine st_ (fun ws hs_ => ?_); replace E := Env.pt4 hs_ E; clear hs_; have q := E.cls; (repeat obtain ⟨_, _, q⟩ := q); clear q) | (refine start_ (id := 1) (n := 12) (S := fun w' => Cls w' _) (ds := []) (bz 12 0) (by kernel_rfl) rfl rfl E.draw.cls (fun hH => ?_); replace E := E.draw; refine pu_ 0 (some 5) (bz 12 1) ?_; refine pu_ 5 (some 10) (bz 12 33) ?_; refine ta_ 1 (some 6) (bz 12 35) hH ?_; refine ta_ 2 (some 7) (bz 12 39) hH ?_; refine ta_ 6 (some 11) (bz 12 103) hH ?_; refine ta_ 7 (some 12) (bz 12 231) hH ?_; refine on_ 3 (some 8) (bz 12 239) (fun K hK => ?_); refine gs_ Tryz.func113 ?_; refine env_call E (den_calls E.getW E.getW) ?_; clear E; rintro e wc E ⟨br, Ar, nr, cr, rfl, hw_⟩; replace E := E.wh hw_; clear hw_; refine ⟨_, rfl, ?_⟩; refine hK.out _ _ E.cls (fun hH => ?_); clear hK K; refine nm_ (some 8) ?_; refine on_ 4 (some 9) (bz 12 255) (fun K hK => ?_); refine gs_ Tryz.func122 ?_; refine env_call E (mul_calls E.getW E.getW (by have := HK.out; have h1 := L1.out; have h2 := L2.out; have h3 := L3.out; have h4 := L4.out; unfold Ln at h1 h2 h3 h4; omega)) ?_; clear E; rintro e wc E ⟨br, Ar, nr, cr, rfl, hw_⟩; replace E := E.wh hw_; clear hw_; refine ⟨_, rfl, ?_⟩; refine hK.out _ _ E.cls (fun hH => ?_); clear hK K; refine nm_ (some 9) ?_; refine on_ 8 (some 13) (bz 12 511) (fun K hK => ?_); refine gs_ Tryz.func113 ?_; refine env_call E (den_calls E.getW E.getW) ?_; clear E; rintro e wc E ⟨br, Ar, nr, cr, rfl, hw_⟩; replace E := E.wh hw_; clear hw_; refine ⟨_, rfl, ?_⟩; refine hK.out _ _ E.cls (fun hH => ?_); clear hK K; refine nm_ (some 13) ?_; refine on_ 9 (some 14) (bz 12 1023) (fun K hK => ?_); refine gs_ Tryz.func122 ?_; refine env_call E (mul_calls E.getW E.getW (by have := HK.out; have h1 := L1.out; have h2 := L2.out; have h3 := L3.out; have h4 := L4.out; unfold Ln at h1 h2 h3 h4; omega)) ?_; clear E; rintro e wc E ⟨br, Ar, nr, cr, rfl, hw_⟩; replace E := E.wh hw_; clear hw_; refine ⟨_, rfl, ?_⟩; refine hK.out _ _ E.cls (fun hH => ?_); clear hK K; refine nm_ (some 14) ?_; refine on_ 10 (some 15) (bz 12 2047) (fun K hK => ?_); refine gs_ Tryz.func141 ?_; refine env_call E (cmp_calls E.getW E.getW) ?_; clear E; rintro e wc E rfl; refine ⟨_, rfl, ?_⟩; refine hK.out _ _ E.cls (fun hH => ?_); clear hK K; refine nm_ (some 15) ?_; refine pu_ 11 (some 4) (bz 12 4095) ?_; refine done_ (by kernel_rfl) ?_; all_goals (have q := E.cls; (repeat obtain ⟨_, _, q⟩ := q); clear q)))
 go_ret
 exact ⟨E.below, rfl⟩
theorem rsub_calls (h1 : Wh W b1 (.slice A1 x1 c1) n) (h2 : Wh W b2 (.slice A2 x2 c2) d) (h3 : Wh W b3 (.slice A3 x3 c3) n') (h4 : Wh W b4 (.slice A4 x4 c4) d') (l1 : Ln n k) (l2 : Ln d k) (l3 : Ln n' k) (l4 : Ln d' k) (hk : 1 ≤ k) (hk' : k ≤ 1000000000000) :
  Calls Tryz.prog 101 #[.agg #[.bool b1, .slice A1 x1 c1, .bool b2, .slice A2 x2 c2], .agg #[.bool b3, .slice A3 x3 c3, .bool b4, .slice A4 x4 c4]] W fun e w' => Below W.heap.size W w' ∧ RR (rq n d - rq n' d') e w' := by
 have E := ((((Env.start W).wh h1).wh h2).wh h3).wh h4
 have L1 := Aside0.mk l1
 have L2 := Aside0.mk (l2.dn hk)
 have L3 := Aside0.mk l3
 have L4 := Aside0.mk (l4.dn hk)
 have HK := Aside0.mk hk'
 have L2' := Aside0.mk l2
 have L4' := Aside0.mk l4
 have HK0 := Aside0.mk hk
 clear h1 h2 h3 h4 l1 l2 l3 l4 hk hk'
 go_enter Tryz.func101, Tryz.ntmps101
 go_wp2_with (first | ((with_reducible first | refine gate_box (by rfl) ?_ | refine gate_alloc (by rfl) ?_); refine bx_ E ?_; clear E; intro gb wb E; have q := E.cls; (repeat obtain ⟨_, _, q⟩ := q); clear q) | ((with_reducible refine gate_stored (t := 77) (by rfl) ?_); refine st_ (fun ws hs_ => ?_); replace E := Env.pt2 hs_ E; clear hs_; have q := E.cls; (repeat obtain ⟨_, _, q⟩ := q); clear q) | ((with_reducible refine gate_stored (t := 84) (by rfl) ?_); refine st_ (fun ws hs_ => ?_); replace E := Env.pt4 hs_ E; clear hs_; have q := E.cls; (repeat obtain ⟨_, _, q⟩ := q); clear q) | (refine start_ (id := 1) (n := 5) (S := fun w' => Cls w' _) (ds := [4]) (bz 5 0) (by kernel_rfl) rfl rfl E.draw.cls (fun hH => ?_); replace E := E.draw; refine ta_ 0 (some 5) (bz 5 1) hH ?_; refine ta_ 1 (some 6) (bz 5 3) hH ?_; refine on_ 2 (some 7) (bz 5 7) (fun K hK => ?_); refine gs_ Tryz.func105 ?_; refine env_call E (rneg_calls E.getW E.getW) ?_; clear E; rintro e wc E ⟨br, Ar, nr, cr, br2, Ar2, nr2, cr2, rfl, hw_, hw2_⟩; replace E := (E.wh hw_).wh hw2_; clear hw_ hw2_; refine ⟨_, rfl, ?_⟩; refine hK.out _ _ E.cls (fun hH => ?_); clear hK K; refine nm_ (some 7) ?_; refine on_ 3 (some 8) (bz 5 15) (fun K hK => ?_); refine gs_ Tryz.func115 ?_; refine env_call E (radd_calls E.getW E.getW E.getW E.getW L1.out L2'.out L3.out.neg L4'.out HK0.out HK.out) ?_; clear E; rintro e wc E ⟨br, Ar, nr, cr, br2, Ar2, nr2, cr2, rfl, hw_, hw2_⟩; replace E := (E.wh hw_).wh hw2_; clear hw_ hw2_; refine ⟨_, rfl, ?_⟩; refine hK.out _ _ E.cls (fun hH => ?_); clear hK K; refine nm_ (some 8) ?_; refine la_ 4 (none) (bz 5 31) (fun K hK => ?_); have q := E.cls; (repeat obtain ⟨_, _, q⟩ := q); clear q; refine sk_ (fun ws hs_ => ?_); replace E := Env.pt4 hs_ E; clear hs_; refine hK.out _ _ ?_; clear hK K; have q := E.cls; (repeat obtain ⟨_, _, q⟩ := q); clear q; refine done_ (by kernel_rfl) ?_; all_goals (have q := E.cls; (repeat obtain ⟨_, _, q⟩ := q); clear q)))
 refine bodyPost_ret (results_single rfl (.cell _ _ _ (0, 0) _ rfl E.blk Tryz.underlying84 rfl (by kernel_rfl) .nil)) rfl ?_
 rw [Rat.sub_eq_add_neg, ← rq_neg]
 exact ⟨E.below, RQ.mk E.getW E.getW⟩
end
abbrev K8 : Kd Int := Kd.int .u8
abbrev Own8 (w : World) (W : World) (v : Value) (l : List Int) : Prop := Kd.R K8 5 W w.heap.size (fun _ => True) v l
section
variable {ops : Array Oper} {o : Oper} {rest : List Oper} {a : Act} {Q : Exit → Act → World → Prop} {w W : World}
theorem app8 {s x : Operand} {v : Value} {l : List Int} {y : Int} (hgd : o.guard = none) (ho : o.op = .call { callee := .builtin .append, args := #[s, x], argTypes := #[129, 129] }) (hs : a.eval s = v) (hx : a.eval x = .slice (some ⟨W.heap.size, 0, none⟩) 1 1)
  (HO : Own8 w W v l) (HB : Below w.heap.size w W) (hl : l.length ≤ 130000000000000) (h : ∀ v1 w1, Own8 w w1 v1 (l ++ [y]) → Below w.heap.size w w1 → wpList Tryz.prog ops Q rest (a.put o.dst v1) w1) :
  wpList Tryz.prog ops Q (o :: rest) a (W.alloc (.cells #[.int .u8 y] 5)) :=
 Kd.R_append K8 (w0 := w) w.heap.size hgd s x 129 5 (.int .u8 0) 1 ho Tryz.underlying129 info5 rfl (by decide) (by omega) v l y [.int .u8 y] (fun _ => True) (fun _ => False) hs hx rfl (fun _ hk => hk.elim) (fun _ _ => trivial) HO HB HB.size (by omega) (fun v1 w1 h1 h2 _ _ => h v1 w1 h1 h2)
theorem cap8 {x y : Operand} {N : Tmp} {n : Int} (hgd : o.guard = none) (hd : o.dst = some N) (ho : o.op = .makeSlice 129 x y) (hx : a.eval x = .int .i64 0) (hy : a.eval y = .int .i64 n) (h0 : 0 ≤ n) (hn : n ≤ 280000000000000) (HB : Below w.heap.size w W)
  (h : ∀ v1 w1, Own8 w w1 v1 [] → Below w.heap.size w w1 → wpList Tryz.prog ops Q rest (a.put o.dst v1) w1) : wpList Tryz.prog ops Q (o :: rest) a W :=
 Kd.R_makecap K8 w.heap.size 5 hgd hd 129 x y ho n hx hy Tryz.underlying129 (.int .u8 0) 1 info5 rfl (by decide) (by omega) (ok := fun _ => True) trivial h0 (by omega) HB HB.size (fun v1 w1 h1 h2 _ _ => h v1 w1 h1 h2)
end
def sub (l : List Int) : List Int := l.map (· - 48)
theorem sub_append (a b : List Int) : sub (a ++ b) = sub a ++ sub b := List.map_append
theorem sub_length (a : List Int) : (sub a).length = a.length := List.length_map _
theorem ten_pow9 (i : Nat) : (10 : Int) ^ (9 * i) = 1000000000 ^ i := by rw [Int.pow_mul]; rfl
def TInn (d out : List Int) (i : Nat) (j x : Int) (kq : Nat) : Prop := (0 ≤ j ∧ j ≤ 9) ∧ (kq : Int) = 10 - j ∧ (0 ≤ x ∧ x < 10 ^ (9 - j).toNat) ∧ out.all isd = true ∧ out.length = 9 * i + j.toNat ∧ Ten.val (sub out) + 10 ^ (9 * i + j.toNat) * x = val (d.take (i + 1))
def TOut (d out : List Int) (i : Int) (kq : Nat) : Prop := (0 ≤ i ∧ i.toNat ≤ d.length) ∧ (kq : Int) = d.length + 1 - i ∧ out.all isd = true ∧ out.length = 9 * i.toNat ∧ Ten.val (sub out) = val (d.take i.toNat)
theorem TOut.start {d out : List Int} {i : Nat} {kq : Nat} (h : TOut d out i kq) (hd : Lim d) (hi : i < d.length) : TInn d out i 0 (rd d (i : Int)) 10 := by
 obtain ⟨h1, h2, h3, h4, h5⟩ := h
 simp only [Int.toNat_natCast] at h4 h5
 have hx := hd.rd i hi
 refine ⟨by omega, by omega, ⟨hx.1, ?_⟩, h3, by simpa using h4, ?_⟩
 ·have : (10 : Int) ^ ((9 : Int) - 0).toNat = 1000000000 := by decide
  rw [this]
  exact hx.2
 ·rw [take_snoc d i hi, val_append, List.length_take, Nat.min_eq_left (by omega), h5]
  simp only [Int.toNat_zero, Nat.add_zero, ten_pow9]
  simp [val]
theorem TInn.next {d out : List Int} {i : Nat} {j x : Int} {kq : Nat} (h : TInn d out i j x kq) (hj : j < 9) : (9 - j).toNat < kq ∧ TInn d (out ++ [48 + x % 10]) i (wrap64 (j + 1)) (x / 10) (9 - j).toNat := by
 obtain ⟨h1, h2, h3, h4, h5, h6⟩ := h
 replace h3 := Aside0.mk h3
 replace h6 := Aside0.mk h6
 obtain ⟨m, rfl⟩ := Int.eq_ofNat_of_zero_le h1.1
 have e : wrap64 ((m : Int) + 1) = ((m + 1 : Nat) : Int) := by rw [wrap_id (by omega) (by omega)]; omega
 have e1 : ((9 : Int) - (m : Int)).toNat = (9 - ((m + 1 : Nat) : Int)).toNat + 1 := by omega
 simp only [Int.toNat_natCast] at h5
 rw [e]
 have hm : 0 ≤ x % 10 ∧ x % 10 < 10 := ⟨Int.emod_nonneg _ (by decide), Int.emod_lt_of_pos _ (by decide)⟩
 have g1 : (9 - (m : Int)).toNat < kq := by omega
 have g2 : 0 ≤ ((m + 1 : Nat) : Int) ∧ ((m + 1 : Nat) : Int) ≤ 9 := by omega
 have g3 : (((9 - (m : Int)).toNat : Nat) : Int) = 10 - ((m + 1 : Nat) : Int) := by omega
 have e2 := h3.out.2
 rw [e1, Int.pow_succ] at e2
 refine ⟨g1, g2, g3, ⟨Int.ediv_nonneg h3.out.1 (by decide), Int.ediv_lt_of_lt_mul (by decide) e2⟩, ?_, ?_, ?_⟩
 all_goals clear e2
 ·rw [List.all_append, h4, Bool.true_and]
  simp [isd]
  omega
 ·simp only [List.length_append, List.length_cons, List.length_nil, Int.toNat_natCast]
  omega
 ·simp only [Int.toNat_natCast]
  rw [sub_append, Ten.val_append, sub_length, h5, show 9 * i + (m + 1) = (9 * i + m) + 1 by omega, Int.pow_succ]
  have e3 : Ten.val (sub [48 + x % 10]) = x % 10 := by simp [sub, Ten.val]; omega
  have e4 := Int.emod_add_mul_ediv x 10
  rw [e3]
  generalize x % 10 = u at *
  generalize x / 10 = v at *
  have h6 := h6.out
  simp only [Int.toNat_natCast] at h6
  clear e1 h1 h2 h3 h5 e hm hj g1 g2 g3
  grind
theorem TInn.forms {d out : List Int} {i : Nat} {j x : Int} {kq : Nat} (h : TInn d out i j x kq) : (48 + Int.tmod x 10) % 256 = 48 + x % 10 ∧ Int.tdiv x 10 % 4294967296 = x / 10 := by
 obtain ⟨h1, -, h3, -⟩ := h
 have h4 : (10 : Int) ^ (9 - j).toNat ≤ 10 ^ 9 := Ten.pow_mono (by omega)
 rw [show (10 : Int) ^ 9 = 1000000000 by decide] at h4
 have h5 : x < 1000000000 := Int.lt_of_lt_of_le h3.2 h4
 have h6 := h3.1
 clear h3 h4
 rw [Int.tmod_eq_emod_of_nonneg h6, Int.tdiv_eq_ediv_of_nonneg h6]
 omega
theorem TInn.fin {d out : List Int} {i : Nat} {j x : Int} {kq : Nat} (h : TInn d out i j x kq) (hj : ¬ j < 9) (hi : i < d.length) (hm : d.length ≤ 20000000000000) : TOut d out (wrap64 ((i : Int) + 1)) (d.length - i) := by
 obtain ⟨h1, h2, h3, h4, h5, h6⟩ := h
 have ej : j = 9 := by omega
 subst ej
 have hx : x = 0 := by
  have := h3.2
  have e : (10 : Int) ^ ((9 : Int) - 9).toNat = 1 := by decide
  rw [e] at this
  omega
 subst hx
 have e : wrap64 ((i : Int) + 1) = ((i + 1 : Nat) : Int) := by rw [wrap_id (by omega) (by omega)]; omega
 rw [e]
 refine ⟨⟨by omega, by simp only [Int.toNat_natCast]; omega⟩, by omega, h4, ?_, ?_⟩
 ·simp only [Int.toNat_natCast]
  have : ((9 : Int)).toNat = 9 := rfl
  omega
 ·simp only [Int.toNat_natCast]
  rw [Int.mul_zero, Int.add_zero] at h6
  exact h6
theorem ten_tr_zero : ∀ xs : List Int, Ten.tr (xs ++ [0]) = Ten.tr xs
 |[] => by simp [Ten.tr]
 |x :: xs => by rw [List.cons_append, Ten.tr, Ten.tr, ten_tr_zero xs]
theorem ten_tr_snoc {y : Int} (h : y ≠ 0) : ∀ xs : List Int, Ten.tr (xs ++ [y]) = xs ++ [y]
 |[] => by simp [Ten.tr, h]
 |x :: xs => by
  rw [List.cons_append, Ten.tr, ten_tr_snoc h xs]
  cases xs <;> rfl
def TTrim (n : Nat) (out : List Int) (kq : Nat) : Prop := Ten.tr (sub out) = Ten.dg n ∧ n ≠ 0 ∧ out.length ≤ 90000000000000 ∧ kq = out.length
theorem TTrim.pos {n : Nat} {out : List Int} {kq : Nat} (h : TTrim n out kq) : 0 < out.length := by
 refine Nat.pos_of_ne_zero fun e => ?_
 have e2 := List.eq_nil_of_length_eq_zero e
 have := h.1
 rw [e2] at this
 have h3 : Ten.dg n = [] := this.symm
 rw [Ten.dg_pos n h.2.1] at h3
 cases h3
theorem TTrim.next {n : Nat} {out : List Int} {kq : Nat} (h : TTrim n out kq) (h0 : rd out ((out.length : Int) - 1) = 48) : out.length - 1 < kq ∧ TTrim n (out.take (out.length - 1)) (out.length - 1) := by
 have hp := h.pos
 obtain ⟨h1, h2, h3, h4⟩ := h
 obtain ⟨xs, y, rfl, hxs⟩ := snoc_of (l := out) (n := out.length - 1) (by omega)
 have hl : (xs ++ [y]).length = xs.length + 1 := by simp
 have e : (((xs ++ [y]).length : Int) - 1) = (xs.length : Int) := by omega
 rw [e, rd_last] at h0
 subst h0
 have et : (xs ++ [(48 : Int)]).take ((xs ++ [(48 : Int)]).length - 1) = xs := by simp
 rw [et]
 refine ⟨by omega, ?_, h2, by omega, by omega⟩
 rw [sub_append] at h1
 have e48 : sub [(48 : Int)] = [0] := rfl
 rw [e48, ten_tr_zero] at h1
 exact h1
theorem TTrim.fin {n : Nat} {out : List Int} {kq : Nat} (h : TTrim n out kq) (h0 : rd out ((out.length : Int) - 1) ≠ 48) : out = sg (Ten.dg n) := by
 have hp := h.pos
 obtain ⟨h1, h2, h3, h4⟩ := h
 obtain ⟨xs, y, rfl, hxs⟩ := snoc_of (l := out) (n := out.length - 1) (by omega)
 have e : (((xs ++ [y]).length : Int) - 1) = (xs.length : Int) := by simp
 rw [e, rd_last] at h0
 rw [sub_append] at h1
 have ey : sub [y] = [y - 48] := rfl
 rw [ey, ten_tr_snoc (by omega), ← ey, ← sub_append] at h1
 rw [← h1]
 exact (sub_sg _).symm
theorem TOut.trim {d out : List Int} {i : Int} {kq : Nat} (h : TOut d out i kq) (hd : Can d) (hn : d ≠ []) (hi : ¬ i < (d.length : Int)) (hm : d.length ≤ 10000000000000) : TTrim (val d).toNat out out.length := by
 obtain ⟨h1, h2, h3, h4, h5⟩ := h
 have e : i.toNat = d.length := by omega
 rw [e] at h4 h5
 rw [List.take_length] at h5
 have hp := can_pos d hd hn
 refine ⟨?_, by omega, by omega, rfl⟩
 have e1 : Ten.tr (sub out) = Ten.dg (Ten.val (sub out)).toNat := Ten.tr_dg (isd_lim h3)
 rw [e1, h5]
def TRev (l0 l : List Int) (i j : Int) (kq : Nat) : Prop := 0 ≤ i ∧ i + j = (l0.length : Int) - 1 ∧ (-1 ≤ j) ∧ l.length = l0.length ∧ l0.length ≤ 190000000000000 ∧ (kq : Int) = j + 1 ∧
 ∀ k : Nat, k < l0.length → rd l (k : Int) = if i ≤ (k : Int) ∧ (k : Int) ≤ j then rd l0 (k : Int) else rd l0 ((l0.length : Int) - 1 - k)
theorem TRev.start (l : List Int) (h : l.length ≤ 190000000000000) : TRev l l 0 ((l.length : Int) - 1) l.length := by
 refine ⟨by omega, by omega, by omega, rfl, h, by omega, fun k hk => ?_⟩
 rw [if_pos (by omega)]
theorem rd_set {l : List Int} {i j : Nat} (y : Int) (hi : i < l.length) : rd (l.set i y) (j : Int) = if i = j then y else rd l (j : Int) := by
 split
 ·rename_i h
  subst h
  unfold rd
  simp [List.getD_eq_getElem?_getD, hi]
 ·exact rd_set_ne y (by assumption)
theorem TRev.next {l0 l : List Int} {i j : Int} {kq : Nat} (h : TRev l0 l i j kq) (hij : i < j) : j.toNat < kq ∧ TRev l0 ((l.set i.toNat (rd l j)).set j.toNat (rd l i)) (wrap64 (i + 1)) (wrap64 (j - 1)) j.toNat := by
 obtain ⟨h1, h2, h3, h4, h5, h6, h7⟩ := h
 obtain ⟨a, rfl⟩ := Int.eq_ofNat_of_zero_le h1
 obtain ⟨b, rfl⟩ := Int.eq_ofNat_of_zero_le (show 0 ≤ j by omega)
 rw [wrap_id (by omega) (by omega), wrap_id (by omega) (by omega)]
 simp only [Int.toNat_natCast]
 refine ⟨by omega, by omega, by omega, by omega, by simp [h4], h5, by omega, fun k hk => ?_⟩
 rw [rd_set _ (by rw [List.length_set]; omega), rd_set _ (by omega)]
 have ha := h7 a (by omega)
 have hb := h7 b (by omega)
 rw [if_pos (by omega)] at ha hb
 have hk' := h7 k hk
 by_cases c1 : b = k
 ·subst c1
  rw [if_pos rfl, ha, if_neg (by omega)]
  congr 1
  omega
 ·rw [if_neg c1]
  by_cases c2 : a = k
  ·subst c2
   rw [if_pos rfl, hb, if_neg (by omega)]
   congr 1
   omega
  ·rw [if_neg c2, hk']
   by_cases c3 : (a : Int) ≤ (k : Int) ∧ (k : Int) ≤ (b : Int)
   ·rw [if_pos c3, if_pos (by omega)]
   ·rw [if_neg c3, if_neg (by omega)]
theorem TRev.fin {l0 l : List Int} {i j : Int} {kq : Nat} (h : TRev l0 l i j kq) (hij : ¬ i < j) : l = l0.reverse := by
 obtain ⟨h1, h2, h3, h4, h5, h6, h7⟩ := h
 refine List.ext_getElem (by simp [h4]) fun k hk1 hk2 => ?_
 have hk : k < l0.length := by omega
 have := h7 k hk
 have e1 : rd l (k : Int) = l[k] := by simp [rd, hk1]
 have e2 : rd l0 ((l0.length : Int) - 1 - k) = l0[l0.length - 1 - k]'(by omega) := by
  have : ((l0.length : Int) - 1 - k).toNat = l0.length - 1 - k := by omega
  unfold rd
  rw [this, List.getD_eq_getElem?_getD, List.getElem?_eq_getElem (by omega)]
  rfl
 rw [List.getElem_reverse, ← e1, ← e2, this]
 split
 ·rename_i c
  have : (k : Int) = (l0.length : Int) - 1 - k := by omega
  rw [← this]
 ·rfl
theorem txt_rev (z : Int) (h : z ≠ 0) : (sg (Ten.dg z.natAbs) ++ if z < 0 then [45] else []).reverse = tx z := by
 by_cases c : z < 0
 ·rw [if_pos c, tx_neg c, ntx_pos (by omega), List.reverse_append]
  have : (-z).toNat = z.natAbs := by omega
  rw [this]
  rfl
 ·rw [if_neg c, tx_nonneg (by omega), ntx_pos (by omega), List.append_nil]
  have : z.toNat = z.natAbs := by omega
  rw [this]
theorem text_calls {W : World} {b : Bool} {A : Option Addr} {n c : Nat} {z : Int} (h : Wh W b (.slice A n c) z) (hf : Ln z 1000000000000) :
  Calls Tryz.prog 114 #[.agg #[.bool b, .slice A n c]] W fun e w' => Below W.heap.size W w' ∧ e = .returned (.string (TX z)) := by
 have E := (Env.start W).wh h
 have hb := Aside0.mk h.1
 have HF := Aside0.mk hf
 obtain rfl := h.2.C.1
 clear h hf
 by_cases h0 : z = 0
 ·subst h0
  rw [Int.natAbs_zero, dg_zero] at E ⊢
  go_enter Tryz.func114, Tryz.ntmps114
  go_wp2_with (first | ((with_reducible first | refine gate_box (by rfl) ?_ | refine gate_alloc (by rfl) ?_); refine bx_ E ?_; clear E; intro gb wb E; have q := E.cls; (repeat obtain ⟨_, _, q⟩ := q); clear q))
  go_ret
  exact ⟨E.below, rfl⟩
 ·obtain ⟨d, hd⟩ : ∃ d, d = dg z.natAbs := ⟨_, rfl⟩
  rw [← hd] at E ⊢
  have HD := Aside0.mk hd
  have HC := Aside0.mk (show Can d from hd ▸ dg_canon z)
  have HV := Aside0.mk (show (val d).toNat = z.natAbs by rw [hd, dg_toNat])
  have hdl : 0 < d.length := Nat.pos_of_ne_zero (fun e => by rw [hd] at e; have := dg_len_zero.1 e; omega)
  have HN := Aside0.mk (show d ≠ [] by rintro rfl; simp at hdl)
  have HM := Aside0.mk (show d.length ≤ 1000000000000 by rw [hd]; exact HF.out)
  have H0 := Aside0.mk h0
  have hl0 : (d.length = 0) = False := eq_false (by omega)
  have hl1 : ((d.length : Int) == 0) = false := beq_eq_false_iff_ne.mpr (by omega)
  have hw : wrap64 (wrap64 (9 * (d.length : Int)) + 1) = 9 * (d.length : Int) + 1 := by have := HM.out; rw [wrap_id (a := 9 * (d.length : Int)) (by omega) (by omega), wrap_id (by omega) (by omega)]
  have hw2 : wrap64 (9 * (d.length : Int)) = 9 * (d.length : Int) := by have := HM.out; rw [wrap_id (by omega) (by omega)]
  have hw3 : wrap64 (9 * (d.length : Int) + 1) = 9 * (d.length : Int) + 1 := by have := HM.out; rw [wrap_id (by omega) (by omega)]
  clear hd h0 hdl
  go_enter Tryz.func114, Tryz.ntmps114
  go_wp2_with (first | ((with_reducible first | refine gate_box (by rfl) ?_ | refine gate_alloc (by rfl) ?_); refine bx_ E ?_; clear E; intro gb wb E; have q := E.cls; (repeat obtain ⟨_, _, q⟩ := q); clear q) | (at_make; have E0 := Aside0.mk E; have HB := Aside0.mk (Below.refl wb.heap.size wb); refine cap8 (w := wb) (n := 9 * (d.length : Int) + 1) (by rfl) (by rfl) (by rfl) (by rfl) (by first | rfl | simp [Act.eval, hw, hw2, hw3]) (by omega) (by have := HM.out; omega) HB.out ?_; clear HB E; intro v1 w1 ho hb; have HO := Aside0.mk ho; have HB := Aside0.mk hb; have E := E0.out.next hb; clear ho hb; have q := E.cls; (repeat obtain ⟨_, _, q⟩ := q); clear q))
  have TO0 := Aside0.mk (show TOut d [] 0 (d.length + 1) from ⟨⟨by omega, by simp⟩, by omega, rfl, rfl, rfl⟩)
  clear hw hw2 hw3
  go_loopg [3, 21] (d.length + 1) (fun kq v3 v21 w' => ∃ (out : List Int) (i : Int), v21 = .int .i64 i ∧ Aside0 (TOut d out i kq) ∧ Aside0 (Own8 wb w' v3 out) ∧ Aside0 (Below wb.heap.size wb w'))
  case atStart => exact ⟨[], 0, rfl, TO0, HO, HB⟩
  case round =>
   clear HO HB E TO0
   obtain ⟨out, i, rfl, INV, HO, HB⟩ := hrel
   have E := E0.out.next HB.out
   have q := E.cls; (repeat obtain ⟨_, _, q⟩ := q); clear q
   have i0 : 0 ≤ i := INV.out.1.1
   by_cases hi : i < (d.length : Int)
   ·have hib : decide (i < (d.length : Int)) = true := decide_eq_true hi
    have dd : Dg wr (.slice A d.length c) d := by have := (E.getW (v := .slice A d.length c) (z := z)).2; rwa [← HD.out] at this
    obtain ⟨ad, eA, cA⟩ := Dg.digitB dd i i0 hi
    cases eA
    obtain ⟨m, rfl⟩ := Int.eq_ofNat_of_zero_le i0
    have IN0 := Aside0.mk (INV.out.start HC.out.1 (by omega))
    have HK := Aside0.mk INV.out.2.1
    have HI := Aside0.mk hi
    have hi1 : (0 ≤ (m : Int)) = True := eq_true i0
    have hi2 : ((m : Int) < (d.length : Int)) = True := eq_true hi
    have hi3 : m < d.length := by omega
    have hi4 : (m < d.length) = True := eq_true hi3
    simp only [Int.toNat_natCast] at cA
    clear hi dd INV hi3
    go_wp2
    go_loopg [3, 5, 25] 10 (fun kq v3 v5 v25 w' => ∃ (out : List Int) (x j : Int), v5 = .int .u32 x ∧ v25 = .int .i64 j ∧ Aside0 (TInn d out m j x kq) ∧ Aside0 (Own8 wb w' v3 out) ∧ Aside0 (Below wb.heap.size wb w'))
    case atStart => exact ⟨_, _, 0, rfl, rfl, IN0, HO, HB⟩
    case round =>
     clear HO HB E IN0
     obtain ⟨out, x, j, rfl, rfl, INV, HO, HB⟩ := hrel
     by_cases hj : j < 9
     ·have hjb : decide (j < 9) = true := decide_eq_true hj
      have hn := Aside0.mk (INV.out.next hj)
      clear hj
      go_wp2_with (at_builtin; refine app8 (w := wb) (v := u3) (l := out) (by rfl) (by rfl) (by rfl) (by rfl) HO.out HB.out (by have h1 := INV.out.2.2.2.2.1; have h2 := INV.out.1; have h3 := HM.out; have h4 := HI.out; omega) ?_; clear HB HO; intro v1 w1 ho hb; have HO := Aside0.mk ho; have HB := Aside0.mk hb; clear ho hb)
      have hf := INV.out.forms
      rw [hf.1] at HO
      rw [hf.2]
      go_roundg (9 - j).toNat
      case measure => exact hn.out.1
      case rel => exact ⟨_, _, _, rfl, rfl, ⟨hn.out.2⟩, HO, HB⟩
     ·have hjb : decide (j < 9) = false := decide_eq_false hj
      have hn := Aside0.mk (INV.out.fin hj (by have := HI.out; omega) (by have := HM.out; omega))
      clear hj
      go_wp2
      go_roundg (d.length - m)
      case measure => have := HK.out; have := HI.out; omega
      case rel => exact ⟨_, _, rfl, hn, HO, HB⟩
   ·have hib : decide (i < (d.length : Int)) = false := decide_eq_false hi
    have TT0 := Aside0.mk (INV.out.trim HC.out HN.out hi (by have := HM.out; omega))
    rw [HV.out] at TT0
    clear hi INV
    go_wp2
    go_loopg [3] out.length (fun kq v3 w' => ∃ (out : List Int), Aside0 (TTrim z.natAbs out kq) ∧ Aside0 (Own8 wb w' v3 out) ∧ Aside0 (Below wb.heap.size wb w'))
    case atStart => exact ⟨_, TT0, HO, HB⟩
    case round =>
     clear HO HB E TT0
     obtain ⟨out, INV, HO, HB⟩ := hrel
     have hp := INV.out.pos
     have hle := INV.out.2.2.1
     obtain ⟨g, cap, rfl, hg0, hgl, cells, hcells⟩ := Kd.R_form HO.out hp
     have HG0 := Aside0.mk hg0
     have hw : wrap64 ((out.length : Int) - 1) = (out.length : Int) - 1 := wrap_id (by omega) (by omega)
     have hb1 : 0 ≤ (out.length : Int) - 1 := by omega
     have hb2 : (out.length : Int) - 1 < (out.length : Int) := by omega
     obtain ⟨cO, fO⟩ := Kd.R_celln 0 HO.out ((out.length : Int) - 1) hb1 hb2
     have hb1' : (0 ≤ (out.length : Int) - 1) = True := eq_true hb1
     have hb2' : ((out.length : Int) - 1 < (out.length : Int)) = True := eq_true hb2
     have er : rdOf 0 out ((out.length : Int) - 1) = rd out ((out.length : Int) - 1) := rfl
     have en : ((out.length : Int) - 1).toNat = out.length - 1 := by omega
     rw [er, en] at cO
     rw [en] at fO
     have hcap : out.length ≤ cap := (Kd.R_reads' HO.out).2.1
     have hb5 : ((out.length : Int) - 1 ≤ (cap : Int)) = True := eq_true (by omega)
     clear hcells hgl hg0 hp er
     by_cases hz : rd out ((out.length : Int) - 1) = 48
     ·have hzb : (rd out ((out.length : Int) - 1) == 48) = true := by rw [hz]; rfl
      have hn := Aside0.mk (INV.out.next hz)
      clear hz
      go_wp2
      go_roundg (out.length - 1)
      case measure => exact hn.out.1
      case rel => exact ⟨_, ⟨hn.out.2⟩, ⟨Kd.R_take HO.out (by omega)⟩, HB⟩
     ·have hzb : (rd out ((out.length : Int) - 1) == 48) = false := beq_eq_false_iff_ne.mpr hz
      have ho := Aside0.mk (INV.out.fin hz)
      have E := E0.out.next HB.out
      have q := E.cls; (repeat obtain ⟨_, _, q⟩ := q); clear q
      clear hz
      obtain ⟨g2, rfl⟩ : ∃ x, x = g := ⟨_, rfl⟩
      obtain ⟨cap2, rfl⟩ : ∃ x, x = cap := ⟨_, rfl⟩
      have HLE := Aside0.mk hle
      clear hle INV
      cases b
      case' false =>
       obtain ⟨l0, rfl⟩ : ∃ x, x = out := ⟨_, rfl⟩
       have HL0 := Aside0.mk (show l0 = sg (Ten.dg z.natAbs) ++ if z < 0 then [45] else [] by rw [if_neg (of_decide_eq_false hb.out.symm), List.append_nil]; exact ho.out)
       have HLL := Aside0.mk (show l0.length ≤ 100000000000000 by have := HLE.out; omega)
       have hwl : wrap64 ((l0.length : Int) - 1) = (l0.length : Int) - 1 := by have := HLL.out; rw [wrap_id (by omega) (by omega)]
       clear hw
       go_wp2
       clear hwl cO fO hb1' hb2' hb5 en hb1 hb2
      case' true =>
       go_wp2_with (at_builtin; refine app8 (w := wb) (v := .slice (some ⟨g2, 0, none⟩) out.length cap2) (l := out) (by rfl) (by rfl) (by rfl) (by rfl) HO.out HB.out (by have := HLE.out; omega) ?_; clear HB HO cO fO hb1' hb2' hb5 en hb1 hb2 hw HG0; intro v1 w1 ho1 hb1; have HLL := Aside0.mk (show (out ++ [(45 : Int)]).length ≤ 100000000000000 by have := HLE.out; simp only [List.length_append, List.length_cons, List.length_nil]; omega); obtain ⟨l0, hl0⟩ : ∃ l0, l0 = out ++ [(45 : Int)] := ⟨_, rfl⟩; rw [← hl0] at ho1 HLL; have HL0 := Aside0.mk (show l0 = sg (Ten.dg z.natAbs) ++ if z < 0 then [45] else [] by rw [if_pos (of_decide_eq_true hb.out.symm), hl0, ho.out]); obtain ⟨g2, cap2, rfl, hg0, -, -, -⟩ := Kd.R_form ho1 (by rw [hl0]; simp); have HG0 := Aside0.mk hg0; have HO := Aside0.mk ho1; have HB := Aside0.mk hb1; clear ho1 hb1 hl0 hg0; have hwl : wrap64 ((l0.length : Int) - 1) = (l0.length : Int) - 1 := by have := HLL.out; rw [wrap_id (by omega) (by omega)])
       clear hwl
      all_goals
       have TR0 := Aside0.mk (show TRev l0 l0 0 (wrap64 ((l0.length : Int) - 1)) l0.length from by have h1 := HLL.out; rw [wrap_id (by omega) (by omega)]; exact TRev.start l0 (by omega))
       go_loopg [6, 7] l0.length (fun kq v6 v7 w' => ∃ (l : List Int) (i j : Int), v6 = .int .i64 i ∧ v7 = .int .i64 j ∧ Aside0 (TRev l0 l i j kq) ∧ Aside0 (Own8 wb w' (.slice (some ⟨g2, 0, none⟩) l0.length cap2) l) ∧ Aside0 (Below wb.heap.size wb w'))
       case atStart => exact ⟨_, _, _, rfl, rfl, TR0, HO, HB⟩
       case round =>
        clear HO HB E TR0
        obtain ⟨l, i, j, rfl, rfl, INV, HO, HB⟩ := hrel
        by_cases hij : i < j
        ·have hijb : decide (i < j) = true := decide_eq_true hij
         have hn := Aside0.mk (INV.out.next hij)
         have hi1 : 0 ≤ i := INV.out.1
         have hj2 : j < (l0.length : Int) := by have h1 := INV.out.2.1; omega
         have hi2 : i < (l0.length : Int) := by omega
         have hj1 : 0 ≤ j := by omega
         obtain ⟨ci, fi⟩ := Kd.R_celln 0 HO.out i hi1 hi2
         obtain ⟨cj, fj⟩ := Kd.R_celln 0 HO.out j hj1 hj2
         have hi1' : (0 ≤ i) = True := eq_true hi1
         have hj1' : (0 ≤ j) = True := eq_true hj1
         have hi2' : (i < (l0.length : Int)) = True := eq_true hi2
         have hj2' : (j < (l0.length : Int)) = True := eq_true hj2
         clear hij
         go_wp2
         (refine start_ (id := 20) (n := 16) (S := fun w' => w'.cell? ⟨g2, i.toNat, none⟩ = some (.int .u8 (rd l i)) ∧ w'.frozen? ⟨g2, i.toNat, none⟩ = false ∧ w'.cell? ⟨g2, j.toNat, none⟩ = some (.int .u8 (rd l j)) ∧ w'.frozen? ⟨g2, j.toNat, none⟩ = false ∧ (Nat → True)) (ds := [13, 15]) (bz 16 0) (by kernel_rfl) rfl rfl (⟨ci, fi, cj, fj, fun _ => trivial⟩) (fun hH => ?_); clear ci fi cj fj; obtain ⟨ci, fi, cj, fj, -⟩ := And.intro hH.1 hH.2; have HW := HO; have HO := Aside0.mk (Kd.R_drew HO.out); have HB := Aside0.mk (below_drew HB.out); refine pu_ 0 (some 65) (bz 16 1) ?_; refine pu_ 1 (some 66) (bz 16 3) ?_; refine pu_ 2 (some 67) (bz 16 7) ?_; refine pu_ 3 (some 68) (bz 16 15) ?_; refine pu_ 4 (some 69) (bz 16 31) ?_; refine pu_ 5 (some 70) (bz 16 63) ?_; refine pu_ 6 (some 71) (bz 16 127) ?_; refine pu_ 8 (some 73) (bz 16 383) ?_; refine pu_ 9 (some 74) (bz 16 895) ?_; refine pu_ 10 (some 75) (bz 16 1919) ?_; refine ta_ 7 (some 72) (bz 16 2047) hH ?_; refine ta_ 11 (some 76) (bz 16 4095) hH ?_; refine pu_ 12 (some 77) (bz 16 8191) ?_; refine la_ 13 (none) (bz 16 16383) (fun K hK => ?_); refine skip_ (by rfl) rfl (w1 := ?_) ?_ ?_; rotate_left; (· (first | (go_simp; done) | (go_simp; rfl))); refine hK.out _ _ ?_; clear hK K; clear ci fi cj fj; have HO := Aside0.mk (Kd.R_putn HO.out i (rd l j)); have fj0 := (Kd.R_celln 0 HW.out j hj1 hj2).2; obtain ⟨cj, fj⟩ := Kd.R_celln 0 (Kd.R_putn HW.out i (rd l j)) j hj1 hj2; have HB := Aside0.mk (HB.out.setCell (show wb.heap.size ≤ Addr.block ⟨g2, i.toNat, none⟩ from HG0.out) (.int .u8 (rd l j))); refine pu_ 14 (some 78) (bz 16 32767) ?_; refine la_ 15 (none) (bz 16 65535) (fun K hK => ?_); refine skip_ (by rfl) rfl (w1 := ?_) ?_ ?_; rotate_left; (· (first | (go_simp; done) | (go_simp; rfl))); refine hK.out _ _ ?_; clear hK K; clear cj fj; have HO := Aside0.mk (Kd.R_putn HO.out j (rd l i)); have HB := Aside0.mk (HB.out.setCell (show wb.heap.size ≤ Addr.block ⟨g2, j.toNat, none⟩ from HG0.out) (.int .u8 (rd l i))); refine done_ (by kernel_rfl) ?_)
         go_wp2
         go_roundg j.toNat
         case measure => exact hn.out.1
         case rel => exact ⟨_, _, _, rfl, rfl, ⟨hn.out.2⟩, HO, HB⟩
        ·have hijb : decide (i < j) = false := decide_eq_false hij
         have hrv := Aside0.mk (INV.out.fin hij)
         have hst := own_string (P := Tryz.prog) Tryz.underlying129 Tryz.underlying5 Tryz.underlying22 (Kd.own_of_R HO.out)
         clear hij
         go_wp2
         rw [hrv.out, HL0.out, txt_rev z H0.out]
         go_ret
         exact ⟨(E0.out.next HB.out).below, rfl⟩
theorem rq_int (z : Int) : Rat.divInt z 1 = (z : Rat) := Rat.num_divInt_den (z : Rat)
theorem ln_i64 {m : Int} (h0 : -9223372036854775808 ≤ m) (h1 : m ≤ 9223372036854775807) : Ln m 3 := by
 refine dg_abs_len ?_
 have : (1000000000 : Int) ^ 3 = 1000000000000000000000000000 := by decide
 rw [this]
 omega
theorem ln_one : Ln 1 1 := dg_abs_len (by decide)
theorem at_ {P : Program} {md : Region.Mode} {ops : Array Oper} {Q : Exit → Act → World → Prop} {S : World → Prop} {ds : List Nat} {fuel : Nat} (l : Array Bool) {a : Act} {w : World} (h : wpAnyLast P md ops Q S ds fuel l a w) : wpAnyLast P md ops Q S ds fuel l a w := h
theorem ten_len {n k : Nat} (h : (dg n).length ≤ k) : (Ten.dg n).length ≤ 9 * k := by
 refine Nat.le_of_not_lt fun c => ?_
 have hn : Ten.dg n ≠ [] := by intro e; rw [e] at c; simp at c
 have h1 := Ten.can_low _ (Ten.dg_can n) hn
 have h2 := val_lt _ (dg_lim (n : Int))
 rw [Int.natAbs_natCast] at h2
 rw [Ten.dg_val] at h1
 have h3 : val (dg n) = n := dg_val n
 rw [h3, ← ten_pow9] at h2
 have h4 : (10 : Int) ^ (9 * (dg n).length) ≤ 10 ^ ((Ten.dg n).length - 1) := Ten.pow_mono (by omega)
 omega
theorem ntx_len {z : Int} (h0 : 0 ≤ z) {k : Nat} (h : Ln z k) : (ntx z).length ≤ 9 * k + 1 := by
 by_cases c : z = 0
 ·subst c; exact Nat.le_add_left 1 _
 ·have : z.toNat = z.natAbs := by omega
  rw [ntx_pos (by omega), List.length_reverse, this]
  have := ten_len h
  simp only [sg, List.length_map]
  omega
theorem tx_len {z : Int} {k : Nat} (h : Ln z k) : (TX z).size ≤ 9 * k + 2 := by
 have e : (TX z).size = (tx z).length := by simp [TX, B, ByteArray.size]
 rw [e]
 by_cases c : z < 0
 ·rw [tx_neg c, List.length_cons]
  have := ntx_len (by omega) h.neg
  omega
 ·rw [tx_nonneg (by omega)]
  have := ntx_len (by omega) h
  omega
theorem B_join (a b : Int) : B (tx a ++ 47 :: tx b) = TX a ++ ⟨#[47]⟩ ++ TX b := by
 refine ByteArray.ext ?_
 simp [TX, B, ByteArray.data_append]
theorem clsD {W : World} : ∀ (k : Nat) {bx : List (Nat × List Value × Nat)} {w : World} (_ : Bxs w W bx), Cls W (bx.drop k)
 |0, _, _, h => h.cls
 |_ + 1, [], _, h => h.cls
 |k + 1, _ :: _, _, h => clsD k h.2
theorem Env.clsD {w W : World} {rows : List (World → Prop)} {bx : List (Nat × List Value × Nat)} (k : Nat) (E : Env w W rows bx) : Cls W (bx.drop k) := PRatio.clsD k E.bxs
section
variable {W : World} {b1 b2 b3 b4 : Bool} {A1 A2 A3 A4 : Option Addr} {x1 x2 x3 x4 c1 c2 c3 c4 k : Nat} {n d n' d' : Int}
theorem rint_calls {z : Int} (h : Wh W b1 (.slice A1 x1 c1) z) (hf : Fits z) :
  Calls Tryz.prog 168 #[.agg #[.bool b1, .slice A1 x1 c1]] W fun e w' => Below W.heap.size W w' ∧ RR (z : Rat) e w' := by
 have E := (Env.start W).wh h
 have HF := Aside0.mk hf
 clear h hf
 go_enter Tryz.func168, Tryz.ntmps168
 go_wp2_with (first | ((with_reducible first | refine gate_box (by rfl) ?_ | refine gate_alloc (by rfl) ?_); refine bx_ E ?_; clear E; intro gb wb E; have q := E.cls; (repeat obtain ⟨_, _, q⟩ := q); clear q) | ((with_reducible refine gate_stored (t := 77) (by rfl) ?_); refine st_ (fun ws hs_ => ?_); replace E := Env.pt2 hs_ E; clear hs_; have q := E.cls; (repeat obtain ⟨_, _, q⟩ := q); clear q) | ((with_reducible refine gate_stored (t := 84) (by rfl) ?_); refine st_ (fun ws hs_ => ?_); replace E := Env.pt4 hs_ E; clear hs_; have q := E.cls; (repeat obtain ⟨_, _, q⟩ := q); clear q) | (refine start_ (id := 1) (n := 4) (S := fun w' => Cls w' _) (ds := [3]) (bz 4 0) (by kernel_rfl) rfl rfl E.draw.cls (fun hH => ?_); replace E := E.draw; refine ta_ 0 (some 3) (bz 4 1) hH ?_; refine on_ 1 (some 4) (bz 4 3) (fun K hK => ?_); refine gs_ Tryz.func121 ?_; refine env_call E (of_calls (n := 1) (by decide) (by decide)) ?_; clear E; rintro e wc E ⟨br, Ar, nr, cr, rfl, hw_⟩; replace E := E.wh hw_; clear hw_; refine ⟨_, rfl, ?_⟩; refine hK.out _ _ E.cls (fun hH => ?_); clear hK K; refine nm_ (some 4) ?_; refine on_ 2 (some 5) (bz 4 7) (fun K hK => ?_); refine gs_ Tryz.func88 ?_; refine env_call E (over_calls E.getW E.getW (by decide) HF.out (ln_one.fits (by decide))) ?_; clear E; rintro e wc E ⟨br, Ar, nr, cr, br2, Ar2, nr2, cr2, rfl, hw_, hw2_⟩; replace E := (E.wh hw_).wh hw2_; clear hw_ hw2_; refine ⟨_, rfl, ?_⟩; refine hK.out _ _ E.cls (fun hH => ?_); clear hK K; refine nm_ (some 5) ?_; refine la_ 3 (none) (bz 4 15) (fun K hK => ?_); have q := E.cls; (repeat obtain ⟨_, _, q⟩ := q); clear q; refine sk_ (fun ws hs_ => ?_); replace E := Env.pt4 hs_ E; clear hs_; refine hK.out _ _ ?_; clear hK K; have q := E.cls; (repeat obtain ⟨_, _, q⟩ := q); clear q; refine done_ (by kernel_rfl) ?_; all_goals (have q := E.cls; (repeat obtain ⟨_, _, q⟩ := q); clear q)))
 refine bodyPost_ret (results_single rfl (.cell _ _ _ (0, 0) _ rfl E.blk Tryz.underlying84 rfl (by kernel_rfl) .nil)) rfl ?_
 rw [← rq_int]
 exact ⟨E.below, RQ.mk E.getW E.getW⟩
theorem floor_calls (h1 : Wh W b1 (.slice A1 x1 c1) n) (h2 : Wh W b2 (.slice A2 x2 c2) d) (l1 : Fits n) (l2 : Fits (dn d)) :
  Calls Tryz.prog 124 #[.agg #[.bool b1, .slice A1 x1 c1, .bool b2, .slice A2 x2 c2]] W fun e w' => Below W.heap.size W w' ∧ RW (n.fdiv (dn d)) e w' := by
 have E := ((Env.start W).wh h1).wh h2
 have L1 := Aside0.mk l1
 have L2 := Aside0.mk l2
 clear h1 h2 l1 l2
 go_enter Tryz.func124, Tryz.ntmps124
 go_wp2_with (first | ((with_reducible first | refine gate_box (by rfl) ?_ | refine gate_alloc (by rfl) ?_); refine bx_ E ?_; clear E; intro gb wb E; have q := E.cls; (repeat obtain ⟨_, _, q⟩ := q); clear q) | ((with_reducible refine gate_stored (t := 77) (by rfl) ?_); refine st_ (fun ws hs_ => ?_); replace E := Env.pt2 hs_ E; clear hs_; have q := E.cls; (repeat obtain ⟨_, _, q⟩ := q); clear q) | ((with_reducible refine gate_stored (t := 84) (by rfl) ?_); refine st_ (fun ws hs_ => ?_); replace E := Env.pt4 hs_ E; clear hs_; have q := E.cls; (repeat obtain ⟨_, _, q⟩ := q); clear q))
 (refine start_ (id := 1) (n := 12) (S := fun w' => Cls w' _) (ds := [10, 11]) (bz 12 0) (by kernel_rfl) rfl rfl E.draw.cls (fun hH => ?_); replace E := E.draw; refine ta_ 0 (some 6) (bz 12 1) hH ?_; refine ta_ 2 (some 8) (bz 12 5) hH ?_; (repeat (any_goals (first | ((with_reducible refine at_ (bz 12 5) ?_); refine three_ (i := 1) (j := 8) (k := 9) (Ni := some 7) (Nj := some 3) (Nk := some 4) (bz 12 7) (bz 12 261) (bz 12 517) rfl rfl rfl rfl rfl rfl (by kernel_rfl) (by decide) (by decide) (by decide) (fun K hK => ?_) (fun K hK => ?_) (fun K hK => ?_); (focus (refine gs_ Tryz.func119 ?_; refine env_call E (num_calls E.getW E.getW) ?_; clear E; rintro e wc E ⟨br, Ar, nr, cr, rfl, hw_⟩; replace E := E.wh hw_; clear hw_; refine ⟨_, rfl, ?_⟩; refine hK.out _ _ E.cls (fun hH => ?_); clear hK K; refine nm_ (some 7) ?_)); rotate_left; (focus (refine value_env E (by rfl) rfl ?_; clear E; apply Exists.intro; apply Exists.intro; refine ⟨?_, ?_, fun gb wb E => ?_⟩; (· (first | rfl | (go_simp; done) | (go_simp; rfl))); (· rfl); refine hK.out _ _ (E.clsD 1) (fun hH => ?_); clear hK K; refine nm_ (some 3) ?_)); rotate_left; (focus (refine value_env E (by rfl) rfl ?_; clear E; apply Exists.intro; apply Exists.intro; refine ⟨?_, ?_, fun gb wb E => ?_⟩; (· (first | rfl | (go_simp; done) | (go_simp; rfl))); (· rfl); refine hK.out _ _ (E.clsD 1) (fun hH => ?_); clear hK K; refine nm_ (some 4) ?_)); rotate_left) | ((with_reducible refine at_ (bz 12 7) ?_); refine three_ (i := 3) (j := 8) (k := 9) (Ni := some 9) (Nj := some 3) (Nk := some 4) (bz 12 15) (bz 12 263) (bz 12 519) rfl rfl rfl rfl rfl rfl (by kernel_rfl) (by decide) (by decide) (by decide) (fun K hK => ?_) (fun K hK => ?_) (fun K hK => ?_); (focus (refine gs_ Tryz.func113 ?_; refine env_call E (den_calls E.getW E.getW) ?_; clear E; rintro e wc E ⟨br, Ar, nr, cr, rfl, hw_⟩; replace E := E.wh hw_; clear hw_; refine ⟨_, rfl, ?_⟩; refine hK.out _ _ E.cls (fun hH => ?_); clear hK K; refine nm_ (some 9) ?_)); rotate_left; (focus (refine value_env E (by rfl) rfl ?_; clear E; apply Exists.intro; apply Exists.intro; refine ⟨?_, ?_, fun gb wb E => ?_⟩; (· (first | rfl | (go_simp; done) | (go_simp; rfl))); (· rfl); refine hK.out _ _ (E.clsD 1) (fun hH => ?_); clear hK K; refine nm_ (some 3) ?_)); rotate_left; (focus (refine value_env E (by rfl) rfl ?_; clear E; apply Exists.intro; apply Exists.intro; refine ⟨?_, ?_, fun gb wb E => ?_⟩; (· (first | rfl | (go_simp; done) | (go_simp; rfl))); (· rfl); refine hK.out _ _ (E.clsD 1) (fun hH => ?_); clear hK K; refine nm_ (some 4) ?_)); rotate_left) | ((with_reducible refine at_ (bz 12 261) ?_); refine two_ (i := 1) (j := 9) (Ni := some 7) (Nj := some 4) (bz 12 263) (bz 12 773) rfl rfl rfl rfl (by kernel_rfl) (by decide) (by decide) (fun K hK => ?_) (fun K hK => ?_); (focus (refine gs_ Tryz.func119 ?_; refine env_call E (num_calls E.getW E.getW) ?_; clear E; rintro e wc E ⟨br, Ar, nr, cr, rfl, hw_⟩; replace E := E.wh hw_; clear hw_; refine ⟨_, rfl, ?_⟩; refine hK.out _ _ (E.clsD 1) (fun hH => ?_); clear hK K; refine nm_ (some 7) ?_)); rotate_left; (focus (refine value_env E (by rfl) rfl ?_; clear E; apply Exists.intro; apply Exists.intro; refine ⟨?_, ?_, fun gb wb E => ?_⟩; (· (first | rfl | (go_simp; done) | (go_simp; rfl))); (· rfl); refine hK.out _ _ (E.clsD 2) (fun hH => ?_); clear hK K; refine nm_ (some 4) ?_)); rotate_left) | ((with_reducible refine at_ (bz 12 517) ?_); refine two_ (i := 1) (j := 8) (Ni := some 7) (Nj := some 3) (bz 12 519) (bz 12 773) rfl rfl rfl rfl (by kernel_rfl) (by decide) (by decide) (fun K hK => ?_) (fun K hK => ?_); (focus (refine gs_ Tryz.func119 ?_; refine env_call E (num_calls E.getW E.getW) ?_; clear E; rintro e wc E ⟨br, Ar, nr, cr, rfl, hw_⟩; replace E := E.wh hw_; clear hw_; refine ⟨_, rfl, ?_⟩; refine hK.out _ _ (E.clsD 1) (fun hH => ?_); clear hK K; refine nm_ (some 7) ?_)); rotate_left; (focus (refine value_env E (by rfl) rfl ?_; clear E; apply Exists.intro; apply Exists.intro; refine ⟨?_, ?_, fun gb wb E => ?_⟩; (· (first | rfl | (go_simp; done) | (go_simp; rfl))); (· rfl); refine hK.out _ _ (E.clsD 2) (fun hH => ?_); clear hK K; refine nm_ (some 3) ?_)); rotate_left) | ((with_reducible refine at_ (bz 12 15) ?_); refine three_ (i := 4) (j := 8) (k := 9) (Ni := some 10) (Nj := some 3) (Nk := some 4) (bz 12 31) (bz 12 271) (bz 12 527) rfl rfl rfl rfl rfl rfl (by kernel_rfl) (by decide) (by decide) (by decide) (fun K hK => ?_) (fun K hK => ?_) (fun K hK => ?_); (focus (refine gs_ Tryz.func120 ?_; refine env_call E (divmod_calls E.getW E.getW (dn_ne _) L1.out L2.out) ?_; clear E; rintro e wc E ⟨br, Ar, nr, cr, br2, Ar2, nr2, cr2, rfl, hw_, hw2_⟩; replace E := (E.wh hw_).wh hw2_; clear hw_ hw2_; refine ⟨_, rfl, ?_⟩; refine hK.out _ _ E.cls (fun hH => ?_); clear hK K; refine nm_ (some 10) ?_)); rotate_left; (focus (refine value_env E (by rfl) rfl ?_; clear E; apply Exists.intro; apply Exists.intro; refine ⟨?_, ?_, fun gb wb E => ?_⟩; (· (first | rfl | (go_simp; done) | (go_simp; rfl))); (· rfl); refine hK.out _ _ (E.clsD 1) (fun hH => ?_); clear hK K; refine nm_ (some 3) ?_)); rotate_left; (focus (refine value_env E (by rfl) rfl ?_; clear E; apply Exists.intro; apply Exists.intro; refine ⟨?_, ?_, fun gb wb E => ?_⟩; (· (first | rfl | (go_simp; done) | (go_simp; rfl))); (· rfl); refine hK.out _ _ (E.clsD 1) (fun hH => ?_); clear hK K; refine nm_ (some 4) ?_)); rotate_left) | ((with_reducible refine at_ (bz 12 263) ?_); refine two_ (i := 3) (j := 9) (Ni := some 9) (Nj := some 4) (bz 12 271) (bz 12 775) rfl rfl rfl rfl (by kernel_rfl) (by decide) (by decide) (fun K hK => ?_) (fun K hK => ?_); (focus (refine gs_ Tryz.func113 ?_; refine env_call E (den_calls E.getW E.getW) ?_; clear E; rintro e wc E ⟨br, Ar, nr, cr, rfl, hw_⟩; replace E := E.wh hw_; clear hw_; refine ⟨_, rfl, ?_⟩; refine hK.out _ _ (E.clsD 1) (fun hH => ?_); clear hK K; refine nm_ (some 9) ?_)); rotate_left; (focus (refine value_env E (by rfl) rfl ?_; clear E; apply Exists.intro; apply Exists.intro; refine ⟨?_, ?_, fun gb wb E => ?_⟩; (· (first | rfl | (go_simp; done) | (go_simp; rfl))); (· rfl); refine hK.out _ _ (E.clsD 2) (fun hH => ?_); clear hK K; refine nm_ (some 4) ?_)); rotate_left) | ((with_reducible refine at_ (bz 12 519) ?_); refine two_ (i := 3) (j := 8) (Ni := some 9) (Nj := some 3) (bz 12 527) (bz 12 775) rfl rfl rfl rfl (by kernel_rfl) (by decide) (by decide) (fun K hK => ?_) (fun K hK => ?_); (focus (refine gs_ Tryz.func113 ?_; refine env_call E (den_calls E.getW E.getW) ?_; clear E; rintro e wc E ⟨br, Ar, nr, cr, rfl, hw_⟩; replace E := E.wh hw_; clear hw_; refine ⟨_, rfl, ?_⟩; refine hK.out _ _ (E.clsD 1) (fun hH => ?_); clear hK K; refine nm_ (some 9) ?_)); rotate_left; (focus (refine value_env E (by rfl) rfl ?_; clear E; apply Exists.intro; apply Exists.intro; refine ⟨?_, ?_, fun gb wb E => ?_⟩; (· (first | rfl | (go_simp; done) | (go_simp; rfl))); (· rfl); refine hK.out _ _ (E.clsD 2) (fun hH => ?_); clear hK K; refine nm_ (some 3) ?_)); rotate_left) | ((with_reducible refine at_ (bz 12 773) ?_); refine on_ 1 (some 7) (bz 12 775) (fun K hK => ?_); refine gs_ Tryz.func119 ?_; refine env_call E (num_calls E.getW E.getW) ?_; clear E; rintro e wc E ⟨br, Ar, nr, cr, rfl, hw_⟩; replace E := E.wh hw_; clear hw_; refine ⟨_, rfl, ?_⟩; refine hK.out _ _ (E.clsD 2) (fun hH => ?_); clear hK K; refine nm_ (some 7) ?_) | ((with_reducible refine at_ (bz 12 31) ?_); refine pu_ 5 (some 5) (bz 12 63) ?_) | ((with_reducible refine at_ (bz 12 271) ?_); refine two_ (i := 4) (j := 9) (Ni := some 10) (Nj := some 4) (bz 12 287) (bz 12 783) rfl rfl rfl rfl (by kernel_rfl) (by decide) (by decide) (fun K hK => ?_) (fun K hK => ?_); (focus (refine gs_ Tryz.func120 ?_; refine env_call E (divmod_calls E.getW E.getW (dn_ne _) L1.out L2.out) ?_; clear E; rintro e wc E ⟨br, Ar, nr, cr, br2, Ar2, nr2, cr2, rfl, hw_, hw2_⟩; replace E := (E.wh hw_).wh hw2_; clear hw_ hw2_; refine ⟨_, rfl, ?_⟩; refine hK.out _ _ (E.clsD 1) (fun hH => ?_); clear hK K; refine nm_ (some 10) ?_)); rotate_left; (focus (refine value_env E (by rfl) rfl ?_; clear E; apply Exists.intro; apply Exists.intro; refine ⟨?_, ?_, fun gb wb E => ?_⟩; (· (first | rfl | (go_simp; done) | (go_simp; rfl))); (· rfl); refine hK.out _ _ (E.clsD 2) (fun hH => ?_); clear hK K; refine nm_ (some 4) ?_)); rotate_left) | ((with_reducible refine at_ (bz 12 527) ?_); refine two_ (i := 4) (j := 8) (Ni := some 10) (Nj := some 3) (bz 12 543) (bz 12 783) rfl rfl rfl rfl (by kernel_rfl) (by decide) (by decide) (fun K hK => ?_) (fun K hK => ?_); (focus (refine gs_ Tryz.func120 ?_; refine env_call E (divmod_calls E.getW E.getW (dn_ne _) L1.out L2.out) ?_; clear E; rintro e wc E ⟨br, Ar, nr, cr, br2, Ar2, nr2, cr2, rfl, hw_, hw2_⟩; replace E := (E.wh hw_).wh hw2_; clear hw_ hw2_; refine ⟨_, rfl, ?_⟩; refine hK.out _ _ (E.clsD 1) (fun hH => ?_); clear hK K; refine nm_ (some 10) ?_)); rotate_left; (focus (refine value_env E (by rfl) rfl ?_; clear E; apply Exists.intro; apply Exists.intro; refine ⟨?_, ?_, fun gb wb E => ?_⟩; (· (first | rfl | (go_simp; done) | (go_simp; rfl))); (· rfl); refine hK.out _ _ (E.clsD 2) (fun hH => ?_); clear hK K; refine nm_ (some 3) ?_)); rotate_left) | ((with_reducible refine at_ (bz 12 775) ?_); refine on_ 3 (some 9) (bz 12 783) (fun K hK => ?_); refine gs_ Tryz.func113 ?_; refine env_call E (den_calls E.getW E.getW) ?_; clear E; rintro e wc E ⟨br, Ar, nr, cr, rfl, hw_⟩; replace E := E.wh hw_; clear hw_; refine ⟨_, rfl, ?_⟩; refine hK.out _ _ (E.clsD 2) (fun hH => ?_); clear hK K; refine nm_ (some 9) ?_) | ((with_reducible refine at_ (bz 12 63) ?_); refine pu_ 6 (some 11) (bz 12 127) ?_) | ((with_reducible refine at_ (bz 12 287) ?_); refine pu_ 5 (some 5) (bz 12 319) ?_) | ((with_reducible refine at_ (bz 12 783) ?_); refine on_ 4 (some 10) (bz 12 799) (fun K hK => ?_); refine gs_ Tryz.func120 ?_; refine env_call E (divmod_calls E.getW E.getW (dn_ne _) L1.out L2.out) ?_; clear E; rintro e wc E ⟨br, Ar, nr, cr, br2, Ar2, nr2, cr2, rfl, hw_, hw2_⟩; replace E := (E.wh hw_).wh hw2_; clear hw_ hw2_; refine ⟨_, rfl, ?_⟩; refine hK.out _ _ (E.clsD 2) (fun hH => ?_); clear hK K; refine nm_ (some 10) ?_) | ((with_reducible refine at_ (bz 12 543) ?_); refine pu_ 5 (some 5) (bz 12 575) ?_) | ((with_reducible refine at_ (bz 12 127) ?_); refine pu_ 7 (some 12) (bz 12 255) ?_) | ((with_reducible refine at_ (bz 12 319) ?_); refine pu_ 6 (some 11) (bz 12 383) ?_) | ((with_reducible refine at_ (bz 12 799) ?_); refine pu_ 5 (some 5) (bz 12 831) ?_) | ((with_reducible refine at_ (bz 12 575) ?_); refine pu_ 6 (some 11) (bz 12 639) ?_) | ((with_reducible refine at_ (bz 12 255) ?_); refine two_ (i := 8) (j := 9) (Ni := some 3) (Nj := some 4) (bz 12 511) (bz 12 767) rfl rfl rfl rfl (by kernel_rfl) (by decide) (by decide) (fun K hK => ?_) (fun K hK => ?_); (focus (refine value_env E (by rfl) rfl ?_; clear E; apply Exists.intro; apply Exists.intro; refine ⟨?_, ?_, fun gb wb E => ?_⟩; (· (first | rfl | (go_simp; done) | (go_simp; rfl))); (· rfl); refine hK.out _ _ (E.clsD 1) (fun hH => ?_); clear hK K; refine nm_ (some 3) ?_)); rotate_left; (focus (refine value_env E (by rfl) rfl ?_; clear E; apply Exists.intro; apply Exists.intro; refine ⟨?_, ?_, fun gb wb E => ?_⟩; (· (first | rfl | (go_simp; done) | (go_simp; rfl))); (· rfl); refine hK.out _ _ (E.clsD 1) (fun hH => ?_); clear hK K; refine nm_ (some 4) ?_)); rotate_left) | ((with_reducible refine at_ (bz 12 383) ?_); refine pu_ 7 (some 12) (bz 12 511) ?_) | ((with_reducible refine at_ (bz 12 831) ?_); refine pu_ 6 (some 11) (bz 12 895) ?_) | ((with_reducible refine at_ (bz 12 639) ?_); refine pu_ 7 (some 12) (bz 12 767) ?_) | ((with_reducible refine at_ (bz 12 511) ?_); refine on_ 9 (some 4) (bz 12 1023) (fun K hK => ?_); refine value_env E (by rfl) rfl ?_; clear E; apply Exists.intro; apply Exists.intro; refine ⟨?_, ?_, fun gb wb E => ?_⟩; (· (first | rfl | (go_simp; done) | (go_simp; rfl))); (· rfl); refine hK.out _ _ (E.clsD 2) (fun hH => ?_); clear hK K; refine nm_ (some 4) ?_) | ((with_reducible refine at_ (bz 12 767) ?_); refine on_ 8 (some 3) (bz 12 1023) (fun K hK => ?_); refine value_env E (by rfl) rfl ?_; clear E; apply Exists.intro; apply Exists.intro; refine ⟨?_, ?_, fun gb wb E => ?_⟩; (· (first | rfl | (go_simp; done) | (go_simp; rfl))); (· rfl); refine hK.out _ _ (E.clsD 2) (fun hH => ?_); clear hK K; refine nm_ (some 3) ?_) | ((with_reducible refine at_ (bz 12 895) ?_); refine pu_ 7 (some 12) (bz 12 1023) ?_) | ((with_reducible refine at_ (bz 12 1023) ?_); refine la_ 10 (none) (bz 12 2047) (fun K hK => ?_); have q := E.cls; (repeat obtain ⟨_, _, q⟩ := q); clear q; refine sk_ (fun ws hs_ => ?_); replace E := Env.pt2 hs_ E; clear hs_; refine hK.out _ _ ?_; clear hK K; have q := E.cls; (repeat obtain ⟨_, _, q⟩ := q); clear q) | ((with_reducible refine at_ (bz 12 2047) ?_); refine la_ 11 (none) (bz 12 4095) (fun K hK => ?_); have q := E.cls; (repeat obtain ⟨_, _, q⟩ := q); clear q; refine sk_ (fun ws hs_ => ?_); replace E := Env.pt2 hs_ E; clear hs_; refine hK.out _ _ ?_; clear hK K; have q := E.cls; (repeat obtain ⟨_, _, q⟩ := q); clear q) | ((with_reducible refine at_ (bz 12 4095) ?_); refine done_ (by kernel_rfl) ?_)))); all_goals (have q := E.cls; (repeat obtain ⟨_, _, q⟩ := q); clear q))
 all_goals (try go_wp2_with (first | ((with_reducible refine gate_stored (t := 77) (by rfl) ?_); refine st_ (fun ws hs_ => ?_); replace E := Env.pt2 hs_ E; clear hs_; have q := E.cls; (repeat obtain ⟨_, _, q⟩ := q); clear q)))
 all_goals
  refine bodyPost_ret (results_single rfl (.cell _ _ _ (0, 0) _ rfl E.blk Tryz.underlying77 rfl (by kernel_rfl) .nil)) rfl ?_
  exact ⟨E.below, RW.mk E.getW⟩
theorem frac_calls {m p : Int} (h0 : -9223372036854775808 ≤ m) (h1 : m ≤ 9223372036854775807) (h2 : -9223372036854775808 ≤ p) (h3 : p ≤ 9223372036854775807) (hp : p ≠ 0) :
  Calls Tryz.prog 116 #[.int .i64 m, .int .i64 p] W fun e w' => Below W.heap.size W w' ∧ RR (Rat.divInt m p) e w' := by
 have E := Env.start W
 have hm := ln_i64 h0 h1
 have hp' := ln_i64 h2 h3
 have H0 := Aside0.mk h0
 have H1 := Aside0.mk h1
 have H2 := Aside0.mk h2
 have H3 := Aside0.mk h3
 have HP := Aside0.mk hp
 have HM := Aside0.mk hm
 have HQ := Aside0.mk hp'
 clear h0 h1 h2 h3 hp hm hp'
 go_enter Tryz.func116, Tryz.ntmps116
 go_wp2_with (first | ((with_reducible first | refine gate_box (by rfl) ?_ | refine gate_alloc (by rfl) ?_); refine bx_ E ?_; clear E; intro gb wb E; have q := E.cls; (repeat obtain ⟨_, _, q⟩ := q); clear q) | ((with_reducible refine gate_stored (t := 77) (by rfl) ?_); refine st_ (fun ws hs_ => ?_); replace E := Env.pt2 hs_ E; clear hs_; have q := E.cls; (repeat obtain ⟨_, _, q⟩ := q); clear q) | ((with_reducible refine gate_stored (t := 84) (by rfl) ?_); refine st_ (fun ws hs_ => ?_); replace E := Env.pt4 hs_ E; clear hs_; have q := E.cls; (repeat obtain ⟨_, _, q⟩ := q); clear q) | (go_at_call 121; refine env_call E (of_calls H0.out H1.out) ?_; clear E; rintro e wc E ⟨br, Ar, nr, cr, rfl, hw_⟩; replace E := E.wh hw_; clear hw_; have q := E.cls; (repeat obtain ⟨_, _, q⟩ := q); clear q) | (go_at_call 121; refine env_call E (of_calls H2.out H3.out) ?_; clear E; rintro e wc E ⟨br, Ar, nr, cr, rfl, hw_⟩; replace E := E.wh hw_; clear hw_; have q := E.cls; (repeat obtain ⟨_, _, q⟩ := q); clear q) | (go_at_call 88; refine env_call E (over_calls E.getW E.getW HP.out (HM.out.fits (by decide)) (HQ.out.fits (by decide))) ?_; clear E; rintro e wc E ⟨br, Ar, nr, cr, br2, Ar2, nr2, cr2, rfl, hw_, hw2_⟩; replace E := (E.wh hw_).wh hw2_; clear hw_ hw2_; have q := E.cls; (repeat obtain ⟨_, _, q⟩ := q); clear q))
 refine bodyPost_ret (results_single rfl (.cell _ _ _ (0, 0) _ rfl E.blk Tryz.underlying84 rfl (by kernel_rfl) .nil)) rfl ?_
 exact ⟨E.below, RQ.mk E.getW E.getW⟩
theorem rtext_calls {q : Rat} (h1 : Wh W b1 (.slice A1 x1 c1) n) (h2 : Wh W b2 (.slice A2 x2 c2) d) (hn : n = q.num) (hd : dn d = q.den) (l1 : Ln n 1000000000000) (l2 : Ln (dn d) 1000000000000) :
  Calls Tryz.prog 96 #[.agg #[.bool b1, .slice A1 x1 c1, .bool b2, .slice A2 x2 c2]] W fun e w' => Below W.heap.size W w' ∧ e = .returned (.string (RT q)) := by
 have E := ((Env.start W).wh h1).wh h2
 have L1 := Aside0.mk l1
 have L2 := Aside0.mk l2
 have HD := Aside0.mk hd
 have HN := Aside0.mk hn
 clear h1 h2 l1 l2 hn hd
 go_enter Tryz.func96, Tryz.ntmps96
 by_cases c : dn d = 1
 ·have hc : (sgnI (dn d - 1) != 0) = false := by rw [c]; rfl
  have hc2 : sgnI (dn d - 1) = 0 := by rw [c]; rfl
  have HC := Aside0.mk c
  clear c
  go_wp2_with (first | ((with_reducible first | refine gate_box (by rfl) ?_ | refine gate_alloc (by rfl) ?_); refine bx_ E ?_; clear E; intro gb wb E; have q := E.cls; (repeat obtain ⟨_, _, q⟩ := q); clear q) | ((with_reducible refine gate_stored (t := 77) (by rfl) ?_); refine st_ (fun ws hs_ => ?_); replace E := Env.pt2 hs_ E; clear hs_; have q := E.cls; (repeat obtain ⟨_, _, q⟩ := q); clear q) | ((with_reducible refine gate_stored (t := 84) (by rfl) ?_); refine st_ (fun ws hs_ => ?_); replace E := Env.pt4 hs_ E; clear hs_; have q := E.cls; (repeat obtain ⟨_, _, q⟩ := q); clear q) | (go_at_call 113; refine env_call E (den_calls E.getW E.getW) ?_; clear E; rintro e wc E ⟨br, Ar, nr, cr, rfl, hw_⟩; replace E := E.wh hw_; clear hw_; have q := E.cls; (repeat obtain ⟨_, _, q⟩ := q); clear q) | (go_at_call 114; refine env_call E (text_calls E.getW L1.out) ?_; clear E; rintro e wc E rfl; have q := E.cls; (repeat obtain ⟨_, _, q⟩ := q); clear q) | (refine start_ (id := 2) (n := 4) (S := fun w' => Cls w' _) (ds := []) (bz 4 0) (by kernel_rfl) rfl rfl E.draw.cls (fun hH => ?_); replace E := E.draw; refine ta_ 0 (some 6) (bz 4 1) hH ?_; refine on_ 1 (some 7) (bz 4 3) (fun K hK => ?_); refine gs_ Tryz.func121 ?_; refine env_call E (of_calls (n := 1) (by decide) (by decide)) ?_; clear E; rintro e wc E ⟨br, Ar, nr, cr, rfl, hw_⟩; replace E := E.wh hw_; clear hw_; refine ⟨_, rfl, ?_⟩; refine hK.out _ _ E.cls (fun hH => ?_); clear hK K; refine nm_ (some 7) ?_; refine on_ 2 (some 8) (bz 4 7) (fun K hK => ?_); refine gs_ Tryz.func141 ?_; refine env_call E (cmp_calls E.getW E.getW) ?_; clear E; rintro e wc E rfl; refine ⟨_, rfl, ?_⟩; refine hK.out _ _ E.cls (fun hH => ?_); clear hK K; refine nm_ (some 8) ?_; refine pu_ 3 (some 9) (bz 4 15) ?_; refine done_ (by kernel_rfl) ?_; all_goals (have q := E.cls; (repeat obtain ⟨_, _, q⟩ := q); clear q)))
  go_ret
  refine ⟨E.below, ?_⟩
  unfold RT rtx
  rw [if_pos (by have := HD.out; have := HC.out; omega), ← HN.out]
  rfl
 ·have hc2 : (sgnI (dn d - 1) = 0) = False := eq_false (by rw [sgnI_zero]; omega)
  have hc : (sgnI (dn d - 1) != 0) = true := by simp [hc2]
  have HC := Aside0.mk c
  clear c
  go_wp2_with (first | ((with_reducible first | refine gate_box (by rfl) ?_ | refine gate_alloc (by rfl) ?_); refine bx_ E ?_; clear E; intro gb wb E; have q := E.cls; (repeat obtain ⟨_, _, q⟩ := q); clear q) | ((with_reducible refine gate_stored (t := 77) (by rfl) ?_); refine st_ (fun ws hs_ => ?_); replace E := Env.pt2 hs_ E; clear hs_; have q := E.cls; (repeat obtain ⟨_, _, q⟩ := q); clear q) | ((with_reducible refine gate_stored (t := 84) (by rfl) ?_); refine st_ (fun ws hs_ => ?_); replace E := Env.pt4 hs_ E; clear hs_; have q := E.cls; (repeat obtain ⟨_, _, q⟩ := q); clear q) | (go_at_call 113; refine env_call E (den_calls E.getW E.getW) ?_; clear E; rintro e wc E ⟨br, Ar, nr, cr, rfl, hw_⟩; replace E := E.wh hw_; clear hw_; have q := E.cls; (repeat obtain ⟨_, _, q⟩ := q); clear q) | (refine start_ (id := 2) (n := 4) (S := fun w' => Cls w' _) (ds := []) (bz 4 0) (by kernel_rfl) rfl rfl E.draw.cls (fun hH => ?_); replace E := E.draw; refine ta_ 0 (some 6) (bz 4 1) hH ?_; refine on_ 1 (some 7) (bz 4 3) (fun K hK => ?_); refine gs_ Tryz.func121 ?_; refine env_call E (of_calls (n := 1) (by decide) (by decide)) ?_; clear E; rintro e wc E ⟨br, Ar, nr, cr, rfl, hw_⟩; replace E := E.wh hw_; clear hw_; refine ⟨_, rfl, ?_⟩; refine hK.out _ _ E.cls (fun hH => ?_); clear hK K; refine nm_ (some 7) ?_; refine on_ 2 (some 8) (bz 4 7) (fun K hK => ?_); refine gs_ Tryz.func141 ?_; refine env_call E (cmp_calls E.getW E.getW) ?_; clear E; rintro e wc E rfl; refine ⟨_, rfl, ?_⟩; refine hK.out _ _ E.cls (fun hH => ?_); clear hK K; refine nm_ (some 8) ?_; refine pu_ 3 (some 9) (bz 4 15) ?_; refine done_ (by kernel_rfl) ?_; all_goals (have q := E.cls; (repeat obtain ⟨_, _, q⟩ := q); clear q)) | (refine start_ (id := 3) (n := 8) (S := fun w' => Cls w' _) (ds := []) (bz 8 0) (by kernel_rfl) rfl rfl E.draw.cls (fun hH => ?_); replace E := E.draw; refine pu_ 0 (some 10) (bz 8 1) ?_; refine ta_ 1 (some 11) (bz 8 3) hH ?_; refine ta_ 4 (some 14) (bz 8 19) hH ?_; refine on_ 2 (some 12) (bz 8 23) (fun K hK => ?_); refine gs_ Tryz.func114 ?_; refine env_call E (text_calls E.getW (by first | exact L1.out | exact L2.out)) ?_; clear E; rintro e wc E rfl; refine ⟨_, rfl, ?_⟩; refine hK.out _ _ E.cls (fun hH => ?_); clear hK K; refine nm_ (some 12) ?_; refine pu_ 3 (some 13) (bz 8 31) ?_; refine on_ 5 (some 15) (bz 8 63) (fun K hK => ?_); refine gs_ Tryz.func114 ?_; refine env_call E (text_calls E.getW (by first | exact L1.out | exact L2.out)) ?_; clear E; rintro e wc E rfl; refine ⟨_, rfl, ?_⟩; refine hK.out _ _ E.cls (fun hH => ?_); clear hK K; refine nm_ (some 15) ?_; refine pu_ 6 (some 16) (bz 8 127) ?_; refine pu_ 7 (some 2) (bz 8 255) ?_; refine done_ (by kernel_rfl) ?_; all_goals (have q := E.cls; (repeat obtain ⟨_, _, q⟩ := q); clear q)))
  have ht1 : (9223372036854775807 < (TX n).size + 1) = False := eq_false (by have := tx_len L1.out; omega)
  have ht2 : (9223372036854775807 < (TX n).size + 1 + (TX (dn d)).size) = False := eq_false (by have h1 := tx_len L1.out; have h2 := tx_len L2.out; omega)
  (refine start_ (id := 3) (n := 8) (S := fun w' => Cls w' _) (ds := []) (bz 8 0) (by kernel_rfl) rfl rfl E.draw.cls (fun hH => ?_); replace E := E.draw; refine pu_ 0 (some 10) (bz 8 1) ?_; refine ta_ 1 (some 11) (bz 8 3) hH ?_; refine ta_ 4 (some 14) (bz 8 19) hH ?_; refine on_ 2 (some 12) (bz 8 23) (fun K hK => ?_); refine gs_ Tryz.func114 ?_; refine env_call E (text_calls E.getW (by first | exact L1.out | exact L2.out)) ?_; clear E; rintro e wc E rfl; refine ⟨_, rfl, ?_⟩; refine hK.out _ _ E.cls (fun hH => ?_); clear hK K; refine nm_ (some 12) ?_; refine pu_ 3 (some 13) (bz 8 31) ?_; refine on_ 5 (some 15) (bz 8 63) (fun K hK => ?_); refine gs_ Tryz.func114 ?_; refine env_call E (text_calls E.getW (by first | exact L1.out | exact L2.out)) ?_; clear E; rintro e wc E rfl; refine ⟨_, rfl, ?_⟩; refine hK.out _ _ E.cls (fun hH => ?_); clear hK K; refine nm_ (some 15) ?_; refine pu_ 6 (some 16) (bz 8 127) ?_; refine pu_ 7 (some 2) (bz 8 255) ?_; refine done_ (by kernel_rfl) ?_; all_goals (have q := E.cls; (repeat obtain ⟨_, _, q⟩ := q); clear q))
  go_wp2
  go_ret
  refine ⟨E.below, ?_⟩
  rw [← B_join, HN.out, HD.out]
  unfold RT rtx
  rw [if_neg (by have := HD.out; have := HC.out; omega)]
  rfl
def ecmp (i j : Bool) (s : Int) : Int := if (i && j) = true then 0 else if i = true then 1 else if j = true then -1 else sgnI s
theorem ecmp_calls {i1 i2 : Bool} (h1 : Wh W b1 (.slice A1 x1 c1) n) (h2 : Wh W b2 (.slice A2 x2 c2) d) (h3 : Wh W b3 (.slice A3 x3 c3) n') (h4 : Wh W b4 (.slice A4 x4 c4) d') (l1 : Ln n k) (l2 : Ln d k) (l3 : Ln n' k) (l4 : Ln d' k) (hk : 1 ≤ k) (hk' : k ≤ 1000000000000) :
  Calls Tryz.prog 111 #[.agg #[.bool b1, .slice A1 x1 c1, .bool b2, .slice A2 x2 c2, .bool i1], .agg #[.bool b3, .slice A3 x3 c3, .bool b4, .slice A4 x4 c4, .bool i2]] W fun e w' => Below W.heap.size W w' ∧ (fun e w' => e = .returned (.int .i64 (ecmp i1 i2 (n * dn d' - n' * dn d)))) e w' := by
 have E := ((((Env.start W).wh h1).wh h2).wh h3).wh h4
 have L1 := Aside0.mk l1
 have L2 := Aside0.mk l2
 have L3 := Aside0.mk l3
 have L4 := Aside0.mk l4
 have HK := Aside0.mk hk'
 have HK0 := Aside0.mk hk
 clear h1 h2 h3 h4 l1 l2 l3 l4 hk hk'
 go_enter Tryz.func111, Tryz.ntmps111
 cases i1 <;> cases i2
 all_goals
  go_wp2_with (first | ((with_reducible first | refine gate_box (by rfl) ?_ | refine gate_alloc (by rfl) ?_); refine bx_ E ?_; clear E; intro gb wb E; have q := E.cls; (repeat obtain ⟨_, _, q⟩ := q); clear q) | (go_at_call 167; refine env_call E (rcmp_calls E.getW E.getW E.getW E.getW L1.out L2.out L3.out L4.out HK0.out HK.out) ?_; clear E; rintro e wc E rfl; have q := E.cls; (repeat obtain ⟨_, _, q⟩ := q); clear q))
  go_ret
  exact ⟨E.below, rfl⟩
end
set_option maxHeartbeats 2000000
def tv (l : List Int) : Int := Ten.val (sub l).reverse
theorem tv_nil : tv [] = 0 := rfl
theorem tv_append (a b : List Int) : tv (a ++ b) = tv b + 10 ^ b.length * tv a := by
 unfold tv
 rw [sub_append, List.reverse_append, Ten.val_append, List.length_reverse, sub_length]
theorem tv_snoc (a : List Int) (c : Int) : tv (a ++ [c]) = 10 * tv a + (c - 48) := by
 rw [tv_append]
 have : tv [c] = c - 48 := by simp [tv, sub, Ten.val]
 rw [this, List.length_singleton]
 omega
theorem tv_lim {l : List Int} (h : l.all isd = true) : 0 ≤ tv l ∧ tv l < 10 ^ l.length := by
 have hl : Ten.Lim (sub l).reverse := (isd_lim h).reverse
 have h1 := Ten.val_nonneg _ hl
 have h2 := Ten.val_lt _ hl
 rw [List.length_reverse, sub_length] at h2
 exact ⟨h1, h2⟩
theorem all_take {l : List Int} (h : l.all isd = true) (n : Nat) : (l.take n).all isd = true := List.all_eq_true.2 fun x hx => List.all_eq_true.1 h x (List.take_subset _ _ hx)
def RdIn (ck : List Int) (j x : Int) (kq : Nat) : Prop := (0 ≤ j ∧ j ≤ (ck.length : Int)) ∧ ck.length ≤ 9 ∧ (kq : Int) = ck.length + 1 - j ∧ (ck.take j.toNat).all isd = true ∧ x = tv (ck.take j.toNat)
theorem RdIn.start {ck : List Int} (h : ck.length ≤ 9) : RdIn ck 0 0 (ck.length + 1) := ⟨⟨by omega, by omega⟩, h, by omega, rfl, rfl⟩
theorem RdIn.lt {ck : List Int} {j x : Int} {kq : Nat} (h : RdIn ck j x kq) : 0 ≤ x ∧ x < 1000000000 := by
 obtain ⟨h1, h2, h3, h4, h5⟩ := h
 have := tv_lim h4
 have h6 : (10 : Int) ^ (ck.take j.toNat).length ≤ 10 ^ 9 := Ten.pow_mono (by rw [List.length_take]; omega)
 have h7 : (10 : Int) ^ 9 = 1000000000 := by decide
 rw [h7] at h6
 rw [h5]
 exact ⟨this.1, Int.lt_of_lt_of_le this.2 h6⟩
theorem RdIn.next {ck : List Int} {j x : Int} {kq : Nat} (h : RdIn ck j x kq) (hj : j < (ck.length : Int)) (hc : isd (rd ck j) = true) :
  ((ck.length : Int) - j).toNat < kq ∧ RdIn ck (wrap64 (j + 1)) (10 * x + (rd ck j - 48)) ((ck.length : Int) - j).toNat := by
 obtain ⟨h1, h2, h3, h4, h5⟩ := h
 obtain ⟨m, rfl⟩ := Int.eq_ofNat_of_zero_le h1.1
 have e : wrap64 ((m : Int) + 1) = ((m + 1 : Nat) : Int) := by rw [wrap_id (by omega) (by omega)]; omega
 rw [e]
 have hs : ck.take (m + 1) = ck.take m ++ [rd ck (m : Int)] := take_snoc ck m (by omega)
 refine ⟨by omega, ⟨by omega, by omega⟩, h2, by omega, ?_, ?_⟩
 ·simp only [Int.toNat_natCast] at h4 ⊢
  rw [hs, List.all_append, h4]
  simp [hc]
 ·simp only [Int.toNat_natCast] at h5 ⊢
  rw [hs, tv_snoc, ← h5]
theorem RdIn.fin {ck : List Int} {j x : Int} {kq : Nat} (h : RdIn ck j x kq) (hj : ¬ j < (ck.length : Int)) : ck.all isd = true ∧ x = tv ck := by
 obtain ⟨h1, h2, h3, h4, h5⟩ := h
 have e : j.toNat = ck.length := by omega
 rw [e, List.take_length] at h4 h5
 exact ⟨h4, h5⟩
def RdOut (l d : List Int) (e : Int) (kq : Nat) : Prop := (e ≤ (l.length : Int) ∧ -9 < e) ∧ kq = e.toNat ∧ 9 * (d.length : Int) = l.length - e ∧ (l.drop e.toNat).all isd = true ∧ Lim d ∧ val d = tv (l.drop e.toNat)
theorem RdOut.start (l : List Int) : RdOut l [] l.length l.length := by
 refine ⟨⟨by omega, by omega⟩, by omega, by simp, ?_, Lim.nil, ?_⟩
 ·simp
 ·simp [val, tv_nil]
def rpart (l : List Int) (e : Int) : List Int := (l.take e.toNat).drop (max 0 (e - 9)).toNat
theorem rpart_len {l : List Int} {e : Int} : (rpart l e).length ≤ 9 := by
 unfold rpart
 rw [List.length_drop, List.length_take]
 omega
theorem rpart_drop {l : List Int} {e : Int} (h0 : 0 < e) (h1 : e ≤ (l.length : Int)) : l.drop (e - 9).toNat = rpart l e ++ l.drop e.toNat := by
 unfold rpart
 have e1 : (max 0 (e - 9)).toNat = (e - 9).toNat := by omega
 rw [e1]
 conv => lhs; rw [← List.take_append_drop e.toNat l]
 rw [List.drop_append_of_le_length (by rw [List.length_take]; omega)]
theorem RdOut.next {l d : List Int} {e : Int} {kq : Nat} (h : RdOut l d e kq) (he : 0 < e) (hl : l.length ≤ 9000000000000000) (hp : (rpart l e).all isd = true) :
  (e - 9).toNat < kq ∧ RdOut l (d ++ [tv (rpart l e)]) (wrap64 (e - 9)) (e - 9).toNat := by
 obtain ⟨h1, h2, h3, h4, h5, h6⟩ := h
 rw [wrap_id (by omega) (by omega)]
 have hd := rpart_drop he h1.1
 have ht := tv_lim hp
 have h9 : (10 : Int) ^ (rpart l e).length ≤ 10 ^ 9 := Ten.pow_mono rpart_len
 have h10 : (10 : Int) ^ 9 = 1000000000 := by decide
 rw [h10] at h9
 have h11 := Int.lt_of_lt_of_le ht.2 h9
 refine ⟨by omega, ⟨by omega, by omega⟩, rfl, ?_, ?_, ?_, ?_⟩
 ·rw [List.length_append, List.length_singleton]
  omega
 ·rw [hd, List.all_append, hp, h4]
  rfl
 ·exact h5.append (Lim.cons ht.1 h11 Lim.nil)
 ·rw [hd, tv_append, val_append, h6, List.length_drop]
  have e2 : l.length - e.toNat = 9 * d.length := by omega
  rw [e2, ten_pow9]
  simp [val]
theorem RdOut.fin {l d : List Int} {e : Int} {kq : Nat} (h : RdOut l d e kq) (he : ¬ 0 < e) : l.all isd = true ∧ Lim d ∧ val d = tv l := by
 obtain ⟨h1, h2, h3, h4, h5, h6⟩ := h
 have e0 : e.toNat = 0 := by omega
 rw [e0, List.drop_zero] at h4 h6
 exact ⟨h4, h5, h6⟩
theorem rpart_bad {l : List Int} {e : Int} (i : Nat) (hi : i < (rpart l e).length) (h : isd (rd (rpart l e) i) = false) : l.all isd = false := by
 refine Bool.eq_false_iff.2 fun c => ?_
 have hm : rd (rpart l e) i ∈ rpart l e := by
  have : rd (rpart l e) i = (rpart l e)[i] := by simp [rd, hi]
  rw [this]
  exact List.getElem_mem _
 have := List.all_eq_true.1 c _ (List.take_subset _ _ (List.drop_subset _ _ hm))
 rw [this] at h
 cases h
theorem int?_cut (neg : Bool) (l : List Int) (h : neg = false → l.head? ≠ some 45) :
  int? ((if neg = true then [45] else []) ++ l) = if l = [] ∨ (l.head? = some 48 ∧ (1 < l.length ∨ neg = true)) then none else if l.all isd = true then some (sgnd neg (tv l)) else none := by
 have hn : nat? l = if l = [] ∨ (l.head? = some 48 ∧ 1 < l.length) then none else if l.all isd = true then some (tv l) else none := by
  cases l with
  |nil => rfl
  |cons c r =>
   rw [nat?]
   by_cases ca : (c :: r).all isd = true
   ·rw [if_pos ca, if_pos ca]
    by_cases c1 : c = 48 ∧ r ≠ []
    ·have : 1 < (c :: r).length := by
      cases r with
      |nil => exact absurd rfl c1.2
      |cons => simp
     rw [if_pos c1, if_pos (Or.inr ⟨by rw [c1.1]; rfl, this⟩)]
    ·rw [if_neg c1, if_neg]
     ·rfl
     ·rintro (h1 | ⟨h1, h2⟩)
      ·cases h1
      ·refine c1 ⟨by simpa using h1, ?_⟩
       rintro rfl
       simp at h2
   ·rw [if_neg ca, if_neg ca]
    split <;> rfl
 cases neg with
 |false =>
  rw [if_neg (by decide), List.nil_append, int?, if_neg (h rfl), hn]
  simp only [sgnd_false, Bool.false_eq_true, or_false]
 |true =>
  rw [if_pos rfl]
  show int? (45 :: l) = _
  rw [int?, if_pos (show (45 :: l).head? = some 45 from rfl), List.tail_cons]
  by_cases c : l.head? = some 48
  ·rw [if_pos c, if_pos (Or.inr ⟨c, Or.inr rfl⟩)]
  ·rw [if_neg c, hn]
   by_cases c2 : l = []
   ·rw [if_pos (Or.inl c2), if_pos (Or.inl c2)]; rfl
   ·have n1 : ¬ (l = [] ∨ l.head? = some 48 ∧ 1 < l.length) := fun h => h.elim c2 fun h => c h.1
    have n2 : ¬ (l = [] ∨ l.head? = some 48 ∧ (1 < l.length ∨ true = true)) := fun h => h.elim c2 fun h => c h.1
    rw [if_neg n1, if_neg n2]
    by_cases ca : l.all isd = true
    ·rw [if_pos ca, if_pos ca, sgnd_true]; rfl
    ·rw [if_neg ca, if_neg ca]; rfl
attribute [local go_sem] max2_int min2_int max_two min_two max_three min_three max_four min_four
set_option linter.unusedVariables false
set_option linter.unusedSimpArgs false
def stringslite_HasPrefix.f (a0 : ByteArray) (a1 : ByteArray) : Option (Bool) := if (a0.size : Int) ≥ (a1.size : Int) then (if 0 ≤ (a1.size : Int) then (if (a1.size : Int) ≤ (a0.size : Int) then (some ((a0.extract 0 ((a1.size : Int) : Int).toNat).toList == a1.toList)) else (none)) else (none)) else (some false)
set_option maxHeartbeats 8000000 in
set_option maxRecDepth 100000 in
theorem stringslite_HasPrefix.calls (a0 : ByteArray) (a1 : ByteArray) (r : Bool) (w : World) (h : stringslite_HasPrefix.f a0 a1 = some r) :
  Calls Tryz.prog 175 #[.string a0, .string a1] w fun e w' => e = .returned (.bool r) ∧ Drawn0 w w' := by
 have H : (if (a0.size : Int) ≥ (a1.size : Int) then (if 0 ≤ (a1.size : Int) then (if (a1.size : Int) ≤ (a0.size : Int) then (some ((a0.extract 0 ((a1.size : Int) : Int).toNat).toList == a1.toList)) else (none)) else (none)) else (some false)) = some r := h
 clear h
 by_cases c3 : (a0.size : Int) ≥ (a1.size : Int)
 ·rw [if_pos c3] at H
  have c3b0 : decide ((a1.size : Int) ≤ (a0.size : Int)) = true := decide_eq_true c3
  have c3b1 : decide (a1.size ≤ a0.size) = true := decide_eq_true (Int.ofNat_le.mp c3)
  clear c3
  by_cases c4 : 0 ≤ (a1.size : Int)
  ·rw [if_pos c4] at H
   have c4b0 := eq_true c4
   have c4b1 : decide (0 ≤ (a1.size : Int)) = true := decide_eq_true c4
   clear c4
   by_cases c5 : (a1.size : Int) ≤ (a0.size : Int)
   ·rw [if_pos c5] at H
    have c5b0 := eq_true c5
    have c5b1 : decide ((a1.size : Int) ≤ (a0.size : Int)) = true := decide_eq_true c5
    clear c5
    obtain rfl := Option.some.inj H
    go_enter Tryz.func175, Tryz.ntmps175
    go_wp2
    go_ret
    exact ⟨sd_, dr_⟩
   ·rw [if_neg c5] at H
    exact absurd H (by simp)
  ·rw [if_neg c4] at H
   exact absurd H (by simp)
 ·rw [if_neg c3] at H
  have c3b0 : decide ((a1.size : Int) ≤ (a0.size : Int)) = false := decide_eq_false c3
  have c3b1 : decide (a1.size ≤ a0.size) = false := decide_eq_false (fun h => c3 (Int.ofNat_le.mpr h))
  clear c3
  obtain rfl := Option.some.inj H
  go_enter Tryz.func175, Tryz.ntmps175
  go_wp2
  go_ret
  exact ⟨sd_, dr_⟩
attribute [local go_sem] max2_int min2_int max_two min_two max_three min_three max_four min_four
set_option linter.unusedVariables false
set_option linter.unusedSimpArgs false
def stringslite_CutPrefix.f (a0 : ByteArray) (a1 : ByteArray) : Option (ByteArray × Bool) := (stringslite_HasPrefix.f a0 a1).bind fun t101 => (if t101 = true then (if 0 ≤ (a1.size : Int) then (if (a1.size : Int) ≤ (a0.size : Int) then (some (a0.extract ((a1.size : Int) : Int).toNat a0.size, true)) else (none)) else (none)) else (some (a0, false)))
set_option maxHeartbeats 8000000 in
set_option maxRecDepth 100000 in
theorem stringslite_CutPrefix.calls (a0 : ByteArray) (a1 : ByteArray) (r1 : ByteArray) (r2 : Bool) (w : World) (h : stringslite_CutPrefix.f a0 a1 = some (r1, r2)) :
  Calls Tryz.prog 143 #[.string a0, .string a1] w fun e w' => e = .returned (.tuple #[.string r1, .bool r2]) ∧ Drawn0 w w' := by
 have H : ((stringslite_HasPrefix.f a0 a1).bind fun t101 => (if t101 = true then (if 0 ≤ (a1.size : Int) then (if (a1.size : Int) ≤ (a0.size : Int) then (some (a0.extract ((a1.size : Int) : Int).toNat a0.size, true)) else (none)) else (none)) else (some (a0, false)))) = some (r1, r2) := h
 clear h
 replace H := Option.bind_eq_some_iff.mp H
 obtain ⟨t101, A30, H⟩ := H
 replace H : (if t101 = true then (if 0 ≤ (a1.size : Int) then (if (a1.size : Int) ≤ (a0.size : Int) then (some (a0.extract ((a1.size : Int) : Int).toNat a0.size, true)) else (none)) else (none)) else (some (a0, false))) = some (r1, r2) := H
 have A3 := Aside0.mk A30
 clear A30
 by_cases c4 : t101 = true
 ·subst c4
  rw [if_pos rfl] at H
  by_cases c5 : 0 ≤ (a1.size : Int)
  ·rw [if_pos c5] at H
   have c5b0 := eq_true c5
   have c5b1 : decide (0 ≤ (a1.size : Int)) = true := decide_eq_true c5
   clear c5
   by_cases c6 : (a1.size : Int) ≤ (a0.size : Int)
   ·rw [if_pos c6] at H
    have c6b0 := eq_true c6
    have c6b1 : decide ((a1.size : Int) ≤ (a0.size : Int)) = true := decide_eq_true c6
    clear c6
    simp only [Option.some.injEq, Prod.mk.injEq] at H
    obtain ⟨rfl, rfl⟩ := H
    go_enter Tryz.func143, Tryz.ntmps143
    go_wp2_with (first | ((with_reducible refine gate_callee (f := 175) rfl ?_); refine goesL_ (some 8) rfl rfl Tryz.func175 (by kernel_rfl) rfl #[.string a0, .string a1] rfl ag_ ?_; (with_reducible refine (stringslite_HasPrefix.calls a0 a1 true _ A3.out).mono ?_); rintro e w' ⟨rfl, ⟨nd, rfl⟩⟩; refine ⟨_, rfl, ?_⟩))
    go_ret2
    exact ⟨sd_, dr_⟩
   ·rw [if_neg c6] at H
    exact absurd H (by simp)
  ·rw [if_neg c5] at H
   exact absurd H (by simp)
 ·replace c4 := Bool.eq_false_iff.mpr c4
  subst c4
  rw [if_neg (show ¬ (false = true) by decide)] at H
  simp only [Option.some.injEq, Prod.mk.injEq] at H
  obtain ⟨rfl, rfl⟩ := H
  go_enter Tryz.func143, Tryz.ntmps143
  go_wp2_with (first | ((with_reducible refine gate_callee (f := 175) rfl ?_); refine goesL_ (some 8) rfl rfl Tryz.func175 (by kernel_rfl) rfl #[.string a0, .string a1] rfl ag_ ?_; (with_reducible refine (stringslite_HasPrefix.calls a0 a1 false _ A3.out).mono ?_); rintro e w' ⟨rfl, ⟨nd, rfl⟩⟩; refine ⟨_, rfl, ?_⟩))
  go_ret2
  exact ⟨sd_, dr_⟩
attribute [local go_sem] max2_int min2_int max_two min_two max_three min_three max_four min_four
set_option linter.unusedVariables false
set_option linter.unusedSimpArgs false
def strings_CutPrefix.f (a0 : ByteArray) (a1 : ByteArray) : Option (ByteArray × Bool) := (stringslite_CutPrefix.f a0 a1).bind fun bt102 => (some (bt102.1, bt102.2))
set_option maxHeartbeats 8000000 in
set_option maxRecDepth 100000 in
theorem strings_CutPrefix.calls (a0 : ByteArray) (a1 : ByteArray) (r1 : ByteArray) (r2 : Bool) (w : World) (h : strings_CutPrefix.f a0 a1 = some (r1, r2)) :
  Calls Tryz.prog 79 #[.string a0, .string a1] w fun e w' => e = .returned (.tuple #[.string r1, .bool r2]) ∧ Drawn0 w w' := by
 have H : ((stringslite_CutPrefix.f a0 a1).bind fun bt102 => (some (bt102.1, bt102.2))) = some (r1, r2) := h
 clear h
 replace H := Option.bind_eq_some_iff.mp H
 obtain ⟨⟨t102, t103⟩, A30, H⟩ := H
 replace H : (some (t102, t103)) = some (r1, r2) := H
 have A3 := Aside0.mk A30
 clear A30
 simp only [Option.some.injEq, Prod.mk.injEq] at H
 obtain ⟨rfl, rfl⟩ := H
 go_enter Tryz.func79, Tryz.ntmps79
 go_wp2_with (first | ((with_reducible refine gate_callee (f := 143) rfl ?_); refine goesL_ (some 8) rfl rfl Tryz.func143 (by kernel_rfl) rfl #[.string a0, .string a1] rfl ag_ ?_; (with_reducible refine (stringslite_CutPrefix.calls a0 a1 t102 t103 _ A3.out).mono ?_); rintro e w' ⟨rfl, ⟨nd, rfl⟩⟩; refine ⟨_, rfl, ?_⟩))
 go_ret2
 exact ⟨sd_, dr_⟩
def cutm (s : ByteArray) : ByteArray × Bool := if (bytesOf s).head? = some 45 then (s.extract 1 s.size, true) else (s, false)
theorem bytesOf_len (s : ByteArray) : (bytesOf s).length = s.size := by
 unfold bytesOf
 rw [List.length_map, Array.length_toList]
 rfl
theorem cutm_ev (s : ByteArray) : strings_CutPrefix.f s ⟨#[45]⟩ = some (cutm s) := by
 have e1 : (⟨#[45]⟩ : ByteArray).size = 1 := rfl
 have hh : stringslite_HasPrefix.f s ⟨#[45]⟩ = some (decide ((bytesOf s).head? = some 45)) := by
  unfold stringslite_HasPrefix.f
  rw [e1]
  by_cases c : (s.size : Int) ≥ ((1 : Nat) : Int)
  ·rw [if_pos c, if_pos (by decide), if_pos c]
   congr 1
   rw [ByteArray.toList_eq, ByteArray.toList_eq, ByteArray.data_extract]
   obtain ⟨⟨xs⟩⟩ := s
   cases xs with
   |nil => simp [ByteArray.size] at c
   |cons x r =>
    have : (Array.extract (x :: r).toArray 0 (((1 : Nat) : Int)).toNat).toList = [x] := by simp
    show ((Array.extract (x :: r).toArray 0 (((1 : Nat) : Int)).toNat).toList == [45]) = _
    rw [this]
    simp only [bytesOf, List.map_cons, List.head?_cons, Option.some.injEq]
    by_cases h : x = 45
    ·subst h; rfl
    ·have h2 : ¬ ((x.toNat : Int) = 45) := fun e => h (UInt8.toNat_inj.1 (by simpa using (by omega : x.toNat = 45)))
     rw [decide_eq_false h2]
     simp [h]
  ·rw [if_neg c]
   have : s.size = 0 := by omega
   have hl := bytesOf_len s
   rw [this] at hl
   rw [List.eq_nil_of_length_eq_zero hl]
   rfl
 unfold strings_CutPrefix.f stringslite_CutPrefix.f cutm
 rw [hh, e1]
 by_cases c : (bytesOf s).head? = some 45
 ·have hs : ((1 : Nat) : Int) ≤ (s.size : Int) := by
   have hl := bytesOf_len s
   rcases Nat.eq_zero_or_pos s.size with h | h
   ·rw [h] at hl
    rw [List.eq_nil_of_length_eq_zero hl] at c
    cases c
   ·omega
  have hs' : 1 ≤ s.size := by omega
  simp [c, hs']
  rw [if_pos (by omega)]
  rfl
 ·simp [c]
theorem cutp_calls (W : World) (s : ByteArray) : Calls Tryz.prog 79 #[.string s, .string ⟨#[45]⟩] W fun e w' => Below W.heap.size W w' ∧ e = .returned (.tuple #[.string (cutm s).1, .bool (cutm s).2]) :=
 (strings_CutPrefix.calls s ⟨#[45]⟩ _ _ W (cutm_ev s)).mono fun e w' h => ⟨h.2.below, h.1⟩
def RZ (o : Option Int) (e : Ending) (w' : World) : Prop := ∃ b A n c, e = .returned (.tuple #[.agg #[.bool b, .slice A n c], .bool o.isSome]) ∧ Wh w' b (.slice A n c) (o.getD 0)
theorem isEmpty_iff (t : ByteArray) : t.toList.isEmpty = decide (t.size = 0) := by
 rw [ByteArray.toList_eq]
 have : t.size = t.data.toList.length := by rw [Array.length_toList]; rfl
 rw [this]
 cases t.data.toList <;> rfl
theorem byte0 (t : ByteArray) (h : 0 < t.size) : ((t[0]'h).toNat : Int) = rd (bytesOf t) 0 := by
 have h2 : 0 < (bytesOf t).length := by rw [bytesOf_len]; exact h
 have : rd (bytesOf t) 0 = (bytesOf t)[0] := by simp [rd, h2]
 rw [this]
 simp only [bytesOf, List.getElem_map, Array.getElem_toList]
 rfl
theorem RZ.no {W : World} : RZ none (.returned (.tuple #[.agg #[.bool false, .slice none 0 0], .bool false])) W := by
 exact ⟨false, none, 0, 0, rfl, Wh.zero W⟩
theorem cutm_spec {s t : ByteArray} {neg : Bool} (h : cutm s = (t, neg)) : bytesOf s = (if neg = true then [45] else []) ++ bytesOf t ∧ (neg = false → (bytesOf t).head? ≠ some 45) ∧ t.size ≤ s.size := by
 unfold cutm at h
 by_cases c : (bytesOf s).head? = some 45
 ·rw [if_pos c] at h
  obtain ⟨rfl, rfl⟩ := Prod.mk.inj h
  have e : bytesOf (s.extract 1 s.size) = (bytesOf s).tail := by
   rw [bytesOf_extract, ← bytesOf_len s, List.take_length, List.drop_one]
  refine ⟨?_, fun h => (by cases h), ?_⟩
  ·rw [if_pos rfl, e]
   cases hb : bytesOf s with
   |nil => rw [hb] at c; cases c
   |cons x r => rw [hb] at c; simp at c; subst c; rfl
  ·rw [← bytesOf_len, e, ← bytesOf_len s, List.length_tail]
   omega
 ·rw [if_neg c] at h
  obtain ⟨rfl, rfl⟩ := Prod.mk.inj h
  exact ⟨by simp, fun _ => c, Nat.le_refl _⟩
theorem head_rd {l : List Int} (h : 0 < l.length) : l.head? = some (rd l 0) := by
 cases l with
 |nil => simp at h
 |cons x r => rfl
theorem read_calls (W : World) (s : ByteArray) (hs : s.size ≤ 9000000000000) : Calls Tryz.prog 95 #[.string s] W fun e w' => Below W.heap.size W w' ∧ RZ (int? (bytesOf s)) e w' := by
 have E := Env.start W
 obtain ⟨t, neg, hc⟩ : ∃ t neg, cutm s = (t, neg) := ⟨_, _, rfl⟩
 have HC := Aside0.mk hc
 have HS := Aside0.mk hs
 clear hs hc
 have hbad : t.size = 0 ∨ (rd (bytesOf t) 0 = 48 ∧ (1 < t.size ∨ neg = true)) → int? (bytesOf s) = none := by
  intro hc
  have hs := cutm_spec HC.out
  rw [hs.1, int?_cut neg _ hs.2.1, if_pos]
  refine hc.elim (fun h => Or.inl (List.eq_nil_of_length_eq_zero (by rw [bytesOf_len]; exact h))) fun h => ?_
  rcases Nat.eq_zero_or_pos t.size with h0 | h0
  ·exact Or.inl (List.eq_nil_of_length_eq_zero (by rw [bytesOf_len]; exact h0))
  ·exact Or.inr ⟨by rw [head_rd (by rw [bytesOf_len]; exact h0), h.1], by rw [bytesOf_len]; exact h.2⟩
 have HBAD := Aside0.mk hbad
 clear hbad
 go_enter Tryz.func95, Tryz.ntmps95
 by_cases h0 : t.size = 0
 ·have ht : t.toList.isEmpty = true := by rw [isEmpty_iff]; exact decide_eq_true h0
  have HN := Aside0.mk (HBAD.out (Or.inl h0))
  clear h0
  go_wp2_with (first | ((with_reducible first | refine gate_box (by rfl) ?_ | refine gate_alloc (by rfl) ?_); refine bx_ E ?_; clear E; intro gb wb E; have q := E.cls; (repeat obtain ⟨_, _, q⟩ := q); clear q) | (go_at_call 79; refine env_call E (cutp_calls _ s) ?_; clear E; rintro e wc E rfl; rw [HC.out]; have q := E.cls; (repeat obtain ⟨_, _, q⟩ := q); clear q) | ((with_reducible refine gate_stored (t := 77) (by rfl) ?_); refine st_ (fun ws hs_ => ?_); replace E := Env.pt2 hs_ E; clear hs_; have q := E.cls; (repeat obtain ⟨_, _, q⟩ := q); clear q))
  refine bodyPost_ret (results_list (rs := [.cell _ 77, .tmp _]) rfl (by simp) (.cell _ _ _ (0, 0) _ rfl E.blk Tryz.underlying77 rfl (by kernel_rfl) (.tmp .nil))) rfl ?_
  rw [HN.out]
  exact ⟨E.below, RZ.no⟩
 ·have ht : t.toList.isEmpty = false := by rw [isEmpty_iff]; exact decide_eq_false h0
  have hpos : 0 < t.size := Nat.pos_of_ne_zero h0
  have hb0 := byte0 t hpos
  have hsz : decide (0 < t.size) = true := decide_eq_true hpos
  clear h0
  by_cases h48 : rd (bytesOf t) 0 = 48
  ·have hz : (rd (bytesOf t) 0 == 48) = true := by rw [h48]; rfl
   by_cases h1 : (1 : Int) < (t.size : Int)
   ·have hd : decide ((1 : Int) < (t.size : Int)) = true := decide_eq_true h1
    have HN := Aside0.mk (HBAD.out (Or.inr ⟨h48, Or.inl (by omega)⟩))
    clear h1 h48
    go_wp2_with (first | ((with_reducible first | refine gate_box (by rfl) ?_ | refine gate_alloc (by rfl) ?_); refine bx_ E ?_; clear E; intro gb wb E; have q := E.cls; (repeat obtain ⟨_, _, q⟩ := q); clear q) | (go_at_call 79; refine env_call E (cutp_calls _ s) ?_; clear E; rintro e wc E rfl; rw [HC.out]; have q := E.cls; (repeat obtain ⟨_, _, q⟩ := q); clear q) | ((with_reducible refine gate_stored (t := 77) (by rfl) ?_); refine st_ (fun ws hs_ => ?_); replace E := Env.pt2 hs_ E; clear hs_; have q := E.cls; (repeat obtain ⟨_, _, q⟩ := q); clear q))
    refine bodyPost_ret (results_list (rs := [.cell _ 77, .tmp _]) rfl (by simp) (.cell _ _ _ (0, 0) _ rfl E.blk Tryz.underlying77 rfl (by kernel_rfl) (.tmp .nil))) rfl ?_
    rw [HN.out]
    exact ⟨E.below, RZ.no⟩
   ·have hd : decide ((1 : Int) < (t.size : Int)) = false := decide_eq_false h1
    cases neg
    case true =>
     have HN := Aside0.mk (HBAD.out (Or.inr ⟨h48, Or.inr rfl⟩))
     clear h1 h48
     go_wp2_with (first | ((with_reducible first | refine gate_box (by rfl) ?_ | refine gate_alloc (by rfl) ?_); refine bx_ E ?_; clear E; intro gb wb E; have q := E.cls; (repeat obtain ⟨_, _, q⟩ := q); clear q) | (go_at_call 79; refine env_call E (cutp_calls _ s) ?_; clear E; rintro e wc E rfl; rw [HC.out]; have q := E.cls; (repeat obtain ⟨_, _, q⟩ := q); clear q) | ((with_reducible refine gate_stored (t := 77) (by rfl) ?_); refine st_ (fun ws hs_ => ?_); replace E := Env.pt2 hs_ E; clear hs_; have q := E.cls; (repeat obtain ⟨_, _, q⟩ := q); clear q))
     refine bodyPost_ret (results_list (rs := [.cell _ 77, .tmp _]) rfl (by simp) (.cell _ _ _ (0, 0) _ rfl E.blk Tryz.underlying77 rfl (by kernel_rfl) (.tmp .nil))) rfl ?_
     rw [HN.out]
     exact ⟨E.below, RZ.no⟩
    case false =>
     have HG := Aside0.mk (show ¬ (bytesOf t = [] ∨ ((bytesOf t).head? = some 48 ∧ (1 < (bytesOf t).length ∨ false = true))) by
      rw [bytesOf_len]
      rintro (h | h)
      ·have := bytesOf_len t; rw [h] at this; simp at this; omega
      ·exact h.2.elim (fun h => h1 (by omega)) (fun h => by cases h))
     clear h1 h48
     go_wp2_with (first | ((with_reducible first | refine gate_box (by rfl) ?_ | refine gate_alloc (by rfl) ?_); refine bx_ E ?_; clear E; intro gb wb E; have q := E.cls; (repeat obtain ⟨_, _, q⟩ := q); clear q) | (go_at_call 79; refine env_call E (cutp_calls _ s) ?_; clear E; rintro e wc E rfl; rw [HC.out]; have q := E.cls; (repeat obtain ⟨_, _, q⟩ := q); clear q))
     (all_goals
     have E0 := Aside0.mk E
     have HB := Aside0.mk (Below.refl wc.heap.size wc)
     have HO := Aside0.mk (Kd.R_nil KU 145 wc wc.heap.size (fun _ => True))
     have RO0 := Aside0.mk (show RdOut (bytesOf t) [] (t.size : Int) t.size by have := RdOut.start (bytesOf t); rwa [bytesOf_len] at this)
     go_loopg [6, 7] t.size (fun kq v6 v7 w' => ∃ (d : List Int) (e : Int), v7 = .int .i64 e ∧ Aside0 (RdOut (bytesOf t) d e kq) ∧ Aside0 (Own32 wc w' v6 d) ∧ Aside0 (Below wc.heap.size wc w'))
     case atStart => exact ⟨_, _, rfl, RO0, HO, HB⟩
     case round =>
      clear HO HB E RO0
      obtain ⟨d, e, rfl, INV, HO, HB⟩ := hrel
      have E := E0.out.next HB.out
      have q := E.cls; (repeat obtain ⟨_, _, q⟩ := q); clear q
      by_cases he : 0 < e
      ·have heb : decide (0 < e) = true := decide_eq_true he
       have hle : e ≤ (t.size : Int) := by have := INV.out.1.1; rwa [bytesOf_len] at this
       have hw : wrap64 (e - 9) = e - 9 := by have := HS.out; have := (cutm_spec HC.out).2.2; rw [wrap_id (by omega) (by omega)]
       have f9 : max e 0 = e := by omega
       have hen : ((e.toNat : Nat) : Int) = e := by omega
       have f1 : (e - 9 ≤ e) = True := eq_true (by omega)
       have f2 : (e ≤ (t.size : Int)) = True := eq_true hle
       have f3 : (0 ≤ e) = True := eq_true (by omega)
       have kb := fun s W => print_bytes (P := Tryz.prog) 9 129 5 Tryz.underlying9 Tryz.underlying129 Tryz.underlying5 s W
       by_cases hm : 0 ≤ e - 9
       ·have f4 : (0 ≤ e - 9) = True := eq_true hm
        have f5 : max 0 (e - 9) = e - 9 := by omega
        have f6 : (9 ≤ e) = True := eq_true (by omega)
        have f7 : (e < 9) = False := eq_false (by omega)
        have f8 : (e - 9 < 0) = False := eq_false (by omega)
        go_wp2
        ·generalize hp : t.extract (e - 9).toNat e.toNat = p
         generalize hn : e.toNat - (e - 9).toNat = n
         (all_goals
          have HP : bytesOf p = rpart (bytesOf t) e := by rw [← hp, bytesOf_extract]; unfold rpart; congr 1; omega
          have hpl : (bytesOf p).length = n := by rw [bytesOf_len, ← hp, ByteArray.size_extract]; omega
          have HPL := Aside0.mk hpl
          have HPP := Aside0.mk HP
          have HR := Aside0.mk (bytes_reads wr 5 p (by rw [← bytesOf_len, HP]; have := rpart_len (l := bytesOf t) (e := e); omega))
          have HB2 := Aside0.mk (bytes_below HB.out HB.out.size 5 p)
          have HO2 := Aside0.mk (Kd.R_below HO.out (bytes_below (Below.refl _ _) (Nat.le_refl _) 5 p))
          have E2 := Aside0.mk (E0.out.next HB2.out)
          have RI0 := Aside0.mk (show RdIn (bytesOf p) 0 0 (n + 1) by have := RdIn.start (ck := bytesOf p) (by rw [HP]; exact rpart_len); rwa [hpl] at this)
          have hps : p.size = n := by rw [← bytesOf_len]; exact hpl
          clear HP hpl
          go_loopg [8, 46] (n + 1) (fun kq v8 v46 w' => ∃ (x j : Int), v8 = .int .u32 x ∧ v46 = .int .i64 j ∧ Aside0 (RdIn (bytesOf p) j x kq) ∧ w' = Lib.bytesWorld wr 5 p)
          case atStart => exact ⟨0, 0, rfl, rfl, RI0, rfl⟩
          case round =>
           obtain ⟨x, j, rfl, rfl, INV2, rfl⟩ := hrel
           have j0 : 0 ≤ j := INV2.out.1.1
           by_cases hj : j < (n : Int)
           ·have hjb : decide (j < (n : Int)) = true := decide_eq_true hj
            (try have hje : decide (j < e) = true := decide_eq_true (by omega))
            (try have hje2 : (j < e) = True := eq_true (by omega))
            have cJ : (Lib.bytesWorld wr 5 p).cell? ⟨wr.heap.size, j.toNat, none⟩ = some (.int .u8 (rd (bytesOf p) j)) := by
             obtain ⟨ad, e1, hc⟩ := HR.out.2.2 (by omega)
             cases e1
             have := hc j.toNat (by omega)
             rw [add_plain] at this
             exact this
            have hjl : j < ((bytesOf p).length : Int) := by rw [HPL.out]; exact hj
            have hj3 : (0 ≤ j) = True := eq_true j0
            have hj4 : (j < (n : Int)) = True := eq_true hj
            have HJ := Aside0.mk hjl
            have hxb := Aside0.mk INV2.out.lt
            by_cases hd8 : isd (rd (bytesOf p) j) = true
            ·have hb8 := (isd_iff _).1 hd8
             have hn2 := Aside0.mk (INV2.out.next hjl hd8)
             have d1 : decide (rd (bytesOf p) j < 48) = false := decide_eq_false (by omega)
             have d2 : decide (57 < rd (bytesOf p) j) = false := decide_eq_false (by omega)
             have d3 : (rd (bytesOf p) j - 48) % 256 = rd (bytesOf p) j - 48 := Int.emod_eq_of_lt (by omega) (by omega)
             clear hj hjl hb8
             have d4 : (10 * x % 4294967296 + (rd (bytesOf p) j - 48)) % 4294967296 = 10 * x + (rd (bytesOf p) j - 48) := by have h1 := hxb.out; have h2 := hn2.out.2.lt; omega
             go_wp2
             rw [d4]
             go_roundg ((((bytesOf p).length : Int) - j).toNat)
             case measure => exact hn2.out.1
             case rel => exact ⟨_, _, rfl, rfl, ⟨hn2.out.2⟩, rfl⟩
            ·have hf8 : isd (rd (bytesOf p) j) = false := by simpa using hd8
             have hbp : (bytesOf t).all isd = false := rpart_bad (e := e) j.toNat (by rw [← HPP.out, HPL.out]; omega) (by rw [← HPP.out, show ((j.toNat : Nat) : Int) = j by omega]; exact hf8)
             have hno := Aside0.mk (show int? (bytesOf s) = none by have hs := cutm_spec HC.out; rw [hs.1, int?_cut _ _ hs.2.1, if_neg HG.out, if_neg (by rw [hbp]; decide)])
             have E := E2.out
             have q := E.cls; (repeat obtain ⟨_, _, q⟩ := q); clear q
             clear hj hjl hbp
             by_cases d0 : rd (bytesOf p) j < 48
             ·have d1 : decide (rd (bytesOf p) j < 48) = true := decide_eq_true d0
              clear d0
              go_wp2_with (first | ((with_reducible refine gate_stored (t := 77) (by rfl) ?_); refine st_ (fun ws hs_ => ?_); replace E := Env.pt2 hs_ E; clear hs_; have q := E.cls; (repeat obtain ⟨_, _, q⟩ := q); clear q))
              refine bodyPost_ret (results_list (rs := [.cell _ 77, .tmp _]) rfl (by simp) (.cell _ _ _ (0, 0) _ rfl E.blk Tryz.underlying77 rfl (by kernel_rfl) (.tmp .nil))) rfl ?_
              rw [hno.out]
              exact ⟨E.below, RZ.no⟩
             ·have d1 : decide (rd (bytesOf p) j < 48) = false := decide_eq_false d0
              have d2 : decide (57 < rd (bytesOf p) j) = true := decide_eq_true (by have h := (not_congr (isd_iff (rd (bytesOf p) j))).1 hd8; omega)
              clear d0
              go_wp2_with (first | ((with_reducible refine gate_stored (t := 77) (by rfl) ?_); refine st_ (fun ws hs_ => ?_); replace E := Env.pt2 hs_ E; clear hs_; have q := E.cls; (repeat obtain ⟨_, _, q⟩ := q); clear q))
              refine bodyPost_ret (results_list (rs := [.cell _ 77, .tmp _]) rfl (by simp) (.cell _ _ _ (0, 0) _ rfl E.blk Tryz.underlying77 rfl (by kernel_rfl) (.tmp .nil))) rfl ?_
              rw [hno.out]
              exact ⟨E.below, RZ.no⟩
           ·have hjb : decide (j < (n : Int)) = false := decide_eq_false hj
            (try have hje : decide (j < e) = false := decide_eq_false (by omega))
            have hfin := Aside0.mk (INV2.out.fin (by rw [HPL.out]; exact hj))
            have hn := Aside0.mk (INV.out.next he (by have := HS.out; have := (cutm_spec HC.out).2.2; rw [bytesOf_len]; omega) (by rw [← HPP.out]; exact hfin.out.1))
            rw [hw] at hn
            clear hj
            go_wp2_with (at_builtin; refine app32 (w := wc) (v := u6) (l := d) (y := x) (by rfl) (by rfl) (by rfl) (by rfl) HO2.out HB2.out (by have h1 := INV.out.2.2.1; have h2 := HS.out; have h3 := (cutm_spec HC.out).2.2; rw [bytesOf_len] at h1; omega) ?_; clear HB HO; intro v1 w1 ho hb; have HO := Aside0.mk ho; have HB := Aside0.mk hb; clear ho hb)
            rw [hfin.out.2, HPP.out] at HO
            go_roundg (e - 9).toNat
            case measure => exact hn.out.1
            case rel => exact ⟨_, _, rfl, ⟨by first | exact hn.out.2 | (rw [hw]; exact hn.out.2)⟩, HO, HB⟩)
        all_goals
         generalize hp : t.extract 0 e.toNat = p
         generalize hn : e.toNat = n
         (all_goals
          have HP : bytesOf p = rpart (bytesOf t) e := by rw [← hp, bytesOf_extract]; unfold rpart; congr 1; omega
          have hpl : (bytesOf p).length = n := by rw [bytesOf_len, ← hp, ByteArray.size_extract]; omega
          have HPL := Aside0.mk hpl
          have HPP := Aside0.mk HP
          have HR := Aside0.mk (bytes_reads wr 5 p (by rw [← bytesOf_len, HP]; have := rpart_len (l := bytesOf t) (e := e); omega))
          have HB2 := Aside0.mk (bytes_below HB.out HB.out.size 5 p)
          have HO2 := Aside0.mk (Kd.R_below HO.out (bytes_below (Below.refl _ _) (Nat.le_refl _) 5 p))
          have E2 := Aside0.mk (E0.out.next HB2.out)
          have RI0 := Aside0.mk (show RdIn (bytesOf p) 0 0 (n + 1) by have := RdIn.start (ck := bytesOf p) (by rw [HP]; exact rpart_len); rwa [hpl] at this)
          have hps : p.size = n := by rw [← bytesOf_len]; exact hpl
          clear HP hpl
          go_loopg [8, 46] (n + 1) (fun kq v8 v46 w' => ∃ (x j : Int), v8 = .int .u32 x ∧ v46 = .int .i64 j ∧ Aside0 (RdIn (bytesOf p) j x kq) ∧ w' = Lib.bytesWorld wr 5 p)
          case atStart => exact ⟨0, 0, rfl, rfl, RI0, rfl⟩
          case round =>
           obtain ⟨x, j, rfl, rfl, INV2, rfl⟩ := hrel
           have j0 : 0 ≤ j := INV2.out.1.1
           by_cases hj : j < (n : Int)
           ·have hjb : decide (j < (n : Int)) = true := decide_eq_true hj
            (try have hje : decide (j < e) = true := decide_eq_true (by omega))
            (try have hje2 : (j < e) = True := eq_true (by omega))
            have cJ : (Lib.bytesWorld wr 5 p).cell? ⟨wr.heap.size, j.toNat, none⟩ = some (.int .u8 (rd (bytesOf p) j)) := by
             obtain ⟨ad, e1, hc⟩ := HR.out.2.2 (by omega)
             cases e1
             have := hc j.toNat (by omega)
             rw [add_plain] at this
             exact this
            have hjl : j < ((bytesOf p).length : Int) := by rw [HPL.out]; exact hj
            have hj3 : (0 ≤ j) = True := eq_true j0
            have hj4 : (j < (n : Int)) = True := eq_true hj
            have HJ := Aside0.mk hjl
            have hxb := Aside0.mk INV2.out.lt
            by_cases hd8 : isd (rd (bytesOf p) j) = true
            ·have hb8 := (isd_iff _).1 hd8
             have hn2 := Aside0.mk (INV2.out.next hjl hd8)
             have d1 : decide (rd (bytesOf p) j < 48) = false := decide_eq_false (by omega)
             have d2 : decide (57 < rd (bytesOf p) j) = false := decide_eq_false (by omega)
             have d3 : (rd (bytesOf p) j - 48) % 256 = rd (bytesOf p) j - 48 := Int.emod_eq_of_lt (by omega) (by omega)
             clear hj hjl hb8
             have d4 : (10 * x % 4294967296 + (rd (bytesOf p) j - 48)) % 4294967296 = 10 * x + (rd (bytesOf p) j - 48) := by have h1 := hxb.out; have h2 := hn2.out.2.lt; omega
             go_wp2
             rw [d4]
             go_roundg ((((bytesOf p).length : Int) - j).toNat)
             case measure => exact hn2.out.1
             case rel => exact ⟨_, _, rfl, rfl, ⟨hn2.out.2⟩, rfl⟩
            ·have hf8 : isd (rd (bytesOf p) j) = false := by simpa using hd8
             have hbp : (bytesOf t).all isd = false := rpart_bad (e := e) j.toNat (by rw [← HPP.out, HPL.out]; omega) (by rw [← HPP.out, show ((j.toNat : Nat) : Int) = j by omega]; exact hf8)
             have hno := Aside0.mk (show int? (bytesOf s) = none by have hs := cutm_spec HC.out; rw [hs.1, int?_cut _ _ hs.2.1, if_neg HG.out, if_neg (by rw [hbp]; decide)])
             have E := E2.out
             have q := E.cls; (repeat obtain ⟨_, _, q⟩ := q); clear q
             clear hj hjl hbp
             by_cases d0 : rd (bytesOf p) j < 48
             ·have d1 : decide (rd (bytesOf p) j < 48) = true := decide_eq_true d0
              clear d0
              go_wp2_with (first | ((with_reducible refine gate_stored (t := 77) (by rfl) ?_); refine st_ (fun ws hs_ => ?_); replace E := Env.pt2 hs_ E; clear hs_; have q := E.cls; (repeat obtain ⟨_, _, q⟩ := q); clear q))
              refine bodyPost_ret (results_list (rs := [.cell _ 77, .tmp _]) rfl (by simp) (.cell _ _ _ (0, 0) _ rfl E.blk Tryz.underlying77 rfl (by kernel_rfl) (.tmp .nil))) rfl ?_
              rw [hno.out]
              exact ⟨E.below, RZ.no⟩
             ·have d1 : decide (rd (bytesOf p) j < 48) = false := decide_eq_false d0
              have d2 : decide (57 < rd (bytesOf p) j) = true := decide_eq_true (by have h := (not_congr (isd_iff (rd (bytesOf p) j))).1 hd8; omega)
              clear d0
              go_wp2_with (first | ((with_reducible refine gate_stored (t := 77) (by rfl) ?_); refine st_ (fun ws hs_ => ?_); replace E := Env.pt2 hs_ E; clear hs_; have q := E.cls; (repeat obtain ⟨_, _, q⟩ := q); clear q))
              refine bodyPost_ret (results_list (rs := [.cell _ 77, .tmp _]) rfl (by simp) (.cell _ _ _ (0, 0) _ rfl E.blk Tryz.underlying77 rfl (by kernel_rfl) (.tmp .nil))) rfl ?_
              rw [hno.out]
              exact ⟨E.below, RZ.no⟩
           ·have hjb : decide (j < (n : Int)) = false := decide_eq_false hj
            (try have hje : decide (j < e) = false := decide_eq_false (by omega))
            have hfin := Aside0.mk (INV2.out.fin (by rw [HPL.out]; exact hj))
            have hn := Aside0.mk (INV.out.next he (by have := HS.out; have := (cutm_spec HC.out).2.2; rw [bytesOf_len]; omega) (by rw [← HPP.out]; exact hfin.out.1))
            rw [hw] at hn
            clear hj
            go_wp2_with (at_builtin; refine app32 (w := wc) (v := u6) (l := d) (y := x) (by rfl) (by rfl) (by rfl) (by rfl) HO2.out HB2.out (by have h1 := INV.out.2.2.1; have h2 := HS.out; have h3 := (cutm_spec HC.out).2.2; rw [bytesOf_len] at h1; omega) ?_; clear HB HO; intro v1 w1 ho hb; have HO := Aside0.mk ho; have HB := Aside0.mk hb; clear ho hb)
            rw [hfin.out.2, HPP.out] at HO
            go_roundg (e - 9).toNat
            case measure => exact hn.out.1
            case rel => exact ⟨_, _, rfl, ⟨by first | exact hn.out.2 | (rw [hw]; exact hn.out.2)⟩, HO, HB⟩)
       ·have f4 : (0 ≤ e - 9) = False := eq_false hm
        have f5 : max 0 (e - 9) = 0 := by omega
        go_wp2
        generalize hp : t.extract 0 e.toNat = p
        generalize hn : e.toNat = n
        (all_goals
          have HP : bytesOf p = rpart (bytesOf t) e := by rw [← hp, bytesOf_extract]; unfold rpart; congr 1; omega
          have hpl : (bytesOf p).length = n := by rw [bytesOf_len, ← hp, ByteArray.size_extract]; omega
          have HPL := Aside0.mk hpl
          have HPP := Aside0.mk HP
          have HR := Aside0.mk (bytes_reads wr 5 p (by rw [← bytesOf_len, HP]; have := rpart_len (l := bytesOf t) (e := e); omega))
          have HB2 := Aside0.mk (bytes_below HB.out HB.out.size 5 p)
          have HO2 := Aside0.mk (Kd.R_below HO.out (bytes_below (Below.refl _ _) (Nat.le_refl _) 5 p))
          have E2 := Aside0.mk (E0.out.next HB2.out)
          have RI0 := Aside0.mk (show RdIn (bytesOf p) 0 0 (n + 1) by have := RdIn.start (ck := bytesOf p) (by rw [HP]; exact rpart_len); rwa [hpl] at this)
          have hps : p.size = n := by rw [← bytesOf_len]; exact hpl
          clear HP hpl
          go_loopg [8, 46] (n + 1) (fun kq v8 v46 w' => ∃ (x j : Int), v8 = .int .u32 x ∧ v46 = .int .i64 j ∧ Aside0 (RdIn (bytesOf p) j x kq) ∧ w' = Lib.bytesWorld wr 5 p)
          case atStart => exact ⟨0, 0, rfl, rfl, RI0, rfl⟩
          case round =>
           obtain ⟨x, j, rfl, rfl, INV2, rfl⟩ := hrel
           have j0 : 0 ≤ j := INV2.out.1.1
           by_cases hj : j < (n : Int)
           ·have hjb : decide (j < (n : Int)) = true := decide_eq_true hj
            (try have hje : decide (j < e) = true := decide_eq_true (by omega))
            (try have hje2 : (j < e) = True := eq_true (by omega))
            have cJ : (Lib.bytesWorld wr 5 p).cell? ⟨wr.heap.size, j.toNat, none⟩ = some (.int .u8 (rd (bytesOf p) j)) := by
             obtain ⟨ad, e1, hc⟩ := HR.out.2.2 (by omega)
             cases e1
             have := hc j.toNat (by omega)
             rw [add_plain] at this
             exact this
            have hjl : j < ((bytesOf p).length : Int) := by rw [HPL.out]; exact hj
            have hj3 : (0 ≤ j) = True := eq_true j0
            have hj4 : (j < (n : Int)) = True := eq_true hj
            have HJ := Aside0.mk hjl
            have hxb := Aside0.mk INV2.out.lt
            by_cases hd8 : isd (rd (bytesOf p) j) = true
            ·have hb8 := (isd_iff _).1 hd8
             have hn2 := Aside0.mk (INV2.out.next hjl hd8)
             have d1 : decide (rd (bytesOf p) j < 48) = false := decide_eq_false (by omega)
             have d2 : decide (57 < rd (bytesOf p) j) = false := decide_eq_false (by omega)
             have d3 : (rd (bytesOf p) j - 48) % 256 = rd (bytesOf p) j - 48 := Int.emod_eq_of_lt (by omega) (by omega)
             clear hj hjl hb8
             have d4 : (10 * x % 4294967296 + (rd (bytesOf p) j - 48)) % 4294967296 = 10 * x + (rd (bytesOf p) j - 48) := by have h1 := hxb.out; have h2 := hn2.out.2.lt; omega
             go_wp2
             rw [d4]
             go_roundg ((((bytesOf p).length : Int) - j).toNat)
             case measure => exact hn2.out.1
             case rel => exact ⟨_, _, rfl, rfl, ⟨hn2.out.2⟩, rfl⟩
            ·have hf8 : isd (rd (bytesOf p) j) = false := by simpa using hd8
             have hbp : (bytesOf t).all isd = false := rpart_bad (e := e) j.toNat (by rw [← HPP.out, HPL.out]; omega) (by rw [← HPP.out, show ((j.toNat : Nat) : Int) = j by omega]; exact hf8)
             have hno := Aside0.mk (show int? (bytesOf s) = none by have hs := cutm_spec HC.out; rw [hs.1, int?_cut _ _ hs.2.1, if_neg HG.out, if_neg (by rw [hbp]; decide)])
             have E := E2.out
             have q := E.cls; (repeat obtain ⟨_, _, q⟩ := q); clear q
             clear hj hjl hbp
             by_cases d0 : rd (bytesOf p) j < 48
             ·have d1 : decide (rd (bytesOf p) j < 48) = true := decide_eq_true d0
              clear d0
              go_wp2_with (first | ((with_reducible refine gate_stored (t := 77) (by rfl) ?_); refine st_ (fun ws hs_ => ?_); replace E := Env.pt2 hs_ E; clear hs_; have q := E.cls; (repeat obtain ⟨_, _, q⟩ := q); clear q))
              refine bodyPost_ret (results_list (rs := [.cell _ 77, .tmp _]) rfl (by simp) (.cell _ _ _ (0, 0) _ rfl E.blk Tryz.underlying77 rfl (by kernel_rfl) (.tmp .nil))) rfl ?_
              rw [hno.out]
              exact ⟨E.below, RZ.no⟩
             ·have d1 : decide (rd (bytesOf p) j < 48) = false := decide_eq_false d0
              have d2 : decide (57 < rd (bytesOf p) j) = true := decide_eq_true (by have h := (not_congr (isd_iff (rd (bytesOf p) j))).1 hd8; omega)
              clear d0
              go_wp2_with (first | ((with_reducible refine gate_stored (t := 77) (by rfl) ?_); refine st_ (fun ws hs_ => ?_); replace E := Env.pt2 hs_ E; clear hs_; have q := E.cls; (repeat obtain ⟨_, _, q⟩ := q); clear q))
              refine bodyPost_ret (results_list (rs := [.cell _ 77, .tmp _]) rfl (by simp) (.cell _ _ _ (0, 0) _ rfl E.blk Tryz.underlying77 rfl (by kernel_rfl) (.tmp .nil))) rfl ?_
              rw [hno.out]
              exact ⟨E.below, RZ.no⟩
           ·have hjb : decide (j < (n : Int)) = false := decide_eq_false hj
            (try have hje : decide (j < e) = false := decide_eq_false (by omega))
            have hfin := Aside0.mk (INV2.out.fin (by rw [HPL.out]; exact hj))
            have hn := Aside0.mk (INV.out.next he (by have := HS.out; have := (cutm_spec HC.out).2.2; rw [bytesOf_len]; omega) (by rw [← HPP.out]; exact hfin.out.1))
            rw [hw] at hn
            clear hj
            go_wp2_with (at_builtin; refine app32 (w := wc) (v := u6) (l := d) (y := x) (by rfl) (by rfl) (by rfl) (by rfl) HO2.out HB2.out (by have h1 := INV.out.2.2.1; have h2 := HS.out; have h3 := (cutm_spec HC.out).2.2; rw [bytesOf_len] at h1; omega) ?_; clear HB HO; intro v1 w1 ho hb; have HO := Aside0.mk ho; have HB := Aside0.mk hb; clear ho hb)
            rw [hfin.out.2, HPP.out] at HO
            go_roundg (e - 9).toNat
            case measure => exact hn.out.1
            case rel => exact ⟨_, _, rfl, ⟨by first | exact hn.out.2 | (rw [hw]; exact hn.out.2)⟩, HO, HB⟩)
      ·have heb : decide (0 < e) = false := decide_eq_false he
       have hfin := Aside0.mk (INV.out.fin he)
       have DD := Dg.of_R HO.out
       obtain ⟨A', c', rfl, h4, h5⟩ := DD
       replace E := E.dg (Dg.of_R HO.out)
       clear h4 h5 he HO INV
       go_wp2_with (first | ((with_reducible refine gate_stored (t := 77) (by rfl) ?_); refine st_ (fun ws hs_ => ?_); replace E := Env.pt2 hs_ E; clear hs_; have q := E.cls; (repeat obtain ⟨_, _, q⟩ := q); clear q) | (go_at_call 153; refine env_call E (signed_calls E.getD hfin.out.2.1) ?_; clear E; rintro e wc E ⟨br, Ar, nr, cr, rfl, hw_⟩; replace E := E.wh hw_; clear hw_; have q := E.cls; (repeat obtain ⟨_, _, q⟩ := q); clear q))
       refine bodyPost_ret (results_list (rs := [.cell _ 77, .tmp _]) rfl (by simp) (.cell _ _ _ (0, 0) _ rfl E.blk Tryz.underlying77 rfl (by kernel_rfl) (.tmp .nil))) rfl ?_
       have hs := cutm_spec HC.out
       rw [hs.1, int?_cut _ _ hs.2.1, if_neg HG.out, if_pos hfin.out.1, ← hfin.out.2.2]
       exact ⟨E.below, _, _, _, _, rfl, E.getW⟩)
  ·have hz : (rd (bytesOf t) 0 == 48) = false := beq_eq_false_iff_ne.mpr h48
   have HG := Aside0.mk (show ¬ (bytesOf t = [] ∨ ((bytesOf t).head? = some 48 ∧ (1 < (bytesOf t).length ∨ neg = true))) by
    rintro (h | h)
    ·have := bytesOf_len t; rw [h] at this; simp at this; omega
    ·rw [head_rd (by rw [bytesOf_len]; exact hpos)] at h
     exact h48 (Option.some.inj h.1))
   clear h48
   go_wp2_with (first | ((with_reducible first | refine gate_box (by rfl) ?_ | refine gate_alloc (by rfl) ?_); refine bx_ E ?_; clear E; intro gb wb E; have q := E.cls; (repeat obtain ⟨_, _, q⟩ := q); clear q) | (go_at_call 79; refine env_call E (cutp_calls _ s) ?_; clear E; rintro e wc E rfl; rw [HC.out]; have q := E.cls; (repeat obtain ⟨_, _, q⟩ := q); clear q))
   (all_goals
     have E0 := Aside0.mk E
     have HB := Aside0.mk (Below.refl wc.heap.size wc)
     have HO := Aside0.mk (Kd.R_nil KU 145 wc wc.heap.size (fun _ => True))
     have RO0 := Aside0.mk (show RdOut (bytesOf t) [] (t.size : Int) t.size by have := RdOut.start (bytesOf t); rwa [bytesOf_len] at this)
     go_loopg [6, 7] t.size (fun kq v6 v7 w' => ∃ (d : List Int) (e : Int), v7 = .int .i64 e ∧ Aside0 (RdOut (bytesOf t) d e kq) ∧ Aside0 (Own32 wc w' v6 d) ∧ Aside0 (Below wc.heap.size wc w'))
     case atStart => exact ⟨_, _, rfl, RO0, HO, HB⟩
     case round =>
      clear HO HB E RO0
      obtain ⟨d, e, rfl, INV, HO, HB⟩ := hrel
      have E := E0.out.next HB.out
      have q := E.cls; (repeat obtain ⟨_, _, q⟩ := q); clear q
      by_cases he : 0 < e
      ·have heb : decide (0 < e) = true := decide_eq_true he
       have hle : e ≤ (t.size : Int) := by have := INV.out.1.1; rwa [bytesOf_len] at this
       have hw : wrap64 (e - 9) = e - 9 := by have := HS.out; have := (cutm_spec HC.out).2.2; rw [wrap_id (by omega) (by omega)]
       have f9 : max e 0 = e := by omega
       have hen : ((e.toNat : Nat) : Int) = e := by omega
       have f1 : (e - 9 ≤ e) = True := eq_true (by omega)
       have f2 : (e ≤ (t.size : Int)) = True := eq_true hle
       have f3 : (0 ≤ e) = True := eq_true (by omega)
       have kb := fun s W => print_bytes (P := Tryz.prog) 9 129 5 Tryz.underlying9 Tryz.underlying129 Tryz.underlying5 s W
       by_cases hm : 0 ≤ e - 9
       ·have f4 : (0 ≤ e - 9) = True := eq_true hm
        have f5 : max 0 (e - 9) = e - 9 := by omega
        have f6 : (9 ≤ e) = True := eq_true (by omega)
        have f7 : (e < 9) = False := eq_false (by omega)
        have f8 : (e - 9 < 0) = False := eq_false (by omega)
        go_wp2
        ·generalize hp : t.extract (e - 9).toNat e.toNat = p
         generalize hn : e.toNat - (e - 9).toNat = n
         (all_goals
          have HP : bytesOf p = rpart (bytesOf t) e := by rw [← hp, bytesOf_extract]; unfold rpart; congr 1; omega
          have hpl : (bytesOf p).length = n := by rw [bytesOf_len, ← hp, ByteArray.size_extract]; omega
          have HPL := Aside0.mk hpl
          have HPP := Aside0.mk HP
          have HR := Aside0.mk (bytes_reads wr 5 p (by rw [← bytesOf_len, HP]; have := rpart_len (l := bytesOf t) (e := e); omega))
          have HB2 := Aside0.mk (bytes_below HB.out HB.out.size 5 p)
          have HO2 := Aside0.mk (Kd.R_below HO.out (bytes_below (Below.refl _ _) (Nat.le_refl _) 5 p))
          have E2 := Aside0.mk (E0.out.next HB2.out)
          have RI0 := Aside0.mk (show RdIn (bytesOf p) 0 0 (n + 1) by have := RdIn.start (ck := bytesOf p) (by rw [HP]; exact rpart_len); rwa [hpl] at this)
          have hps : p.size = n := by rw [← bytesOf_len]; exact hpl
          clear HP hpl
          go_loopg [8, 46] (n + 1) (fun kq v8 v46 w' => ∃ (x j : Int), v8 = .int .u32 x ∧ v46 = .int .i64 j ∧ Aside0 (RdIn (bytesOf p) j x kq) ∧ w' = Lib.bytesWorld wr 5 p)
          case atStart => exact ⟨0, 0, rfl, rfl, RI0, rfl⟩
          case round =>
           obtain ⟨x, j, rfl, rfl, INV2, rfl⟩ := hrel
           have j0 : 0 ≤ j := INV2.out.1.1
           by_cases hj : j < (n : Int)
           ·have hjb : decide (j < (n : Int)) = true := decide_eq_true hj
            (try have hje : decide (j < e) = true := decide_eq_true (by omega))
            (try have hje2 : (j < e) = True := eq_true (by omega))
            have cJ : (Lib.bytesWorld wr 5 p).cell? ⟨wr.heap.size, j.toNat, none⟩ = some (.int .u8 (rd (bytesOf p) j)) := by
             obtain ⟨ad, e1, hc⟩ := HR.out.2.2 (by omega)
             cases e1
             have := hc j.toNat (by omega)
             rw [add_plain] at this
             exact this
            have hjl : j < ((bytesOf p).length : Int) := by rw [HPL.out]; exact hj
            have hj3 : (0 ≤ j) = True := eq_true j0
            have hj4 : (j < (n : Int)) = True := eq_true hj
            have HJ := Aside0.mk hjl
            have hxb := Aside0.mk INV2.out.lt
            by_cases hd8 : isd (rd (bytesOf p) j) = true
            ·have hb8 := (isd_iff _).1 hd8
             have hn2 := Aside0.mk (INV2.out.next hjl hd8)
             have d1 : decide (rd (bytesOf p) j < 48) = false := decide_eq_false (by omega)
             have d2 : decide (57 < rd (bytesOf p) j) = false := decide_eq_false (by omega)
             have d3 : (rd (bytesOf p) j - 48) % 256 = rd (bytesOf p) j - 48 := Int.emod_eq_of_lt (by omega) (by omega)
             clear hj hjl hb8
             have d4 : (10 * x % 4294967296 + (rd (bytesOf p) j - 48)) % 4294967296 = 10 * x + (rd (bytesOf p) j - 48) := by have h1 := hxb.out; have h2 := hn2.out.2.lt; omega
             go_wp2
             rw [d4]
             go_roundg ((((bytesOf p).length : Int) - j).toNat)
             case measure => exact hn2.out.1
             case rel => exact ⟨_, _, rfl, rfl, ⟨hn2.out.2⟩, rfl⟩
            ·have hf8 : isd (rd (bytesOf p) j) = false := by simpa using hd8
             have hbp : (bytesOf t).all isd = false := rpart_bad (e := e) j.toNat (by rw [← HPP.out, HPL.out]; omega) (by rw [← HPP.out, show ((j.toNat : Nat) : Int) = j by omega]; exact hf8)
             have hno := Aside0.mk (show int? (bytesOf s) = none by have hs := cutm_spec HC.out; rw [hs.1, int?_cut _ _ hs.2.1, if_neg HG.out, if_neg (by rw [hbp]; decide)])
             have E := E2.out
             have q := E.cls; (repeat obtain ⟨_, _, q⟩ := q); clear q
             clear hj hjl hbp
             by_cases d0 : rd (bytesOf p) j < 48
             ·have d1 : decide (rd (bytesOf p) j < 48) = true := decide_eq_true d0
              clear d0
              go_wp2_with (first | ((with_reducible refine gate_stored (t := 77) (by rfl) ?_); refine st_ (fun ws hs_ => ?_); replace E := Env.pt2 hs_ E; clear hs_; have q := E.cls; (repeat obtain ⟨_, _, q⟩ := q); clear q))
              refine bodyPost_ret (results_list (rs := [.cell _ 77, .tmp _]) rfl (by simp) (.cell _ _ _ (0, 0) _ rfl E.blk Tryz.underlying77 rfl (by kernel_rfl) (.tmp .nil))) rfl ?_
              rw [hno.out]
              exact ⟨E.below, RZ.no⟩
             ·have d1 : decide (rd (bytesOf p) j < 48) = false := decide_eq_false d0
              have d2 : decide (57 < rd (bytesOf p) j) = true := decide_eq_true (by have h := (not_congr (isd_iff (rd (bytesOf p) j))).1 hd8; omega)
              clear d0
              go_wp2_with (first | ((with_reducible refine gate_stored (t := 77) (by rfl) ?_); refine st_ (fun ws hs_ => ?_); replace E := Env.pt2 hs_ E; clear hs_; have q := E.cls; (repeat obtain ⟨_, _, q⟩ := q); clear q))
              refine bodyPost_ret (results_list (rs := [.cell _ 77, .tmp _]) rfl (by simp) (.cell _ _ _ (0, 0) _ rfl E.blk Tryz.underlying77 rfl (by kernel_rfl) (.tmp .nil))) rfl ?_
              rw [hno.out]
              exact ⟨E.below, RZ.no⟩
           ·have hjb : decide (j < (n : Int)) = false := decide_eq_false hj
            (try have hje : decide (j < e) = false := decide_eq_false (by omega))
            have hfin := Aside0.mk (INV2.out.fin (by rw [HPL.out]; exact hj))
            have hn := Aside0.mk (INV.out.next he (by have := HS.out; have := (cutm_spec HC.out).2.2; rw [bytesOf_len]; omega) (by rw [← HPP.out]; exact hfin.out.1))
            rw [hw] at hn
            clear hj
            go_wp2_with (at_builtin; refine app32 (w := wc) (v := u6) (l := d) (y := x) (by rfl) (by rfl) (by rfl) (by rfl) HO2.out HB2.out (by have h1 := INV.out.2.2.1; have h2 := HS.out; have h3 := (cutm_spec HC.out).2.2; rw [bytesOf_len] at h1; omega) ?_; clear HB HO; intro v1 w1 ho hb; have HO := Aside0.mk ho; have HB := Aside0.mk hb; clear ho hb)
            rw [hfin.out.2, HPP.out] at HO
            go_roundg (e - 9).toNat
            case measure => exact hn.out.1
            case rel => exact ⟨_, _, rfl, ⟨by first | exact hn.out.2 | (rw [hw]; exact hn.out.2)⟩, HO, HB⟩)
        all_goals
         generalize hp : t.extract 0 e.toNat = p
         generalize hn : e.toNat = n
         (all_goals
          have HP : bytesOf p = rpart (bytesOf t) e := by rw [← hp, bytesOf_extract]; unfold rpart; congr 1; omega
          have hpl : (bytesOf p).length = n := by rw [bytesOf_len, ← hp, ByteArray.size_extract]; omega
          have HPL := Aside0.mk hpl
          have HPP := Aside0.mk HP
          have HR := Aside0.mk (bytes_reads wr 5 p (by rw [← bytesOf_len, HP]; have := rpart_len (l := bytesOf t) (e := e); omega))
          have HB2 := Aside0.mk (bytes_below HB.out HB.out.size 5 p)
          have HO2 := Aside0.mk (Kd.R_below HO.out (bytes_below (Below.refl _ _) (Nat.le_refl _) 5 p))
          have E2 := Aside0.mk (E0.out.next HB2.out)
          have RI0 := Aside0.mk (show RdIn (bytesOf p) 0 0 (n + 1) by have := RdIn.start (ck := bytesOf p) (by rw [HP]; exact rpart_len); rwa [hpl] at this)
          have hps : p.size = n := by rw [← bytesOf_len]; exact hpl
          clear HP hpl
          go_loopg [8, 46] (n + 1) (fun kq v8 v46 w' => ∃ (x j : Int), v8 = .int .u32 x ∧ v46 = .int .i64 j ∧ Aside0 (RdIn (bytesOf p) j x kq) ∧ w' = Lib.bytesWorld wr 5 p)
          case atStart => exact ⟨0, 0, rfl, rfl, RI0, rfl⟩
          case round =>
           obtain ⟨x, j, rfl, rfl, INV2, rfl⟩ := hrel
           have j0 : 0 ≤ j := INV2.out.1.1
           by_cases hj : j < (n : Int)
           ·have hjb : decide (j < (n : Int)) = true := decide_eq_true hj
            (try have hje : decide (j < e) = true := decide_eq_true (by omega))
            (try have hje2 : (j < e) = True := eq_true (by omega))
            have cJ : (Lib.bytesWorld wr 5 p).cell? ⟨wr.heap.size, j.toNat, none⟩ = some (.int .u8 (rd (bytesOf p) j)) := by
             obtain ⟨ad, e1, hc⟩ := HR.out.2.2 (by omega)
             cases e1
             have := hc j.toNat (by omega)
             rw [add_plain] at this
             exact this
            have hjl : j < ((bytesOf p).length : Int) := by rw [HPL.out]; exact hj
            have hj3 : (0 ≤ j) = True := eq_true j0
            have hj4 : (j < (n : Int)) = True := eq_true hj
            have HJ := Aside0.mk hjl
            have hxb := Aside0.mk INV2.out.lt
            by_cases hd8 : isd (rd (bytesOf p) j) = true
            ·have hb8 := (isd_iff _).1 hd8
             have hn2 := Aside0.mk (INV2.out.next hjl hd8)
             have d1 : decide (rd (bytesOf p) j < 48) = false := decide_eq_false (by omega)
             have d2 : decide (57 < rd (bytesOf p) j) = false := decide_eq_false (by omega)
             have d3 : (rd (bytesOf p) j - 48) % 256 = rd (bytesOf p) j - 48 := Int.emod_eq_of_lt (by omega) (by omega)
             clear hj hjl hb8
             have d4 : (10 * x % 4294967296 + (rd (bytesOf p) j - 48)) % 4294967296 = 10 * x + (rd (bytesOf p) j - 48) := by have h1 := hxb.out; have h2 := hn2.out.2.lt; omega
             go_wp2
             rw [d4]
             go_roundg ((((bytesOf p).length : Int) - j).toNat)
             case measure => exact hn2.out.1
             case rel => exact ⟨_, _, rfl, rfl, ⟨hn2.out.2⟩, rfl⟩
            ·have hf8 : isd (rd (bytesOf p) j) = false := by simpa using hd8
             have hbp : (bytesOf t).all isd = false := rpart_bad (e := e) j.toNat (by rw [← HPP.out, HPL.out]; omega) (by rw [← HPP.out, show ((j.toNat : Nat) : Int) = j by omega]; exact hf8)
             have hno := Aside0.mk (show int? (bytesOf s) = none by have hs := cutm_spec HC.out; rw [hs.1, int?_cut _ _ hs.2.1, if_neg HG.out, if_neg (by rw [hbp]; decide)])
             have E := E2.out
             have q := E.cls; (repeat obtain ⟨_, _, q⟩ := q); clear q
             clear hj hjl hbp
             by_cases d0 : rd (bytesOf p) j < 48
             ·have d1 : decide (rd (bytesOf p) j < 48) = true := decide_eq_true d0
              clear d0
              go_wp2_with (first | ((with_reducible refine gate_stored (t := 77) (by rfl) ?_); refine st_ (fun ws hs_ => ?_); replace E := Env.pt2 hs_ E; clear hs_; have q := E.cls; (repeat obtain ⟨_, _, q⟩ := q); clear q))
              refine bodyPost_ret (results_list (rs := [.cell _ 77, .tmp _]) rfl (by simp) (.cell _ _ _ (0, 0) _ rfl E.blk Tryz.underlying77 rfl (by kernel_rfl) (.tmp .nil))) rfl ?_
              rw [hno.out]
              exact ⟨E.below, RZ.no⟩
             ·have d1 : decide (rd (bytesOf p) j < 48) = false := decide_eq_false d0
              have d2 : decide (57 < rd (bytesOf p) j) = true := decide_eq_true (by have h := (not_congr (isd_iff (rd (bytesOf p) j))).1 hd8; omega)
              clear d0
              go_wp2_with (first | ((with_reducible refine gate_stored (t := 77) (by rfl) ?_); refine st_ (fun ws hs_ => ?_); replace E := Env.pt2 hs_ E; clear hs_; have q := E.cls; (repeat obtain ⟨_, _, q⟩ := q); clear q))
              refine bodyPost_ret (results_list (rs := [.cell _ 77, .tmp _]) rfl (by simp) (.cell _ _ _ (0, 0) _ rfl E.blk Tryz.underlying77 rfl (by kernel_rfl) (.tmp .nil))) rfl ?_
              rw [hno.out]
              exact ⟨E.below, RZ.no⟩
           ·have hjb : decide (j < (n : Int)) = false := decide_eq_false hj
            (try have hje : decide (j < e) = false := decide_eq_false (by omega))
            have hfin := Aside0.mk (INV2.out.fin (by rw [HPL.out]; exact hj))
            have hn := Aside0.mk (INV.out.next he (by have := HS.out; have := (cutm_spec HC.out).2.2; rw [bytesOf_len]; omega) (by rw [← HPP.out]; exact hfin.out.1))
            rw [hw] at hn
            clear hj
            go_wp2_with (at_builtin; refine app32 (w := wc) (v := u6) (l := d) (y := x) (by rfl) (by rfl) (by rfl) (by rfl) HO2.out HB2.out (by have h1 := INV.out.2.2.1; have h2 := HS.out; have h3 := (cutm_spec HC.out).2.2; rw [bytesOf_len] at h1; omega) ?_; clear HB HO; intro v1 w1 ho hb; have HO := Aside0.mk ho; have HB := Aside0.mk hb; clear ho hb)
            rw [hfin.out.2, HPP.out] at HO
            go_roundg (e - 9).toNat
            case measure => exact hn.out.1
            case rel => exact ⟨_, _, rfl, ⟨by first | exact hn.out.2 | (rw [hw]; exact hn.out.2)⟩, HO, HB⟩)
       ·have f4 : (0 ≤ e - 9) = False := eq_false hm
        have f5 : max 0 (e - 9) = 0 := by omega
        go_wp2
        generalize hp : t.extract 0 e.toNat = p
        generalize hn : e.toNat = n
        (all_goals
          have HP : bytesOf p = rpart (bytesOf t) e := by rw [← hp, bytesOf_extract]; unfold rpart; congr 1; omega
          have hpl : (bytesOf p).length = n := by rw [bytesOf_len, ← hp, ByteArray.size_extract]; omega
          have HPL := Aside0.mk hpl
          have HPP := Aside0.mk HP
          have HR := Aside0.mk (bytes_reads wr 5 p (by rw [← bytesOf_len, HP]; have := rpart_len (l := bytesOf t) (e := e); omega))
          have HB2 := Aside0.mk (bytes_below HB.out HB.out.size 5 p)
          have HO2 := Aside0.mk (Kd.R_below HO.out (bytes_below (Below.refl _ _) (Nat.le_refl _) 5 p))
          have E2 := Aside0.mk (E0.out.next HB2.out)
          have RI0 := Aside0.mk (show RdIn (bytesOf p) 0 0 (n + 1) by have := RdIn.start (ck := bytesOf p) (by rw [HP]; exact rpart_len); rwa [hpl] at this)
          have hps : p.size = n := by rw [← bytesOf_len]; exact hpl
          clear HP hpl
          go_loopg [8, 46] (n + 1) (fun kq v8 v46 w' => ∃ (x j : Int), v8 = .int .u32 x ∧ v46 = .int .i64 j ∧ Aside0 (RdIn (bytesOf p) j x kq) ∧ w' = Lib.bytesWorld wr 5 p)
          case atStart => exact ⟨0, 0, rfl, rfl, RI0, rfl⟩
          case round =>
           obtain ⟨x, j, rfl, rfl, INV2, rfl⟩ := hrel
           have j0 : 0 ≤ j := INV2.out.1.1
           by_cases hj : j < (n : Int)
           ·have hjb : decide (j < (n : Int)) = true := decide_eq_true hj
            (try have hje : decide (j < e) = true := decide_eq_true (by omega))
            (try have hje2 : (j < e) = True := eq_true (by omega))
            have cJ : (Lib.bytesWorld wr 5 p).cell? ⟨wr.heap.size, j.toNat, none⟩ = some (.int .u8 (rd (bytesOf p) j)) := by
             obtain ⟨ad, e1, hc⟩ := HR.out.2.2 (by omega)
             cases e1
             have := hc j.toNat (by omega)
             rw [add_plain] at this
             exact this
            have hjl : j < ((bytesOf p).length : Int) := by rw [HPL.out]; exact hj
            have hj3 : (0 ≤ j) = True := eq_true j0
            have hj4 : (j < (n : Int)) = True := eq_true hj
            have HJ := Aside0.mk hjl
            have hxb := Aside0.mk INV2.out.lt
            by_cases hd8 : isd (rd (bytesOf p) j) = true
            ·have hb8 := (isd_iff _).1 hd8
             have hn2 := Aside0.mk (INV2.out.next hjl hd8)
             have d1 : decide (rd (bytesOf p) j < 48) = false := decide_eq_false (by omega)
             have d2 : decide (57 < rd (bytesOf p) j) = false := decide_eq_false (by omega)
             have d3 : (rd (bytesOf p) j - 48) % 256 = rd (bytesOf p) j - 48 := Int.emod_eq_of_lt (by omega) (by omega)
             clear hj hjl hb8
             have d4 : (10 * x % 4294967296 + (rd (bytesOf p) j - 48)) % 4294967296 = 10 * x + (rd (bytesOf p) j - 48) := by have h1 := hxb.out; have h2 := hn2.out.2.lt; omega
             go_wp2
             rw [d4]
             go_roundg ((((bytesOf p).length : Int) - j).toNat)
             case measure => exact hn2.out.1
             case rel => exact ⟨_, _, rfl, rfl, ⟨hn2.out.2⟩, rfl⟩
            ·have hf8 : isd (rd (bytesOf p) j) = false := by simpa using hd8
             have hbp : (bytesOf t).all isd = false := rpart_bad (e := e) j.toNat (by rw [← HPP.out, HPL.out]; omega) (by rw [← HPP.out, show ((j.toNat : Nat) : Int) = j by omega]; exact hf8)
             have hno := Aside0.mk (show int? (bytesOf s) = none by have hs := cutm_spec HC.out; rw [hs.1, int?_cut _ _ hs.2.1, if_neg HG.out, if_neg (by rw [hbp]; decide)])
             have E := E2.out
             have q := E.cls; (repeat obtain ⟨_, _, q⟩ := q); clear q
             clear hj hjl hbp
             by_cases d0 : rd (bytesOf p) j < 48
             ·have d1 : decide (rd (bytesOf p) j < 48) = true := decide_eq_true d0
              clear d0
              go_wp2_with (first | ((with_reducible refine gate_stored (t := 77) (by rfl) ?_); refine st_ (fun ws hs_ => ?_); replace E := Env.pt2 hs_ E; clear hs_; have q := E.cls; (repeat obtain ⟨_, _, q⟩ := q); clear q))
              refine bodyPost_ret (results_list (rs := [.cell _ 77, .tmp _]) rfl (by simp) (.cell _ _ _ (0, 0) _ rfl E.blk Tryz.underlying77 rfl (by kernel_rfl) (.tmp .nil))) rfl ?_
              rw [hno.out]
              exact ⟨E.below, RZ.no⟩
             ·have d1 : decide (rd (bytesOf p) j < 48) = false := decide_eq_false d0
              have d2 : decide (57 < rd (bytesOf p) j) = true := decide_eq_true (by have h := (not_congr (isd_iff (rd (bytesOf p) j))).1 hd8; omega)
              clear d0
              go_wp2_with (first | ((with_reducible refine gate_stored (t := 77) (by rfl) ?_); refine st_ (fun ws hs_ => ?_); replace E := Env.pt2 hs_ E; clear hs_; have q := E.cls; (repeat obtain ⟨_, _, q⟩ := q); clear q))
              refine bodyPost_ret (results_list (rs := [.cell _ 77, .tmp _]) rfl (by simp) (.cell _ _ _ (0, 0) _ rfl E.blk Tryz.underlying77 rfl (by kernel_rfl) (.tmp .nil))) rfl ?_
              rw [hno.out]
              exact ⟨E.below, RZ.no⟩
           ·have hjb : decide (j < (n : Int)) = false := decide_eq_false hj
            (try have hje : decide (j < e) = false := decide_eq_false (by omega))
            have hfin := Aside0.mk (INV2.out.fin (by rw [HPL.out]; exact hj))
            have hn := Aside0.mk (INV.out.next he (by have := HS.out; have := (cutm_spec HC.out).2.2; rw [bytesOf_len]; omega) (by rw [← HPP.out]; exact hfin.out.1))
            rw [hw] at hn
            clear hj
            go_wp2_with (at_builtin; refine app32 (w := wc) (v := u6) (l := d) (y := x) (by rfl) (by rfl) (by rfl) (by rfl) HO2.out HB2.out (by have h1 := INV.out.2.2.1; have h2 := HS.out; have h3 := (cutm_spec HC.out).2.2; rw [bytesOf_len] at h1; omega) ?_; clear HB HO; intro v1 w1 ho hb; have HO := Aside0.mk ho; have HB := Aside0.mk hb; clear ho hb)
            rw [hfin.out.2, HPP.out] at HO
            go_roundg (e - 9).toNat
            case measure => exact hn.out.1
            case rel => exact ⟨_, _, rfl, ⟨by first | exact hn.out.2 | (rw [hw]; exact hn.out.2)⟩, HO, HB⟩)
      ·have heb : decide (0 < e) = false := decide_eq_false he
       have hfin := Aside0.mk (INV.out.fin he)
       have DD := Dg.of_R HO.out
       obtain ⟨A', c', rfl, h4, h5⟩ := DD
       replace E := E.dg (Dg.of_R HO.out)
       clear h4 h5 he HO INV
       go_wp2_with (first | ((with_reducible refine gate_stored (t := 77) (by rfl) ?_); refine st_ (fun ws hs_ => ?_); replace E := Env.pt2 hs_ E; clear hs_; have q := E.cls; (repeat obtain ⟨_, _, q⟩ := q); clear q) | (go_at_call 153; refine env_call E (signed_calls E.getD hfin.out.2.1) ?_; clear E; rintro e wc E ⟨br, Ar, nr, cr, rfl, hw_⟩; replace E := E.wh hw_; clear hw_; have q := E.cls; (repeat obtain ⟨_, _, q⟩ := q); clear q))
       refine bodyPost_ret (results_list (rs := [.cell _ 77, .tmp _]) rfl (by simp) (.cell _ _ _ (0, 0) _ rfl E.blk Tryz.underlying77 rfl (by kernel_rfl) (.tmp .nil))) rfl ?_
       have hs := cutm_spec HC.out
       rw [hs.1, int?_cut _ _ hs.2.1, if_neg HG.out, if_pos hfin.out.1, ← hfin.out.2.2]
       exact ⟨E.below, _, _, _, _, rfl, E.getW⟩)
end Go.Proofs.YtfmcgammhfdfnaaGreatDoor.PRatio
namespace Go.Proofs.YtfmcgammhfdfnaaGreatDoor.PRatio
open Go.RowKit Go.Proofs.YtfmcgammhfdfnaaGreatDoorW.PrintWords
set_option linter.unusedVariables false
set_option linter.unusedSimpArgs false
theorem ib_cases (l : List UInt8) (c : UInt8) : (Lib.indexByte l c = -1 ∧ c ∉ l) ∨ ∃ i : Nat, Lib.indexByte l c = i ∧ i < l.length ∧ c ∉ l.take i ∧ l[i]? = some c := by
 induction l with
 |nil => exact .inl ⟨rfl, by simp⟩
 |cons b l ih =>
  unfold Lib.indexByte
  by_cases h : b = c
  ·subst h
   exact .inr ⟨0, by simp, by simp, by simp, by simp⟩
  ·have h' : ¬ c = b := fun e => h e.symm
   rcases ih with ⟨e, hm⟩ | ⟨i, e, hi, hm, hx⟩
   ·exact .inl ⟨by simp [h, e], by simp [h', hm]⟩
   ·refine .inr ⟨i + 1, ?_, by simp; omega, by simp [h', hm], by simpa using hx⟩
    rw [e]
    have : ¬ ((i : Int) = -1) := by omega
    simp [h, this]
structure CutAt (s : ByteArray) (c : UInt8) (a b : ByteArray) (f : Bool) : Prop where
 yes : f = true → bytesOf s = bytesOf a ++ (c.toNat : Int) :: bytesOf b
 no : f = false → a = s ∧ b = ⟨#[]⟩ ∧ (c.toNat : Int) ∉ bytesOf s
 out : f = true → (c.toNat : Int) ∉ bytesOf a
theorem mem_bytes {l : List UInt8} {c : UInt8} : (c.toNat : Int) ∈ l.map (fun b => (b.toNat : Int)) ↔ c ∈ l := by
 rw [List.mem_map]
 constructor
 ·rintro ⟨x, hx, e⟩
  have : x = c := UInt8.toNat_inj.1 (by omega)
  exact this ▸ hx
 ·exact fun h => ⟨c, h, rfl⟩
theorem bytesOf_size (s : ByteArray) : (bytesOf s).length = s.size := by
 unfold bytesOf
 rw [List.length_map, Array.length_toList]
 rfl
theorem cutAt_no {s : ByteArray} {c : UInt8} (h : c ∉ s.data.toList) : CutAt s c s ⟨#[]⟩ false := ⟨fun h => (by cases h), fun _ => ⟨rfl, rfl, fun hm => h (mem_bytes.1 hm)⟩, fun h => (by cases h)⟩
theorem cutAt_yes {s : ByteArray} {c : UInt8} {i : Nat} (hi : i < s.data.toList.length) (h : c ∉ s.data.toList.take i) (hx : s.data.toList[i]? = some c) : CutAt s c (s.extract 0 i) (s.extract (i + 1) s.size) true := by
 have e1 : bytesOf (s.extract 0 i) = (bytesOf s).take i := by rw [bytesOf_extract, List.drop_zero]
 have e2 : bytesOf (s.extract (i + 1) s.size) = (bytesOf s).drop (i + 1) := by rw [bytesOf_extract, ← bytesOf_size s, List.take_length]
 refine ⟨fun _ => ?_, fun h => (by cases h), fun _ => ?_⟩
 ·rw [e1, e2]
  have hb : (bytesOf s)[i]? = some (c.toNat : Int) := by
   unfold bytesOf
   rw [List.getElem?_map, hx]
   rfl
  obtain ⟨h1, h2⟩ := List.getElem?_eq_some_iff.1 hb
  rw [← h2, ← List.drop_eq_getElem_cons h1, List.take_append_drop]
 ·rw [e1]
  unfold bytesOf
  rw [← List.map_take]
  exact fun hm => h (mem_bytes.1 hm)
theorem rat?_cut {s a b : ByteArray} {f : Bool} (h : CutAt s 47 a b f) : rat? (bytesOf s) =
  if f = true then (match int? (bytesOf a), int? (bytesOf b) with
   |some n, some d => if n ≠ 0 ∧ 1 < d ∧ n.gcd d = 1 then some (mkRat n d.toNat) else none
   |_, _ => none)
  else (int? (bytesOf a)).map fun z : Int => (z : Rat) := by
 cases f with
 |false =>
  obtain ⟨rfl, rfl, hn⟩ := h.no rfl
  have hn' : (47 : Int) ∉ bytesOf a := hn
  rw [rat?, if_neg hn', if_neg (by decide)]
 |true =>
  have e := h.yes rfl
  have ho := h.out rfl
  have e' : bytesOf s = bytesOf a ++ 47 :: bytesOf b := e
  have ho' : (47 : Int) ∉ bytesOf a := ho
  rw [rat?, e', if_pos (by simp), cut_take ho', cut_drop ho', if_pos rfl]
  rfl
theorem CutAt.size {s : ByteArray} {c : UInt8} {a b : ByteArray} {f : Bool} (h : CutAt s c a b f) : a.size ≤ s.size ∧ b.size ≤ s.size := by
 cases f with
 |false =>
  obtain ⟨rfl, rfl, hn⟩ := h.no rfl
  exact ⟨Nat.le_refl _, Nat.zero_le _⟩
 |true =>
  have := congrArg List.length (h.yes rfl)
  rw [List.length_append, List.length_cons, bytesOf_size, bytesOf_size, bytesOf_size] at this
  omega
theorem cut_uniq {c : Int} : ∀ {a b a' b' : List Int}, c ∉ a → c ∉ a' → a ++ c :: b = a' ++ c :: b' → a = a' ∧ b = b'
 |[], b, [], b', _, _, h => ⟨rfl, by simpa using h⟩
 |[], b, y :: a', b', _, h', h => by simp at h; exact absurd (h.1 ▸ List.mem_cons_self) h'
 |x :: a, b, [], b', h1, _, h => by simp at h; exact absurd (h.1 ▸ List.mem_cons_self) h1
 |x :: a, b, y :: a', b', h1, h2, h => by
  simp at h
  have := cut_uniq (fun hm => h1 (List.mem_cons_of_mem _ hm)) (fun hm => h2 (List.mem_cons_of_mem _ hm)) h.2
  exact ⟨by rw [h.1, this.1], this.2⟩
theorem CutAt.uniq {s : ByteArray} {c : UInt8} {a b a' b' : ByteArray} {f f' : Bool} (h : CutAt s c a b f) (h' : CutAt s c a' b' f') : a = a' ∧ b = b' ∧ f = f' := by
 cases f <;> cases f'
 ·obtain ⟨rfl, rfl, _⟩ := h.no rfl
  obtain ⟨rfl, rfl, _⟩ := h'.no rfl
  exact ⟨rfl, rfl, rfl⟩
 ·have := h'.yes rfl
  exact absurd (by rw [this]; simp) (h.no rfl).2.2
 ·have := h.yes rfl
  exact absurd (by rw [this]; simp) (h'.no rfl).2.2
 ·have := cut_uniq (h.out rfl) (h'.out rfl) ((h.yes rfl).symm.trans (h'.yes rfl))
  exact ⟨bytesOf_inj this.1, bytesOf_inj this.2, rfl⟩
theorem cut_ex (s : ByteArray) (c : UInt8) : ∃ a b f, CutAt s c a b f := by
 rcases ib_cases s.data.toList c with ⟨h, hm⟩ | ⟨i, h, hi, hm, hx⟩
 ·exact ⟨_, _, _, cutAt_no hm⟩
 ·exact ⟨_, _, _, cutAt_yes hi hm hx⟩
end Go.Proofs.YtfmcgammhfdfnaaGreatDoor.PRatio
namespace Go.Proofs.YtfmcgammhfdfnaaGreatDoor.PRatio
open Go.RowKit Go.Proofs.YtfmcgammhfdfnaaGreatDoorW.PrintWords Go.Proofs.YtfmcgammhfdfnaaGreatDoorW.PrintLast Go.Proofs.YtfmcgammhfdfnaaGreatDoorW.PrintMore
set_option linter.unusedVariables false
set_option linter.unusedSimpArgs false
set_option maxHeartbeats 8000000
set_option maxRecDepth 100000
theorem ixb_calls (s : ByteArray) (c : Int) (w : World) : Calls Tryz.prog 193 #[.string s, .int .u8 c] w fun e w' => e = .returned (.int .i64 (Lib.indexByte s.data.toList c.toNat.toUInt8)) ∧ w' = w := by
 go_enter Tryz.func193, Tryz.ntmps193
 go_wp2
 rw [run_callFunc_extern Tryz.func203 (by kernel_rfl) (by kernel_rfl) (by kernel_rfl) (e := Extern.BytealgIndexByte.indexByte) (by kernel_rfl), Lib.run_indexByteString]
 simp only [Result.andThen]
 rw [Oper.upon_value]
 go_wp2
 go_ret
 exact ⟨rfl, rfl⟩
theorem ix_calls (s : ByteArray) (c : UInt8) (w : World) : Calls Tryz.prog 176 #[.string s, .string ⟨#[c]⟩] w fun e w' => e = .returned (.int .i64 (Lib.indexByte s.data.toList c)) ∧ w' = w := by
 go_enter Tryz.func176, Tryz.ntmps176
 go_wp2_with (go_at_call 193; refine (ixb_calls _ _ _).mono ?_; rintro e w' ⟨rfl, rfl⟩)
 ·have h : ([c] == s.toList) = true := by assumption
  go_ret
  refine ⟨?_, rfl⟩
  have e : s.data.toList = [c] := by rw [← Lib.toList_data]; exact (beq_iff_eq.1 h).symm
  rw [e]
  simp [Lib.indexByte]
 ·go_ret
  exact ⟨rfl, rfl⟩
def RC (s : ByteArray) (c : UInt8) (e : Ending) (w' : World) : Prop := ∃ a b f, CutAt s c a b f ∧ e = .returned (.tuple #[.string a, .string b, .bool f])
theorem slcut_calls (W : World) (s : ByteArray) (c : UInt8) (hs : s.size ≤ 9000000000000) : Calls Tryz.prog 144 #[.string s, .string ⟨#[c]⟩] W fun e w' => Below W.heap.size W w' ∧ RC s c e w' := by
 have E := Env.start W
 rcases ib_cases s.data.toList c with ⟨h, hm⟩ | ⟨i, h, hi, hm, hx⟩
 ·go_enter Tryz.func144, Tryz.ntmps144
  go_wp2_with (go_at_call 176; refine (ix_calls _ _ _).mono ?_; rintro e w' ⟨rfl, rfl⟩; rw [h])
  refine bodyPost_ret (results_list (rs := [.tmp _, .tmp _, .tmp _]) rfl (by simp) (.tmp (.tmp (.tmp .nil)))) rfl ?_
  exact ⟨E.below, _, _, _, cutAt_no hm, rfl⟩
 ·have HX := Aside0.mk (cutAt_yes hi hm hx)
  have hi' : i < s.size := by rw [← bytesOf_size]; unfold bytesOf; rw [List.length_map]; exact hi
  have c1 : (0 : Int) ≤ (i : Int) := by omega
  have c2 : ((i : Int) ≤ (s.size : Int)) = True := eq_true (by omega)
  have c3 : (0 : Int) ≤ (i : Int) + 1 := by omega
  have c4 : ((i : Int) + 1 ≤ (s.size : Int)) = True := eq_true (by omega)
  have c5 : wrap64 ((i : Int) + 1) = (i : Int) + 1 := wrap_id (by omega) (by omega)
  have c6 : ((i : Int) + 1).toNat = i + 1 := by omega
  clear hm hx hi hi'
  go_enter Tryz.func144, Tryz.ntmps144
  go_wp2_with (first | (go_at_call 176; refine (ix_calls _ _ _).mono ?_; rintro e w' ⟨rfl, rfl⟩; rw [h]) | (refine start_ (id := 3) (n := 12) (S := fun w' => Cls w' _) (ds := []) (bz 12 0) (by kernel_rfl) rfl rfl E.draw.cls (fun hH => ?_); replace E := E.draw; refine pu_ 0 (some 13) (bz 12 1) ?_; refine pu_ 1 (some 14) (bz 12 3) ?_; refine pu_ 2 (some 15) (bz 12 7) ?_; refine pu_ 3 (some 16) (bz 12 15) ?_; refine pu_ 4 (some 17) (bz 12 31) ?_; refine pu_ 5 (some 18) (bz 12 63) ?_; refine pu_ 6 (some 19) (bz 12 127) ?_; refine pu_ 7 (some 20) (bz 12 255) ?_; refine pu_ 8 (some 21) (bz 12 511) ?_; refine pu_ 9 (some 4) (bz 12 1023) ?_; refine pu_ 10 (some 5) (bz 12 2047) ?_; refine pu_ 11 (some 6) (bz 12 4095) ?_; refine done_ (by kernel_rfl) ?_; all_goals (have q := E.cls; (repeat obtain ⟨_, _, q⟩ := q); clear q)))
  refine bodyPost_ret (results_list (rs := [.tmp _, .tmp _, .tmp _]) rfl (by simp) (.tmp (.tmp (.tmp .nil)))) rfl ?_
  exact ⟨E.below, _, _, _, HX.out, rfl⟩
theorem cut_calls (W : World) (s : ByteArray) (c : UInt8) (hs : s.size ≤ 9000000000000) : Calls Tryz.prog 80 #[.string s, .string ⟨#[c]⟩] W fun e w' => Below W.heap.size W w' ∧ RC s c e w' := by
 have E := Env.start W
 go_enter Tryz.func80, Tryz.ntmps80
 go_wp2_with (go_at_call 144; refine env_call E (slcut_calls _ s c hs) ?_; clear E; rintro e wc E ⟨a, b, f, hc, rfl⟩)
 refine bodyPost_ret (results_list (rs := [.tmp _, .tmp _, .tmp _]) rfl (by simp) (.tmp (.tmp (.tmp .nil)))) rfl ?_
 exact ⟨E.below, _, _, _, hc, rfl⟩
theorem cut_of (W : World) {s a b : ByteArray} {c : UInt8} {f : Bool} (h : CutAt s c a b f) (hs : s.size ≤ 9000000000000) : Calls Tryz.prog 80 #[.string s, .string ⟨#[c]⟩] W fun e w' => Below W.heap.size W w' ∧ e = .returned (.tuple #[.string a, .string b, .bool f]) :=
 (cut_calls W s c hs).mono fun e w' ⟨hb, a', b', f', h', e'⟩ => ⟨hb, by obtain ⟨rfl, rfl, rfl⟩ := h.uniq h'; exact e'⟩
end Go.Proofs.YtfmcgammhfdfnaaGreatDoor.PRatio

