/- Go functions as plain Lean functions, each with a proof that the Go code computes just that, and facts on them; conditions: those that each theorem states. -/
import Derived.Test.YtfmcgammhfdfnaaGreatDoorQExpansions4
import Derived.Shelf.Strings.Trim
import Derived.Shelf.Strings.Repeat
import Derived.Test.YtfmcgammhfdfnaaGreatDoorProg
import Derived.Laws.RangeString
import Derived.Laws.RangeAny
import Derived.LoopTactic
namespace Go.Proofs.YtfmcgammhfdfnaaGreatDoor.PRatio
open Go.RowKit Go.Proofs.YtfmcgammhfdfnaaGreatDoorW.PrintWords Go.Proofs.YtfmcgammhfdfnaaGreatDoorW.PrintLast Go.Proofs.YtfmcgammhfdfnaaGreatDoorW.PrintMore
set_option linter.unusedVariables false
set_option linter.unusedSimpArgs false
set_option maxHeartbeats 8000000
set_option maxRecDepth 100000
theorem lnq_max {x : Rat} (h : Lnq x 112) : Ln ((max x.num.natAbs x.den : Nat) : Int) 112 := by
 rcases Nat.le_total x.num.natAbs x.den with c | c
 ·rw [Nat.max_eq_right c]; exact h.2
 ·rw [Nat.max_eq_left c]; exact ln_abs h.1
theorem max_ln {a b : Nat} (ha : Ln (a : Int) 112) (hb : Ln (b : Int) 112) : Ln ((max a b : Nat) : Int) 112 := by
 rcases Nat.le_total a b with c | c
 ·rw [Nat.max_eq_right c]; exact hb
 ·rw [Nat.max_eq_left c]; exact ha
section
variable {W : World} {b1 b2 b3 b4 : Bool} {A1 A2 A3 A4 : Option Addr} {x1 x2 x3 x4 c1 c2 c3 c4 k : Nat} {x y : Rat}
theorem sp_lnq {b : Option Rat} {q : Rat} (hq : SP x b q) (lx : Lnq x 112) (h : ∀ y, b = some y → x ≤ y) : Lnq q 112 := by
 have := hq.2 x ⟨Rat.le_refl, h⟩
 exact ⟨Nat.le_trans (len_mono this.2) lx.1, Nat.le_trans (len_mono (by rw [Int.natAbs_natCast, Int.natAbs_natCast]; exact this.1)) lx.2⟩
theorem simq_some (h1 : Wh W b1 (.slice A1 x1 c1) x.num) (h2 : Wh W b2 (.slice A2 x2 c2) x.den) (h3 : Wh W b3 (.slice A3 x3 c3) y.num) (h4 : Wh W b4 (.slice A4 x4 c4) y.den) (lx : Lnq x 112) (ly : Lnq y 112) (hx : 0 < x) (hxy : x ≤ y) :
  Calls Tryz.prog 112 #[.agg #[.bool b1, .slice A1 x1 c1, .bool b2, .slice A2 x2 c2], .agg #[.bool b3, .slice A3 x3 c3, .bool b4, .slice A4 x4 c4, .bool false]] W fun e w' => Below W.heap.size W w' ∧ RR (simQ x (some y)) e w' :=
 simplest_some (max_ln (lnq_max lx) (lnq_max ly)) (x.den + y.den) (Nat.le_refl _) h1 h2 h3 h4 ⟨by omega, by omega⟩ ⟨by omega, by omega⟩ hx hxy (simQ_some hx hxy)
theorem simq_none {z z' : Int} (h1 : Wh W b1 (.slice A1 x1 c1) x.num) (h2 : Wh W b2 (.slice A2 x2 c2) x.den) (h3 : Wh W b3 (.slice A3 x3 c3) z) (h4 : Wh W b4 (.slice A4 x4 c4) z') (lx : Lnq x 112) (hx : 0 < x) :
  Calls Tryz.prog 112 #[.agg #[.bool b1, .slice A1 x1 c1, .bool b2, .slice A2 x2 c2], .agg #[.bool b3, .slice A3 x3 c3, .bool b4, .slice A4 x4 c4, .bool true]] W fun e w' => Below W.heap.size W w' ∧ RR (simQ x none) e w' :=
 simplest_none h1 h2 h3 h4 lx hx (simQ_none hx)
theorem qneg (h1 : Wh W b1 (.slice A1 x1 c1) x.num) (h2 : Wh W b2 (.slice A2 x2 c2) x.den) : Calls Tryz.prog 105 #[.agg #[.bool b1, .slice A1 x1 c1, .bool b2, .slice A2 x2 c2]] W fun e w' => Below W.heap.size W w' ∧ RR (-x) e w' := by
 have := rneg_calls h1 h2
 unfold RR
 rwa [Rat.neg_num, Rat.neg_den]
theorem qtext (h1 : Wh W b1 (.slice A1 x1 c1) x.num) (h2 : Wh W b2 (.slice A2 x2 c2) x.den) (lx : Lnq x 300) : Calls Tryz.prog 96 #[.agg #[.bool b1, .slice A1 x1 c1, .bool b2, .slice A2 x2 c2]] W fun e w' => Below W.heap.size W w' ∧ e = .returned (.string (RT x)) :=
 rtext_calls (q := x) h1 h2 rfl (dn_den x) (lx.1.mono (by omega)) ((lx.2.dn (by omega)).mono (by omega))
end
theorem ce_some (p q : Rat) : ce (some p) (some q) = scmp p q := by
 unfold ce ecmp scmp enI enN enD
 simp only [Option.isNone, Option.elim, Bool.and_self, Bool.false_eq_true, if_false, dn_den]
section
variable {W : World} {b1 b2 b3 b4 : Bool} {A1 A2 A3 A4 : Option Addr} {x1 x2 x3 x4 c1 c2 c3 c4 k : Nat} {x y : Rat}
theorem cmp_ss (h3 : Wh W b3 (.slice A3 x3 c3) y.num) (h4 : Wh W b4 (.slice A4 x4 c4) y.den) (h1 : Wh W b1 (.slice A1 x1 c1) x.num) (h2 : Wh W b2 (.slice A2 x2 c2) x.den) (lx : Lnq x 112) (ly : Lnq y 112) :
  Calls Tryz.prog 111 #[.agg #[.bool b3, .slice A3 x3 c3, .bool b4, .slice A4 x4 c4, .bool false], .agg #[.bool b1, .slice A1 x1 c1, .bool b2, .slice A2 x2 c2, .bool false]] W fun e w' => Below W.heap.size W w' ∧ (fun e w' => e = .returned (.int .i64 (scmp y x))) e w' := by
 have := ecmp_calls (i1 := false) (i2 := false) h3 h4 h1 h2 ly.1 ly.2 lx.1 lx.2 (by omega) (by omega)
 have e := ce_some y x
 unfold ce at e
 simp only [enI, enN, enD, Option.isNone, Option.elim] at e
 rwa [e] at this
theorem cmp_ns {z z' n d : Int} (h3 : Wh W b3 (.slice A3 x3 c3) z) (h4 : Wh W b4 (.slice A4 x4 c4) z') (h1 : Wh W b1 (.slice A1 x1 c1) n) (h2 : Wh W b2 (.slice A2 x2 c2) d) (lx : Ln n 112 ∧ Ln d 112) (ly : Ln z 112 ∧ Ln z' 112) :
  Calls Tryz.prog 111 #[.agg #[.bool b3, .slice A3 x3 c3, .bool b4, .slice A4 x4 c4, .bool true], .agg #[.bool b1, .slice A1 x1 c1, .bool b2, .slice A2 x2 c2, .bool false]] W fun e w' => Below W.heap.size W w' ∧ (fun e w' => e = .returned (.int .i64 1)) e w' :=
 ecmp_calls (i1 := true) (i2 := false) h3 h4 h1 h2 ly.1 ly.2 lx.1 lx.2 (by omega) (by omega)
end
def simpS (a b : ByteArray) : ByteArray × Int := match ends2 a b with
 |some (some x, none) => if 0 < x.num then (RT (simQ x none), 0) else (⟨#[48]⟩, 0)
 |some (some x, some y) => if y < x then (⟨#[]⟩, 1) else if 0 < x.num then (RT (simQ x (some y)), 0) else if y.num < 0 then (RT (-simQ (-y) (some (-x))), 0) else (⟨#[48]⟩, 0)
 |_ => (⟨#[]⟩, 1)
theorem simpe_calls (W : World) (a b : ByteArray) (hsa : a.size ≤ 9000000000000) (hsb : b.size ≤ 9000000000000) : Calls Tryz.prog 27 #[.string a, .string b] W fun e w' => Below W.heap.size W w' ∧ e = .returned (.tuple #[.string (simpS a b).1, .int .i64 (simpS a b).2]) := by
 have E := Env.start W
 have HSA := Aside0.mk hsa
 have HSB := Aside0.mk hsb
 unfold simpS
 cases h : ends2 a b with
 |none =>
  have HX := Aside0.mk h
  clear h hsa hsb
  go_enter Tryz.func27, Tryz.ntmps27
  go_wp2_with (first | (go_at_call 110; refine reads_none E HSA.out HSB.out HX.out ?_; clear E; rintro wc E) | (refine start_ (id := 2) (n := 18) (S := fun w' => Cls w' _) (ds := []) (bz 18 0) (by kernel_rfl) rfl rfl E.draw.cls (fun hH => ?_); replace E := E.draw; refine pu_ 0 (some 15) (bz 18 1) ?_; refine pu_ 1 (some 16) (bz 18 3) ?_; refine pu_ 2 (some 17) (bz 18 7) ?_; (first | (refine pu_ 3 (some 18) (bz 18 15) ?_) | (refine po_ 3 (some 18) (bz 18 15) ?_)); (first | (refine pu_ 4 (some 19) (bz 18 31) ?_) | (refine po_ 4 (some 19) (bz 18 31) ?_)); (first | (refine pu_ 5 (some 20) (bz 18 63) ?_) | (refine po_ 5 (some 20) (bz 18 63) ?_)); (first | (refine ta_ 6 (some 21) (bz 18 127) hH ?_) | (refine po_ 6 (some 21) (bz 18 127) ?_)); refine pu_ 7 (some 22) (bz 18 255) ?_; refine pu_ 8 (some 23) (bz 18 511) ?_; (first | (refine pu_ 9 (some 24) (bz 18 1023) ?_) | (refine po_ 9 (some 24) (bz 18 1023) ?_)); (first | (refine pu_ 10 (some 25) (bz 18 2047) ?_) | (refine po_ 10 (some 25) (bz 18 2047) ?_)); (first | (refine pu_ 12 (some 27) (bz 18 6143) ?_) | (refine po_ 12 (some 27) (bz 18 6143) ?_)); (first | (refine pu_ 13 (some 28) (bz 18 14335) ?_) | (refine po_ 13 (some 28) (bz 18 14335) ?_)); (first | (refine ta_ 11 (some 26) (bz 18 16383) hH ?_) | (refine po_ 11 (some 26) (bz 18 16383) ?_)); (first | (refine ta_ 14 (some 29) (bz 18 32767) hH ?_) | (refine po_ 14 (some 29) (bz 18 32767) ?_)); refine on_ 15 (some 30) (bz 18 65535) (fun K hK => ?_); (first | (refine off_ (by rfl) ?_; refine hK.out _ _ E.cls (fun hH => ?_); clear hK K) | (refine gs_ Tryz.func111 ?_; refine env_call E (foo) ?_; clear E; rintro e wc E rfl; refine ⟨_, rfl, ?_⟩; refine hK.out _ _ E.cls (fun hH => ?_); clear hK K)); refine nm_ (some 30) ?_; (first | (refine pu_ 16 (some 31) (bz 18 131071) ?_) | (refine po_ 16 (some 31) (bz 18 131071) ?_)); refine pu_ 17 (some 32) (bz 18 262143) ?_; refine done_ (by kernel_rfl) ?_; all_goals (have q := E.cls; (repeat obtain ⟨_, _, q⟩ := q); clear q)))
  refine bodyPost_ret (results_list (rs := [.tmp _, .tmp _]) rfl (by simp) (.tmp (.tmp .nil))) rfl ?_
  exact ⟨E.below, rfl⟩
 |some p =>
  obtain ⟨x, y⟩ := p
  have HX := Aside0.mk h
  have LX := Aside0.mk (ev_ln (ends2_some h).1)
  have LY := Aside0.mk (ev_ln (ends2_some h).2)
  clear h hsa hsb
  cases x with
  |none =>
   have i1 : enI none = true := rfl
   go_enter Tryz.func27, Tryz.ntmps27
   go_wp2_with (first | (go_at_call 110; refine reads_some E HSA.out HSB.out HX.out ?_; clear E; rintro g cap b1 A1 x1 c1 b2 A2 x2 c2 b3 A3 x3 c3 b4 A4 x4 c4 cs wc E; have q := E.cls; (repeat obtain ⟨_, _, q⟩ := q); clear q) | (refine start_ (id := 2) (n := 18) (S := fun w' => Cls w' _) (ds := []) (bz 18 0) (by kernel_rfl) rfl rfl E.draw.cls (fun hH => ?_); replace E := E.draw; refine pu_ 0 (some 15) (bz 18 1) ?_; refine pu_ 1 (some 16) (bz 18 3) ?_; refine pu_ 2 (some 17) (bz 18 7) ?_; (first | (refine pu_ 3 (some 18) (bz 18 15) ?_) | (refine po_ 3 (some 18) (bz 18 15) ?_)); (first | (refine pu_ 4 (some 19) (bz 18 31) ?_) | (refine po_ 4 (some 19) (bz 18 31) ?_)); (first | (refine pu_ 5 (some 20) (bz 18 63) ?_) | (refine po_ 5 (some 20) (bz 18 63) ?_)); (first | (refine ta_ 6 (some 21) (bz 18 127) hH ?_) | (refine po_ 6 (some 21) (bz 18 127) ?_)); refine pu_ 7 (some 22) (bz 18 255) ?_; refine pu_ 8 (some 23) (bz 18 511) ?_; (first | (refine pu_ 9 (some 24) (bz 18 1023) ?_) | (refine po_ 9 (some 24) (bz 18 1023) ?_)); (first | (refine pu_ 10 (some 25) (bz 18 2047) ?_) | (refine po_ 10 (some 25) (bz 18 2047) ?_)); (first | (refine pu_ 12 (some 27) (bz 18 6143) ?_) | (refine po_ 12 (some 27) (bz 18 6143) ?_)); (first | (refine pu_ 13 (some 28) (bz 18 14335) ?_) | (refine po_ 13 (some 28) (bz 18 14335) ?_)); (first | (refine ta_ 11 (some 26) (bz 18 16383) hH ?_) | (refine po_ 11 (some 26) (bz 18 16383) ?_)); (first | (refine ta_ 14 (some 29) (bz 18 32767) hH ?_) | (refine po_ 14 (some 29) (bz 18 32767) ?_)); refine on_ 15 (some 30) (bz 18 65535) (fun K hK => ?_); (first | (refine off_ (by rfl) ?_; refine hK.out _ _ E.cls (fun hH => ?_); clear hK K) | (refine gs_ Tryz.func111 ?_; refine env_call E (foo) ?_; clear E; rintro e wc E rfl; refine ⟨_, rfl, ?_⟩; refine hK.out _ _ E.cls (fun hH => ?_); clear hK K)); refine nm_ (some 30) ?_; (first | (refine pu_ 16 (some 31) (bz 18 131071) ?_) | (refine po_ 16 (some 31) (bz 18 131071) ?_)); refine pu_ 17 (some 32) (bz 18 262143) ?_; refine done_ (by kernel_rfl) ?_; all_goals (have q := E.cls; (repeat obtain ⟨_, _, q⟩ := q); clear q)))
   refine bodyPost_ret (results_list (rs := [.tmp _, .tmp _]) rfl (by simp) (.tmp (.tmp .nil))) rfl ?_
   exact ⟨E.below, rfl⟩
  |some x =>
   have HLX := Aside0.mk (show Lnq x 112 from LX.out)
   have i1 : enI (some x) = false := rfl
   have hpx : (0 < x) ↔ 0 < x.num := ⟨rnum_pos, fun h => (Rat.lt_iff 0 x).2 (by simpa using h)⟩
   cases y with
   |none =>
    have i2 : enI none = true := rfl
    by_cases h0 : 0 < x.num
    ·have hs : decide (0 < sgnI (enN (some x))) = true := decide_eq_true ((sgnI_pos _).2 h0)
     have HP := Aside0.mk (hpx.2 h0)
     have HLS := Aside0.mk (sp_lnq (simQ_none (hpx.2 h0)) HLX.out (fun y hy => by cases hy))
     simp only [if_pos h0]
     clear h0 hpx
     go_enter Tryz.func27, Tryz.ntmps27
     go_wp2_with (first | (go_at_call 110; refine reads_some E HSA.out HSB.out HX.out ?_; clear E; rintro g cap b1 A1 x1 c1 b2 A2 x2 c2 b3 A3 x3 c3 b4 A4 x4 c4 cs wc E; have q := E.cls; (repeat obtain ⟨_, _, q⟩ := q); clear q) | (refine start_ (id := 2) (n := 18) (S := fun w' => Cls w' _) (ds := []) (bz 18 0) (by kernel_rfl) rfl rfl E.draw.cls (fun hH => ?_); replace E := E.draw; refine pu_ 0 (some 15) (bz 18 1) ?_; refine pu_ 1 (some 16) (bz 18 3) ?_; refine pu_ 2 (some 17) (bz 18 7) ?_; (first | (refine pu_ 3 (some 18) (bz 18 15) ?_) | (refine po_ 3 (some 18) (bz 18 15) ?_)); (first | (refine pu_ 4 (some 19) (bz 18 31) ?_) | (refine po_ 4 (some 19) (bz 18 31) ?_)); (first | (refine pu_ 5 (some 20) (bz 18 63) ?_) | (refine po_ 5 (some 20) (bz 18 63) ?_)); (first | (refine ta_ 6 (some 21) (bz 18 127) hH ?_) | (refine po_ 6 (some 21) (bz 18 127) ?_)); refine pu_ 7 (some 22) (bz 18 255) ?_; refine pu_ 8 (some 23) (bz 18 511) ?_; (first | (refine pu_ 9 (some 24) (bz 18 1023) ?_) | (refine po_ 9 (some 24) (bz 18 1023) ?_)); (first | (refine pu_ 10 (some 25) (bz 18 2047) ?_) | (refine po_ 10 (some 25) (bz 18 2047) ?_)); (first | (refine pu_ 12 (some 27) (bz 18 6143) ?_) | (refine po_ 12 (some 27) (bz 18 6143) ?_)); (first | (refine pu_ 13 (some 28) (bz 18 14335) ?_) | (refine po_ 13 (some 28) (bz 18 14335) ?_)); (first | (refine ta_ 11 (some 26) (bz 18 16383) hH ?_) | (refine po_ 11 (some 26) (bz 18 16383) ?_)); (first | (refine ta_ 14 (some 29) (bz 18 32767) hH ?_) | (refine po_ 14 (some 29) (bz 18 32767) ?_)); refine on_ 15 (some 30) (bz 18 65535) (fun K hK => ?_); (first | (refine off_ (by rfl) ?_; refine hK.out _ _ E.cls (fun hH => ?_); clear hK K) | (refine gs_ Tryz.func111 ?_; refine env_call E (cmp_ns E.getW E.getW E.getW E.getW LX.out LY.out) ?_; clear E; rintro e wc E rfl; refine ⟨_, rfl, ?_⟩; refine hK.out _ _ E.cls (fun hH => ?_); clear hK K)); refine nm_ (some 30) ?_; (first | (refine pu_ 16 (some 31) (bz 18 131071) ?_) | (refine po_ 16 (some 31) (bz 18 131071) ?_)); refine pu_ 17 (some 32) (bz 18 262143) ?_; refine done_ (by kernel_rfl) ?_; all_goals (have q := E.cls; (repeat obtain ⟨_, _, q⟩ := q); clear q)) | (go_at_call 102; refine env_call E (rsign_calls E.getW E.getW) ?_; clear E; rintro e wc E rfl; have q := E.cls; (repeat obtain ⟨_, _, q⟩ := q); clear q) | (refine start_ (id := 5) (n := 11) (S := fun w' => Cls w' _) (ds := []) (bz 11 0) (by kernel_rfl) rfl rfl E.draw.cls (fun hH => ?_); replace E := E.draw; refine pu_ 0 (some 40) (bz 11 1) ?_; refine pu_ 1 (some 41) (bz 11 3) ?_; refine pu_ 2 (some 42) (bz 11 7) ?_; refine pu_ 4 (some 44) (bz 11 23) ?_; refine pu_ 5 (some 45) (bz 11 55) ?_; refine ta_ 3 (some 43) (bz 11 63) hH ?_; refine ta_ 6 (some 46) (bz 11 127) hH ?_; refine on_ 7 (some 47) (bz 11 255) (fun K hK => ?_); refine gs_ Tryz.func112 ?_; refine env_call E (simq_none (x := x) E.getW E.getW E.getW E.getW HLX.out HP.out) ?_; clear E; rintro e wc E ⟨br, Ar, nr, cr, br2, Ar2, nr2, cr2, rfl, hw_, hw2_⟩; replace E := (E.wh hw_).wh hw2_; clear hw_ hw2_; refine ⟨_, rfl, ?_⟩; refine hK.out _ _ E.cls (fun hH => ?_); clear hK K; refine nm_ (some 47) ?_; refine on_ 8 (some 48) (bz 11 511) (fun K hK => ?_); refine gs_ Tryz.func96 ?_; refine env_call E (qtext (x := simQ x none) E.getW E.getW (HLS.out.mono (by omega))) ?_; clear E; rintro e wc E rfl; refine ⟨_, rfl, ?_⟩; refine hK.out _ _ E.cls (fun hH => ?_); clear hK K; refine nm_ (some 48) ?_; refine pu_ 9 (some 4) (bz 11 1023) ?_; refine pu_ 10 (some 5) (bz 11 2047) ?_; refine done_ (by kernel_rfl) ?_; all_goals (have q := E.cls; (repeat obtain ⟨_, _, q⟩ := q); clear q)))
     refine bodyPost_ret (results_list (rs := [.tmp _, .tmp _]) rfl (by simp) (.tmp (.tmp .nil))) rfl ?_
     exact ⟨E.below, rfl⟩
    ·have hs : decide (0 < sgnI (enN (some x))) = false := decide_eq_false (fun h => h0 ((sgnI_pos _).1 h))
     simp only [if_neg h0]
     clear h0 hpx
     go_enter Tryz.func27, Tryz.ntmps27
     go_wp2_with (first | (go_at_call 110; refine reads_some E HSA.out HSB.out HX.out ?_; clear E; rintro g cap b1 A1 x1 c1 b2 A2 x2 c2 b3 A3 x3 c3 b4 A4 x4 c4 cs wc E; have q := E.cls; (repeat obtain ⟨_, _, q⟩ := q); clear q) | (refine start_ (id := 2) (n := 18) (S := fun w' => Cls w' _) (ds := []) (bz 18 0) (by kernel_rfl) rfl rfl E.draw.cls (fun hH => ?_); replace E := E.draw; refine pu_ 0 (some 15) (bz 18 1) ?_; refine pu_ 1 (some 16) (bz 18 3) ?_; refine pu_ 2 (some 17) (bz 18 7) ?_; (first | (refine pu_ 3 (some 18) (bz 18 15) ?_) | (refine po_ 3 (some 18) (bz 18 15) ?_)); (first | (refine pu_ 4 (some 19) (bz 18 31) ?_) | (refine po_ 4 (some 19) (bz 18 31) ?_)); (first | (refine pu_ 5 (some 20) (bz 18 63) ?_) | (refine po_ 5 (some 20) (bz 18 63) ?_)); (first | (refine ta_ 6 (some 21) (bz 18 127) hH ?_) | (refine po_ 6 (some 21) (bz 18 127) ?_)); refine pu_ 7 (some 22) (bz 18 255) ?_; refine pu_ 8 (some 23) (bz 18 511) ?_; (first | (refine pu_ 9 (some 24) (bz 18 1023) ?_) | (refine po_ 9 (some 24) (bz 18 1023) ?_)); (first | (refine pu_ 10 (some 25) (bz 18 2047) ?_) | (refine po_ 10 (some 25) (bz 18 2047) ?_)); (first | (refine pu_ 12 (some 27) (bz 18 6143) ?_) | (refine po_ 12 (some 27) (bz 18 6143) ?_)); (first | (refine pu_ 13 (some 28) (bz 18 14335) ?_) | (refine po_ 13 (some 28) (bz 18 14335) ?_)); (first | (refine ta_ 11 (some 26) (bz 18 16383) hH ?_) | (refine po_ 11 (some 26) (bz 18 16383) ?_)); (first | (refine ta_ 14 (some 29) (bz 18 32767) hH ?_) | (refine po_ 14 (some 29) (bz 18 32767) ?_)); refine on_ 15 (some 30) (bz 18 65535) (fun K hK => ?_); (first | (refine off_ (by rfl) ?_; refine hK.out _ _ E.cls (fun hH => ?_); clear hK K) | (refine gs_ Tryz.func111 ?_; refine env_call E (cmp_ns E.getW E.getW E.getW E.getW LX.out LY.out) ?_; clear E; rintro e wc E rfl; refine ⟨_, rfl, ?_⟩; refine hK.out _ _ E.cls (fun hH => ?_); clear hK K)); refine nm_ (some 30) ?_; (first | (refine pu_ 16 (some 31) (bz 18 131071) ?_) | (refine po_ 16 (some 31) (bz 18 131071) ?_)); refine pu_ 17 (some 32) (bz 18 262143) ?_; refine done_ (by kernel_rfl) ?_; all_goals (have q := E.cls; (repeat obtain ⟨_, _, q⟩ := q); clear q)) | (go_at_call 102; refine env_call E (rsign_calls E.getW E.getW) ?_; clear E; rintro e wc E rfl; have q := E.cls; (repeat obtain ⟨_, _, q⟩ := q); clear q))
     refine bodyPost_ret (results_list (rs := [.tmp _, .tmp _]) rfl (by simp) (.tmp (.tmp .nil))) rfl ?_
     exact ⟨E.below, rfl⟩
   |some y =>
    have HLY := Aside0.mk (show Lnq y 112 from LY.out)
    have i2 : enI (some y) = false := rfl
    by_cases hxy : y < x
    ·have hc : decide (scmp y x < 0) = true := decide_eq_true ((scmp_lt _ _).2 hxy)
     simp only [if_pos hxy]
     clear hxy hpx
     go_enter Tryz.func27, Tryz.ntmps27
     go_wp2_with (first | (go_at_call 110; refine reads_some E HSA.out HSB.out HX.out ?_; clear E; rintro g cap b1 A1 x1 c1 b2 A2 x2 c2 b3 A3 x3 c3 b4 A4 x4 c4 cs wc E; have q := E.cls; (repeat obtain ⟨_, _, q⟩ := q); clear q) | (refine start_ (id := 2) (n := 18) (S := fun w' => Cls w' _) (ds := []) (bz 18 0) (by kernel_rfl) rfl rfl E.draw.cls (fun hH => ?_); replace E := E.draw; refine pu_ 0 (some 15) (bz 18 1) ?_; refine pu_ 1 (some 16) (bz 18 3) ?_; refine pu_ 2 (some 17) (bz 18 7) ?_; (first | (refine pu_ 3 (some 18) (bz 18 15) ?_) | (refine po_ 3 (some 18) (bz 18 15) ?_)); (first | (refine pu_ 4 (some 19) (bz 18 31) ?_) | (refine po_ 4 (some 19) (bz 18 31) ?_)); (first | (refine pu_ 5 (some 20) (bz 18 63) ?_) | (refine po_ 5 (some 20) (bz 18 63) ?_)); (first | (refine ta_ 6 (some 21) (bz 18 127) hH ?_) | (refine po_ 6 (some 21) (bz 18 127) ?_)); refine pu_ 7 (some 22) (bz 18 255) ?_; refine pu_ 8 (some 23) (bz 18 511) ?_; (first | (refine pu_ 9 (some 24) (bz 18 1023) ?_) | (refine po_ 9 (some 24) (bz 18 1023) ?_)); (first | (refine pu_ 10 (some 25) (bz 18 2047) ?_) | (refine po_ 10 (some 25) (bz 18 2047) ?_)); (first | (refine pu_ 12 (some 27) (bz 18 6143) ?_) | (refine po_ 12 (some 27) (bz 18 6143) ?_)); (first | (refine pu_ 13 (some 28) (bz 18 14335) ?_) | (refine po_ 13 (some 28) (bz 18 14335) ?_)); (first | (refine ta_ 11 (some 26) (bz 18 16383) hH ?_) | (refine po_ 11 (some 26) (bz 18 16383) ?_)); (first | (refine ta_ 14 (some 29) (bz 18 32767) hH ?_) | (refine po_ 14 (some 29) (bz 18 32767) ?_)); refine on_ 15 (some 30) (bz 18 65535) (fun K hK => ?_); (first | (refine off_ (by rfl) ?_; refine hK.out _ _ E.cls (fun hH => ?_); clear hK K) | (refine gs_ Tryz.func111 ?_; refine env_call E (cmp_ss (x := x) (y := y) E.getW E.getW E.getW E.getW HLX.out HLY.out) ?_; clear E; rintro e wc E rfl; refine ⟨_, rfl, ?_⟩; refine hK.out _ _ E.cls (fun hH => ?_); clear hK K)); refine nm_ (some 30) ?_; (first | (refine pu_ 16 (some 31) (bz 18 131071) ?_) | (refine po_ 16 (some 31) (bz 18 131071) ?_)); refine pu_ 17 (some 32) (bz 18 262143) ?_; refine done_ (by kernel_rfl) ?_; all_goals (have q := E.cls; (repeat obtain ⟨_, _, q⟩ := q); clear q)))
     refine bodyPost_ret (results_list (rs := [.tmp _, .tmp _]) rfl (by simp) (.tmp (.tmp .nil))) rfl ?_
     exact ⟨E.below, rfl⟩
    ·have hc : decide (scmp y x < 0) = false := decide_eq_false (fun h => hxy ((scmp_lt _ _).1 h))
     have hle : x ≤ y := by grind
     simp only [if_neg hxy]
     clear hxy
     by_cases h0 : 0 < x.num
     ·have hs : decide (0 < sgnI (enN (some x))) = true := decide_eq_true ((sgnI_pos _).2 h0)
      have HP := Aside0.mk (hpx.2 h0)
      have HC := Aside0.mk hle
      have HLS := Aside0.mk (sp_lnq (simQ_some (hpx.2 h0) hle) HLX.out (fun y hy => by cases hy; exact hle))
      simp only [if_pos h0]
      clear h0 hpx hle
      go_enter Tryz.func27, Tryz.ntmps27
      go_wp2_with (first | (go_at_call 110; refine reads_some E HSA.out HSB.out HX.out ?_; clear E; rintro g cap b1 A1 x1 c1 b2 A2 x2 c2 b3 A3 x3 c3 b4 A4 x4 c4 cs wc E; have q := E.cls; (repeat obtain ⟨_, _, q⟩ := q); clear q) | (refine start_ (id := 2) (n := 18) (S := fun w' => Cls w' _) (ds := []) (bz 18 0) (by kernel_rfl) rfl rfl E.draw.cls (fun hH => ?_); replace E := E.draw; refine pu_ 0 (some 15) (bz 18 1) ?_; refine pu_ 1 (some 16) (bz 18 3) ?_; refine pu_ 2 (some 17) (bz 18 7) ?_; (first | (refine pu_ 3 (some 18) (bz 18 15) ?_) | (refine po_ 3 (some 18) (bz 18 15) ?_)); (first | (refine pu_ 4 (some 19) (bz 18 31) ?_) | (refine po_ 4 (some 19) (bz 18 31) ?_)); (first | (refine pu_ 5 (some 20) (bz 18 63) ?_) | (refine po_ 5 (some 20) (bz 18 63) ?_)); (first | (refine ta_ 6 (some 21) (bz 18 127) hH ?_) | (refine po_ 6 (some 21) (bz 18 127) ?_)); refine pu_ 7 (some 22) (bz 18 255) ?_; refine pu_ 8 (some 23) (bz 18 511) ?_; (first | (refine pu_ 9 (some 24) (bz 18 1023) ?_) | (refine po_ 9 (some 24) (bz 18 1023) ?_)); (first | (refine pu_ 10 (some 25) (bz 18 2047) ?_) | (refine po_ 10 (some 25) (bz 18 2047) ?_)); (first | (refine pu_ 12 (some 27) (bz 18 6143) ?_) | (refine po_ 12 (some 27) (bz 18 6143) ?_)); (first | (refine pu_ 13 (some 28) (bz 18 14335) ?_) | (refine po_ 13 (some 28) (bz 18 14335) ?_)); (first | (refine ta_ 11 (some 26) (bz 18 16383) hH ?_) | (refine po_ 11 (some 26) (bz 18 16383) ?_)); (first | (refine ta_ 14 (some 29) (bz 18 32767) hH ?_) | (refine po_ 14 (some 29) (bz 18 32767) ?_)); refine on_ 15 (some 30) (bz 18 65535) (fun K hK => ?_); (first | (refine off_ (by rfl) ?_; refine hK.out _ _ E.cls (fun hH => ?_); clear hK K) | (refine gs_ Tryz.func111 ?_; refine env_call E (cmp_ss (x := x) (y := y) E.getW E.getW E.getW E.getW HLX.out HLY.out) ?_; clear E; rintro e wc E rfl; refine ⟨_, rfl, ?_⟩; refine hK.out _ _ E.cls (fun hH => ?_); clear hK K)); refine nm_ (some 30) ?_; (first | (refine pu_ 16 (some 31) (bz 18 131071) ?_) | (refine po_ 16 (some 31) (bz 18 131071) ?_)); refine pu_ 17 (some 32) (bz 18 262143) ?_; refine done_ (by kernel_rfl) ?_; all_goals (have q := E.cls; (repeat obtain ⟨_, _, q⟩ := q); clear q)) | (go_at_call 102; refine env_call E (rsign_calls E.getW E.getW) ?_; clear E; rintro e wc E rfl; have q := E.cls; (repeat obtain ⟨_, _, q⟩ := q); clear q) | (refine start_ (id := 5) (n := 11) (S := fun w' => Cls w' _) (ds := []) (bz 11 0) (by kernel_rfl) rfl rfl E.draw.cls (fun hH => ?_); replace E := E.draw; refine pu_ 0 (some 40) (bz 11 1) ?_; refine pu_ 1 (some 41) (bz 11 3) ?_; refine pu_ 2 (some 42) (bz 11 7) ?_; refine pu_ 4 (some 44) (bz 11 23) ?_; refine pu_ 5 (some 45) (bz 11 55) ?_; refine ta_ 3 (some 43) (bz 11 63) hH ?_; refine ta_ 6 (some 46) (bz 11 127) hH ?_; refine on_ 7 (some 47) (bz 11 255) (fun K hK => ?_); refine gs_ Tryz.func112 ?_; refine env_call E (simq_some (x := x) (y := y) E.getW E.getW E.getW E.getW HLX.out HLY.out HP.out HC.out) ?_; clear E; rintro e wc E ⟨br, Ar, nr, cr, br2, Ar2, nr2, cr2, rfl, hw_, hw2_⟩; replace E := (E.wh hw_).wh hw2_; clear hw_ hw2_; refine ⟨_, rfl, ?_⟩; refine hK.out _ _ E.cls (fun hH => ?_); clear hK K; refine nm_ (some 47) ?_; refine on_ 8 (some 48) (bz 11 511) (fun K hK => ?_); refine gs_ Tryz.func96 ?_; refine env_call E (qtext (x := simQ x (some y)) E.getW E.getW (HLS.out.mono (by omega))) ?_; clear E; rintro e wc E rfl; refine ⟨_, rfl, ?_⟩; refine hK.out _ _ E.cls (fun hH => ?_); clear hK K; refine nm_ (some 48) ?_; refine pu_ 9 (some 4) (bz 11 1023) ?_; refine pu_ 10 (some 5) (bz 11 2047) ?_; refine done_ (by kernel_rfl) ?_; all_goals (have q := E.cls; (repeat obtain ⟨_, _, q⟩ := q); clear q)))
      refine bodyPost_ret (results_list (rs := [.tmp _, .tmp _]) rfl (by simp) (.tmp (.tmp .nil))) rfl ?_
      exact ⟨E.below, rfl⟩
     ·have hs : decide (0 < sgnI (enN (some x))) = false := decide_eq_false (fun h => h0 ((sgnI_pos _).1 h))
      simp only [if_neg h0]
      by_cases h1 : y.num < 0
      ·have hs2 : decide (sgnI (enN (some y)) < 0) = true := decide_eq_true ((sgnI_neg _).2 h1)
       have hny : 0 < -y := (Rat.lt_iff 0 (-y)).2 (by rw [Rat.neg_num]; simpa using h1)
       have hnn : -y ≤ -x := Rat.neg_le_neg hle
       have HP := Aside0.mk hny
       have HC := Aside0.mk hnn
       have HLS := Aside0.mk (sp_lnq (simQ_some hny hnn) (lnq_neg HLY.out) (fun y hy => by cases hy; exact hnn))
       simp only [if_pos h1]
       clear h0 hpx hle h1 hny hnn
       go_enter Tryz.func27, Tryz.ntmps27
       go_wp2_with (first | (go_at_call 110; refine reads_some E HSA.out HSB.out HX.out ?_; clear E; rintro g cap b1 A1 x1 c1 b2 A2 x2 c2 b3 A3 x3 c3 b4 A4 x4 c4 cs wc E; have q := E.cls; (repeat obtain ⟨_, _, q⟩ := q); clear q) | (refine start_ (id := 2) (n := 18) (S := fun w' => Cls w' _) (ds := []) (bz 18 0) (by kernel_rfl) rfl rfl E.draw.cls (fun hH => ?_); replace E := E.draw; refine pu_ 0 (some 15) (bz 18 1) ?_; refine pu_ 1 (some 16) (bz 18 3) ?_; refine pu_ 2 (some 17) (bz 18 7) ?_; (first | (refine pu_ 3 (some 18) (bz 18 15) ?_) | (refine po_ 3 (some 18) (bz 18 15) ?_)); (first | (refine pu_ 4 (some 19) (bz 18 31) ?_) | (refine po_ 4 (some 19) (bz 18 31) ?_)); (first | (refine pu_ 5 (some 20) (bz 18 63) ?_) | (refine po_ 5 (some 20) (bz 18 63) ?_)); (first | (refine ta_ 6 (some 21) (bz 18 127) hH ?_) | (refine po_ 6 (some 21) (bz 18 127) ?_)); refine pu_ 7 (some 22) (bz 18 255) ?_; refine pu_ 8 (some 23) (bz 18 511) ?_; (first | (refine pu_ 9 (some 24) (bz 18 1023) ?_) | (refine po_ 9 (some 24) (bz 18 1023) ?_)); (first | (refine pu_ 10 (some 25) (bz 18 2047) ?_) | (refine po_ 10 (some 25) (bz 18 2047) ?_)); (first | (refine pu_ 12 (some 27) (bz 18 6143) ?_) | (refine po_ 12 (some 27) (bz 18 6143) ?_)); (first | (refine pu_ 13 (some 28) (bz 18 14335) ?_) | (refine po_ 13 (some 28) (bz 18 14335) ?_)); (first | (refine ta_ 11 (some 26) (bz 18 16383) hH ?_) | (refine po_ 11 (some 26) (bz 18 16383) ?_)); (first | (refine ta_ 14 (some 29) (bz 18 32767) hH ?_) | (refine po_ 14 (some 29) (bz 18 32767) ?_)); refine on_ 15 (some 30) (bz 18 65535) (fun K hK => ?_); (first | (refine off_ (by rfl) ?_; refine hK.out _ _ E.cls (fun hH => ?_); clear hK K) | (refine gs_ Tryz.func111 ?_; refine env_call E (cmp_ss (x := x) (y := y) E.getW E.getW E.getW E.getW HLX.out HLY.out) ?_; clear E; rintro e wc E rfl; refine ⟨_, rfl, ?_⟩; refine hK.out _ _ E.cls (fun hH => ?_); clear hK K)); refine nm_ (some 30) ?_; (first | (refine pu_ 16 (some 31) (bz 18 131071) ?_) | (refine po_ 16 (some 31) (bz 18 131071) ?_)); refine pu_ 17 (some 32) (bz 18 262143) ?_; refine done_ (by kernel_rfl) ?_; all_goals (have q := E.cls; (repeat obtain ⟨_, _, q⟩ := q); clear q)) | (go_at_call 102; refine env_call E (rsign_calls E.getW E.getW) ?_; clear E; rintro e wc E rfl; have q := E.cls; (repeat obtain ⟨_, _, q⟩ := q); clear q) | (refine start_ (id := 7) (n := 16) (S := fun w' => Cls w' _) (ds := []) (bz 16 0) (by kernel_rfl) rfl rfl E.draw.cls (fun hH => ?_); replace E := E.draw; refine pu_ 0 (some 63) (bz 16 1) ?_; refine pu_ 1 (some 64) (bz 16 3) ?_; refine pu_ 2 (some 65) (bz 16 7) ?_; refine pu_ 5 (some 68) (bz 16 39) ?_; refine pu_ 6 (some 69) (bz 16 103) ?_; refine pu_ 7 (some 70) (bz 16 231) ?_; refine ta_ 3 (some 66) (bz 16 239) hH ?_; refine ta_ 8 (some 71) (bz 16 495) hH ?_; refine on_ 4 (some 67) (bz 16 511) (fun K hK => ?_); refine gs_ Tryz.func105 ?_; refine env_call E (qneg (x := y) E.getW E.getW) ?_; clear E; rintro e wc E ⟨br, Ar, nr, cr, br2, Ar2, nr2, cr2, rfl, hw_, hw2_⟩; replace E := (E.wh hw_).wh hw2_; clear hw_ hw2_; refine ⟨_, rfl, ?_⟩; refine hK.out _ _ E.cls (fun hH => ?_); clear hK K; refine nm_ (some 67) ?_; refine on_ 9 (some 72) (bz 16 1023) (fun K hK => ?_); refine gs_ Tryz.func105 ?_; refine env_call E (qneg (x := x) E.getW E.getW) ?_; clear E; rintro e wc E ⟨br, Ar, nr, cr, br2, Ar2, nr2, cr2, rfl, hw_, hw2_⟩; replace E := (E.wh hw_).wh hw2_; clear hw_ hw2_; refine ⟨_, rfl, ?_⟩; refine hK.out _ _ E.cls (fun hH => ?_); clear hK K; refine nm_ (some 72) ?_; refine pu_ 10 (some 73) (bz 16 2047) ?_; refine on_ 11 (some 74) (bz 16 4095) (fun K hK => ?_); refine gs_ Tryz.func112 ?_; refine env_call E (simq_some (x := -y) (y := -x) E.getW E.getW E.getW E.getW (lnq_neg HLY.out) (lnq_neg HLX.out) HP.out HC.out) ?_; clear E; rintro e wc E ⟨br, Ar, nr, cr, br2, Ar2, nr2, cr2, rfl, hw_, hw2_⟩; replace E := (E.wh hw_).wh hw2_; clear hw_ hw2_; refine ⟨_, rfl, ?_⟩; refine hK.out _ _ E.cls (fun hH => ?_); clear hK K; refine nm_ (some 74) ?_; refine on_ 12 (some 75) (bz 16 8191) (fun K hK => ?_); refine gs_ Tryz.func105 ?_; refine env_call E (qneg (x := simQ (-y) (some (-x))) E.getW E.getW) ?_; clear E; rintro e wc E ⟨br, Ar, nr, cr, br2, Ar2, nr2, cr2, rfl, hw_, hw2_⟩; replace E := (E.wh hw_).wh hw2_; clear hw_ hw2_; refine ⟨_, rfl, ?_⟩; refine hK.out _ _ E.cls (fun hH => ?_); clear hK K; refine nm_ (some 75) ?_; refine on_ 13 (some 76) (bz 16 16383) (fun K hK => ?_); refine gs_ Tryz.func96 ?_; refine env_call E (qtext (x := -simQ (-y) (some (-x))) E.getW E.getW ((lnq_neg HLS.out).mono (by omega))) ?_; clear E; rintro e wc E rfl; refine ⟨_, rfl, ?_⟩; refine hK.out _ _ E.cls (fun hH => ?_); clear hK K; refine nm_ (some 76) ?_; refine pu_ 14 (some 4) (bz 16 32767) ?_; refine pu_ 15 (some 5) (bz 16 65535) ?_; refine done_ (by kernel_rfl) ?_; all_goals (have q := E.cls; (repeat obtain ⟨_, _, q⟩ := q); clear q)))
       refine bodyPost_ret (results_list (rs := [.tmp _, .tmp _]) rfl (by simp) (.tmp (.tmp .nil))) rfl ?_
       exact ⟨E.below, rfl⟩
      ·have hs2 : decide (sgnI (enN (some y)) < 0) = false := decide_eq_false (fun h => h1 ((sgnI_neg _).1 h))
       simp only [if_neg h1]
       clear h0 hpx hle h1
       go_enter Tryz.func27, Tryz.ntmps27
       go_wp2_with (first | (go_at_call 110; refine reads_some E HSA.out HSB.out HX.out ?_; clear E; rintro g cap b1 A1 x1 c1 b2 A2 x2 c2 b3 A3 x3 c3 b4 A4 x4 c4 cs wc E; have q := E.cls; (repeat obtain ⟨_, _, q⟩ := q); clear q) | (refine start_ (id := 2) (n := 18) (S := fun w' => Cls w' _) (ds := []) (bz 18 0) (by kernel_rfl) rfl rfl E.draw.cls (fun hH => ?_); replace E := E.draw; refine pu_ 0 (some 15) (bz 18 1) ?_; refine pu_ 1 (some 16) (bz 18 3) ?_; refine pu_ 2 (some 17) (bz 18 7) ?_; (first | (refine pu_ 3 (some 18) (bz 18 15) ?_) | (refine po_ 3 (some 18) (bz 18 15) ?_)); (first | (refine pu_ 4 (some 19) (bz 18 31) ?_) | (refine po_ 4 (some 19) (bz 18 31) ?_)); (first | (refine pu_ 5 (some 20) (bz 18 63) ?_) | (refine po_ 5 (some 20) (bz 18 63) ?_)); (first | (refine ta_ 6 (some 21) (bz 18 127) hH ?_) | (refine po_ 6 (some 21) (bz 18 127) ?_)); refine pu_ 7 (some 22) (bz 18 255) ?_; refine pu_ 8 (some 23) (bz 18 511) ?_; (first | (refine pu_ 9 (some 24) (bz 18 1023) ?_) | (refine po_ 9 (some 24) (bz 18 1023) ?_)); (first | (refine pu_ 10 (some 25) (bz 18 2047) ?_) | (refine po_ 10 (some 25) (bz 18 2047) ?_)); (first | (refine pu_ 12 (some 27) (bz 18 6143) ?_) | (refine po_ 12 (some 27) (bz 18 6143) ?_)); (first | (refine pu_ 13 (some 28) (bz 18 14335) ?_) | (refine po_ 13 (some 28) (bz 18 14335) ?_)); (first | (refine ta_ 11 (some 26) (bz 18 16383) hH ?_) | (refine po_ 11 (some 26) (bz 18 16383) ?_)); (first | (refine ta_ 14 (some 29) (bz 18 32767) hH ?_) | (refine po_ 14 (some 29) (bz 18 32767) ?_)); refine on_ 15 (some 30) (bz 18 65535) (fun K hK => ?_); (first | (refine off_ (by rfl) ?_; refine hK.out _ _ E.cls (fun hH => ?_); clear hK K) | (refine gs_ Tryz.func111 ?_; refine env_call E (cmp_ss (x := x) (y := y) E.getW E.getW E.getW E.getW HLX.out HLY.out) ?_; clear E; rintro e wc E rfl; refine ⟨_, rfl, ?_⟩; refine hK.out _ _ E.cls (fun hH => ?_); clear hK K)); refine nm_ (some 30) ?_; (first | (refine pu_ 16 (some 31) (bz 18 131071) ?_) | (refine po_ 16 (some 31) (bz 18 131071) ?_)); refine pu_ 17 (some 32) (bz 18 262143) ?_; refine done_ (by kernel_rfl) ?_; all_goals (have q := E.cls; (repeat obtain ⟨_, _, q⟩ := q); clear q)) | (go_at_call 102; refine env_call E (rsign_calls E.getW E.getW) ?_; clear E; rintro e wc E rfl; have q := E.cls; (repeat obtain ⟨_, _, q⟩ := q); clear q))
       refine bodyPost_ret (results_list (rs := [.tmp _, .tmp _]) rfl (by simp) (.tmp (.tmp .nil))) rfl ?_
       exact ⟨E.below, rfl⟩
end Go.Proofs.YtfmcgammhfdfnaaGreatDoor.PRatio
namespace Go.Proofs
open Go.Shelf
def Tryz.lays161_ren : Go.Shelf.Ren := ⟨fun | 161 => 151 | 231 => 181 | 227 => 182 | 233 => 183 | 235 => 184 | 228 => 199 | 197 => 200 | 151 => 201 | 260 => 205 | 152 => 206 | 137 => 207 | 119 => 208 | 224 => 195 | 225 => 194 | 217 => 193 | 266 => 203 | n => n, fun | 9 => 9 | 4 => 4 | 3 => 3 | 5 => 5 | 117 => 171 | 116 => 170 | 0 => 0 | 124 => 174 | 105 => 187 | 21 => 21 | 119 => 193 | 46 => 130 | 139 => 196 | 138 => 195 | n => n, fun | 3 => 1 | 4 => 2 | n => n⟩
theorem Tryz.lays161 : Go.Proofs.Lays.n161 Tryz.prog Tryz.lays161_ren := {
 mixed := by kernel_rfl
 f119 := Tryz.func208.trans (congrArg some (by kernel_rfl))
 f137 := Tryz.func207.trans (congrArg some (by kernel_rfl))
 f151 := Tryz.func201.trans (congrArg some (by kernel_rfl))
 f152 := Tryz.func206.trans (congrArg some (by kernel_rfl))
 f161 := Tryz.func151.trans (congrArg some (by kernel_rfl))
 f197 := Tryz.func200.trans (congrArg some (by kernel_rfl))
 f217 := Tryz.func193.trans (congrArg some (by kernel_rfl))
 f224 := Tryz.func195.trans (congrArg some (by kernel_rfl))
 f225 := Tryz.func194.trans (congrArg some (by kernel_rfl))
 f227 := Tryz.func182.trans (congrArg some (by kernel_rfl))
 f228 := Tryz.func199.trans (congrArg some (by kernel_rfl))
 f231 := Tryz.func181.trans (congrArg some (by kernel_rfl))
 f233 := Tryz.func183.trans (congrArg some (by kernel_rfl))
 f235 := Tryz.func184.trans (congrArg some (by kernel_rfl))
 f260 := Tryz.func205.trans (congrArg some (by kernel_rfl))
 f266 := Tryz.func203.trans (congrArg some (by kernel_rfl))
 t0 := Tryz.underlying0
 a0 := Tryz.isAgg0
 z0 := Tryz.sizeOf0
 v0 := Tryz.zeroValue0
 t3 := Tryz.underlying3
 a3 := Tryz.isAgg3
 z3 := Tryz.sizeOf3
 v3 := Tryz.zeroValue3
 t4 := Tryz.underlying4
 a4 := Tryz.isAgg4
 z4 := Tryz.sizeOf4
 v4 := Tryz.zeroValue4
 t5 := Tryz.underlying5
 a5 := Tryz.isAgg5
 z5 := Tryz.sizeOf5
 v5 := Tryz.zeroValue5
 t9 := Tryz.underlying9
 a9 := Tryz.isAgg9
 z9 := Tryz.sizeOf9
 v9 := Tryz.zeroValue9
 t21 := Tryz.underlying21
 a21 := Tryz.isAgg21
 z21 := Tryz.sizeOf21
 v21 := Tryz.zeroValue21
 t46 := Tryz.underlying130
 a46 := Tryz.isAgg130
 z46 := Tryz.sizeOf130
 v46 := Tryz.zeroValue130
 t105 := Tryz.underlying187
 a105 := Tryz.isAgg187
 z105 := Tryz.sizeOf187
 v105 := Tryz.zeroValue187
 t116 := Tryz.underlying170
 a116 := Tryz.isAgg170
 z116 := Tryz.sizeOf170
 t117 := Tryz.underlying171
 a117 := Tryz.isAgg171
 z117 := Tryz.sizeOf171
 v117 := Tryz.zeroValue171
 t119 := Tryz.underlying193
 a119 := Tryz.isAgg193
 z119 := Tryz.sizeOf193
 t124 := Tryz.underlying174
 a124 := Tryz.isAgg174
 z124 := Tryz.sizeOf174
 v124 := Tryz.zeroValue174
 t138 := Tryz.underlying195
 a138 := Tryz.isAgg195
 z138 := Tryz.sizeOf195
 v138 := Tryz.zeroValue195
 t139 := Tryz.underlying196
 a139 := Tryz.isAgg196
 z139 := Tryz.sizeOf196
 v139 := Tryz.zeroValue196
 g3 := by kernel_rfl
 g4 := by kernel_rfl }
open Go.RowKit in
theorem Tryz.strings_TrimLeft_one (s : ByteArray) (c : UInt8) (hc : c.toNat < 128) (w : World) :
  Calls Tryz.prog 151 #[.string s, .string ⟨#[c]⟩] w fun e w' => e = .returned (.string ⟨(Lib.trimLeftB s.data.toList c).toArray⟩) ∧ w' = w := Any.strings_TrimLeft_one Tryz.lays161 s c hc w
def Tryz.lays105_ren : Go.Shelf.Ren := ⟨fun | 105 => 81 | 212 => 145 | 99 => 146 | 165 => 147 | 166 => 148 | 170 => 149 | 169 => 150 | 263 => 177 | 264 => 178 | 206 => 175 | 240 => 179 | 241 => 180 | 276 => 197 | 277 => 198 | n => n, fun | 9 => 9 | 3 => 3 | 4 => 4 | 20 => 20 | 0 => 0 | 46 => 130 | 109 => 131 | 5 => 5 | 72 => 135 | 76 => 139 | 51 => 145 | 146 => 163 | 53 => 160 | 148 => 165 | 70 => 133 | 37 => 129 | 75 => 138 | 127 => 167 | 164 => 183 | 80 => 141 | n => n, fun | n => n⟩
theorem Tryz.lays105 : Go.Proofs.Lays.n105 Tryz.prog Tryz.lays105_ren := {
 mixed := by kernel_rfl
 f99 := Tryz.func146.trans (congrArg some (by kernel_rfl))
 f105 := Tryz.func81.trans (congrArg some (by kernel_rfl))
 f165 := Tryz.func147.trans (congrArg some (by kernel_rfl))
 f166 := Tryz.func148.trans (congrArg some (by kernel_rfl))
 f169 := Tryz.func150.trans (congrArg some (by kernel_rfl))
 f170 := Tryz.func149.trans (congrArg some (by kernel_rfl))
 f206 := Tryz.func175.trans (congrArg some (by kernel_rfl))
 f212 := Tryz.func145.trans (congrArg some (by kernel_rfl))
 f240 := Tryz.func179.trans (congrArg some (by kernel_rfl))
 f241 := Tryz.func180.trans (congrArg some (by kernel_rfl))
 f263 := Tryz.func177.trans (congrArg some (by kernel_rfl))
 f264 := Tryz.func178.trans (congrArg some (by kernel_rfl))
 f276 := Tryz.func197.trans (congrArg some (by kernel_rfl))
 f277 := Tryz.func198.trans (congrArg some (by kernel_rfl))
 t0 := Tryz.underlying0
 a0 := Tryz.isAgg0
 z0 := Tryz.sizeOf0
 v0 := Tryz.zeroValue0
 t3 := Tryz.underlying3
 a3 := Tryz.isAgg3
 z3 := Tryz.sizeOf3
 v3 := Tryz.zeroValue3
 t4 := Tryz.underlying4
 a4 := Tryz.isAgg4
 z4 := Tryz.sizeOf4
 v4 := Tryz.zeroValue4
 t5 := Tryz.underlying5
 a5 := Tryz.isAgg5
 z5 := Tryz.sizeOf5
 v5 := Tryz.zeroValue5
 t9 := Tryz.underlying9
 a9 := Tryz.isAgg9
 z9 := Tryz.sizeOf9
 v9 := Tryz.zeroValue9
 t20 := Tryz.underlying20
 a20 := Tryz.isAgg20
 z20 := Tryz.sizeOf20
 v20 := Tryz.zeroValue20
 t37 := Tryz.underlying129
 a37 := Tryz.isAgg129
 z37 := Tryz.sizeOf129
 v37 := Tryz.zeroValue129
 t46 := Tryz.underlying130
 a46 := Tryz.isAgg130
 z46 := Tryz.sizeOf130
 v46 := Tryz.zeroValue130
 t51 := Tryz.underlying145
 a51 := Tryz.isAgg145
 z51 := Tryz.sizeOf145
 v51 := Tryz.zeroValue145
 t53 := Tryz.underlying160
 a53 := Tryz.isAgg160
 z53 := Tryz.sizeOf160
 v53 := Tryz.zeroValue160
 t70 := Tryz.underlying133
 a70 := Tryz.isAgg133
 z70 := Tryz.sizeOf133
 v70 := Tryz.zeroValue133
 t72 := Tryz.underlying135
 a72 := Tryz.isAgg135
 z72 := Tryz.sizeOf135
 v72 := Tryz.zeroValue135
 t75 := Tryz.underlying138
 a75 := Tryz.isAgg138
 z75 := Tryz.sizeOf138
 v75 := Tryz.zeroValue138
 t76 := Tryz.underlying139
 a76 := Tryz.isAgg139
 z76 := Tryz.sizeOf139
 v76 := Tryz.zeroValue139
 t109 := Tryz.underlying131
 a109 := Tryz.isAgg131
 z109 := Tryz.sizeOf131
 v109 := Tryz.zeroValue131
 t127 := Tryz.underlying167
 a127 := Tryz.isAgg167
 z127 := Tryz.sizeOf167
 v127 := Tryz.zeroValue167
 t146 := Tryz.underlying163
 a146 := Tryz.isAgg163
 z146 := Tryz.sizeOf163
 v146 := Tryz.zeroValue163
 t148 := Tryz.underlying165
 a148 := Tryz.isAgg165
 z148 := Tryz.sizeOf165
 v148 := Tryz.zeroValue165
 t164 := Tryz.underlying183
 a164 := Tryz.isAgg183
 z164 := Tryz.sizeOf183
 v164 := Tryz.zeroValue183 }
theorem Tryz.Builder_Extra_105 : Builder.Extra Tryz.prog Tryz.lays105_ren := {
 sizeBuilder := by kernel_rfl
 liesBuilder := by kernel_rfl
 t5 := Tryz.underlying5
 a5 := Tryz.isAgg5
 z5 := Tryz.sizeOf5
 v5 := Tryz.zeroValue5
 infoByte := by kernel_rfl
 cellsByte := by kernel_rfl
 sizeByte := by kernel_rfl
 neB5 := by decide }
open Go.RowKit Go.Lib in
theorem Tryz.strings_Repeat (s : ByteArray) (c : Nat) (w : World) (hc : c ≤ 9223372036854775807) (hlen : s.size * c ≤ 140737488355328) :
  Calls Tryz.prog 81 #[.string s, .int .i64 c] w fun e w' => e = .returned (.string ⟨(Lib.repeatL s.data.toList c).toArray⟩) ∧ Below w.heap.size w w' := Any.strings_Repeat Tryz.lays105 Tryz.Builder_Extra_105 s c w hc hlen
end Go.Proofs
namespace Go.Proofs.YtfmcgammhfdfnaaGreatDoor.PRatio
open Go.RowKit Go.Proofs.YtfmcgammhfdfnaaGreatDoorW.PrintWords Go.Proofs.YtfmcgammhfdfnaaGreatDoorW.PrintLast Go.Proofs.YtfmcgammhfdfnaaGreatDoorW.PrintMore
set_option linter.unusedVariables false
set_option linter.unusedSimpArgs false
set_option maxHeartbeats 8000000
set_option maxRecDepth 100000
def dgs (s : ByteArray) : Bool := (bytesOf s).all isd && !(bytesOf s).isEmpty
theorem byteAt (s : ByteArray) (i : Nat) (h : i < s.size) : (bytesOf s)[i]? = some ((s[i]'h).toNat : Int) := by
 unfold bytesOf
 rw [List.getElem?_map, Array.getElem?_toList, Array.getElem?_eq_getElem h]
 rfl
theorem all_snoc {s : ByteArray} {i : Nat} (h : i < s.size) (ha : ((bytesOf s).take i).all isd = true) (hd : isd ((s[i]'h).toNat : Int) = true) : ((bytesOf s).take (i + 1)).all isd = true := by
 have hl : i < (bytesOf s).length := by rw [bytesOf_size]; exact h
 have e : (bytesOf s)[i] = ((s[i]'h).toNat : Int) := by
  have := byteAt s i h
  rw [List.getElem?_eq_getElem hl] at this
  exact Option.some.inj this
 rw [List.take_succ_eq_append_getElem hl, List.all_append, ha, e]
 simp [hd]
theorem all_bad {s : ByteArray} {i : Nat} (h : i < s.size) (hd : isd ((s[i]'h).toNat : Int) = false) : (bytesOf s).all isd = false := by
 refine Bool.eq_false_iff.2 fun ha => ?_
 have := List.all_eq_true.1 ha _ (List.mem_of_getElem? (byteAt s i h))
 rw [hd] at this
 cases this
theorem below_iter (w : World) (s : ByteArray) (p : Nat) : Below w.heap.size w (w.iter s p) := below_alloc (Below.refl _ _) _
theorem isdigits_calls (w : World) (s : ByteArray) : Calls Tryz.prog 82 #[.string s] w fun e w' => Below w.heap.size w w' ∧ e = .returned (.bool (dgs s)) := by
 go_enter Tryz.func82, Tryz.ntmps82
 go_wp2
 go_loopw [4] (fun n w' => ∃ pos : Nat, w' = w.iter s pos ∧ Aside0 (((bytesOf s).take pos).all isd = true)) (fun _ w' => s.size - w'.iterPos w.heap.size)
 case atStart => exact ⟨0, rfl, ⟨rfl⟩⟩
 case round =>
  obtain ⟨pos, rfl, INV⟩ := hrel
  by_cases hp : pos < s.size
  ·have hnx : ∀ ty, (Instr.next (.pointer (some ⟨w.heap.size, 0, none⟩)) true ty).run Tryz.prog (w.iter s pos) = _ := fun ty => run_next_any w s pos ty hp
   cases hd : isd ((s[pos]'hp).toNat : Int) with
   |true =>
    have h1 := (isd_iff _).1 hd
    have hdec := decode_ascii s pos hp (by omega)
    have hn := Aside0.mk (all_snoc hp INV.out hd)
    have f1 : decide (((s[pos]'hp).toNat : Int) < 48) = false := decide_eq_false (by omega)
    have f2 : decide (57 < ((s[pos]'hp).toNat : Int)) = false := decide_eq_false (by omega)
    rw [hdec] at hnx
    dsimp only at hnx
    have HP := Aside0.mk hp
    generalize ((s[pos]'hp).toNat : Int) = x at hnx f1 f2
    clear hd h1 hdec hp
    go_wp2
    go_roundw
    case rel => exact ⟨pos + 1, rfl, hn⟩
    case measure =>
     have := HP.out
     simp
     omega
   |false =>
    have hbad := Aside0.mk (all_bad hp hd)
    have hr : ((Utf8.decode s pos).1 : Int) < 48 ∨ (¬ ((Utf8.decode s pos).1 : Int) < 48 ∧ 57 < ((Utf8.decode s pos).1 : Int)) := by
     by_cases ha : (s[pos]'hp).toNat < 128
     ·rw [decode_ascii s pos hp ha]
      have := mt (isd_iff ((s[pos]'hp).toNat : Int)).2 (by rw [hd]; decide)
      show ((s[pos]'hp).toNat : Int) < 48 ∨ _
      omega
     ·have := (decode_high s pos hp (by omega)).1
      omega
    generalize ((Utf8.decode s pos).1 : Int) = x at hnx hr
    generalize pos + (Utf8.decode s pos).2 = p2 at hnx
    clear hd hp
    have e : dgs s = false := by unfold dgs; rw [hbad.out]; rfl
    rcases hr with hr | ⟨hr1, hr2⟩
    ·have f1 : decide (x < 48) = true := decide_eq_true hr
     clear hr
     go_wp2
     go_ret
     exact ⟨below_iter _ _ _, by rw [e]; rfl⟩
    ·have f1 : decide (x < 48) = false := decide_eq_false hr1
     have f2 : decide (57 < x) = true := decide_eq_true hr2
     clear hr1 hr2
     go_wp2
     go_ret
     exact ⟨below_iter _ _ _, by rw [e]; rfl⟩
  ·have hnx : ∀ ty, (Instr.next (.pointer (some ⟨w.heap.size, 0, none⟩)) true ty).run Tryz.prog (w.iter s pos) = _ := fun ty => run_next_end w s pos ty hp
   have hall : (bytesOf s).all isd = true := by have := INV.out; rwa [List.take_of_length_le (by rw [bytesOf_size]; omega)] at this
   have HA := Aside0.mk hall
   have he : dgs s = !s.toList.isEmpty := by
    unfold dgs
    rw [HA.out, Bool.true_and]
    congr 1
    rw [isEmpty_iff, Bool.eq_iff_iff, List.isEmpty_iff_length_eq_zero, bytesOf_size]
    simp
   cases hb : s.toList.isEmpty with
   |true =>
    rw [hb] at he
    clear hp hall
    go_wp2
    go_ret
    exact ⟨below_iter _ _ _, by rw [he]; rfl⟩
   |false =>
    rw [hb] at he
    clear hp hall
    go_wp2
    go_ret
    exact ⟨below_iter _ _ _, by rw [he]; rfl⟩
theorem cont_calls (s : ByteArray) (c : UInt8) (w : World) : Calls Tryz.prog 85 #[.string s, .string ⟨#[c]⟩] w fun e w' => Below w.heap.size w w' ∧ e = .returned (.bool (decide ((c.toNat : Int) ∈ bytesOf s))) := by
 have h : ∀ w, Calls Tryz.prog 152 #[.string s, .string ⟨#[c]⟩] w fun e w' => e = .returned (.int .i64 (Lib.indexByte s.data.toList c)) ∧ w' = w := fun w => by
  go_enter Tryz.func152, Tryz.ntmps152
  go_wp2_with (go_at_call 176; refine (ix_calls _ _ _).mono ?_; rintro e w' ⟨rfl, rfl⟩)
  go_ret
  exact ⟨rfl, rfl⟩
 have hb : decide (0 ≤ Lib.indexByte s.data.toList c) = decide ((c.toNat : Int) ∈ bytesOf s) := by
  have hm : (c.toNat : Int) ∈ bytesOf s ↔ c ∈ s.data.toList := by unfold bytesOf; exact mem_bytes
  rw [decide_eq_decide, hm]
  rcases ib_cases s.data.toList c with ⟨h, hm⟩ | ⟨i, h, hi, hm, hx⟩
  ·rw [h]; exact ⟨fun h => by omega, fun h => absurd h hm⟩
  ·rw [h]; exact ⟨fun _ => List.mem_of_getElem? hx, fun _ => by omega⟩
 go_enter Tryz.func85, Tryz.ntmps85
 go_wp2_with (go_at_call 152; refine (h _).mono ?_; rintro e w' ⟨rfl, rfl⟩)
 go_ret
 exact ⟨Below.refl _ _, by rw [← hb]; rfl⟩
theorem bytes_drop (l : List UInt8) : ∃ k, bytesOf ⟨l.toArray⟩ = List.replicate k 48 ++ bytesOf ⟨(Lib.trimLeftB l 48).toArray⟩ ∧ (bytesOf ⟨(Lib.trimLeftB l 48).toArray⟩).head? ≠ some 48 := by
 induction l with
 |nil => exact ⟨0, by simp [Lib.trimLeftB, bytesOf], by simp [Lib.trimLeftB, bytesOf]⟩
 |cons x l ih =>
  by_cases h : x = 48
  ·subst h
   obtain ⟨k, h1, h2⟩ := ih
   refine ⟨k + 1, ?_, ?_⟩
   ·have e : Lib.trimLeftB (48 :: l) 48 = Lib.trimLeftB l 48 := by simp [Lib.trimLeftB]
    rw [e, List.replicate_succ, List.cons_append, ← h1]
    simp [bytesOf]
   ·have e : Lib.trimLeftB (48 :: l) 48 = Lib.trimLeftB l 48 := by simp [Lib.trimLeftB]
    rw [e]
    exact h2
  ·have e : Lib.trimLeftB (x :: l) 48 = x :: l := by simp [Lib.trimLeftB, h]
   refine ⟨0, by rw [e]; simp, ?_⟩
   rw [e]
   simp only [bytesOf, List.map_cons, List.head?_cons]
   intro hc
   have := Option.some.inj hc
   exact h (UInt8.toNat_inj.1 (by simpa using (by omega : x.toNat = 48)))
theorem tv_zeros (k : Nat) (l : List Int) : tv (List.replicate k 48 ++ l) = tv l := by
 induction k with
 |zero => rfl
 |succ k ih =>
  rw [List.replicate_succ, List.cons_append, show (48 : Int) :: (List.replicate k 48 ++ l) = [48] ++ (List.replicate k 48 ++ l) from rfl, tv_append, ih]
  simp [tv, sub, Ten.val]
theorem trim_calls0 (s : ByteArray) (w : World) : Calls Tryz.prog 151 #[.string s, .string ⟨#[48]⟩] w fun e w' => e = .returned (.string ⟨(Lib.trimLeftB s.data.toList 48).toArray⟩) ∧ w' = w := Tryz.strings_TrimLeft_one s 48 (by decide) w
theorem plain_calls (W : World) (s : ByteArray) (hd : (bytesOf s).all isd = true) (hs : s.size ≤ 9000000000000) : Calls Tryz.prog 83 #[.string s] W fun e w' => Below W.heap.size W w' ∧ RW (tv (bytesOf s)) e w' := by
 have E := Env.start W
 obtain ⟨k, h1, h2⟩ := bytes_drop s.data.toList
 rw [show (⟨s.data.toList.toArray⟩ : ByteArray) = s from rfl] at h1
 obtain ⟨t, ht⟩ : ∃ t : ByteArray, (⟨(Lib.trimLeftB s.data.toList 48).toArray⟩ : ByteArray) = t := ⟨_, rfl⟩
 have HTR := Aside0.mk (fun w => by have := trim_calls0 s w; rw [ht] at this; exact this)
 rw [ht] at h1 h2
 rw [h1, List.all_append, Bool.and_eq_true] at hd
 have hz : tv (bytesOf s) = tv (bytesOf t) := by rw [h1, tv_zeros]
 have hsz : t.size ≤ s.size := by
  have := congrArg List.length h1
  rw [List.length_append, bytesOf_size, bytesOf_size] at this
  omega
 rw [hz]
 cases hb : t.toList.isEmpty with
 |true =>
  have e : bytesOf t = [] := by
   rw [isEmpty_iff] at hb
   exact List.eq_nil_of_length_eq_zero (by rw [bytesOf_size]; exact of_decide_eq_true hb)
  rw [e, tv_nil]
  clear h1 h2 hd hz hsz e ht hs
  go_enter Tryz.func83, Tryz.ntmps83
  go_wp2_with (first | ((with_reducible first | refine gate_box (by rfl) ?_ | refine gate_alloc (by rfl) ?_); refine bx_ E ?_; clear E; intro gb wb E; have q := E.cls; (repeat obtain ⟨_, _, q⟩ := q); clear q) | (go_at_call 151; refine (HTR.out _).mono ?_; rintro e w' ⟨rfl, rfl⟩) | ((with_reducible refine gate_stored (t := 77) (by rfl) ?_); refine st_ (fun ws hs_ => ?_); replace E := Env.pt2 hs_ E; clear hs_; have q := E.cls; (repeat obtain ⟨_, _, q⟩ := q); clear q))
  refine bodyPost_ret (results_single rfl (.cell _ _ _ (0, 0) _ rfl E.blk Tryz.underlying77 rfl (by kernel_rfl) .nil)) rfl ?_
  exact ⟨E.below, RW.mk (Wh.zero _)⟩
 |false =>
  have hne : bytesOf t ≠ [] := fun e => by
   rw [isEmpty_iff] at hb
   have := of_decide_eq_false hb
   rw [← bytesOf_size, e] at this
   exact this rfl
  have hi : int? (bytesOf t) = some (tv (bytesOf t)) := by
   have h45 : (bytesOf t).head? ≠ some 45 := fun h => by
    have := List.all_eq_true.1 hd.2 45 (List.mem_of_head? h)
    revert this
    decide
   have := int?_cut false (bytesOf t) (fun _ => h45)
   rw [if_neg (by decide), List.nil_append, if_neg (fun h => h.elim hne (fun h => h2 h.1)), if_pos hd.2] at this
   exact this
  have HI := Aside0.mk hi
  have HS := Aside0.mk (show t.size ≤ 9000000000000 by omega)
  clear h1 h2 hd hz hsz hne hi hs ht
  go_enter Tryz.func83, Tryz.ntmps83
  go_wp2_with (first | ((with_reducible first | refine gate_box (by rfl) ?_ | refine gate_alloc (by rfl) ?_); refine bx_ E ?_; clear E; intro gb wb E; have q := E.cls; (repeat obtain ⟨_, _, q⟩ := q); clear q) | (go_at_call 151; refine (HTR.out _).mono ?_; rintro e w' ⟨rfl, rfl⟩) | (go_at_call 95; refine env_call E (read_some _ HI.out HS.out) ?_; clear E; rintro e wc E ⟨br, Ar, nr, cr, rfl, hw_⟩; replace E := E.wh hw_; clear hw_; have q := E.cls; (repeat obtain ⟨_, _, q⟩ := q); clear q) | ((with_reducible refine gate_stored (t := 77) (by rfl) ?_); refine st_ (fun ws hs_ => ?_); replace E := Env.pt2 hs_ E; clear hs_; have q := E.cls; (repeat obtain ⟨_, _, q⟩ := q); clear q))
  refine bodyPost_ret (results_single rfl (.cell _ _ _ (0, 0) _ rfl E.blk Tryz.underlying77 rfl (by kernel_rfl) .nil)) rfl ?_
  exact ⟨E.below, RW.mk E.getW⟩
def dgl (l : List Int) : Bool := l.all isd && !l.isEmpty
def parL (l : List Int) : Except Int (Int × Int) :=
 if (46 : Int) ∈ l then
  (if dgl (l.takeWhile (· != 46)) = true ∧ dgl (l.dropWhile (· != 46)).tail = true then .ok (tv (l.takeWhile (· != 46) ++ (l.dropWhile (· != 46)).tail), 10 ^ (l.dropWhile (· != 46)).tail.length) else .error 2)
 else if (47 : Int) ∈ l then
  (if dgl (l.takeWhile (· != 47)) = true ∧ dgl (l.dropWhile (· != 47)).tail = true then (if tv (l.dropWhile (· != 47)).tail = 0 then .error 9 else .ok (tv (l.takeWhile (· != 47)), tv (l.dropWhile (· != 47)).tail)) else .error 2)
 else if dgl l = true then .ok (tv l, 1) else .error 2
def parS (s : ByteArray) : ByteArray × Int := if 4000 < s.size then (⟨#[]⟩, 3) else
 match parL (bytesOf (cutm s).1) with
 |.error c => (⟨#[]⟩, c)
 |.ok p => res (Rat.divInt (if (cutm s).2 = true then -p.1 else p.1) p.2)
theorem cutat_list {c : Int} {a b : List Int} (h : c ∉ a) : (a ++ c :: b).takeWhile (· != c) = a ∧ ((a ++ c :: b).dropWhile (· != c)).tail = b := by
 constructor
 ·rw [List.takeWhile_append_of_pos (fun x hx => by simp; rintro rfl; exact h hx)]
  simp
 ·rw [List.dropWhile_append_of_pos (fun x hx => by simp; rintro rfl; exact h hx)]
  simp
theorem parL_dot {r h t : ByteArray} (hc : CutAt r 46 h t true) : parL (bytesOf r) = if dgs h = true ∧ dgs t = true then .ok (tv (bytesOf h ++ bytesOf t), 10 ^ t.size) else .error 2 := by
 have e : bytesOf r = bytesOf h ++ 46 :: bytesOf t := hc.yes rfl
 have ho : (46 : Int) ∉ bytesOf h := hc.out rfl
 unfold parL
 rw [e, if_pos (by simp), (cutat_list ho).1, (cutat_list ho).2, bytesOf_size]
 rfl
theorem parL_slash {r h t x y : ByteArray} (hd : CutAt r 46 x y false) (hc : CutAt r 47 h t true) : parL (bytesOf r) = if dgs h = true ∧ dgs t = true then (if tv (bytesOf t) = 0 then .error 9 else .ok (tv (bytesOf h), tv (bytesOf t))) else .error 2 := by
 have hn : (46 : Int) ∉ bytesOf r := (hd.no rfl).2.2
 have e : bytesOf r = bytesOf h ++ 47 :: bytesOf t := hc.yes rfl
 have ho : (47 : Int) ∉ bytesOf h := hc.out rfl
 unfold parL
 rw [if_neg hn, e, if_pos (by simp), (cutat_list ho).1, (cutat_list ho).2]
 rfl
theorem parL_int {r h t x y : ByteArray} (hd : CutAt r 46 x y false) (hc : CutAt r 47 h t false) : parL (bytesOf r) = if dgs r = true then .ok (tv (bytesOf r), 1) else .error 2 := by
 have hn : (46 : Int) ∉ bytesOf r := (hd.no rfl).2.2
 have hn' : (47 : Int) ∉ bytesOf r := (hc.no rfl).2.2
 unfold parL
 rw [if_neg hn, if_neg hn']
 rfl
section
variable {W : World} {s : ByteArray}
theorem dgs_of {b : Bool} (h : dgs s = b) : Calls Tryz.prog 82 #[.string s] W fun e w' => Below W.heap.size W w' ∧ (fun e w' => e = .returned (.bool b)) e w' := h ▸ isdigits_calls W s
theorem plain_of {z : Int} (hd : (bytesOf s).all isd = true) (hz : tv (bytesOf s) = z) (hs : s.size ≤ 9000000000000) : Calls Tryz.prog 83 #[.string s] W fun e w' => Below W.heap.size W w' ∧ RW z e w' := hz ▸ plain_calls W s hd hs
theorem cont_of {b : Bool} (h : decide ((46 : Int) ∈ bytesOf s) = b) : Calls Tryz.prog 85 #[.string s, .string ⟨#[46]⟩] W fun e w' => Below W.heap.size W w' ∧ (fun e w' => e = .returned (.bool b)) e w' := by
 have := cont_calls s 46 W
 subst h
 exact this
theorem rep_of {k : Nat} {z : ByteArray} (hz : (⟨(Lib.repeatL [48] k).toArray⟩ : ByteArray) = z) (hk : k ≤ 4000) : Calls Tryz.prog 81 #[.string ⟨#[48]⟩, .int .i64 k] W fun e w' => Below W.heap.size W w' ∧ (fun e w' => e = .returned (.string z)) e w' := by
 have := Tryz.strings_Repeat ⟨#[48]⟩ k W (by omega) (by show 1 * k ≤ _; omega)
 subst hz
 exact this.mono fun e w' h => ⟨h.2, h.1⟩
end
theorem repL_bytes (k : Nat) : bytesOf ⟨(Lib.repeatL [48] k).toArray⟩ = List.replicate k 48 := by
 induction k with
 |zero => rfl
 |succ k ih =>
  rw [List.replicate_succ, ← ih]
  simp [bytesOf, Lib.repeatL]
theorem one_zeros (k : Nat) : tv (bytesOf (⟨#[49]⟩ ++ ⟨(Lib.repeatL [48] k).toArray⟩)) = 10 ^ k ∧ (bytesOf (⟨#[49]⟩ ++ ⟨(Lib.repeatL [48] k).toArray⟩)).all isd = true := by
 have e1 : bytesOf ⟨#[49]⟩ = [49] := rfl
 rw [bytesOf_append, repL_bytes, e1, tv_append, List.length_replicate]
 have e2 : tv (List.replicate k 48) = 0 := by have := tv_zeros k []; rw [List.append_nil] at this; rw [this]; rfl
 have e3 : tv [49] = 1 := by decide
 rw [e2, e3]
 refine ⟨by omega, ?_⟩
 rw [List.all_append, Bool.and_eq_true]
 exact ⟨by decide, List.all_eq_true.2 fun x hx => by rw [List.eq_of_mem_replicate hx]; decide⟩
theorem tv_ln {l : List Int} (h : l.all isd = true) (hl : l.length ≤ 9000) : Ln (tv l) 1000 := by
 have h1 := tv_lim h
 have h2 : (tv l).natAbs < 10 ^ l.length := by
  have e : ((10 ^ l.length : Nat) : Int) = 10 ^ l.length := by rw [Int.natCast_pow]; rfl
  have := h1.2
  rw [← e] at this
  omega
 have h3 := (nd_le l.length (tv l).natAbs).2 h2
 exact (ln_nd (k := 9000) (by omega)).mono (by omega)
theorem dgs_all {s : ByteArray} (h : dgs s = true) : (bytesOf s).all isd = true := by
 unfold dgs at h
 rw [Bool.and_eq_true] at h
 exact h.1
theorem dgs_pos {s : ByteArray} (h : dgs s = true) : 0 < s.size := by
 unfold dgs at h
 rw [Bool.and_eq_true] at h
 have := h.2
 rw [← bytesOf_size]
 cases hb : bytesOf s with
 |nil => rw [hb] at this; cases this
 |cons a l => simp
theorem parse_calls (W : World) (s : ByteArray) (hs : s.size ≤ 9223372036854775807) : Calls Tryz.prog 13 #[.string s] W fun e w' => Below W.heap.size W w' ∧ e = .returned (.tuple #[.string (parS s).1, .int .i64 (parS s).2]) := by
 have E := Env.start W
 by_cases hl : 4000 < s.size
 ·have hb : decide ((4000 : Int) < (s.size : Int)) = true := decide_eq_true (by omega)
  have e : parS s = (⟨#[]⟩, 3) := if_pos hl
  rw [e]
  clear hl e hs
  go_enter Tryz.func13, Tryz.ntmps13
  go_wp2
  refine bodyPost_ret (results_list (rs := [.tmp _, .tmp _]) rfl (by simp) (.tmp (.tmp .nil))) rfl ?_
  exact ⟨E.below, rfl⟩
 have hlb : decide ((4000 : Int) < (s.size : Int)) = false := decide_eq_false (by omega)
 obtain ⟨r, mi, hc⟩ : ∃ r mi, cutm s = (r, mi) := ⟨_, _, rfl⟩
 have e : parS s = match parL (bytesOf r) with | .error c => (⟨#[]⟩, c) | .ok p => res (Rat.divInt (if mi = true then -p.1 else p.1) p.2) := by
  unfold parS
  rw [if_neg hl, hc]
 rw [e]
 have hrs := (cutm_spec hc).2.2
 have HC := Aside0.mk hc
 have HRS := Aside0.mk (show r.size ≤ 9000000000000 by omega)
 have HR4 := Aside0.mk (show r.size ≤ 4000 by omega)
 clear hl e hc hrs hs
 obtain ⟨F, hF⟩ : ∃ F : UInt8 → ByteArray × ByteArray × Bool, ∀ c, CutAt r c (F c).1 (F c).2.1 (F c).2.2 := Classical.axiomOfChoice (r := fun (c : UInt8) (p : ByteArray × ByteArray × Bool) => CutAt r c p.1 p.2.1 p.2.2) fun c => by
  obtain ⟨a, b, f, h⟩ := cut_ex r c
  exact ⟨(a, b, f), h⟩
 have HF := Aside0.mk hF
 obtain ⟨x, y, fd, h46⟩ : ∃ x y f, F 46 = (x, y, f) := ⟨_, _, _, rfl⟩
 have hd : CutAt r 46 x y fd := by have := hF 46; rw [h46] at this; exact this
 have HD := Aside0.mk hd
 have F46 := Aside0.mk h46
 clear h46
 cases fd with
 |true =>
  rw [parL_dot hd]
  have hxy := hd.size
  obtain ⟨z, hz⟩ : ∃ z : ByteArray, (⟨(Lib.repeatL [48] y.size).toArray⟩ : ByteArray) = z := ⟨_, rfl⟩
  obtain ⟨bl, hbl⟩ : ∃ bl : ByteArray, (⟨#[49]⟩ ++ z : ByteArray) = bl := ⟨_, rfl⟩
  obtain ⟨xy, hxyc⟩ : ∃ xy : ByteArray, x ++ y = xy := ⟨_, rfl⟩
  have hzs : z.size = y.size := by rw [← bytesOf_size, ← hz, repL_bytes, List.length_replicate]
  have HZ := Aside0.mk hz
  have HK := Aside0.mk (show y.size ≤ 4000 by have := HR4.out; omega)
  have hsz1 : (9223372036854775807 < 1 + z.size) = False := eq_false (by have := HK.out; omega)
  have hsz2 : (9223372036854775807 < x.size + y.size) = False := eq_false (by have := HR4.out; omega)
  have h1z := one_zeros y.size
  rw [hz, hbl] at h1z
  clear hd hF
  cases hx : dgs x with
  |false =>
   have HX := Aside0.mk hx
   rw [if_neg (fun h => by cases h.1)]
   clear hx hxy hz hzs h1z
   show Calls Tryz.prog 13 #[Value.string s] W fun e w' => Below W.heap.size W w' ∧ e = .returned (.tuple #[.string ⟨#[]⟩, .int .i64 2])
   go_enter Tryz.func13, Tryz.ntmps13
   go_wp2_with (first | ((with_reducible first | refine gate_box (by rfl) ?_ | refine gate_alloc (by rfl) ?_); refine bx_ E ?_; clear E; intro gb wb E; have q := E.cls; (repeat obtain ⟨_, _, q⟩ := q); clear q) | ((with_reducible refine gate_stored (t := 77) (by rfl) ?_); refine st_ (fun ws hs_ => ?_); replace E := Env.pt2 hs_ E; clear hs_; have q := E.cls; (repeat obtain ⟨_, _, q⟩ := q); clear q) | (go_at_call 79; refine env_call E (cutp_calls _ s) ?_; clear E; rintro e wc E rfl; rw [HC.out]; have q := E.cls; (repeat obtain ⟨_, _, q⟩ := q); clear q) | (go_at_call 80; refine env_call E (cut_of _ (HF.out _) HRS.out) ?_; clear E; rintro e wc E rfl; rw [F46.out]; dsimp only; have q := E.cls; (repeat obtain ⟨_, _, q⟩ := q); clear q) | (go_at_call 81; refine env_call E (rep_of (k := y.size) HZ.out HK.out) ?_; clear E; rintro e wc E rfl; have q := E.cls; (repeat obtain ⟨_, _, q⟩ := q); clear q) | (go_at_call 82; refine env_call E (dgs_of HX.out) ?_; clear E; rintro e wc E rfl; have q := E.cls; (repeat obtain ⟨_, _, q⟩ := q); clear q))
   refine bodyPost_ret (results_list (rs := [.tmp _, .tmp _]) rfl (by simp) (.tmp (.tmp .nil))) rfl ?_
   exact ⟨E.below, rfl⟩
  |true =>
   cases hy : dgs y with
   |false =>
    have HX := Aside0.mk hx
    have HY := Aside0.mk hy
    rw [if_neg (fun h => by cases h.2)]
    clear hx hy hxy hz hzs h1z
    show Calls Tryz.prog 13 #[Value.string s] W fun e w' => Below W.heap.size W w' ∧ e = .returned (.tuple #[.string ⟨#[]⟩, .int .i64 2])
    go_enter Tryz.func13, Tryz.ntmps13
    go_wp2_with (first | ((with_reducible first | refine gate_box (by rfl) ?_ | refine gate_alloc (by rfl) ?_); refine bx_ E ?_; clear E; intro gb wb E; have q := E.cls; (repeat obtain ⟨_, _, q⟩ := q); clear q) | ((with_reducible refine gate_stored (t := 77) (by rfl) ?_); refine st_ (fun ws hs_ => ?_); replace E := Env.pt2 hs_ E; clear hs_; have q := E.cls; (repeat obtain ⟨_, _, q⟩ := q); clear q) | (go_at_call 79; refine env_call E (cutp_calls _ s) ?_; clear E; rintro e wc E rfl; rw [HC.out]; have q := E.cls; (repeat obtain ⟨_, _, q⟩ := q); clear q) | (go_at_call 80; refine env_call E (cut_of _ (HF.out _) HRS.out) ?_; clear E; rintro e wc E rfl; rw [F46.out]; dsimp only; have q := E.cls; (repeat obtain ⟨_, _, q⟩ := q); clear q) | (go_at_call 81; refine env_call E (rep_of (k := y.size) HZ.out HK.out) ?_; clear E; rintro e wc E rfl; have q := E.cls; (repeat obtain ⟨_, _, q⟩ := q); clear q) | (go_at_call 82; refine env_call E (dgs_of HX.out) ?_; clear E; rintro e wc E rfl; have q := E.cls; (repeat obtain ⟨_, _, q⟩ := q); clear q) | (go_at_call 82; refine env_call E (dgs_of HY.out) ?_; clear E; rintro e wc E rfl; have q := E.cls; (repeat obtain ⟨_, _, q⟩ := q); clear q))
    refine bodyPost_ret (results_list (rs := [.tmp _, .tmp _]) rfl (by simp) (.tmp (.tmp .nil))) rfl ?_
    exact ⟨E.below, rfl⟩
   |true =>
    have HX := Aside0.mk hx
    have HY := Aside0.mk hy
    rw [if_pos ⟨rfl, rfl⟩]
    obtain ⟨nn, hn⟩ : ∃ n, tv (bytesOf xy) = n := ⟨_, rfl⟩
    obtain ⟨nx, hnx⟩ : ∃ n, tv (bytesOf x) = n := ⟨_, rfl⟩
    obtain ⟨dd, hdd⟩ : ∃ d : Int, 10 ^ y.size = d := ⟨_, rfl⟩
    have hall : (bytesOf xy).all isd = true := by rw [← hxyc, bytesOf_append, List.all_append, dgs_all hx, dgs_all hy]; rfl
    rw [← bytesOf_append, hxyc, hn, hdd]
    have PX := Aside0.mk (show (bytesOf x).all isd = true ∧ tv (bytesOf x) = nx ∧ x.size ≤ 9000000000000 from ⟨dgs_all hx, hnx, by have := HR4.out; omega⟩)
    have PXY := Aside0.mk (show (bytesOf xy).all isd = true ∧ tv (bytesOf xy) = nn ∧ xy.size ≤ 9000000000000 from ⟨hall, hn, by rw [← hxyc, ByteArray.size_append]; have := HR4.out; omega⟩)
    have hbll : (bytesOf bl).length = 1 + y.size := by rw [← hbl, bytesOf_append, List.length_append, bytesOf_size z, hzs]; rfl
    have PZ := Aside0.mk (show (bytesOf bl).all isd = true ∧ tv (bytesOf bl) = dd ∧ bl.size ≤ 9000000000000 from ⟨h1z.2, h1z.1.trans hdd, by rw [← bytesOf_size, hbll]; have := HR4.out; omega⟩)
    have hp := dgs_pos hy
    have hdp : 0 < dd := by rw [← hdd]; exact Ten.pow_pos _
    have D0 := Aside0.mk (show dd ≠ 0 by omega)
    have hs0 : (sgnI dd == 0) = false := beq_eq_false_iff_ne.mpr (fun h => D0.out ((sgnI_zero _).1 h))
    have hln : decide ((1 : Int) < (bl.size : Int)) = true := decide_eq_true (by rw [← bytesOf_size, hbll]; omega)
    have hln2 : decide ((1 : Int) < ((1 + z.size : Nat) : Int)) = true := decide_eq_true (by omega)
    have hln3 : decide ((1 : Int) < (1 : Int) + (z.size : Int)) = true := decide_eq_true (by omega)
    have CN := Aside0.mk (show decide ((46 : Int) ∈ bytesOf r) = true from decide_eq_true (by rw [HD.out.yes rfl]; simp))
    have LN := Aside0.mk (show Ln nn 1000 by rw [← hn]; exact tv_ln hall (by rw [bytesOf_size, ← hxyc, ByteArray.size_append]; have := HR4.out; omega))
    have LD := Aside0.mk (show Ln dd 1000 by rw [← PZ.out.2.1]; exact tv_ln h1z.2 (by rw [hbll]; have := HR4.out; omega))
    clear hx hy hxy hz hzs h1z hn hdd hall hbll hp hdp hnx
    cases mi with
    |true =>
     have LNN := Aside0.mk (show Ln (-nn) 1000 from LN.out.neg)
     show Calls Tryz.prog 13 #[Value.string s] W fun e w' => Below W.heap.size W w' ∧ e = .returned (.tuple #[.string (res (Rat.divInt (-nn) dd)).1, .int .i64 (res (Rat.divInt (-nn) dd)).2])
     go_enter Tryz.func13, Tryz.ntmps13
     go_wp2_with (first | ((with_reducible first | refine gate_box (by rfl) ?_ | refine gate_alloc (by rfl) ?_); refine bx_ E ?_; clear E; intro gb wb E; have q := E.cls; (repeat obtain ⟨_, _, q⟩ := q); clear q) | ((with_reducible refine gate_stored (t := 77) (by rfl) ?_); refine st_ (fun ws hs_ => ?_); replace E := Env.pt2 hs_ E; clear hs_; have q := E.cls; (repeat obtain ⟨_, _, q⟩ := q); clear q) | (go_at_call 79; refine env_call E (cutp_calls _ s) ?_; clear E; rintro e wc E rfl; rw [HC.out]; have q := E.cls; (repeat obtain ⟨_, _, q⟩ := q); clear q) | (go_at_call 80; refine env_call E (cut_of _ (HF.out _) HRS.out) ?_; clear E; rintro e wc E rfl; rw [F46.out]; dsimp only; have q := E.cls; (repeat obtain ⟨_, _, q⟩ := q); clear q) | (go_at_call 81; refine env_call E (rep_of (k := y.size) HZ.out HK.out) ?_; clear E; rintro e wc E rfl; have q := E.cls; (repeat obtain ⟨_, _, q⟩ := q); clear q) | (go_at_call 82; refine env_call E (dgs_of HX.out) ?_; clear E; rintro e wc E rfl; have q := E.cls; (repeat obtain ⟨_, _, q⟩ := q); clear q) | (go_at_call 82; refine env_call E (dgs_of HY.out) ?_; clear E; rintro e wc E rfl; have q := E.cls; (repeat obtain ⟨_, _, q⟩ := q); clear q) | (go_at_call 83; refine env_call E (plain_of PX.out.1 PX.out.2.1 PX.out.2.2) ?_; clear E; rintro e wc E ⟨br, Ar, nr, cr, rfl, hw_⟩; replace E := E.wh hw_; clear hw_; have q := E.cls; (repeat obtain ⟨_, _, q⟩ := q); clear q) | (go_at_call 83; refine env_call E (plain_of PXY.out.1 PXY.out.2.1 PXY.out.2.2) ?_; clear E; rintro e wc E ⟨br, Ar, nr, cr, rfl, hw_⟩; replace E := E.wh hw_; clear hw_; have q := E.cls; (repeat obtain ⟨_, _, q⟩ := q); clear q) | (go_at_call 83; refine env_call E (plain_of PZ.out.1 PZ.out.2.1 PZ.out.2.2) ?_; clear E; rintro e wc E ⟨br, Ar, nr, cr, rfl, hw_⟩; replace E := E.wh hw_; clear hw_; have q := E.cls; (repeat obtain ⟨_, _, q⟩ := q); clear q) | (go_at_call 84; refine env_call E (sign_calls E.getW) ?_; clear E; rintro e wc E rfl; have q := E.cls; (repeat obtain ⟨_, _, q⟩ := q); clear q) | (go_at_call 85; refine env_call E (cont_of CN.out) ?_; clear E; rintro e wc E rfl; have q := E.cls; (repeat obtain ⟨_, _, q⟩ := q); clear q) | (go_at_call 86; refine env_call E (neg_calls E.getW) ?_; clear E; rintro e wc E ⟨br, Ar, nr, cr, rfl, hw_⟩; replace E := E.wh hw_; clear hw_; have q := E.cls; (repeat obtain ⟨_, _, q⟩ := q); clear q) | (go_at_call 88; refine env_call E (over_calls (m := -nn) (d := dd) E.getW E.getW D0.out (LNN.out.fits (by omega)) (LD.out.fits (by omega))) ?_; clear E; rintro e wc E ⟨br, Ar, nr, cr, br2, Ar2, nr2, cr2, rfl, hw_, hw2_⟩; replace E := (E.wh hw_).wh hw2_; clear hw_ hw2_; have q := E.cls; (repeat obtain ⟨_, _, q⟩ := q); clear q) | (go_at_call 87; refine env_call E (result_calls (q := Rat.divInt (-nn) dd) E.getW E.getW rfl (dn_den _) ((lnq_div LNN.out LD.out (by omega)).1.mono (by omega)) ((lnq_div LNN.out LD.out (by omega)).2.mono (by omega))) ?_; clear E; rintro e wc E rfl; have q := E.cls; (repeat obtain ⟨_, _, q⟩ := q); clear q))
     refine bodyPost_ret (results_list (rs := [.tmp _, .tmp _]) rfl (by simp) (.tmp (.tmp .nil))) rfl ?_
     exact ⟨E.below, rfl⟩
    |false =>
     have LNN := Aside0.mk (show Ln (nn) 1000 from LN.out)
     show Calls Tryz.prog 13 #[Value.string s] W fun e w' => Below W.heap.size W w' ∧ e = .returned (.tuple #[.string (res (Rat.divInt (nn) dd)).1, .int .i64 (res (Rat.divInt (nn) dd)).2])
     go_enter Tryz.func13, Tryz.ntmps13
     go_wp2_with (first | ((with_reducible first | refine gate_box (by rfl) ?_ | refine gate_alloc (by rfl) ?_); refine bx_ E ?_; clear E; intro gb wb E; have q := E.cls; (repeat obtain ⟨_, _, q⟩ := q); clear q) | ((with_reducible refine gate_stored (t := 77) (by rfl) ?_); refine st_ (fun ws hs_ => ?_); replace E := Env.pt2 hs_ E; clear hs_; have q := E.cls; (repeat obtain ⟨_, _, q⟩ := q); clear q) | (go_at_call 79; refine env_call E (cutp_calls _ s) ?_; clear E; rintro e wc E rfl; rw [HC.out]; have q := E.cls; (repeat obtain ⟨_, _, q⟩ := q); clear q) | (go_at_call 80; refine env_call E (cut_of _ (HF.out _) HRS.out) ?_; clear E; rintro e wc E rfl; rw [F46.out]; dsimp only; have q := E.cls; (repeat obtain ⟨_, _, q⟩ := q); clear q) | (go_at_call 81; refine env_call E (rep_of (k := y.size) HZ.out HK.out) ?_; clear E; rintro e wc E rfl; have q := E.cls; (repeat obtain ⟨_, _, q⟩ := q); clear q) | (go_at_call 82; refine env_call E (dgs_of HX.out) ?_; clear E; rintro e wc E rfl; have q := E.cls; (repeat obtain ⟨_, _, q⟩ := q); clear q) | (go_at_call 82; refine env_call E (dgs_of HY.out) ?_; clear E; rintro e wc E rfl; have q := E.cls; (repeat obtain ⟨_, _, q⟩ := q); clear q) | (go_at_call 83; refine env_call E (plain_of PX.out.1 PX.out.2.1 PX.out.2.2) ?_; clear E; rintro e wc E ⟨br, Ar, nr, cr, rfl, hw_⟩; replace E := E.wh hw_; clear hw_; have q := E.cls; (repeat obtain ⟨_, _, q⟩ := q); clear q) | (go_at_call 83; refine env_call E (plain_of PXY.out.1 PXY.out.2.1 PXY.out.2.2) ?_; clear E; rintro e wc E ⟨br, Ar, nr, cr, rfl, hw_⟩; replace E := E.wh hw_; clear hw_; have q := E.cls; (repeat obtain ⟨_, _, q⟩ := q); clear q) | (go_at_call 83; refine env_call E (plain_of PZ.out.1 PZ.out.2.1 PZ.out.2.2) ?_; clear E; rintro e wc E ⟨br, Ar, nr, cr, rfl, hw_⟩; replace E := E.wh hw_; clear hw_; have q := E.cls; (repeat obtain ⟨_, _, q⟩ := q); clear q) | (go_at_call 84; refine env_call E (sign_calls E.getW) ?_; clear E; rintro e wc E rfl; have q := E.cls; (repeat obtain ⟨_, _, q⟩ := q); clear q) | (go_at_call 85; refine env_call E (cont_of CN.out) ?_; clear E; rintro e wc E rfl; have q := E.cls; (repeat obtain ⟨_, _, q⟩ := q); clear q) | (go_at_call 88; refine env_call E (over_calls (m := nn) (d := dd) E.getW E.getW D0.out (LNN.out.fits (by omega)) (LD.out.fits (by omega))) ?_; clear E; rintro e wc E ⟨br, Ar, nr, cr, br2, Ar2, nr2, cr2, rfl, hw_, hw2_⟩; replace E := (E.wh hw_).wh hw2_; clear hw_ hw2_; have q := E.cls; (repeat obtain ⟨_, _, q⟩ := q); clear q) | (go_at_call 87; refine env_call E (result_calls (q := Rat.divInt (nn) dd) E.getW E.getW rfl (dn_den _) ((lnq_div LNN.out LD.out (by omega)).1.mono (by omega)) ((lnq_div LNN.out LD.out (by omega)).2.mono (by omega))) ?_; clear E; rintro e wc E rfl; have q := E.cls; (repeat obtain ⟨_, _, q⟩ := q); clear q))
     refine bodyPost_ret (results_list (rs := [.tmp _, .tmp _]) rfl (by simp) (.tmp (.tmp .nil))) rfl ?_
     exact ⟨E.below, rfl⟩
 |false =>
  obtain ⟨h, t, fs, h47⟩ : ∃ x y f, F 47 = (x, y, f) := ⟨_, _, _, rfl⟩
  have hsl : CutAt r 47 h t fs := by have := hF 47; rw [h47] at this; exact this
  have F47 := Aside0.mk h47
  clear h47 hF
  have hht := hsl.size
  have CN := Aside0.mk (show decide ((46 : Int) ∈ bytesOf r) = false from decide_eq_false (hd.no rfl).2.2)
  cases fs with
  |true =>
   rw [parL_slash hd hsl]
   cases hx : dgs h with
   |false =>
    have HX := Aside0.mk hx
    rw [if_neg (fun h => by cases h.1)]
    clear hx hd hsl hht
    show Calls Tryz.prog 13 #[Value.string s] W fun e w' => Below W.heap.size W w' ∧ e = .returned (.tuple #[.string ⟨#[]⟩, .int .i64 2])
    go_enter Tryz.func13, Tryz.ntmps13
    go_wp2_with (first | ((with_reducible first | refine gate_box (by rfl) ?_ | refine gate_alloc (by rfl) ?_); refine bx_ E ?_; clear E; intro gb wb E; have q := E.cls; (repeat obtain ⟨_, _, q⟩ := q); clear q) | ((with_reducible refine gate_stored (t := 77) (by rfl) ?_); refine st_ (fun ws hs_ => ?_); replace E := Env.pt2 hs_ E; clear hs_; have q := E.cls; (repeat obtain ⟨_, _, q⟩ := q); clear q) | (go_at_call 79; refine env_call E (cutp_calls _ s) ?_; clear E; rintro e wc E rfl; rw [HC.out]; have q := E.cls; (repeat obtain ⟨_, _, q⟩ := q); clear q) | (go_at_call 80; refine env_call E (cut_of _ (HF.out _) HRS.out) ?_; clear E; rintro e wc E rfl; (first | rw [F46.out] | rw [F47.out]); dsimp only; have q := E.cls; (repeat obtain ⟨_, _, q⟩ := q); clear q) | (go_at_call 82; refine env_call E (dgs_of HX.out) ?_; clear E; rintro e wc E rfl; have q := E.cls; (repeat obtain ⟨_, _, q⟩ := q); clear q))
    refine bodyPost_ret (results_list (rs := [.tmp _, .tmp _]) rfl (by simp) (.tmp (.tmp .nil))) rfl ?_
    exact ⟨E.below, rfl⟩
   |true =>
    cases hy : dgs t with
    |false =>
     have HX := Aside0.mk hx
     have HY := Aside0.mk hy
     rw [if_neg (fun h => by cases h.2)]
     clear hx hy hd hsl hht
     show Calls Tryz.prog 13 #[Value.string s] W fun e w' => Below W.heap.size W w' ∧ e = .returned (.tuple #[.string ⟨#[]⟩, .int .i64 2])
     go_enter Tryz.func13, Tryz.ntmps13
     go_wp2_with (first | ((with_reducible first | refine gate_box (by rfl) ?_ | refine gate_alloc (by rfl) ?_); refine bx_ E ?_; clear E; intro gb wb E; have q := E.cls; (repeat obtain ⟨_, _, q⟩ := q); clear q) | ((with_reducible refine gate_stored (t := 77) (by rfl) ?_); refine st_ (fun ws hs_ => ?_); replace E := Env.pt2 hs_ E; clear hs_; have q := E.cls; (repeat obtain ⟨_, _, q⟩ := q); clear q) | (go_at_call 79; refine env_call E (cutp_calls _ s) ?_; clear E; rintro e wc E rfl; rw [HC.out]; have q := E.cls; (repeat obtain ⟨_, _, q⟩ := q); clear q) | (go_at_call 80; refine env_call E (cut_of _ (HF.out _) HRS.out) ?_; clear E; rintro e wc E rfl; (first | rw [F46.out] | rw [F47.out]); dsimp only; have q := E.cls; (repeat obtain ⟨_, _, q⟩ := q); clear q) | (go_at_call 82; refine env_call E (dgs_of HX.out) ?_; clear E; rintro e wc E rfl; have q := E.cls; (repeat obtain ⟨_, _, q⟩ := q); clear q) | (go_at_call 82; refine env_call E (dgs_of HY.out) ?_; clear E; rintro e wc E rfl; have q := E.cls; (repeat obtain ⟨_, _, q⟩ := q); clear q))
     refine bodyPost_ret (results_list (rs := [.tmp _, .tmp _]) rfl (by simp) (.tmp (.tmp .nil))) rfl ?_
     exact ⟨E.below, rfl⟩
    |true =>
     have HX := Aside0.mk hx
     have HY := Aside0.mk hy
     rw [if_pos ⟨rfl, rfl⟩]
     obtain ⟨nn, hn⟩ : ∃ n, tv (bytesOf h) = n := ⟨_, rfl⟩
     obtain ⟨dd, hdd⟩ : ∃ d : Int, tv (bytesOf t) = d := ⟨_, rfl⟩
     have PX := Aside0.mk (show (bytesOf h).all isd = true ∧ tv (bytesOf h) = nn ∧ h.size ≤ 9000000000000 from ⟨dgs_all hx, hn, by have := HR4.out; omega⟩)
     have PT := Aside0.mk (show (bytesOf t).all isd = true ∧ tv (bytesOf t) = dd ∧ t.size ≤ 9000000000000 from ⟨dgs_all hy, hdd, by have := HR4.out; omega⟩)
     have LN := Aside0.mk (show Ln nn 1000 by rw [← hn]; exact tv_ln (dgs_all hx) (by rw [bytesOf_size]; have := HR4.out; omega))
     have LD := Aside0.mk (show Ln dd 1000 by rw [← hdd]; exact tv_ln (dgs_all hy) (by rw [bytesOf_size]; have := HR4.out; omega))
     rw [hn, hdd]
     by_cases hd0 : dd = 0
     ·have hs0 : (sgnI dd == 0) = true := by rw [hd0]; rfl
      rw [if_pos hd0]
      clear hx hy hd hsl hht hn hdd hd0
      show Calls Tryz.prog 13 #[Value.string s] W fun e w' => Below W.heap.size W w' ∧ e = .returned (.tuple #[.string ⟨#[]⟩, .int .i64 9])
      go_enter Tryz.func13, Tryz.ntmps13
      go_wp2_with (first | ((with_reducible first | refine gate_box (by rfl) ?_ | refine gate_alloc (by rfl) ?_); refine bx_ E ?_; clear E; intro gb wb E; have q := E.cls; (repeat obtain ⟨_, _, q⟩ := q); clear q) | ((with_reducible refine gate_stored (t := 77) (by rfl) ?_); refine st_ (fun ws hs_ => ?_); replace E := Env.pt2 hs_ E; clear hs_; have q := E.cls; (repeat obtain ⟨_, _, q⟩ := q); clear q) | (go_at_call 79; refine env_call E (cutp_calls _ s) ?_; clear E; rintro e wc E rfl; rw [HC.out]; have q := E.cls; (repeat obtain ⟨_, _, q⟩ := q); clear q) | (go_at_call 80; refine env_call E (cut_of _ (HF.out _) HRS.out) ?_; clear E; rintro e wc E rfl; (first | rw [F46.out] | rw [F47.out]); dsimp only; have q := E.cls; (repeat obtain ⟨_, _, q⟩ := q); clear q) | (go_at_call 82; refine env_call E (dgs_of HX.out) ?_; clear E; rintro e wc E rfl; have q := E.cls; (repeat obtain ⟨_, _, q⟩ := q); clear q) | (go_at_call 82; refine env_call E (dgs_of HY.out) ?_; clear E; rintro e wc E rfl; have q := E.cls; (repeat obtain ⟨_, _, q⟩ := q); clear q) | (go_at_call 83; refine env_call E (plain_of PX.out.1 PX.out.2.1 PX.out.2.2) ?_; clear E; rintro e wc E ⟨br, Ar, nr, cr, rfl, hw_⟩; replace E := E.wh hw_; clear hw_; have q := E.cls; (repeat obtain ⟨_, _, q⟩ := q); clear q) | (go_at_call 83; refine env_call E (plain_of PT.out.1 PT.out.2.1 PT.out.2.2) ?_; clear E; rintro e wc E ⟨br, Ar, nr, cr, rfl, hw_⟩; replace E := E.wh hw_; clear hw_; have q := E.cls; (repeat obtain ⟨_, _, q⟩ := q); clear q) | (go_at_call 84; refine env_call E (sign_calls E.getW) ?_; clear E; rintro e wc E rfl; have q := E.cls; (repeat obtain ⟨_, _, q⟩ := q); clear q))
      refine bodyPost_ret (results_list (rs := [.tmp _, .tmp _]) rfl (by simp) (.tmp (.tmp .nil))) rfl ?_
      exact ⟨E.below, rfl⟩
     ·have hs0 : (sgnI dd == 0) = false := beq_eq_false_iff_ne.mpr (fun h => hd0 ((sgnI_zero _).1 h))
      have D0 := Aside0.mk hd0
      rw [if_neg hd0]
      clear hx hy hd hsl hht hn hdd hd0
      cases hlt : decide ((1 : Int) < (t.size : Int)) with
      |true =>
       cases mi with
       |true =>
        have LNN := Aside0.mk (show Ln (-nn) 1000 from LN.out.neg)
        show Calls Tryz.prog 13 #[Value.string s] W fun e w' => Below W.heap.size W w' ∧ e = .returned (.tuple #[.string (res (Rat.divInt (-nn) dd)).1, .int .i64 (res (Rat.divInt (-nn) dd)).2])
        go_enter Tryz.func13, Tryz.ntmps13
        go_wp2_with (first | ((with_reducible first | refine gate_box (by rfl) ?_ | refine gate_alloc (by rfl) ?_); refine bx_ E ?_; clear E; intro gb wb E; have q := E.cls; (repeat obtain ⟨_, _, q⟩ := q); clear q) | ((with_reducible refine gate_stored (t := 77) (by rfl) ?_); refine st_ (fun ws hs_ => ?_); replace E := Env.pt2 hs_ E; clear hs_; have q := E.cls; (repeat obtain ⟨_, _, q⟩ := q); clear q) | (go_at_call 79; refine env_call E (cutp_calls _ s) ?_; clear E; rintro e wc E rfl; rw [HC.out]; have q := E.cls; (repeat obtain ⟨_, _, q⟩ := q); clear q) | (go_at_call 80; refine env_call E (cut_of _ (HF.out _) HRS.out) ?_; clear E; rintro e wc E rfl; (first | rw [F46.out] | rw [F47.out]); dsimp only; have q := E.cls; (repeat obtain ⟨_, _, q⟩ := q); clear q) | (go_at_call 82; refine env_call E (dgs_of HX.out) ?_; clear E; rintro e wc E rfl; have q := E.cls; (repeat obtain ⟨_, _, q⟩ := q); clear q) | (go_at_call 82; refine env_call E (dgs_of HY.out) ?_; clear E; rintro e wc E rfl; have q := E.cls; (repeat obtain ⟨_, _, q⟩ := q); clear q) | (go_at_call 83; refine env_call E (plain_of PX.out.1 PX.out.2.1 PX.out.2.2) ?_; clear E; rintro e wc E ⟨br, Ar, nr, cr, rfl, hw_⟩; replace E := E.wh hw_; clear hw_; have q := E.cls; (repeat obtain ⟨_, _, q⟩ := q); clear q) | (go_at_call 83; refine env_call E (plain_of PT.out.1 PT.out.2.1 PT.out.2.2) ?_; clear E; rintro e wc E ⟨br, Ar, nr, cr, rfl, hw_⟩; replace E := E.wh hw_; clear hw_; have q := E.cls; (repeat obtain ⟨_, _, q⟩ := q); clear q) | (go_at_call 84; refine env_call E (sign_calls E.getW) ?_; clear E; rintro e wc E rfl; have q := E.cls; (repeat obtain ⟨_, _, q⟩ := q); clear q) | (go_at_call 85; refine env_call E (cont_of CN.out) ?_; clear E; rintro e wc E rfl; have q := E.cls; (repeat obtain ⟨_, _, q⟩ := q); clear q) | (go_at_call 86; refine env_call E (neg_calls E.getW) ?_; clear E; rintro e wc E ⟨br, Ar, nr, cr, rfl, hw_⟩; replace E := E.wh hw_; clear hw_; have q := E.cls; (repeat obtain ⟨_, _, q⟩ := q); clear q) | (go_at_call 88; refine env_call E (over_calls (m := -nn) (d := dd) E.getW E.getW D0.out (LNN.out.fits (by omega)) (LD.out.fits (by omega))) ?_; clear E; rintro e wc E ⟨br, Ar, nr, cr, br2, Ar2, nr2, cr2, rfl, hw_, hw2_⟩; replace E := (E.wh hw_).wh hw2_; clear hw_ hw2_; have q := E.cls; (repeat obtain ⟨_, _, q⟩ := q); clear q) | (go_at_call 87; refine env_call E (result_calls (q := Rat.divInt (-nn) dd) E.getW E.getW rfl (dn_den _) ((lnq_div LNN.out LD.out (by omega)).1.mono (by omega)) ((lnq_div LNN.out LD.out (by omega)).2.mono (by omega))) ?_; clear E; rintro e wc E rfl; have q := E.cls; (repeat obtain ⟨_, _, q⟩ := q); clear q))
        refine bodyPost_ret (results_list (rs := [.tmp _, .tmp _]) rfl (by simp) (.tmp (.tmp .nil))) rfl ?_
        exact ⟨E.below, rfl⟩
       |false =>
        have LNN := Aside0.mk (show Ln (nn) 1000 from LN.out)
        show Calls Tryz.prog 13 #[Value.string s] W fun e w' => Below W.heap.size W w' ∧ e = .returned (.tuple #[.string (res (Rat.divInt (nn) dd)).1, .int .i64 (res (Rat.divInt (nn) dd)).2])
        go_enter Tryz.func13, Tryz.ntmps13
        go_wp2_with (first | ((with_reducible first | refine gate_box (by rfl) ?_ | refine gate_alloc (by rfl) ?_); refine bx_ E ?_; clear E; intro gb wb E; have q := E.cls; (repeat obtain ⟨_, _, q⟩ := q); clear q) | ((with_reducible refine gate_stored (t := 77) (by rfl) ?_); refine st_ (fun ws hs_ => ?_); replace E := Env.pt2 hs_ E; clear hs_; have q := E.cls; (repeat obtain ⟨_, _, q⟩ := q); clear q) | (go_at_call 79; refine env_call E (cutp_calls _ s) ?_; clear E; rintro e wc E rfl; rw [HC.out]; have q := E.cls; (repeat obtain ⟨_, _, q⟩ := q); clear q) | (go_at_call 80; refine env_call E (cut_of _ (HF.out _) HRS.out) ?_; clear E; rintro e wc E rfl; (first | rw [F46.out] | rw [F47.out]); dsimp only; have q := E.cls; (repeat obtain ⟨_, _, q⟩ := q); clear q) | (go_at_call 82; refine env_call E (dgs_of HX.out) ?_; clear E; rintro e wc E rfl; have q := E.cls; (repeat obtain ⟨_, _, q⟩ := q); clear q) | (go_at_call 82; refine env_call E (dgs_of HY.out) ?_; clear E; rintro e wc E rfl; have q := E.cls; (repeat obtain ⟨_, _, q⟩ := q); clear q) | (go_at_call 83; refine env_call E (plain_of PX.out.1 PX.out.2.1 PX.out.2.2) ?_; clear E; rintro e wc E ⟨br, Ar, nr, cr, rfl, hw_⟩; replace E := E.wh hw_; clear hw_; have q := E.cls; (repeat obtain ⟨_, _, q⟩ := q); clear q) | (go_at_call 83; refine env_call E (plain_of PT.out.1 PT.out.2.1 PT.out.2.2) ?_; clear E; rintro e wc E ⟨br, Ar, nr, cr, rfl, hw_⟩; replace E := E.wh hw_; clear hw_; have q := E.cls; (repeat obtain ⟨_, _, q⟩ := q); clear q) | (go_at_call 84; refine env_call E (sign_calls E.getW) ?_; clear E; rintro e wc E rfl; have q := E.cls; (repeat obtain ⟨_, _, q⟩ := q); clear q) | (go_at_call 85; refine env_call E (cont_of CN.out) ?_; clear E; rintro e wc E rfl; have q := E.cls; (repeat obtain ⟨_, _, q⟩ := q); clear q) | (go_at_call 88; refine env_call E (over_calls (m := nn) (d := dd) E.getW E.getW D0.out (LNN.out.fits (by omega)) (LD.out.fits (by omega))) ?_; clear E; rintro e wc E ⟨br, Ar, nr, cr, br2, Ar2, nr2, cr2, rfl, hw_, hw2_⟩; replace E := (E.wh hw_).wh hw2_; clear hw_ hw2_; have q := E.cls; (repeat obtain ⟨_, _, q⟩ := q); clear q) | (go_at_call 87; refine env_call E (result_calls (q := Rat.divInt (nn) dd) E.getW E.getW rfl (dn_den _) ((lnq_div LNN.out LD.out (by omega)).1.mono (by omega)) ((lnq_div LNN.out LD.out (by omega)).2.mono (by omega))) ?_; clear E; rintro e wc E rfl; have q := E.cls; (repeat obtain ⟨_, _, q⟩ := q); clear q))
        refine bodyPost_ret (results_list (rs := [.tmp _, .tmp _]) rfl (by simp) (.tmp (.tmp .nil))) rfl ?_
        exact ⟨E.below, rfl⟩
      |false =>
       cases mi with
       |true =>
        have LNN := Aside0.mk (show Ln (-nn) 1000 from LN.out.neg)
        show Calls Tryz.prog 13 #[Value.string s] W fun e w' => Below W.heap.size W w' ∧ e = .returned (.tuple #[.string (res (Rat.divInt (-nn) dd)).1, .int .i64 (res (Rat.divInt (-nn) dd)).2])
        go_enter Tryz.func13, Tryz.ntmps13
        go_wp2_with (first | ((with_reducible first | refine gate_box (by rfl) ?_ | refine gate_alloc (by rfl) ?_); refine bx_ E ?_; clear E; intro gb wb E; have q := E.cls; (repeat obtain ⟨_, _, q⟩ := q); clear q) | ((with_reducible refine gate_stored (t := 77) (by rfl) ?_); refine st_ (fun ws hs_ => ?_); replace E := Env.pt2 hs_ E; clear hs_; have q := E.cls; (repeat obtain ⟨_, _, q⟩ := q); clear q) | (go_at_call 79; refine env_call E (cutp_calls _ s) ?_; clear E; rintro e wc E rfl; rw [HC.out]; have q := E.cls; (repeat obtain ⟨_, _, q⟩ := q); clear q) | (go_at_call 80; refine env_call E (cut_of _ (HF.out _) HRS.out) ?_; clear E; rintro e wc E rfl; (first | rw [F46.out] | rw [F47.out]); dsimp only; have q := E.cls; (repeat obtain ⟨_, _, q⟩ := q); clear q) | (go_at_call 82; refine env_call E (dgs_of HX.out) ?_; clear E; rintro e wc E rfl; have q := E.cls; (repeat obtain ⟨_, _, q⟩ := q); clear q) | (go_at_call 82; refine env_call E (dgs_of HY.out) ?_; clear E; rintro e wc E rfl; have q := E.cls; (repeat obtain ⟨_, _, q⟩ := q); clear q) | (go_at_call 83; refine env_call E (plain_of PX.out.1 PX.out.2.1 PX.out.2.2) ?_; clear E; rintro e wc E ⟨br, Ar, nr, cr, rfl, hw_⟩; replace E := E.wh hw_; clear hw_; have q := E.cls; (repeat obtain ⟨_, _, q⟩ := q); clear q) | (go_at_call 83; refine env_call E (plain_of PT.out.1 PT.out.2.1 PT.out.2.2) ?_; clear E; rintro e wc E ⟨br, Ar, nr, cr, rfl, hw_⟩; replace E := E.wh hw_; clear hw_; have q := E.cls; (repeat obtain ⟨_, _, q⟩ := q); clear q) | (go_at_call 84; refine env_call E (sign_calls E.getW) ?_; clear E; rintro e wc E rfl; have q := E.cls; (repeat obtain ⟨_, _, q⟩ := q); clear q) | (go_at_call 85; refine env_call E (cont_of CN.out) ?_; clear E; rintro e wc E rfl; have q := E.cls; (repeat obtain ⟨_, _, q⟩ := q); clear q) | (go_at_call 86; refine env_call E (neg_calls E.getW) ?_; clear E; rintro e wc E ⟨br, Ar, nr, cr, rfl, hw_⟩; replace E := E.wh hw_; clear hw_; have q := E.cls; (repeat obtain ⟨_, _, q⟩ := q); clear q) | (go_at_call 88; refine env_call E (over_calls (m := -nn) (d := dd) E.getW E.getW D0.out (LNN.out.fits (by omega)) (LD.out.fits (by omega))) ?_; clear E; rintro e wc E ⟨br, Ar, nr, cr, br2, Ar2, nr2, cr2, rfl, hw_, hw2_⟩; replace E := (E.wh hw_).wh hw2_; clear hw_ hw2_; have q := E.cls; (repeat obtain ⟨_, _, q⟩ := q); clear q) | (go_at_call 87; refine env_call E (result_calls (q := Rat.divInt (-nn) dd) E.getW E.getW rfl (dn_den _) ((lnq_div LNN.out LD.out (by omega)).1.mono (by omega)) ((lnq_div LNN.out LD.out (by omega)).2.mono (by omega))) ?_; clear E; rintro e wc E rfl; have q := E.cls; (repeat obtain ⟨_, _, q⟩ := q); clear q))
        refine bodyPost_ret (results_list (rs := [.tmp _, .tmp _]) rfl (by simp) (.tmp (.tmp .nil))) rfl ?_
        exact ⟨E.below, rfl⟩
       |false =>
        have LNN := Aside0.mk (show Ln (nn) 1000 from LN.out)
        show Calls Tryz.prog 13 #[Value.string s] W fun e w' => Below W.heap.size W w' ∧ e = .returned (.tuple #[.string (res (Rat.divInt (nn) dd)).1, .int .i64 (res (Rat.divInt (nn) dd)).2])
        go_enter Tryz.func13, Tryz.ntmps13
        go_wp2_with (first | ((with_reducible first | refine gate_box (by rfl) ?_ | refine gate_alloc (by rfl) ?_); refine bx_ E ?_; clear E; intro gb wb E; have q := E.cls; (repeat obtain ⟨_, _, q⟩ := q); clear q) | ((with_reducible refine gate_stored (t := 77) (by rfl) ?_); refine st_ (fun ws hs_ => ?_); replace E := Env.pt2 hs_ E; clear hs_; have q := E.cls; (repeat obtain ⟨_, _, q⟩ := q); clear q) | (go_at_call 79; refine env_call E (cutp_calls _ s) ?_; clear E; rintro e wc E rfl; rw [HC.out]; have q := E.cls; (repeat obtain ⟨_, _, q⟩ := q); clear q) | (go_at_call 80; refine env_call E (cut_of _ (HF.out _) HRS.out) ?_; clear E; rintro e wc E rfl; (first | rw [F46.out] | rw [F47.out]); dsimp only; have q := E.cls; (repeat obtain ⟨_, _, q⟩ := q); clear q) | (go_at_call 82; refine env_call E (dgs_of HX.out) ?_; clear E; rintro e wc E rfl; have q := E.cls; (repeat obtain ⟨_, _, q⟩ := q); clear q) | (go_at_call 82; refine env_call E (dgs_of HY.out) ?_; clear E; rintro e wc E rfl; have q := E.cls; (repeat obtain ⟨_, _, q⟩ := q); clear q) | (go_at_call 83; refine env_call E (plain_of PX.out.1 PX.out.2.1 PX.out.2.2) ?_; clear E; rintro e wc E ⟨br, Ar, nr, cr, rfl, hw_⟩; replace E := E.wh hw_; clear hw_; have q := E.cls; (repeat obtain ⟨_, _, q⟩ := q); clear q) | (go_at_call 83; refine env_call E (plain_of PT.out.1 PT.out.2.1 PT.out.2.2) ?_; clear E; rintro e wc E ⟨br, Ar, nr, cr, rfl, hw_⟩; replace E := E.wh hw_; clear hw_; have q := E.cls; (repeat obtain ⟨_, _, q⟩ := q); clear q) | (go_at_call 84; refine env_call E (sign_calls E.getW) ?_; clear E; rintro e wc E rfl; have q := E.cls; (repeat obtain ⟨_, _, q⟩ := q); clear q) | (go_at_call 85; refine env_call E (cont_of CN.out) ?_; clear E; rintro e wc E rfl; have q := E.cls; (repeat obtain ⟨_, _, q⟩ := q); clear q) | (go_at_call 88; refine env_call E (over_calls (m := nn) (d := dd) E.getW E.getW D0.out (LNN.out.fits (by omega)) (LD.out.fits (by omega))) ?_; clear E; rintro e wc E ⟨br, Ar, nr, cr, br2, Ar2, nr2, cr2, rfl, hw_, hw2_⟩; replace E := (E.wh hw_).wh hw2_; clear hw_ hw2_; have q := E.cls; (repeat obtain ⟨_, _, q⟩ := q); clear q) | (go_at_call 87; refine env_call E (result_calls (q := Rat.divInt (nn) dd) E.getW E.getW rfl (dn_den _) ((lnq_div LNN.out LD.out (by omega)).1.mono (by omega)) ((lnq_div LNN.out LD.out (by omega)).2.mono (by omega))) ?_; clear E; rintro e wc E rfl; have q := E.cls; (repeat obtain ⟨_, _, q⟩ := q); clear q))
        refine bodyPost_ret (results_list (rs := [.tmp _, .tmp _]) rfl (by simp) (.tmp (.tmp .nil))) rfl ?_
        exact ⟨E.below, rfl⟩
  |false =>
   rw [parL_int hd hsl]
   obtain ⟨rfl, rfl, -⟩ := hsl.no rfl
   cases hx : dgs h with
   |false =>
    have HX := Aside0.mk hx
    rw [if_neg (by decide)]
    clear hx hd hsl hht
    show Calls Tryz.prog 13 #[Value.string s] W fun e w' => Below W.heap.size W w' ∧ e = .returned (.tuple #[.string ⟨#[]⟩, .int .i64 2])
    go_enter Tryz.func13, Tryz.ntmps13
    go_wp2_with (first | ((with_reducible first | refine gate_box (by rfl) ?_ | refine gate_alloc (by rfl) ?_); refine bx_ E ?_; clear E; intro gb wb E; have q := E.cls; (repeat obtain ⟨_, _, q⟩ := q); clear q) | ((with_reducible refine gate_stored (t := 77) (by rfl) ?_); refine st_ (fun ws hs_ => ?_); replace E := Env.pt2 hs_ E; clear hs_; have q := E.cls; (repeat obtain ⟨_, _, q⟩ := q); clear q) | (go_at_call 79; refine env_call E (cutp_calls _ s) ?_; clear E; rintro e wc E rfl; rw [HC.out]; have q := E.cls; (repeat obtain ⟨_, _, q⟩ := q); clear q) | (go_at_call 80; refine env_call E (cut_of _ (HF.out _) HRS.out) ?_; clear E; rintro e wc E rfl; (first | rw [F46.out] | rw [F47.out]); dsimp only; have q := E.cls; (repeat obtain ⟨_, _, q⟩ := q); clear q) | (go_at_call 82; refine env_call E (dgs_of HX.out) ?_; clear E; rintro e wc E rfl; have q := E.cls; (repeat obtain ⟨_, _, q⟩ := q); clear q))
    refine bodyPost_ret (results_list (rs := [.tmp _, .tmp _]) rfl (by simp) (.tmp (.tmp .nil))) rfl ?_
    exact ⟨E.below, rfl⟩
   |true =>
    have HX := Aside0.mk hx
    rw [if_pos rfl]
    obtain ⟨nn, hn⟩ : ∃ n, tv (bytesOf h) = n := ⟨_, rfl⟩
    obtain ⟨dd, hdd⟩ : ∃ d : Int, 1 = d := ⟨_, rfl⟩
    have PX := Aside0.mk (show (bytesOf h).all isd = true ∧ tv (bytesOf h) = nn ∧ h.size ≤ 9000000000000 from ⟨dgs_all hx, hn, by have := HR4.out; omega⟩)
    have PT := Aside0.mk (show (bytesOf (⟨#[49]⟩ : ByteArray)).all isd = true ∧ tv (bytesOf (⟨#[49]⟩ : ByteArray)) = dd ∧ (⟨#[49]⟩ : ByteArray).size ≤ 9000000000000 from ⟨by decide, by rw [← hdd]; decide, by decide⟩)
    have LN := Aside0.mk (show Ln nn 1000 by rw [← hn]; exact tv_ln (dgs_all hx) (by rw [bytesOf_size]; have := HR4.out; omega))
    have LD := Aside0.mk (show Ln dd 1000 by rw [← hdd]; exact ln_one.mono (by omega))
    have D0 := Aside0.mk (show dd ≠ 0 by omega)
    have hs0 : (sgnI dd == 0) = false := beq_eq_false_iff_ne.mpr (fun h => D0.out ((sgnI_zero _).1 h))
    rw [hn, hdd]
    clear hx hd hsl hht hn hdd
    cases mi with
    |true =>
     have LNN := Aside0.mk (show Ln (-nn) 1000 from LN.out.neg)
     show Calls Tryz.prog 13 #[Value.string s] W fun e w' => Below W.heap.size W w' ∧ e = .returned (.tuple #[.string (res (Rat.divInt (-nn) dd)).1, .int .i64 (res (Rat.divInt (-nn) dd)).2])
     go_enter Tryz.func13, Tryz.ntmps13
     go_wp2_with (first | ((with_reducible first | refine gate_box (by rfl) ?_ | refine gate_alloc (by rfl) ?_); refine bx_ E ?_; clear E; intro gb wb E; have q := E.cls; (repeat obtain ⟨_, _, q⟩ := q); clear q) | ((with_reducible refine gate_stored (t := 77) (by rfl) ?_); refine st_ (fun ws hs_ => ?_); replace E := Env.pt2 hs_ E; clear hs_; have q := E.cls; (repeat obtain ⟨_, _, q⟩ := q); clear q) | (go_at_call 79; refine env_call E (cutp_calls _ s) ?_; clear E; rintro e wc E rfl; rw [HC.out]; have q := E.cls; (repeat obtain ⟨_, _, q⟩ := q); clear q) | (go_at_call 80; refine env_call E (cut_of _ (HF.out _) HRS.out) ?_; clear E; rintro e wc E rfl; (first | rw [F46.out] | rw [F47.out]); dsimp only; have q := E.cls; (repeat obtain ⟨_, _, q⟩ := q); clear q) | (go_at_call 82; refine env_call E (dgs_of HX.out) ?_; clear E; rintro e wc E rfl; have q := E.cls; (repeat obtain ⟨_, _, q⟩ := q); clear q) | (go_at_call 83; refine env_call E (plain_of PX.out.1 PX.out.2.1 PX.out.2.2) ?_; clear E; rintro e wc E ⟨br, Ar, nr, cr, rfl, hw_⟩; replace E := E.wh hw_; clear hw_; have q := E.cls; (repeat obtain ⟨_, _, q⟩ := q); clear q) | (go_at_call 83; refine env_call E (plain_of PT.out.1 PT.out.2.1 PT.out.2.2) ?_; clear E; rintro e wc E ⟨br, Ar, nr, cr, rfl, hw_⟩; replace E := E.wh hw_; clear hw_; have q := E.cls; (repeat obtain ⟨_, _, q⟩ := q); clear q) | (go_at_call 84; refine env_call E (sign_calls E.getW) ?_; clear E; rintro e wc E rfl; have q := E.cls; (repeat obtain ⟨_, _, q⟩ := q); clear q) | (go_at_call 86; refine env_call E (neg_calls E.getW) ?_; clear E; rintro e wc E ⟨br, Ar, nr, cr, rfl, hw_⟩; replace E := E.wh hw_; clear hw_; have q := E.cls; (repeat obtain ⟨_, _, q⟩ := q); clear q) | (go_at_call 88; refine env_call E (over_calls (m := -nn) (d := dd) E.getW E.getW D0.out (LNN.out.fits (by omega)) (LD.out.fits (by omega))) ?_; clear E; rintro e wc E ⟨br, Ar, nr, cr, br2, Ar2, nr2, cr2, rfl, hw_, hw2_⟩; replace E := (E.wh hw_).wh hw2_; clear hw_ hw2_; have q := E.cls; (repeat obtain ⟨_, _, q⟩ := q); clear q) | (go_at_call 87; refine env_call E (result_calls (q := Rat.divInt (-nn) dd) E.getW E.getW rfl (dn_den _) ((lnq_div LNN.out LD.out (by omega)).1.mono (by omega)) ((lnq_div LNN.out LD.out (by omega)).2.mono (by omega))) ?_; clear E; rintro e wc E rfl; have q := E.cls; (repeat obtain ⟨_, _, q⟩ := q); clear q))
     refine bodyPost_ret (results_list (rs := [.tmp _, .tmp _]) rfl (by simp) (.tmp (.tmp .nil))) rfl ?_
     exact ⟨E.below, rfl⟩
    |false =>
     have LNN := Aside0.mk (show Ln (nn) 1000 from LN.out)
     show Calls Tryz.prog 13 #[Value.string s] W fun e w' => Below W.heap.size W w' ∧ e = .returned (.tuple #[.string (res (Rat.divInt (nn) dd)).1, .int .i64 (res (Rat.divInt (nn) dd)).2])
     go_enter Tryz.func13, Tryz.ntmps13
     go_wp2_with (first | ((with_reducible first | refine gate_box (by rfl) ?_ | refine gate_alloc (by rfl) ?_); refine bx_ E ?_; clear E; intro gb wb E; have q := E.cls; (repeat obtain ⟨_, _, q⟩ := q); clear q) | ((with_reducible refine gate_stored (t := 77) (by rfl) ?_); refine st_ (fun ws hs_ => ?_); replace E := Env.pt2 hs_ E; clear hs_; have q := E.cls; (repeat obtain ⟨_, _, q⟩ := q); clear q) | (go_at_call 79; refine env_call E (cutp_calls _ s) ?_; clear E; rintro e wc E rfl; rw [HC.out]; have q := E.cls; (repeat obtain ⟨_, _, q⟩ := q); clear q) | (go_at_call 80; refine env_call E (cut_of _ (HF.out _) HRS.out) ?_; clear E; rintro e wc E rfl; (first | rw [F46.out] | rw [F47.out]); dsimp only; have q := E.cls; (repeat obtain ⟨_, _, q⟩ := q); clear q) | (go_at_call 82; refine env_call E (dgs_of HX.out) ?_; clear E; rintro e wc E rfl; have q := E.cls; (repeat obtain ⟨_, _, q⟩ := q); clear q) | (go_at_call 83; refine env_call E (plain_of PX.out.1 PX.out.2.1 PX.out.2.2) ?_; clear E; rintro e wc E ⟨br, Ar, nr, cr, rfl, hw_⟩; replace E := E.wh hw_; clear hw_; have q := E.cls; (repeat obtain ⟨_, _, q⟩ := q); clear q) | (go_at_call 83; refine env_call E (plain_of PT.out.1 PT.out.2.1 PT.out.2.2) ?_; clear E; rintro e wc E ⟨br, Ar, nr, cr, rfl, hw_⟩; replace E := E.wh hw_; clear hw_; have q := E.cls; (repeat obtain ⟨_, _, q⟩ := q); clear q) | (go_at_call 84; refine env_call E (sign_calls E.getW) ?_; clear E; rintro e wc E rfl; have q := E.cls; (repeat obtain ⟨_, _, q⟩ := q); clear q) | (go_at_call 88; refine env_call E (over_calls (m := nn) (d := dd) E.getW E.getW D0.out (LNN.out.fits (by omega)) (LD.out.fits (by omega))) ?_; clear E; rintro e wc E ⟨br, Ar, nr, cr, br2, Ar2, nr2, cr2, rfl, hw_, hw2_⟩; replace E := (E.wh hw_).wh hw2_; clear hw_ hw2_; have q := E.cls; (repeat obtain ⟨_, _, q⟩ := q); clear q) | (go_at_call 87; refine env_call E (result_calls (q := Rat.divInt (nn) dd) E.getW E.getW rfl (dn_den _) ((lnq_div LNN.out LD.out (by omega)).1.mono (by omega)) ((lnq_div LNN.out LD.out (by omega)).2.mono (by omega))) ?_; clear E; rintro e wc E rfl; have q := E.cls; (repeat obtain ⟨_, _, q⟩ := q); clear q))
     refine bodyPost_ret (results_list (rs := [.tmp _, .tmp _]) rfl (by simp) (.tmp (.tmp .nil))) rfl ?_
     exact ⟨E.below, rfl⟩
end Go.Proofs.YtfmcgammhfdfnaaGreatDoor.PRatio
namespace Go.Proofs.YtfmcgammhfdfnaaGreatDoor.PRatio
open Go.RowKit Go.Proofs.YtfmcgammhfdfnaaGreatDoorW.PrintWords
set_option linter.unusedVariables false
set_option linter.unusedSimpArgs false
theorem rv_RT {q : Rat} (h : lgq q = false) : rv (RT q) = some q := by
 unfold rv
 rw [bytesOf_RT, rat?_rtx]
 simp [h]
theorem rv_of {s : ByteArray} {q : Rat} (h : rat? (bytesOf s) = some q) (hl : lgq q = false) : rv s = some q := by
 unfold rv
 rw [h]
 simp [hl]
def Lq (q : Rat) (k : Nat) : Prop := q.num.natAbs < 10 ^ k ∧ q.den < 10 ^ k
theorem Lq.mono {q : Rat} {a b : Nat} (h : Lq q a) (hab : a ≤ b) : Lq q b :=
 ⟨Nat.lt_of_lt_of_le h.1 (Nat.pow_le_pow_right (by decide) hab), Nat.lt_of_lt_of_le h.2 (Nat.pow_le_pow_right (by decide) hab)⟩
theorem Lq.lg {q : Rat} {k : Nat} (h : Lq q k) (hk : k ≤ 1000) : lgq q = false := by
 have h1 : Lg q.num = false := decide_eq_false (by have := (nd_le k _).2 h.1; omega)
 have h2 : Lg (q.den : Int) = false := decide_eq_false (by rw [Int.natAbs_natCast]; have := (nd_le k _).2 h.2; omega)
 unfold lgq
 rw [h1, h2]
 rfl
theorem lq_div {n d : Int} {k : Nat} (hn : n.natAbs < 10 ^ k) (hd : d.natAbs < 10 ^ k) (hk : 1 ≤ k) : Lq (Rat.divInt n d) k := by
 have h := divInt_le n d
 refine ⟨Nat.lt_of_le_of_lt h.1 hn, ?_⟩
 have h1 : 1 < 10 ^ k := Nat.one_lt_pow (by omega) (by decide)
 omega
theorem res_ok {q : Rat} (h : lgq q = false) : res q = (RT q, 0) := by
 unfold res resA resE
 simp [h]
end Go.Proofs.YtfmcgammhfdfnaaGreatDoor.PRatio
namespace Go.Proofs.YtfmcgammhfdfnaaGreatDoor.PRatio
open Go.RowKit Go.Proofs.YtfmcgammhfdfnaaGreatDoorW.PrintWords Go.Proofs.YtfmcgammhfdfnaaGreatDoorW.PrintLast Go.Proofs.YtfmcgammhfdfnaaGreatDoorW.PrintMore
set_option linter.unusedVariables false
set_option linter.unusedSimpArgs false
set_option maxHeartbeats 8000000
set_option maxRecDepth 100000
theorem is_calls (W : World) (x w : ByteArray) (e : Int) : Calls Tryz.prog 23 #[.string x, .int .i64 e, .string w] W fun en w' => Below W.heap.size W w' ∧ en = .returned (.bool (x.toList == w.toList && e == 0)) := by
 have E := Env.start W
 cases h : x.toList == w.toList with
 |false =>
  go_enter Tryz.func23, Tryz.ntmps23
  go_wp2
  go_ret
  exact ⟨E.below, rfl⟩
 |true =>
  go_enter Tryz.func23, Tryz.ntmps23
  go_wp2
  go_ret
  exact ⟨E.below, rfl⟩
theorem is_same (W : World) (x : ByteArray) : Calls Tryz.prog 23 #[.string x, .int .i64 0, .string x] W fun en w' => Below W.heap.size W w' ∧ en = .returned (.bool true) := by
 have := is_calls W x x 0
 rwa [beq_self_eq_true] at this
theorem lg_of {q : Rat} (h : q.num.natAbs < 10 ^ 9 ∧ q.den < 10 ^ 9) : lgq q = false := Lq.lg (k := 9) h (by decide)
theorem rt_of {s : ByteArray} {q : Rat} (h : rat? (bytesOf s) = some q) : RT q = s := (rat?_RT h).symm
theorem aw1 : two ⟨#[49, 47, 50]⟩ ⟨#[49, 47, 51]⟩ (fun x y => res (x + y)) = (⟨#[53, 47, 54]⟩, 0) := by
 unfold two
 rw [rv_of (q := 1 / 2) (by decide +kernel) (lg_of (by decide +kernel)), rv_of (q := 1 / 3) (by decide +kernel) (lg_of (by decide +kernel))]
 show res (1 / 2 + 1 / 3) = _
 rw [res_ok (lg_of (by decide +kernel)), rt_of (s := ⟨#[53, 47, 54]⟩) (by decide +kernel)]
theorem aw2 : simpS ⟨#[49, 47, 51]⟩ ⟨#[51, 47, 53]⟩ = (⟨#[49, 47, 50]⟩, 0) := by
 unfold simpS ends2 ev
 rw [if_neg (by decide), if_neg (by decide), rv_of (q := 1 / 3) (by decide +kernel) (lg_of (by decide +kernel)), rv_of (q := 3 / 5) (by decide +kernel) (lg_of (by decide +kernel))]
 show (if (3 / 5 : Rat) < 1 / 3 then ((⟨#[]⟩, 1) : ByteArray × Int) else if 0 < (1 / 3 : Rat).num then (RT (simQ (1 / 3) (some (3 / 5))), 0) else if (3 / 5 : Rat).num < 0 then (RT (-simQ (-(3 / 5)) (some (-(1 / 3)))), 0) else (⟨#[48]⟩, 0)) = _
 rw [if_neg (by decide +kernel), if_pos (by decide +kernel), rt_of (s := ⟨#[49, 47, 50]⟩) (by decide +kernel)]
theorem aw3 : parS ⟨#[45, 48, 48, 54, 47, 52]⟩ = (⟨#[45, 51, 47, 50]⟩, 0) := by
 unfold parS
 rw [if_neg (by decide)]
 have h1 : cutm ⟨#[45, 48, 48, 54, 47, 52]⟩ = (⟨#[48, 48, 54, 47, 52]⟩, true) := by decide +kernel
 have h2 : parL (bytesOf ⟨#[48, 48, 54, 47, 52]⟩) = .ok (6, 4) := rfl
 rw [h1, h2]
 show res (Rat.divInt (if true = true then -6 else 6) 4) = _
 rw [res_ok (lg_of (by decide +kernel)), rt_of (s := ⟨#[45, 51, 47, 50]⟩) (by decide +kernel)]
theorem aw4 : rv ⟨#[45, 49, 47, 50]⟩ = some (-1 / 2) := rv_of (by decide +kernel) (lg_of (by decide +kernel))
theorem aw4' : TX (-1 / 2 : Rat).floor = ⟨#[45, 49]⟩ := (int?_TX (by decide +kernel)).symm
theorem aw5 : ends2 ⟨#[55]⟩ ⟨#[105, 110, 102]⟩ = some (some 7, none) := by
 unfold ends2 ev
 rw [if_neg (by decide), if_pos (by decide), rv_of (q := 7) (by decide +kernel) (lg_of (by decide +kernel))]
 rfl
theorem aw6 : rv ⟨#[50, 47, 52]⟩ = none := by unfold rv; rw [show rat? (bytesOf ⟨#[50, 47, 52]⟩) = none by decide +kernel]; rfl
theorem aw7 : rv ⟨#[48, 47, 53]⟩ = none := by unfold rv; rw [show rat? (bytesOf ⟨#[48, 47, 53]⟩) = none by decide +kernel]; rfl
theorem aw8 : ends2 ⟨#[49, 47, 51]⟩ ⟨#[50, 47, 53]⟩ = some (some (1 / 3), some (2 / 5)) := by
 unfold ends2 ev
 rw [if_neg (by decide), if_neg (by decide), rv_of (q := 1 / 3) (by decide +kernel) (lg_of (by decide +kernel)), rv_of (q := 2 / 5) (by decide +kernel) (lg_of (by decide +kernel))]
 rfl
theorem wa1 (W : World) : Calls Tryz.prog 66 #[.string ⟨#[49, 47, 50]⟩, .string ⟨#[49, 47, 51]⟩] W fun e w' => Below W.heap.size W w' ∧ e = .returned (.tuple #[.string ⟨#[53, 47, 54]⟩, .int .i64 0]) := by
 have := radde_calls W ⟨#[49, 47, 50]⟩ ⟨#[49, 47, 51]⟩ (by decide) (by decide)
 rwa [aw1] at this
theorem wa2 (W : World) : Calls Tryz.prog 27 #[.string ⟨#[49, 47, 51]⟩, .string ⟨#[51, 47, 53]⟩] W fun e w' => Below W.heap.size W w' ∧ e = .returned (.tuple #[.string ⟨#[49, 47, 50]⟩, .int .i64 0]) := by
 have := simpe_calls W ⟨#[49, 47, 51]⟩ ⟨#[51, 47, 53]⟩ (by decide) (by decide)
 rwa [aw2] at this
theorem wa3 (W : World) : Calls Tryz.prog 13 #[.string ⟨#[45, 48, 48, 54, 47, 52]⟩] W fun e w' => Below W.heap.size W w' ∧ e = .returned (.tuple #[.string ⟨#[45, 51, 47, 50]⟩, .int .i64 0]) := by
 have := parse_calls W ⟨#[45, 48, 48, 54, 47, 52]⟩ (by decide)
 rwa [aw3] at this
theorem wa4 (W : World) : Calls Tryz.prog 36 #[.string ⟨#[45, 49, 47, 50]⟩] W fun e w' => Below W.heap.size W w' ∧ e = .returned (.tuple #[.string ⟨#[45, 49]⟩, .int .i64 0]) := by
 have := rfloor_calls W ⟨#[45, 49, 47, 50]⟩ (by decide)
 rw [aw4] at this
 simp only [Option.elim, aw4'] at this
 exact this
theorem wa5 (W : World) : Calls Tryz.prog 33 #[.string ⟨#[55]⟩, .string ⟨#[105, 110, 102]⟩] W fun e w' => Below W.heap.size W w' ∧ e = .returned (.string ⟨#[105, 110, 102]⟩) := by
 have := maxe_calls W ⟨#[55]⟩ ⟨#[105, 110, 102]⟩ (by decide) (by decide)
 rw [aw5] at this
 simp only [Option.elim] at this
 rwa [if_pos (by decide +kernel)] at this
theorem wa6 (W : World) {a : ByteArray} (h : a = ⟨#[50, 47, 52]⟩ ∨ a = ⟨#[48, 47, 53]⟩) : Calls Tryz.prog 50 #[.string a] W fun e w' => Below W.heap.size W w' ∧ e = .returned (.bool false) := by
 have := rvalid_calls W a (by rcases h with rfl | rfl <;> decide)
 have hr : rv a = none := by rcases h with rfl | rfl; exact aw6; exact aw7
 rwa [hr] at this
theorem wa8 (W : World) : Calls Tryz.prog 29 #[.string ⟨#[49, 47, 51]⟩, .string ⟨#[50, 47, 53]⟩] W fun e w' => Below W.heap.size W w' ∧ e = .returned (.int .i64 (-1)) := by
 have := cmpe_calls W ⟨#[49, 47, 51]⟩ ⟨#[50, 47, 53]⟩ (by decide) (by decide)
 rw [aw8] at this
 simp only [Option.elim] at this
 rwa [show ce (some (1 / 3)) (some (2 / 5)) = -1 by decide +kernel] at this
theorem awake_calls (W : World) : Calls Tryz.prog 15 #[] W fun e w' => Below W.heap.size W w' ∧ e = .returned (.bool true) := by
 have E := Env.start W
 go_enter Tryz.func15, Tryz.ntmps15
 go_wp2_with (first | (go_at_call 66; refine env_call E (wa1 _) ?_; clear E; rintro e wc E rfl; have q := E.cls; (repeat obtain ⟨_, _, q⟩ := q); clear q) | (go_at_call 27; refine env_call E (wa2 _) ?_; clear E; rintro e wc E rfl; have q := E.cls; (repeat obtain ⟨_, _, q⟩ := q); clear q) | (go_at_call 13; refine env_call E (wa3 _) ?_; clear E; rintro e wc E rfl; have q := E.cls; (repeat obtain ⟨_, _, q⟩ := q); clear q) | (go_at_call 36; refine env_call E (wa4 _) ?_; clear E; rintro e wc E rfl; have q := E.cls; (repeat obtain ⟨_, _, q⟩ := q); clear q) | (go_at_call 33; refine env_call E (wa5 _) ?_; clear E; rintro e wc E rfl; have q := E.cls; (repeat obtain ⟨_, _, q⟩ := q); clear q) | (go_at_call 50; refine env_call E (wa6 _ (by decide)) ?_; clear E; rintro e wc E rfl; have q := E.cls; (repeat obtain ⟨_, _, q⟩ := q); clear q) | (go_at_call 29; refine env_call E (wa8 _) ?_; clear E; rintro e wc E rfl; have q := E.cls; (repeat obtain ⟨_, _, q⟩ := q); clear q) | (go_at_call 23; refine env_call E (is_same _ _) ?_; clear E; rintro e wc E rfl; have q := E.cls; (repeat obtain ⟨_, _, q⟩ := q); clear q))
 go_ret
 exact ⟨E.below, rfl⟩
theorem cell_keep {w w' : World} {a : Addr} {u : Value} (hb : Below w.heap.size w w') (h : w.cell? a = some u) : w'.cell? a = some u := (hb.cell (World.block_lt_of_cell? w _ h)).trans h
structure XpF (ls : List ByteArray) (f : ByteArray) : Prop where
 h0 : ls[0]? = some f
 hn : ls.length ≤ 1000000
 hs : ∀ i s, 0 < i → ls[i]? = some s → ∃ g : Int, 0 < g ∧ ∀ W : World, Calls Tryz.prog 37 #[.string s] W fun e w' => Below W.heap.size W w' ∧ e = .returned (.int .i64 g)
 hl : ∀ i s, 0 < i → i + 1 = ls.length → ls[i]? = some s → (s.toList == [49]) = false
theorem rd_head {ls : List ByteArray} {f : ByteArray} (h : ls[0]? = some f) : rdOf ByteArray.empty ls 0 = f := by simp [rdOf, h]
theorem exps_walk {A0 A1 x f : ByteArray} {ls : List ByteArray}
  (HF : ∀ W : World, Calls Tryz.prog 18 #[.string A0, .string A1, .int .i64 60] W fun e w' => Below W.heap.size W w' ∧ e = .returned (.string x))
  (HE : ∀ W : World, Calls Tryz.prog 34 #[.string x] W fun e w' => Below W.heap.size W w' ∧ RTL ls e w')
  (HC : ∀ (W : World) (A : Option Addr) (c : Nat), Kd.C Kd.string W A ls.length ls → Calls Tryz.prog 35 #[.slice A ls.length c] W fun e w' => Below W.heap.size W w' ∧ e = .returned (.tuple #[.string x, .int .i64 0]))
  (HL : ∀ W : World, Calls Tryz.prog 36 #[.string x] W fun e w' => Below W.heap.size W w' ∧ e = .returned (.tuple #[.string f, .int .i64 0]))
  (F : XpF ls f) (W : World) :
  Calls Tryz.prog 7 #[.agg #[.string A0, .string A1]] W fun e w' => Below W.heap.size W w' ∧ e = .returned (.bool true) := by
 have E := Env.start W
 have FF := Aside0.mk (And.intro HF (And.intro HE (And.intro HC HL)))
 have FX := Aside0.mk F
 clear HF HE HC HL F
 go_enter Tryz.func7, Tryz.ntmps7
 have hl0 : ((ls.length : Int) == 0) = false := beq_eq_false_iff_ne.2 fun e => by
  have h := (List.getElem?_eq_some_iff.1 FX.out.h0).1
  omega
 have hl1 : (0 < ls.length) = True := eq_true (List.getElem?_eq_some_iff.1 FX.out.h0).1
 go_wp2_with (first | ((with_reducible first | refine gate_box (by rfl) ?_ | refine gate_alloc (by rfl) ?_); refine bx_ E ?_; clear E; intro gb wb E; have q := E.cls; (repeat obtain ⟨_, _, q⟩ := q); clear q) | (go_at_call 18; refine env_call E (FF.out.1 _) ?_; clear E; rintro e wc E rfl; have q := E.cls; (repeat obtain ⟨_, _, q⟩ := q); clear q) | (go_at_call 34; refine env_call E (FF.out.2.1 _) ?_; clear E; rintro e wc E ⟨A, c, rfl, hk_⟩; have HCC := Aside0.mk hk_; clear hk_; obtain ⟨ad, eA, cA⟩ := Kd.at_string HCC.out 0 (by decide) (by have := FX.out.h0; have := (List.getElem?_eq_some_iff.1 this).1; omega); cases eA; rw [show ad.add (0 : Int).toNat = ad from rfl, rd_head FX.out.h0] at cA; have q := E.cls; (repeat obtain ⟨_, _, q⟩ := q); clear q) | (go_at_call 35; refine (FF.out.2.2.1 _ _ _ HCC.out).mono ?_; rintro e wc ⟨hb_, rfl⟩; replace HCC := Aside0.mk (Kd.C_below HCC.out hb_); replace E := E.next hb_; replace cA := cell_keep hb_ cA; clear hb_; have q := E.cls; (repeat obtain ⟨_, _, q⟩ := q); clear q) | (go_at_call 36; refine (FF.out.2.2.2 _).mono ?_; rintro e wc ⟨hb_, rfl⟩; replace HCC := Aside0.mk (Kd.C_below HCC.out hb_); replace E := E.next hb_; replace cA := cell_keep hb_ cA; clear hb_; have q := E.cls; (repeat obtain ⟨_, _, q⟩ := q); clear q) | (go_at_call 23; refine (is_same _ _).mono ?_; rintro e wc ⟨hb_, rfl⟩; replace HCC := Aside0.mk (Kd.C_below HCC.out hb_); replace E := E.next hb_; replace cA := cell_keep hb_ cA; clear hb_; have q := E.cls; (repeat obtain ⟨_, _, q⟩ := q); clear q))
 go_loopg [10] ls.length (fun kq v10 w' => ∃ x : Int, v10 = .int .i64 x ∧ Aside0 (1 ≤ x ∧ x ≤ (ls.length : Int) ∧ (kq : Int) = (ls.length : Int) + 1 - x) ∧ Aside0 (Below W.heap.size W w') ∧ Aside0 (Kd.C Kd.string w' (some ad) ls.length ls))
 case atStart => exact ⟨1, rfl, ⟨by omega, by have := (List.getElem?_eq_some_iff.1 FX.out.h0).1; omega, by omega⟩, ⟨E.below⟩, HCC⟩
 case round =>
  clear E HCC cA
  obtain ⟨x, rfl, INV, HB, HCC⟩ := hrel
  have x0 : 0 ≤ x := by have := INV.out.1; omega
  by_cases hx : x < (ls.length : Int)
  ·have hxb : decide (x < (ls.length : Int)) = true := decide_eq_true hx
   have hx1 : (0 ≤ x) = True := eq_true x0
   have hx2 : (x < (ls.length : Int)) = True := eq_true hx
   obtain ⟨ad', eA, cA⟩ := Kd.at_string HCC.out x x0 hx
   cases eA
   obtain ⟨s, hs⟩ : ∃ s, s = rdOf ByteArray.empty ls x := ⟨_, rfl⟩
   rw [← hs] at cA
   have hsx : ls[x.toNat]? = some s := by
    rw [hs]
    have hl : x.toNat < ls.length := by omega
    simp [rdOf, hl]
   obtain ⟨g, g0, hg⟩ := FX.out.hs x.toNat s (by have := INV.out.1; omega) hsx
   have HG := Aside0.mk hg
   have hg1 : decide (g ≤ 0) = false := decide_eq_false (by omega)
   have hg2 : (g ≤ 0) = False := eq_false (by omega)
   have hw : wrap64 ((ls.length : Int) - 1) = (ls.length : Int) - 1 := wrap_id (by omega) (by have := FX.out.hn; omega)
   have hw2 : wrap64 (x + 1) = x + 1 := wrap_id (by omega) (by have := FX.out.hn; omega)
   have hn := Aside0.mk (show gk - 1 < gk ∧ 1 ≤ x + 1 ∧ x + 1 ≤ (ls.length : Int) ∧ ((gk - 1 : Nat) : Int) = (ls.length : Int) + 1 - (x + 1) by have := INV.out; omega)
   have HL := Aside0.mk (show x = (ls.length : Int) - 1 → (s.toList == [49]) = false from fun e => FX.out.hl x.toNat s (by have := INV.out.1; omega) (by omega) hsx)
   clear hs hsx hg g0 hx
   by_cases he : x = (ls.length : Int) - 1
   ·have he1 : (x == (ls.length : Int) - 1) = true := beq_iff_eq.2 he
    have he2 : (x = (ls.length : Int) - 1) = True := eq_true he
    have h49 : (s.toList == [49]) = false := HL.out he
    clear he
    go_wp2_with (first | (go_at_call 37; refine (HG.out _).mono ?_; rintro e wc ⟨hb_, rfl⟩; replace HCC := Aside0.mk (Kd.C_below HCC.out hb_); replace cA := cell_keep hb_ cA; replace HB := Aside0.mk (HB.out.trans (hb_.mono HB.out.size)); clear hb_))
    go_roundg (gk - 1)
    case measure => exact hn.out.1
    case rel => exact ⟨_, by rw [hw2], ⟨hn.out.2⟩, HB, HCC⟩
   ·have he1 : (x == (ls.length : Int) - 1) = false := beq_eq_false_iff_ne.2 he
    have he2 : (x = (ls.length : Int) - 1) = False := eq_false he
    clear he
    go_wp2_with (first | (go_at_call 37; refine (HG.out _).mono ?_; rintro e wc ⟨hb_, rfl⟩; replace HCC := Aside0.mk (Kd.C_below HCC.out hb_); replace cA := cell_keep hb_ cA; replace HB := Aside0.mk (HB.out.trans (hb_.mono HB.out.size)); clear hb_))
    go_roundg (gk - 1)
    case measure => exact hn.out.1
    case rel => exact ⟨_, by rw [hw2], ⟨hn.out.2⟩, HB, HCC⟩
  ·have hxb : decide (x < (ls.length : Int)) = false := decide_eq_false hx
   go_wp2_with (first | (go_at_call 15; refine (awake_calls _).mono ?_; rintro e wc ⟨hb_, rfl⟩; replace HB := Aside0.mk (HB.out.trans (hb_.mono HB.out.size)); clear hb_))
   refine bodyPost_ret (results_single rfl (.tmp .nil)) rfl ?_
   exact ⟨HB.out, rfl⟩
theorem madeCells_nonInt {z : Array Value} (hz : z.toList.all nonInt = true) (n : Nat) (h0 : 0 < z.size) : (madeCells z n).toList.all nonInt = true := by
 rw [List.all_eq_true] at hz ⊢
 intro x hx
 unfold madeCells at hx
 rw [Array.toList_map, List.mem_map] at hx
 obtain ⟨i, hi, rfl⟩ := hx
 have hlt : i % z.size < z.size := Nat.mod_lt _ h0
 rw [getElem!_pos z _ hlt]
 exact hz _ (by simp)
section
variable {P : Program} {ops : Array Oper} {rest : List Oper} {o : Oper} {a : Act} {Q : Exit → Act → World → Prop} {w0 W : World} {e size base n : Nat}
theorem RowN.makecap (hgd : o.guard = none) (t : TypeId) (x y : Operand) (ho : o.op = .makeSlice t x y) (hx : a.eval x = .int .i64 0) (hy : a.eval y = .int .i64 (n : Int))
  (ht : P.underlying t = some (.slice e)) (z : Value) (bytes : Nat) (hinfo : (P.info? e).map (fun i => (i.zero, i.size, i.bytes)) = some (some z, size, bytes)) (hz : z.cells.size = size) (hzn : z.cells.toList.all nonInt = true) (hs0 : 0 < size) (hb0 : 0 < bytes)
  (hl : n * bytes ≤ 281474976710656) (HB : Below base w0 W) (hbase : base ≤ W.heap.size)
  (h : ∀ g w1, RowN e size base w1 (.slice (some ⟨g, 0, none⟩) 0 n) 0 [] → Below base w0 w1 → IK W w1 → wpList P ops Q rest (a.put o.dst (.slice (some ⟨g, 0, none⟩) 0 n)) w1) : wpList P ops Q (o :: rest) a W := by
 obtain ⟨i0, hi, hzz⟩ := Option.map_eq_some_iff.1 hinfo
 simp only [Prod.mk.injEq] at hzz
 obtain ⟨hz0, hz1, hz2⟩ := hzz
 have hm : n ≤ 281474976710656 := Nat.le_trans (Nat.le_mul_of_pos_right _ hb0) hl
 have hr := run_make (P := P) W t e i0 z ht hi hz0 .i64 .i64 0 (n : Int) (by omega) (by omega)
  (by
   have h3 : ((i0.bytes * n : Nat) : Int) ≤ 281474976710656 := by rw [hz2, Nat.mul_comm]; omega
   rwa [Int.natCast_mul] at h3) (by omega)
 simp only [Int.toNat_zero, Int.toNat_natCast] at hr
 refine Kd.event_run (v := .slice (some ⟨W.heap.size, 0, none⟩) 0 n) (w1 := W.alloc (.cells (madeCells z.cells (n * i0.size)) e)) hgd ?_ (h W.heap.size _ ⟨by simp, .inr ⟨W.heap.size, n, (madeCells z.cells (n * i0.size)).toList, rfl, hbase, ?_, Nat.zero_le _, by simp only [maxLen]; omega, ?_, ?_⟩⟩ (HB.alloc hbase _) (IK.alloc W _))
 ·simp [execOp, ho, hx, hy, hr]
 ·simpa using heap_alloc_new W (.cells (madeCells z.cells (n * i0.size)) e)
 ·simp [size_madeCells, hz1]
 ·rw [List.nil_append]
  exact madeCells_nonInt hzn _ (by omega)
end
def iv (s : ByteArray) : Option Int := (int? (bytesOf s)).bind fun z => if Lg z = true then none else some z
def ivs : List ByteArray → Option (List Int)
 |[] => some []
 |s :: r => match iv s, ivs r with
  |some x, some xs => some (x :: xs)
  |_, _ => none
theorem ivs_snoc : ∀ (l : List ByteArray) (s : ByteArray), ivs (l ++ [s]) = match ivs l, iv s with | some xs, some x => some (xs ++ [x]) | _, _ => none
 |[], s => by rw [List.nil_append, ivs, ivs, ivs]; cases iv s <;> rfl
 |a :: l, s => by
  rw [List.cons_append, ivs, ivs_snoc l s, ivs]
  cases iv a <;> cases ivs l <;> cases iv s <;> rfl
theorem ivs_none : ∀ (l r : List ByteArray) (s : ByteArray), iv s = none → ivs (l ++ s :: r) = none
 |[], r, s, h => by rw [List.nil_append, ivs, h]
 |a :: l, r, s, h => by rw [List.cons_append, ivs, ivs_none l r s h]; cases iv a <;> rfl
theorem ivs_len : ∀ {l : List ByteArray} {xs : List Int}, ivs l = some xs → xs.length = l.length
 |[], xs, h => by cases h; rfl
 |a :: l, xs, h => by
  rw [ivs] at h
  split at h
  next x ys h1 h2 => cases h; rw [List.length_cons, List.length_cons, ivs_len h2]
  ·cases h
structure RawI where
 b : Bool
 A : Option Addr
 n : Nat
 c : Nat
 s : ByteArray
def RawI.cells (r : RawI) : List Value := [.bool r.b, .slice r.A r.n r.c, .string r.s]
def IntOk (W : World) (r : RawI) (z : Int) : Prop := Wh W r.b (.slice r.A r.n r.c) z
def IntsOk (W : World) : List RawI → List ByteArray → List Int → Prop
 |[], [], [] => True
 |r :: rs, s :: ss, x :: xs => (r.s = s ∧ IntOk W r x) ∧ IntsOk W rs ss xs
 |_, _, _ => False
theorem IntsOk.ik {W W' : World} (k : IK W W') : ∀ {rs : List RawI} {ss : List ByteArray} {xs : List Int}, IntsOk W rs ss xs → IntsOk W' rs ss xs
 |[], [], [], h => h
 |r :: rs, s :: ss, x :: xs, h => ⟨⟨h.1.1, Wh.ik h.1.2 k⟩, IntsOk.ik k h.2⟩
 |[], _ :: _, _, h => h.elim
 |[], [], _ :: _, h => h.elim
 |_ :: _, [], _, h => h.elim
 |_ :: _, _ :: _, [], h => h.elim
theorem IntsOk.snoc {W : World} {r : RawI} {s : ByteArray} {x : Int} (hx : r.s = s ∧ IntOk W r x) : ∀ {rs : List RawI} {ss : List ByteArray} {xs : List Int}, IntsOk W rs ss xs → IntsOk W (rs ++ [r]) (ss ++ [s]) (xs ++ [x])
 |[], [], [], h => ⟨hx, trivial⟩
 |a :: rs, c :: ss, b :: xs, h => ⟨h.1, IntsOk.snoc hx h.2⟩
 |[], _ :: _, _, h => h.elim
 |[], [], _ :: _, h => h.elim
 |_ :: _, [], _, h => h.elim
 |_ :: _, _ :: _, [], h => h.elim
def Is_ (rs : List RawI) : List Value := rs.flatMap RawI.cells
theorem Is_snoc (rs : List RawI) (r : RawI) : Is_ (rs ++ [r]) = Is_ rs ++ r.cells := by simp [Is_]
def RdwInv (ls : List ByteArray) (x : Int) (kq : Nat) (xs : List Int) : Prop := 0 ≤ x ∧ x ≤ (ls.length : Int) ∧ (kq : Int) = (ls.length : Int) + 1 - x ∧ ivs (ls.take x.toNat) = some xs
def RI (base : Nat) (ls : List ByteArray) (o : Option (List Int)) (e : Ending) (w' : World) : Prop := match o with
 |none => e = .returned (.tuple #[.slice none 0 0, .bool false])
 |some xs => ∃ g rs cs, e = .returned (.tuple #[.slice (some ⟨g, 0, none⟩) xs.length xs.length, .bool true]) ∧ base ≤ g ∧ w'.heap[g]? = some (.cells (Is_ rs ++ cs).toArray 123 (0, 0)) ∧ (Is_ rs ++ cs).all nonInt = true ∧ IntsOk w' rs ls xs
theorem RdwInv.next {ls : List ByteArray} {x : Int} {kq : Nat} {xs : List Int} {s : ByteArray} {e : Int} (h : RdwInv ls x kq xs) (hx : x < (ls.length : Int)) (hm : ls.length ≤ 1000000) (ht : ls.take (x.toNat + 1) = ls.take x.toNat ++ [s]) (he : iv s = some e) :
  kq - 1 < kq ∧ RdwInv ls (wrap64 (x + 1)) (kq - 1) (xs ++ [e]) ∧ (wrap64 (x + 1)).toNat = x.toNat + 1 := by
 obtain ⟨h1, h2, h3, h4⟩ := h
 have hw : wrap64 (x + 1) = x + 1 := wrap_id (by omega) (by omega)
 rw [hw]
 refine ⟨by omega, ⟨by omega, by omega, by omega, ?_⟩, by omega⟩
 rw [show (x + 1).toNat = x.toNat + 1 by omega, ht, ivs_snoc, h4, he]
theorem icells_one (r : RawI) : ∀ u ∈ r.cells, u.oneCell' = true := by
 intro u hu
 simp only [RawI.cells, List.mem_cons, List.not_mem_nil, or_false] at hu
 rcases hu with rfl | rfl | rfl <;> rfl
theorem rdw_facts {ls : List ByteArray} {s : ByteArray} {x : Int} (HS : ∀ s ∈ ls, s.size ≤ 9000000000000) (x0 : 0 ≤ x) (hx : x < (ls.length : Int)) (hs : s = rdOf ByteArray.empty ls x) : s.size ≤ 9000000000000 ∧ ls.take (x.toNat + 1) = ls.take x.toNat ++ [s] ∧ ∃ r, ls = ls.take x.toNat ++ s :: r := by
 have hl : x.toNat < ls.length := by omega
 have e : s = ls[x.toNat] := by rw [hs]; simp [rdOf, hl]
 subst e
 exact ⟨HS _ (List.getElem_mem hl), by rw [List.take_succ_eq_append_getElem hl], ls.drop (x.toNat + 1), by rw [← List.drop_eq_getElem_cons hl, List.take_append_drop]⟩
theorem wread_calls (w00 : World) {A : Option Addr} {c : Nat} {ls : List ByteArray} (h : Kd.C Kd.string w00 A ls.length ls) (hm : ls.length ≤ 1000000) (hs : ∀ s ∈ ls, s.size ≤ 9000000000000) : Calls Tryz.prog 125 #[.slice A ls.length c] w00 fun e w' => Below w00.heap.size w00 w' ∧ RI w00.heap.size ls (ivs ls) e w' := by
 have D := Aside0.mk h
 have HM := Aside0.mk hm
 have HS := Aside0.mk hs
 have HB := Aside0.mk (Below.refl w00.heap.size w00)
 clear h hm hs
 go_enter Tryz.func125, Tryz.ntmps125
 go_wp2_with (first | (at_make; refine RowN.makecap (w0 := w00) (base := w00.heap.size) (size := 3) (n := ls.length) (by rfl) 119 _ _ (by rfl) (by rfl) (by rfl) Tryz.underlying119 (.agg #[.bool false, .slice none 0 0, .string ByteArray.empty]) 48 info123 rfl (by rfl) (by decide) (by decide) (by have := HM.out; omega) HB.out HB.out.size ?_; intro gm wm ho hb hik; clear HB; have HO := Aside0.mk ho; have HB := Aside0.mk hb; clear ho hb hik))
 go_loopg [4, 14] (ls.length + 1) (fun kq v4 v14 w' => ∃ (x : Int) (rs : List RawI) (xs : List Int) (g cap : Nat), v14 = .int .i64 x ∧ v4 = .slice (some ⟨g, 0, none⟩) x.toNat cap ∧ Aside0 (RdwInv ls x kq xs) ∧ Aside0 (RowN 123 3 w00.heap.size w' (.slice (some ⟨g, 0, none⟩) x.toNat cap) x.toNat (Is_ rs)) ∧ Aside0 (IntsOk w' rs (ls.take x.toNat) xs) ∧ Aside0 (Below w00.heap.size w00 w'))
 case atStart => exact ⟨0, [], [], gm, ls.length, rfl, rfl, ⟨by simp [RdwInv, ivs]⟩, HO, ⟨trivial⟩, HB⟩
 case round =>
  clear HO HB
  obtain ⟨x, rs, xs, g, cap, rfl, rfl, INV, HO, EO, HB⟩ := hrel
  have x0 : 0 ≤ x := INV.out.1
  by_cases hx : x < (ls.length : Int)
  ·have hxb : decide (x < (ls.length : Int)) = true := decide_eq_true hx
   obtain ⟨ad, eA, cA⟩ := Kd.at_string (Kd.C_below D.out HB.out) x x0 hx
   cases eA
   obtain ⟨s, hs⟩ : ∃ s, s = rdOf ByteArray.empty ls x := ⟨_, rfl⟩
   rw [← hs] at cA
   have HSS := Aside0.mk (show s.size ≤ 9000000000000 ∧ ls.take (x.toNat + 1) = ls.take x.toNat ++ [s] ∧ ∃ r, ls = ls.take x.toNat ++ s :: r from rdw_facts HS.out x0 hx hs)
   have HX := Aside0.mk hx
   have hx1 : (0 ≤ x) = True := eq_true x0
   have hx2 : (x < (ls.length : Int)) = True := eq_true hx
   clear hx hs
   have E := Env.start wr
   have fin : iv s = none → ∀ w' : World, Below wr.heap.size wr w' → Below w00.heap.size w00 w' ∧ RI w00.heap.size ls (ivs ls) (.returned (.tuple #[.slice none 0 0, .bool false])) w' := fun h w' hb => by
    obtain ⟨r, hl⟩ := HSS.out.2.2
    rw [hl, ivs_none _ _ _ h]
    exact ⟨HB.out.trans (hb.mono HB.out.size), rfl⟩
   have FIN := Aside0.mk fin
   clear fin
   cases hr : int? (bytesOf s) with
   |none =>
    have HR := Aside0.mk hr
    clear hr
    go_wp2_with (first | ((with_reducible first | refine gate_box (by rfl) ?_ | refine gate_alloc (by rfl) ?_); refine bx_ E ?_; clear E; intro gb wb E; have q := E.cls; (repeat obtain ⟨_, _, q⟩ := q); clear q) | (go_at_call 95; refine env_call E (read_none _ HR.out HSS.out.1) ?_; clear E; rintro e wc E ⟨br, Ar, nr, cr, rfl, hw_⟩; replace E := E.wh hw_; clear hw_; have q := E.cls; (repeat obtain ⟨_, _, q⟩ := q); clear q) | ((with_reducible refine gate_stored (t := 77) (by rfl) ?_); refine st_ (fun ws hs_ => ?_); replace E := Env.pt2 hs_ E; clear hs_; have q := E.cls; (repeat obtain ⟨_, _, q⟩ := q); clear q))
    refine bodyPost_ret (results_list (rs := [.tmp _, .tmp _]) rfl (by simp) (.tmp (.tmp .nil))) rfl ?_
    exact FIN.out (by unfold iv; rw [HR.out]; rfl) _ E.below
   |some z =>
    have HR := Aside0.mk hr
    have HL := Aside0.mk (ln_text hr HSS.out.1)
    cases hg : Lg z with
    |true =>
     have HG := Aside0.mk hg
     clear hr
     go_wp2_with (first | ((with_reducible first | refine gate_box (by rfl) ?_ | refine gate_alloc (by rfl) ?_); refine bx_ E ?_; clear E; intro gb wb E; have q := E.cls; (repeat obtain ⟨_, _, q⟩ := q); clear q) | (go_at_call 95; refine env_call E (read_some _ HR.out HSS.out.1) ?_; clear E; rintro e wc E ⟨br, Ar, nr, cr, rfl, hw_⟩; replace E := E.wh hw_; clear hw_; have q := E.cls; (repeat obtain ⟨_, _, q⟩ := q); clear q) | ((with_reducible refine gate_stored (t := 77) (by rfl) ?_); refine st_ (fun ws hs_ => ?_); replace E := Env.pt2 hs_ E; clear hs_; have q := E.cls; (repeat obtain ⟨_, _, q⟩ := q); clear q) | (go_at_call 142; refine env_call E (long_calls E.getW (HL.out.fits (by omega))) ?_; clear E; rintro e wc E rfl; have q := E.cls; (repeat obtain ⟨_, _, q⟩ := q); clear q))
     refine bodyPost_ret (results_list (rs := [.tmp _, .tmp _]) rfl (by simp) (.tmp (.tmp .nil))) rfl ?_
     exact FIN.out (by unfold iv; rw [HR.out, Option.bind_some, if_pos HG.out]) _ E.below
    |false =>
     have HG := Aside0.mk hg
     have hn := INV.out.next HX.out HM.out HSS.out.2.1 (e := z) (by unfold iv; rw [hr, Option.bind_some, if_neg (by rw [hg]; decide)])
     replace hn := Aside0.mk hn
     clear hr
     go_wp2_with (first | ((with_reducible first | refine gate_box (by rfl) ?_ | refine gate_alloc (by rfl) ?_); refine bx_ E ?_; clear E; intro gb wb E; have q := E.cls; (repeat obtain ⟨_, _, q⟩ := q); clear q) | (go_at_call 95; refine env_call E (read_some _ HR.out HSS.out.1) ?_; clear E; rintro e wc E ⟨br, Ar, nr, cr, rfl, hw_⟩; replace E := E.wh hw_; clear hw_; have q := E.cls; (repeat obtain ⟨_, _, q⟩ := q); clear q) | ((with_reducible refine gate_stored (t := 77) (by rfl) ?_); refine st_ (fun ws hs_ => ?_); replace E := Env.pt2 hs_ E; clear hs_; have q := E.cls; (repeat obtain ⟨_, _, q⟩ := q); clear q) | (go_at_call 142; refine env_call E (long_calls E.getW (HL.out.fits (by omega))) ?_; clear E; rintro e wc E rfl; have q := E.cls; (repeat obtain ⟨_, _, q⟩ := q); clear q) | (at_builtin; refine RowN.append (w0 := w00) (base := w00.heap.size) (n := x.toNat) (xs := Is_ rs) (by rfl) _ _ 119 (.agg #[.bool false, .slice none 0 0, .string ByteArray.empty]) 48 (by rfl) Tryz.underlying119 info123 rfl rfl (by decide) (by decide) (RawI.cells ⟨br, Ar, nr, cr, s⟩) (by rfl) (by rfl) rfl (icells_one _) rfl (HO.out.below E.below) (HB.out.trans (E.below.mono HB.out.size)) (Nat.le_trans HB.out.size E.below.size) (by have := HM.out; have := HX.out; omega) ?_; intro v1 w1 ho hb hik hg; clear hg; rcases ho.2 with ⟨-, h0⟩ | ⟨g', cap', cs', rfl, -⟩; exact absurd h0 (Nat.succ_ne_zero _)))
     go_roundg (gk - 1)
     case measure => exact hn.out.1
     case rel => exact ⟨_, rs ++ [⟨br, Ar, nr, cr, s⟩], _, g', cap', rfl, by rw [hn.out.2.2], ⟨hn.out.2.1⟩, ⟨by rw [hn.out.2.2, Is_snoc]; exact ho⟩, ⟨by rw [hn.out.2.2, HSS.out.2.1]; exact IntsOk.snoc (r := ⟨br, Ar, nr, cr, s⟩) (s := s) (x := z) ⟨rfl, E.getW.ik hik⟩ ((EO.out.ik (IK.below E.below)).ik hik)⟩, ⟨hb⟩⟩
  ·have hxb : decide (x < (ls.length : Int)) = false := decide_eq_false hx
   have e : x.toNat = ls.length := by have := INV.out.2.1; omega
   have hxv : ivs ls = some xs := by have := INV.out.2.2.2; rwa [e, List.take_length] at this
   have hl : xs.length = ls.length := ivs_len hxv
   rw [e] at HO EO ⊢
   rw [List.take_length] at EO
   have HLC := Aside0.mk hl
   have HXV := Aside0.mk hxv
   have hcap : ls.length ≤ cap := by
    rcases HO.out.2 with ⟨h0, -⟩ | ⟨g', cap', cs', h0, -, -, h1, -⟩
    ·cases h0
    ·cases h0; exact h1
   have hel : Tryz.prog.elem 119 = 123 := by kernel_rfl
   have hi1 : (0 : Int) ≤ (ls.length : Int) := by omega
   have hi2 : (ls.length : Int) ≤ (cap : Int) := by omega
   clear hl hxv hx
   go_wp2
   refine bodyPost_ret (results_list (rs := [.tmp _, .tmp _]) rfl (by simp) (.tmp (.tmp .nil))) rfl ?_
   rw [HXV.out]
   rcases HO.out.2 with ⟨h0, -⟩ | ⟨g', cap', cs', h0, h1, h2, -, -, -, h3⟩
   ·cases h0
   ·cases h0
    exact ⟨HB.out, g, rs, cs', by rw [HLC.out]; rfl, h1, h2, h3, EO.out⟩
theorem strings_row (W : World) (t : Nat) (l : List ByteArray) (hl : l.length ≤ maxLen) : Kd.C Kd.string (W.alloc (.cells (l.map Value.string).toArray t (0, 0))) (some ⟨W.heap.size, 0, none⟩) l.length l := by
 refine ⟨rfl, hl, fun _ => ⟨_, rfl, fun j p hp => ⟨[.string p], rfl, rfl, fun i u hu => ?_⟩⟩⟩
 have hi : i = 0 := by
  rcases i with _ | i
  ·rfl
  ·simp at hu
 subst hi
 have hu' : u = .string p := by simpa using hu.symm
 subst hu'
 have := blk_cell (blk_new W (.cells (l.map Value.string).toArray t (0, 0))) j
 simp only [Addr.add_lit, Nat.zero_add, Nat.add_zero]
 rw [show j * Kd.string.sz = j from Nat.mul_one j, this]
 simp [hp]
theorem iv_ln {s : ByteArray} {z : Int} (h : iv s = some z) : Ln z 112 ∧ int? (bytesOf s) = some z := by
 unfold iv at h
 obtain ⟨w, h1, h2⟩ := Option.bind_eq_some_iff.1 h
 split at h2
 ·cases h2
 next hl =>
  cases h2
  exact ⟨ln_short (by simpa using hl), h1⟩
section
variable {w W : World} {rows : List (World → Prop)} {a b : ByteArray} {post : Ending → World → Prop}
theorem ints1_none (E : Env w W rows []) (ha : a.size ≤ 9000000000000) (hx : iv a = none) (h : ∀ w', Env w w' rows [] → post (.returned (.tuple #[.slice none 0 0, .bool false])) w') :
  Calls Tryz.prog 125 #[.slice (some ⟨W.heap.size, 0, none⟩) 1 1] (W.alloc (.cells #[.string a] 22 (0, 0))) post := by
 refine (wread_calls (W.alloc (.cells #[.string a] 22 (0, 0))) (strings_row W 22 [a] (show 1 ≤ maxLen by decide)) (by simp) (by simp [ha])).mono ?_
 rintro e w' ⟨hb', hr⟩
 rw [show ivs [a] = none from ivs_none [] [] a hx] at hr
 obtain rfl := hr
 exact h w' ((E.next (below_alloc (Below.refl _ _) _)).next hb')
theorem ints1_some (E : Env w W rows []) (ha : a.size ≤ 9000000000000) {x : Int} (hx : iv a = some x)
  (h : ∀ g b1 A1 x1 c1 cs w', Env w w' ((fun W => Wh W b1 (.slice A1 x1 c1) x) :: rows) [(g, .bool b1 :: .slice A1 x1 c1 :: .string a :: cs, 123)] → post (.returned (.tuple #[.slice (some ⟨g, 0, none⟩) 1 1, .bool true])) w') :
  Calls Tryz.prog 125 #[.slice (some ⟨W.heap.size, 0, none⟩) 1 1] (W.alloc (.cells #[.string a] 22 (0, 0))) post := by
 refine (wread_calls (W.alloc (.cells #[.string a] 22 (0, 0))) (strings_row W 22 [a] (show 1 ≤ maxLen by decide)) (by simp) (by simp [ha])).mono ?_
 rintro e w' ⟨hb', hr⟩
 have hi : ivs [a] = some [x] := by simp [ivs, hx]
 rw [hi] at hr
 obtain ⟨g, rs, cs, rfl, hg, hh, hall, he⟩ := hr
 obtain ⟨r1, rfl⟩ : ∃ r1, rs = [r1] := by
  rcases rs with _ | ⟨r1, _ | ⟨r2, rs⟩⟩
  ·exact he.elim
  ·exact ⟨r1, rfl⟩
  ·exact he.2.elim
 have h1 : r1.s = a ∧ Wh w' r1.b (.slice r1.A r1.n r1.c) x := he.1
 have E' := ((E.next (below_alloc (Below.refl _ _) _)).next hb').wh h1.2
 have hcs : Is_ [r1] ++ cs = .bool r1.b :: .slice r1.A r1.n r1.c :: .string a :: cs := by
  rw [← h1.1]
  rfl
 rw [hcs] at hh hall
 refine h g r1.b r1.A r1.n r1.c cs w' ⟨E'.below, E'.rows, ⟨⟨?_, hh, hall, fun b hb => by cases hb⟩, trivial⟩⟩
 have := E.below.size
 have h3 : W.heap.size ≤ (W.alloc (.cells #[.string a] 22 (0, 0))).heap.size := (below_alloc (Below.refl W.heap.size W) (.cells #[.string a] 22 (0, 0))).size
 omega
end
section
variable {W : World} {b : Bool} {A : Option Addr} {n c : Nat} {z : Int}
end
theorem wvalid_calls (W : World) {a : ByteArray} (hsa : a.size ≤ 9000000000000) : Calls Tryz.prog 94 #[.string a] W fun e w' => Below W.heap.size W w' ∧ e = .returned (.bool (iv a).isSome) := by
 have E := Env.start W
 have HSA := Aside0.mk hsa
 clear hsa
 cases hx : iv a with
 |none =>
  have HX := Aside0.mk hx
  clear hx
  go_enter Tryz.func94, Tryz.ntmps94
  go_wp2_with (first | (go_at_call 125; refine ints1_none E HSA.out HX.out ?_; clear E; rintro wc E))
  go_ret
  exact ⟨E.below, rfl⟩
 |some x =>
  have HX := Aside0.mk hx
  clear hx
  go_enter Tryz.func94, Tryz.ntmps94
  go_wp2_with (first | (go_at_call 125; refine ints1_some E HSA.out HX.out ?_; clear E; rintro g b1 A1 x1 c1 cs wc E))
  go_ret
  exact ⟨E.below, rfl⟩
theorem wvalid_of {W : World} {a : ByteArray} {v : Bool} (h : (iv a).isSome = v) (hsa : a.size ≤ 9000000000000) : Calls Tryz.prog 94 #[.string a] W fun e w' => Below W.heap.size W w' ∧ e = .returned (.bool v) := h ▸ wvalid_calls W hsa
theorem wsign_calls (W : World) {a : ByteArray} (hsa : a.size ≤ 9000000000000) : Calls Tryz.prog 37 #[.string a] W fun e w' => Below W.heap.size W w' ∧ e = .returned (.int .i64 ((iv a).elim 0 sgnI)) := by
 have E := Env.start W
 have HSA := Aside0.mk hsa
 clear hsa
 cases hx : iv a with
 |none =>
  have HX := Aside0.mk hx
  clear hx
  go_enter Tryz.func37, Tryz.ntmps37
  go_wp2_with (first | (go_at_call 125; refine ints1_none E HSA.out HX.out ?_; clear E; rintro wc E))
  go_ret
  exact ⟨E.below, rfl⟩
 |some x =>
  have HX := Aside0.mk hx
  clear hx
  go_enter Tryz.func37, Tryz.ntmps37
  go_wp2_with (first | (go_at_call 125; refine ints1_some E HSA.out HX.out ?_; clear E; rintro g b1 A1 x1 c1 cs wc E; have q := E.cls; (repeat obtain ⟨_, _, q⟩ := q); clear q) | (go_at_call 84; refine env_call E (sign_calls E.getW) ?_; clear E; rintro e wc E rfl; have q := E.cls; (repeat obtain ⟨_, _, q⟩ := q); clear q))
  go_ret
  exact ⟨E.below, rfl⟩
def colOk (i : Nat) (s : ByteArray) : Bool := match iv s with | none => false | some x => decide (i = 0) || decide (0 < x)
def colAll (i : Nat) : List ByteArray → Bool
 |[] => true
 |s :: l => colOk i s && colAll (i + 1) l
theorem colAll_bad : ∀ {l : List ByteArray} {i : Nat} (j : Nat) (s : ByteArray), l[j]? = some s → colOk (i + j) s = false → colAll i l = false
 |[], _, j, s, h, _ => by cases h
 |a :: l, i, j, s, h, hb => by
  rw [colAll]
  rcases j with _ | j
  ·obtain rfl : a = s := by simpa using h
   rw [show i = i + 0 from rfl, hb]
   rfl
  ·rw [colAll_bad (l := l) (i := i + 1) j s (by simpa using h) (by rwa [show i + 1 + j = i + (j + 1) by omega]), Bool.and_false]
theorem colAll_all : ∀ {l : List ByteArray} {i : Nat}, (∀ j s, l[j]? = some s → colOk (i + j) s = true) → colAll i l = true
 |[], _, _ => rfl
 |a :: l, i, h => by
  rw [colAll, show colOk i a = true from h 0 a rfl, Bool.true_and]
  exact colAll_all fun j s hj => by
   rw [show i + 1 + j = i + (j + 1) by omega]
   exact h (j + 1) s (by simpa using hj)
def ivz (s : ByteArray) : Int := (iv s).getD 0
def colS (l : List ByteArray) : ByteArray × Int := if l = [] ∨ colAll 0 l = false then (⟨#[]⟩, 1) else res (Rat.divInt (cv (l.map ivz)).1.1 (cv (l.map ivz)).2.1)
def ColInv (ls : List ByteArray) (x : Int) (kq : Nat) (n m d k : Int) : Prop := (0 ≤ x ∧ x ≤ (ls.length : Int) ∧ (kq : Int) = (ls.length : Int) + 1 - x) ∧ cv ((ls.take x.toNat).map ivz) = ((n, m), (d, k)) ∧ (0 < x → 0 < d ∧ 0 ≤ k) ∧
 (Ln n (113 * x.toNat + 1) ∧ Ln m (113 * x.toNat + 1) ∧ Ln d (113 * x.toNat + 1) ∧ Ln k (113 * x.toNat + 1)) ∧ (x = 0 → d = 0 ∧ k = 1)
theorem ColInv.start (ls : List ByteArray) : ColInv ls 0 (ls.length + 1) 1 0 0 1 := ⟨⟨by omega, by omega, by omega⟩, rfl, fun h => absurd h (by decide), ⟨ln_one, (show Ln 0 1 from Nat.le_trans (Nat.le_of_eq (by rw [Int.natAbs_zero, dg_zero]; rfl)) (Nat.zero_le 1)), (show Ln 0 1 from Nat.le_trans (Nat.le_of_eq (by rw [Int.natAbs_zero, dg_zero]; rfl)) (Nat.zero_le 1)), ln_one⟩, fun _ => ⟨rfl, rfl⟩⟩
theorem ColInv.next {ls : List ByteArray} {x : Int} {kq : Nat} {n m d k c : Int} {s : ByteArray} (h : ColInv ls x kq n m d k) (hx : x < (ls.length : Int)) (hm : ls.length ≤ 1000000) (ht : ls.take (x.toNat + 1) = ls.take x.toNat ++ [s]) (hc : iv s = some c) (hp : 0 < x → 0 < c) :
  kq - 1 < kq ∧ ColInv ls (wrap64 (x + 1)) (kq - 1) (n * c + m) n (d * c + k) d := by
 obtain ⟨⟨h1, h2, h3⟩, h4, h5, ⟨l1, l2, l3, l4⟩, h6⟩ := h
 have hw : wrap64 (x + 1) = x + 1 := wrap_id (by omega) (by omega)
 have hn : (x + 1).toNat = x.toNat + 1 := by omega
 have lc : Ln c 112 := (iv_ln hc).1
 rw [hw]
 refine ⟨by omega, ⟨by omega, by omega, by omega⟩, ?_, ?_, ⟨?_, ?_, ?_, ?_⟩, fun e => absurd e (by omega)⟩
 ·rw [hn, ht, List.map_append, List.map_singleton, cv_snoc, h4]
  show cvS ((n, m), (d, k)) (ivz s) = _
  rw [show ivz s = c by unfold ivz; rw [hc]; rfl]
  rfl
 ·intro _
  by_cases h0 : 0 < x
  ·have a := h5 h0
   have b := Int.mul_pos a.1 (hp h0)
   exact ⟨by omega, by omega⟩
  ·obtain ⟨rfl, rfl⟩ := h6 (by omega)
   exact ⟨by omega, by omega⟩
 ·rw [hn]
  exact ((l1.mul lc).add (l2.mono (by omega))).mono (by omega)
 ·rw [hn]
  exact l1.mono (by omega)
 ·rw [hn]
  exact ((l3.mul lc).add (l4.mono (by omega))).mono (by omega)
 ·rw [hn]
  exact l3.mono (by omega)
def FourAt (w W : World) (g6 g7 g8 g9 : Nat) (n d m k : Int) : Prop := ∃ (b6 : Bool) (A6 : Option Addr) (x6 c6 : Nat) (b7 : Bool) (A7 : Option Addr) (x7 c7 : Nat) (b8 : Bool) (A8 : Option Addr) (x8 c8 : Nat) (b9 : Bool) (A9 : Option Addr) (x9 c9 : Nat),
 Env w W [(fun w => Wh w b6 (.slice A6 x6 c6) n), (fun w => Wh w b7 (.slice A7 x7 c7) d), (fun w => Wh w b8 (.slice A8 x8 c8) m), (fun w => Wh w b9 (.slice A9 x9 c9) k)] [(g9, [.bool b9, .slice A9 x9 c9], 77), (g8, [.bool b8, .slice A8 x8 c8], 77), (g7, [.bool b7, .slice A7 x7 c7], 77), (g6, [.bool b6, .slice A6 x6 c6], 77)]
theorem FourAt.mk {w W : World} {rows : List (World → Prop)} {bx : List (Nat × List Value × Nat)} {g6 g7 g8 g9 : Nat} {b6 b7 b8 b9 : Bool} {A6 A7 A8 A9 : Option Addr} {x6 c6 x7 c7 x8 c8 x9 c9 : Nat} {n d m k : Int} (E : Env w W rows bx)
  (hb : [(g9, [.bool b9, .slice A9 x9 c9], 77), (g8, [.bool b8, .slice A8 x8 c8], 77), (g7, [.bool b7, .slice A7 x7 c7], 77), (g6, [.bool b6, .slice A6 x6 c6], 77)].Sublist bx)
  (h1 : (fun w => Wh w b6 (.slice A6 x6 c6) n) ∈ rows) (h2 : (fun w => Wh w b7 (.slice A7 x7 c7) d) ∈ rows) (h3 : (fun w => Wh w b8 (.slice A8 x8 c8) m) ∈ rows) (h4 : (fun w => Wh w b9 (.slice A9 x9 c9) k) ∈ rows) : FourAt w W g6 g7 g8 g9 n d m k :=
 ⟨b6, A6, x6, c6, b7, A7, x7, c7, b8, A8, x8, c8, b9, A9, x9, c9, E.sub (in4 h1 h2 h3 h4) hb⟩
theorem wsign_of {W : World} {a : ByteArray} {z : Int} (h : iv a = some z) (hsa : a.size ≤ 9000000000000) : Calls Tryz.prog 37 #[.string a] W fun e w' => Below W.heap.size W w' ∧ e = .returned (.int .i64 (sgnI z)) := by
 have := wsign_calls W hsa
 rwa [h] at this
def ChkInv (ls : List ByteArray) (x : Int) (kq : Nat) : Prop := 0 ≤ x ∧ x ≤ (ls.length : Int) ∧ (kq : Int) = (ls.length : Int) + 1 - x ∧ ∀ (j : Nat) (s : ByteArray), (j : Int) < x → ls[j]? = some s → colOk j s = true
theorem ChkInv.next {ls : List ByteArray} {x : Int} {kq : Nat} {s : ByteArray} (h : ChkInv ls x kq) (hx : x < (ls.length : Int)) (hm : ls.length ≤ 1000000) (hs : ls[x.toNat]? = some s) (hc : colOk x.toNat s = true) : kq - 1 < kq ∧ ChkInv ls (wrap64 (x + 1)) (kq - 1) := by
 obtain ⟨h1, h2, h3, h4⟩ := h
 have hw : wrap64 (x + 1) = x + 1 := wrap_id (by omega) (by omega)
 rw [hw]
 refine ⟨by omega, by omega, by omega, by omega, fun j t hj ht => ?_⟩
 by_cases e : (j : Int) < x
 ·exact h4 j t e ht
 ·obtain rfl : j = x.toNat := by omega
  rw [hs] at ht
  obtain rfl := Option.some.inj ht
  exact hc
theorem col_facts {ls : List ByteArray} {s : ByteArray} {x : Int} (HS : ∀ s ∈ ls, s.size ≤ 9000000000000) (x0 : 0 ≤ x) (hx : x < (ls.length : Int)) (hs : s = rdOf ByteArray.empty ls x) : s.size ≤ 9000000000000 ∧ ls.take (x.toNat + 1) = ls.take x.toNat ++ [s] ∧ ls[x.toNat]? = some s := by
 have hl : x.toNat < ls.length := by omega
 have e : s = ls[x.toNat] := by rw [hs]; simp [rdOf, hl]
 subst e
 exact ⟨HS _ (List.getElem_mem hl), by rw [List.take_succ_eq_append_getElem hl], List.getElem?_eq_getElem hl⟩
theorem collapse_nil (W : World) (A : Option Addr) (c : Nat) : Calls Tryz.prog 35 #[.slice A 0 c] W fun e w' => Below W.heap.size W w' ∧ e = .returned (.tuple #[.string ⟨#[]⟩, .int .i64 1]) := by
 have E := Env.start W
 go_enter Tryz.func35, Tryz.ntmps35
 go_wp2
 refine bodyPost_ret (results_list (rs := [.tmp _, .tmp _]) rfl (by simp) (.tmp (.tmp .nil))) rfl ?_
 exact ⟨E.below, rfl⟩
theorem collapse_calls (W : World) {A : Option Addr} {c : Nat} {ls : List ByteArray} (h : Kd.C Kd.string W A ls.length ls) (hm : ls.length ≤ 1000000) (hs : ∀ s ∈ ls, s.size ≤ 9000000000000) : Calls Tryz.prog 35 #[.slice A ls.length c] W fun e w' => Below W.heap.size W w' ∧ e = .returned (.tuple #[.string (colS ls).1, .int .i64 (colS ls).2]) := by
 by_cases hl : ls = []
 ·subst hl
  exact collapse_nil W A c
 have D := Aside0.mk h
 have HM := Aside0.mk hm
 have HS := Aside0.mk hs
 have HL := Aside0.mk hl
 have HB := Aside0.mk (Below.refl W.heap.size W)
 have hl0 : ((ls.length : Int) == 0) = false := beq_eq_false_iff_ne.2 fun e => hl (List.eq_nil_of_length_eq_zero (by omega))
 clear h hm hs hl
 go_enter Tryz.func35, Tryz.ntmps35
 go_wp2
 go_loopg [19] (ls.length + 1) (fun kq v19 w' => ∃ x : Int, v19 = .int .i64 x ∧ Aside0 (ChkInv ls x kq) ∧ Aside0 (Below W.heap.size W w'))
 case atStart => exact ⟨0, rfl, ⟨by omega, by omega, by omega, fun j s hj => absurd hj (by omega)⟩, HB⟩
 case round =>
  clear HB
  obtain ⟨x, rfl, INV, HB⟩ := hrel
  have x0 : 0 ≤ x := INV.out.1
  by_cases hx : x < (ls.length : Int)
  ·have hxb : decide (x < (ls.length : Int)) = true := decide_eq_true hx
   obtain ⟨ad, eA, cA⟩ := Kd.at_string (Kd.C_below D.out HB.out) x x0 hx
   cases eA
   obtain ⟨s, hs⟩ : ∃ s, s = rdOf ByteArray.empty ls x := ⟨_, rfl⟩
   rw [← hs] at cA
   have HSS := Aside0.mk (col_facts HS.out x0 hx hs)
   have HX := Aside0.mk hx
   have hx1 : (0 ≤ x) = True := eq_true x0
   have hx2 : (x < (ls.length : Int)) = True := eq_true hx
   clear hx hs
   have E := Env.start wr
   have fin : colOk x.toNat s = false → ∀ w' : World, Below wr.heap.size wr w' → Below W.heap.size W w' ∧ Ending.returned (.tuple #[.string ⟨#[]⟩, .int .i64 1]) = Ending.returned (.tuple #[.string (colS ls).1, .int .i64 (colS ls).2]) := fun h w' hb => by
    refine ⟨HB.out.trans (hb.mono HB.out.size), ?_⟩
    unfold colS
    rw [if_pos (Or.inr (colAll_bad x.toNat s HSS.out.2.2 (by rwa [Nat.zero_add])))]
   have FIN := Aside0.mk fin
   clear fin
   cases hv : iv s with
   |none =>
    have HV := Aside0.mk (show (iv s).isSome = false by rw [hv]; rfl)
    have HC := Aside0.mk (show colOk x.toNat s = false by unfold colOk; rw [hv])
    clear hv
    go_wp2_with (first | (go_at_call 94; refine env_call E (wvalid_of HV.out HSS.out.1) ?_; clear E; rintro e wc E rfl; have q := E.cls; (repeat obtain ⟨_, _, q⟩ := q); clear q))
    refine bodyPost_ret (results_list (rs := [.tmp _, .tmp _]) rfl (by simp) (.tmp (.tmp .nil))) rfl ?_
    exact FIN.out HC.out _ E.below
   |some z =>
    have HV := Aside0.mk (show (iv s).isSome = true by rw [hv]; rfl)
    have HZ := Aside0.mk hv
    by_cases h0 : x = 0
    ·have hg0 : decide (0 < x) = false := decide_eq_false (by omega)
     have hg1 : (0 < x) = False := eq_false (by omega)
     have hn := Aside0.mk (INV.out.next HX.out HM.out HSS.out.2.2 (by unfold colOk; rw [hv]; simp [h0]))
     clear hv h0
     go_wp2_with (first | (go_at_call 94; refine env_call E (wvalid_of HV.out HSS.out.1) ?_; clear E; rintro e wc E rfl; have q := E.cls; (repeat obtain ⟨_, _, q⟩ := q); clear q))
     go_roundg (gk - 1)
     case measure => exact hn.out.1
     case rel => exact ⟨_, rfl, ⟨hn.out.2⟩, ⟨HB.out.trans (E.below.mono HB.out.size)⟩⟩
    ·have hg0 : decide (0 < x) = true := decide_eq_true (by omega)
     have hg1 : (0 < x) = True := eq_true (by omega)
     by_cases hz : 0 < z
     ·have hp : 0 < sgnI z := (sgnI_pos z).2 hz
      have hz0 : decide (sgnI z ≤ 0) = false := decide_eq_false (by omega)
      have hz1 : (sgnI z ≤ 0) = False := eq_false (by omega)
      have hn := Aside0.mk (INV.out.next HX.out HM.out HSS.out.2.2 (by unfold colOk; rw [hv]; simp [hz]))
      clear hv h0 hz hp
      go_wp2_with (first | (go_at_call 94; refine env_call E (wvalid_of HV.out HSS.out.1) ?_; clear E; rintro e wc E rfl; have q := E.cls; (repeat obtain ⟨_, _, q⟩ := q); clear q) | (go_at_call 37; refine env_call E (wsign_of HZ.out HSS.out.1) ?_; clear E; rintro e wc E rfl; have q := E.cls; (repeat obtain ⟨_, _, q⟩ := q); clear q))
      go_roundg (gk - 1)
      case measure => exact hn.out.1
      case rel => exact ⟨_, rfl, ⟨hn.out.2⟩, ⟨HB.out.trans (E.below.mono HB.out.size)⟩⟩
     ·have hp : sgnI z ≤ 0 := by have := mt (sgnI_pos z).1 hz; omega
      have hz0 : decide (sgnI z ≤ 0) = true := decide_eq_true hp
      have hz1 : (sgnI z ≤ 0) = True := eq_true hp
      have HC := Aside0.mk (show colOk x.toNat s = false by unfold colOk; rw [hv]; simp [hz]; omega)
      clear hv h0 hz hp
      go_wp2_with (first | (go_at_call 94; refine env_call E (wvalid_of HV.out HSS.out.1) ?_; clear E; rintro e wc E rfl; have q := E.cls; (repeat obtain ⟨_, _, q⟩ := q); clear q) | (go_at_call 37; refine env_call E (wsign_of HZ.out HSS.out.1) ?_; clear E; rintro e wc E rfl; have q := E.cls; (repeat obtain ⟨_, _, q⟩ := q); clear q))
      refine bodyPost_ret (results_list (rs := [.tmp _, .tmp _]) rfl (by simp) (.tmp (.tmp .nil))) rfl ?_
      exact FIN.out HC.out _ E.below
  ·have hxb : decide (x < (ls.length : Int)) = false := decide_eq_false hx
   have ALL := Aside0.mk (show ∀ j s, ls[j]? = some s → colOk j s = true from fun j s h => INV.out.2.2.2 j s (by have := (List.getElem?_eq_some_iff.1 h).1; omega) h)
   have E := Env.start wr
   clear hx INV
   go_upto_region 10 with (first | ((with_reducible first | refine gate_box (by rfl) ?_ | refine gate_alloc (by rfl) ?_); refine bx_ E ?_; clear E; intro gb wb E; have q := E.cls; (repeat obtain ⟨_, _, q⟩ := q); clear q) | ((with_reducible refine gate_stored (t := 77) (by rfl) ?_); refine st_ (fun ws hs_ => ?_); replace E := Env.pt2 hs_ E; clear hs_; have q := E.cls; (repeat obtain ⟨_, _, q⟩ := q); clear q) | (go_at_call 121; refine env_call E (of_calls (by decide) (by decide)) ?_; clear E; rintro e wc E ⟨br, Ar, nr, cr, rfl, hw_⟩; replace E := E.wh hw_; clear hw_; have q := E.cls; (repeat obtain ⟨_, _, q⟩ := q); clear q))
   simp only [Act.put, List.setIfInBounds_toArray, List.set_cons_zero, List.set_cons_succ]
   go_cut [6, 7, 8, 9] (fun v6 v7 v8 v9 wc => ∃ g6 g7 g8 g9 : Nat, v6 = .pointer (some ⟨g6, 0, none⟩) ∧ v7 = .pointer (some ⟨g7, 0, none⟩) ∧ v8 = .pointer (some ⟨g8, 0, none⟩) ∧ v9 = .pointer (some ⟨g9, 0, none⟩) ∧ Aside0 (FourAt wr wc g6 g7 g8 g9 1 0 0 1))
   case first =>
    go_wp2_with (first | ((with_reducible first | refine gate_box (by rfl) ?_ | refine gate_alloc (by rfl) ?_); refine bx_ E ?_; clear E; intro gb wb E; have q := E.cls; (repeat obtain ⟨_, _, q⟩ := q); clear q) | ((with_reducible refine gate_stored (t := 77) (by rfl) ?_); refine st_ (fun ws hs_ => ?_); replace E := Env.pt2 hs_ E; clear hs_; have q := E.cls; (repeat obtain ⟨_, _, q⟩ := q); clear q) | (go_at_call 121; refine env_call E (of_calls (by decide) (by decide)) ?_; clear E; rintro e wc E ⟨br, Ar, nr, cr, rfl, hw_⟩; replace E := E.wh hw_; clear hw_; have q := E.cls; (repeat obtain ⟨_, _, q⟩ := q); clear q))
    go_meet
    refine ⟨_, _, _, _, rfl, rfl, rfl, rfl, ⟨?_⟩⟩
    apply FourAt.mk E; (· (repeat (first | exact List.nil_sublist _ | exact List.Sublist.refl _ | apply List.Sublist.cons_cons | apply List.Sublist.cons))); (· (repeat (first | exact List.Mem.head _ | apply List.Mem.tail))); (· (repeat (first | exact List.Mem.head _ | apply List.Mem.tail))); (· (repeat (first | exact List.Mem.head _ | apply List.Mem.tail))); (· (repeat (first | exact List.Mem.head _ | apply List.Mem.tail)))
   case rest =>
    clear E
    obtain ⟨g6, g7, g8, g9, rfl, rfl, rfl, rfl, F4⟩ := hcut
    go_wp2
    go_loopg [43] (ls.length + 1) (fun kq v43 w' => ∃ (x n m d k : Int), v43 = .int .i64 x ∧ Aside0 (ColInv ls x kq n m d k) ∧ Aside0 (FourAt wr w' g6 g7 g8 g9 n d m k))
    case atStart => exact ⟨0, 1, 0, 0, 1, rfl, ⟨ColInv.start ls⟩, F4⟩
    case round =>
     clear F4
     obtain ⟨x, n, m, d, k, rfl, INV, F4⟩ := hrel
     obtain ⟨b6, A6, x6, c6, b7, A7, x7, c7, b8, A8, x8, c8, b9, A9, x9, c9, E⟩ := F4.out
     clear F4
     have x0 : 0 ≤ x := INV.out.1.1
     have HBW := Aside0.mk (HB.out.trans (E.below.mono HB.out.size))
     by_cases hx : x < (ls.length : Int)
     ·have hxb : decide (x < (ls.length : Int)) = true := decide_eq_true hx
      obtain ⟨ad, eA, cA⟩ := Kd.at_string (Kd.C_below D.out HBW.out) x x0 hx
      cases eA
      obtain ⟨s, hs⟩ : ∃ s, s = rdOf ByteArray.empty ls x := ⟨_, rfl⟩
      rw [← hs] at cA
      have HSS := Aside0.mk (col_facts HS.out x0 hx hs)
      have HX := Aside0.mk hx
      have hx1 : (0 ≤ x) = True := eq_true x0
      have hx2 : (x < (ls.length : Int)) = True := eq_true hx
      have hok := ALL.out _ _ HSS.out.2.2
      obtain ⟨z, hz⟩ : ∃ z, iv s = some z := by
       unfold colOk at hok
       cases hv : iv s with
       |none => rw [hv] at hok; cases hok
       |some z => exact ⟨z, rfl⟩
      have HZ := Aside0.mk (iv_ln hz)
      have hn := Aside0.mk (INV.out.next hx HM.out HSS.out.2.1 hz (fun h => by
       unfold colOk at hok
       rw [hz] at hok
       simp at hok
       omega))
      have LL := Aside0.mk (show Ln n 113000113 ∧ Ln m 113000113 ∧ Ln d 113000113 ∧ Ln k 113000113 from by
       have h1 := INV.out.2.2.2.1
       have h2 := HM.out
       exact ⟨h1.1.mono (by omega), h1.2.1.mono (by omega), h1.2.2.1.mono (by omega), h1.2.2.2.mono (by omega)⟩)
      have MM := Aside0.mk (show Ln (n * z) 113000225 ∧ Ln (d * z) 113000225 from ⟨LL.out.1.mul HZ.out.1, LL.out.2.2.1.mul HZ.out.1⟩)
      clear hx hs hok hz
      have q := E.cls; (repeat obtain ⟨_, _, q⟩ := q); clear q
      go_wp2_with (first | ((with_reducible first | refine gate_box (by rfl) ?_ | refine gate_alloc (by rfl) ?_); refine bx_ E ?_; clear E; intro gb wb E; have q := E.cls; (repeat obtain ⟨_, _, q⟩ := q); clear q) | ((with_reducible refine gate_stored (t := 77) (by rfl) ?_); refine st_ (fun ws hs_ => ?_); replace E := Env.pt2 hs_ E; clear hs_; have q := E.cls; (repeat obtain ⟨_, _, q⟩ := q); clear q) | (go_at_call 95; refine env_call E (read_some _ HZ.out.2 HSS.out.1) ?_; clear E; rintro e wc E ⟨br, Ar, nr, cr, rfl, hw_⟩; replace E := E.wh hw_; clear hw_; have q := E.cls; (repeat obtain ⟨_, _, q⟩ := q); clear q) | (refine start_ (id := 15) (n := 8) (S := fun w' => Cls w' _) (ds := [6, 7]) (bz 8 0) (by kernel_rfl) rfl rfl E.draw.cls (fun hH => ?_); replace E := E.draw; refine ta_ 0 (some 52) (bz 8 1) hH ?_; refine ta_ 1 (some 53) (bz 8 3) hH ?_; refine ta_ 3 (some 55) (bz 8 11) hH ?_; refine ta_ 5 (some 57) (bz 8 43) hH ?_; refine on_ 2 (some 54) (bz 8 47) (fun K hK => ?_); refine gs_ Tryz.func122 ?_; refine env_call E (mul_calls E.getW E.getW (by have h1 := LL.out; have h2 := HZ.out.1; unfold Ln at h1 h2; omega)) ?_; clear E; rintro e wc E ⟨br, Ar, nr, cr, rfl, hw_⟩; replace E := E.wh hw_; clear hw_; refine ⟨_, rfl, ?_⟩; refine hK.out _ _ E.cls (fun hH => ?_); clear hK K; refine nm_ (some 54) ?_; refine on_ 4 (some 56) (bz 8 63) (fun K hK => ?_); refine gs_ Tryz.func123 ?_; refine env_call E (add_calls E.getW E.getW (MM.out.1.fits (by decide)) (LL.out.2.1.fits (by decide))) ?_; clear E; rintro e wc E ⟨br, Ar, nr, cr, rfl, hw_⟩; replace E := E.wh hw_; clear hw_; refine ⟨_, rfl, ?_⟩; refine hK.out _ _ E.cls (fun hH => ?_); clear hK K; refine nm_ (some 56) ?_; refine la_ 6 (none) (bz 8 127) (fun K hK => ?_); have q := E.cls; (repeat obtain ⟨_, _, q⟩ := q); clear q; refine sk_ (fun ws hs_ => ?_); replace E := Env.pt2 hs_ E; clear hs_; refine hK.out _ _ ?_; clear hK K; have q := E.cls; (repeat obtain ⟨_, _, q⟩ := q); clear q; refine la_ 7 (none) (bz 8 255) (fun K hK => ?_); have q := E.cls; (repeat obtain ⟨_, _, q⟩ := q); clear q; refine sk_ (fun ws hs_ => ?_); replace E := Env.pt2 hs_ E; clear hs_; refine hK.out _ _ ?_; clear hK K; have q := E.cls; (repeat obtain ⟨_, _, q⟩ := q); clear q; refine done_ (by kernel_rfl) ?_; all_goals (have q := E.cls; (repeat obtain ⟨_, _, q⟩ := q); clear q)) | (refine start_ (id := 16) (n := 8) (S := fun w' => Cls w' _) (ds := [6, 7]) (bz 8 0) (by kernel_rfl) rfl rfl E.draw.cls (fun hH => ?_); replace E := E.draw; refine ta_ 0 (some 58) (bz 8 1) hH ?_; refine ta_ 1 (some 59) (bz 8 3) hH ?_; refine ta_ 3 (some 61) (bz 8 11) hH ?_; refine ta_ 5 (some 63) (bz 8 43) hH ?_; refine on_ 2 (some 60) (bz 8 47) (fun K hK => ?_); refine gs_ Tryz.func122 ?_; refine env_call E (mul_calls E.getW E.getW (by have h1 := LL.out; have h2 := HZ.out.1; unfold Ln at h1 h2; omega)) ?_; clear E; rintro e wc E ⟨br, Ar, nr, cr, rfl, hw_⟩; replace E := E.wh hw_; clear hw_; refine ⟨_, rfl, ?_⟩; refine hK.out _ _ E.cls (fun hH => ?_); clear hK K; refine nm_ (some 60) ?_; refine on_ 4 (some 62) (bz 8 63) (fun K hK => ?_); refine gs_ Tryz.func123 ?_; refine env_call E (add_calls E.getW E.getW (MM.out.2.fits (by decide)) (LL.out.2.2.2.fits (by decide))) ?_; clear E; rintro e wc E ⟨br, Ar, nr, cr, rfl, hw_⟩; replace E := E.wh hw_; clear hw_; refine ⟨_, rfl, ?_⟩; refine hK.out _ _ E.cls (fun hH => ?_); clear hK K; refine nm_ (some 62) ?_; refine la_ 6 (none) (bz 8 127) (fun K hK => ?_); have q := E.cls; (repeat obtain ⟨_, _, q⟩ := q); clear q; refine sk_ (fun ws hs_ => ?_); replace E := Env.pt2 hs_ E; clear hs_; refine hK.out _ _ ?_; clear hK K; have q := E.cls; (repeat obtain ⟨_, _, q⟩ := q); clear q; refine la_ 7 (none) (bz 8 255) (fun K hK => ?_); have q := E.cls; (repeat obtain ⟨_, _, q⟩ := q); clear q; refine sk_ (fun ws hs_ => ?_); replace E := Env.pt2 hs_ E; clear hs_; refine hK.out _ _ ?_; clear hK K; have q := E.cls; (repeat obtain ⟨_, _, q⟩ := q); clear q; refine done_ (by kernel_rfl) ?_; all_goals (have q := E.cls; (repeat obtain ⟨_, _, q⟩ := q); clear q)))
      go_roundg (gk - 1)
      case measure => exact hn.out.1
      case rel =>
       refine ⟨_, _, _, _, _, rfl, ⟨hn.out.2⟩, ⟨?_⟩⟩
       apply FourAt.mk E; (· (repeat (first | exact List.nil_sublist _ | exact List.Sublist.refl _ | apply List.Sublist.cons_cons | apply List.Sublist.cons))); (· (repeat (first | exact List.Mem.head _ | apply List.Mem.tail))); (· (repeat (first | exact List.Mem.head _ | apply List.Mem.tail))); (· (repeat (first | exact List.Mem.head _ | apply List.Mem.tail))); (· (repeat (first | exact List.Mem.head _ | apply List.Mem.tail)))
     ·have hxb : decide (x < (ls.length : Int)) = false := decide_eq_false hx
      have e : x.toNat = ls.length := by have := INV.out.1.2.1; omega
      have hcv : cv (ls.map ivz) = ((n, m), (d, k)) := by
       have := INV.out.2.1
       rwa [e, List.take_length] at this
      have hd0 : d ≠ 0 := by
       have h1 : 0 < ls.length := by
        rcases ls with _ | ⟨a, r⟩
        ·exact absurd rfl HL.out
        ·simp
       have := INV.out.2.2.1 (by omega)
       omega
      have HD0 := Aside0.mk hd0
      have LL := Aside0.mk (show Ln n 113000113 ∧ Ln d 113000113 from by
       have h1 := INV.out.2.2.2.1
       have h2 := HM.out
       exact ⟨h1.1.mono (by omega), h1.2.2.1.mono (by omega)⟩)
      have HQ := Aside0.mk (lnq_div LL.out.1 LL.out.2 (by decide))
      have HR := Aside0.mk (show colS ls = res (Rat.divInt n d) by
       unfold colS
       rw [if_neg (by rintro (h | h); exact HL.out h; rw [colAll_all (fun j s h => by rw [Nat.zero_add]; exact ALL.out j s h)] at h; cases h), hcv])
      clear hx hcv hd0 e
      have q := E.cls; (repeat obtain ⟨_, _, q⟩ := q); clear q
      go_wp2_with (first | ((with_reducible first | refine gate_box (by rfl) ?_ | refine gate_alloc (by rfl) ?_); refine bx_ E ?_; clear E; intro gb wb E; have q := E.cls; (repeat obtain ⟨_, _, q⟩ := q); clear q) | ((with_reducible refine gate_stored (t := 77) (by rfl) ?_); refine st_ (fun ws hs_ => ?_); replace E := Env.pt2 hs_ E; clear hs_; have q := E.cls; (repeat obtain ⟨_, _, q⟩ := q); clear q) | (go_at_call 88; refine env_call E (over_calls E.getW E.getW HD0.out (LL.out.1.fits (by decide)) (LL.out.2.fits (by decide))) ?_; clear E; rintro e wc E ⟨br, Ar, nr, cr, br2, Ar2, nr2, cr2, rfl, hw_, hw2_⟩; replace E := (E.wh hw_).wh hw2_; clear hw_ hw2_; have q := E.cls; (repeat obtain ⟨_, _, q⟩ := q); clear q) | (go_at_call 87; refine env_call E (result_calls (q := Rat.divInt n d) E.getW E.getW rfl (dn_den _) (HQ.out.1.mono (by decide)) (HQ.out.2.mono (by decide))) ?_; clear E; rintro e wc E rfl; have q := E.cls; (repeat obtain ⟨_, _, q⟩ := q); clear q))
      refine bodyPost_ret (results_list (rs := [.tmp _, .tmp _]) rfl (by simp) (.tmp (.tmp .nil))) rfl ?_
      rw [HR.out]
      exact ⟨HB.out.trans (E.below.mono HB.out.size), rfl⟩
attribute [local go_sem] max2_int min2_int max_two min_two max_three min_three max_four min_four
set_option linter.unusedVariables false
set_option linter.unusedSimpArgs false
def torusref02_trim.l0 : Nat → List Int → Option (List Int)
 |0, _ => none
 |k + 1, x0 => if (x0.length : Int) > 0 then (if 0 ≤ (wrap64 ((x0.length : Int) - 1)) then (if (wrap64 ((x0.length : Int) - 1)) < (x0.length : Int) then (if (rd x0 (wrap64 ((x0.length : Int) - 1))) = 0 then (if (wrap64 ((x0.length : Int) - 1)) ≤ (x0.length : Int) then (torusref02_trim.l0 k (x0.take ((wrap64 ((x0.length : Int) - 1)) : Int).toNat)) else (none)) else (some x0)) else (none)) else (none)) else (some x0)
def torusref02_trim.f (k : Nat) (l0 : List Int) : Option (List Int) := torusref02_trim.l0 k l0
theorem torusref02_trim.mono_l : ∀ k, (∀ y0, LeO (torusref02_trim.l0 k y0) (torusref02_trim.l0 (k + 1) y0))
 |0 => fun _ r h => by simp [torusref02_trim.l0] at h
 |k + 1 => by
  have ih0 := torusref02_trim.mono_l k
  ·intro y0
   unfold torusref02_trim.l0
   repeat' first
   |(with_reducible exact ih0 _)
   |(with_reducible exact LeO.refl _)
   |(with_reducible exact LeO.none _)
   |(with_reducible refine LeO.ite ?_ ?_)
   |(with_reducible refine LeO.bind ?_ (fun _ => ?_))
theorem torusref02_trim.mono : ∀ a0 k, LeO (torusref02_trim.f k a0) (torusref02_trim.f (k + 1) a0) := by
 intro a0 k
 have ih0 := torusref02_trim.mono_l k
 unfold torusref02_trim.f
 repeat' first
   |(with_reducible exact ih0 _)
   |(with_reducible exact LeO.refl _)
   |(with_reducible exact LeO.none _)
   |(with_reducible refine LeO.ite ?_ ?_)
   |(with_reducible refine LeO.bind ?_ (fun _ => ?_))
set_option maxHeartbeats 8000000 in
set_option maxRecDepth 100000 in
theorem torusref02_trim.calls (k : Nat) (P0_ : Nat → Prop) (A0 : Option Addr) (c0 : Nat) (l0 : List Int) (r : List Int) (w : World) (hs0 : Kd.V (Kd.int .i64) 3 w w.heap.size (fun k_ => P0_ k_) (.slice A0 l0.length c0) l0) (h : torusref02_trim.f k l0 = some r) :
  Calls Tryz.prog 188 #[.slice A0 l0.length c0] w fun e w' => ∃ v0_ : Value, e = .returned (v0_) ∧ Kd.V (Kd.int .i64) 3 w' w.heap.size (fun k_ => (P0_ k_ ∨ w.heap.size ≤ k_)) v0_ r ∧ Below w.heap.size w w' := by
 have HO0 := Aside0.mk (show Kd.V (Kd.int .i64) 3 w w.heap.size (fun k_ => (P0_ k_ ∨ w.heap.size ≤ k_)) (.slice A0 l0.length c0) l0 from Kd.V_mono hs0 (fun k_ hk => .inl hk))
 have HB := Aside0.mk (Below.refl w.heap.size w)
 have H : (torusref02_trim.l0 k l0) = some r := h
 clear h
 have H' := Aside0.mk H
 clear H
 go_enter Tryz.func188, Tryz.ntmps188
 go_wp2
 go_loopg [0] k (fun kq v0 w' => ∃ (x0_1 : List Int), Aside0 (torusref02_trim.l0 kq x0_1 = some r) ∧ Aside0 (kq ≤ k) ∧ Aside0 (Kd.V (Kd.int .i64) 3 w' w.heap.size (fun k_ => (P0_ k_ ∨ w.heap.size ≤ k_)) v0 x0_1) ∧ Aside0 (Below w.heap.size w w'))
 case atStart => exact ⟨(l0), H', ⟨Nat.le_refl _⟩, ⟨rVa_ HO0.out⟩, ⟨bw_⟩⟩
 case round =>
  clear H'
  try clear c1
  obtain ⟨x0_1, HA, HK1, HO_0, HB⟩ := hrel
  cases gk with
  |zero => exact absurd HA.out (by simp [torusref02_trim.l0])
  |succ k1 =>
   have H := HA.out
   clear HA
   simp only [torusref02_trim.l0] at H
   by_cases c2 : (x0_1.length : Int) > 0
   ·rw [if_pos c2] at H
    have c2b0 : decide (0 < (x0_1.length : Int)) = true := decide_eq_true c2
    have c2b1 : decide (0 < x0_1.length) = true := decide_eq_true (by omega)
    clear c2
    obtain ⟨ji3, hji3⟩ : ∃ j_ : Int, (wrap64 ((x0_1.length : Int) - 1)) = j_ := ⟨_, rfl⟩
    replace H : (if 0 ≤ (ji3) then (if (ji3) < (x0_1.length : Int) then (if (rd x0_1 (ji3)) = 0 then (if (ji3) ≤ (x0_1.length : Int) then (torusref02_trim.l0 k1 (x0_1.take ((ji3) : Int).toNat)) else (none)) else (some x0_1)) else (none)) else (none)) = some r := by first | (rw [hji3] at H; exact H) | (simp only [hji3] at H ⊢; exact H)
    have hji3w : (IntKind.i64.wrap ((x0_1.length : Int) - 1)) = ji3 := (i64_w _).trans hji3
    by_cases c4 : 0 ≤ (ji3)
    ·rw [if_pos c4] at H
     have c4b0 : decide (0 ≤ (ji3)) = true := decide_eq_true c4
     clear c4
     by_cases c5 : (ji3) < (x0_1.length : Int)
     ·rw [if_pos c5] at H
      have c5b0 : decide ((ji3) < (x0_1.length : Int)) = true := decide_eq_true c5
      clear c5
      by_cases c6 : (rd x0_1 (ji3)) = 0
      ·rw [if_pos c6] at H
       have c6b0 : ((rd x0_1 (ji3)) == 0) = true := beq_iff_eq.mpr c6
       have c6b1 : ((rd x0_1 (ji3)) != 0) = false := bne_eq_false_iff_eq.mpr c6
       clear c6
       have c7b0 := eq_true (of_decide_eq_true as_ : 0 ≤ (ji3))
       by_cases c8 : (ji3) ≤ (x0_1.length : Int)
       ·rw [if_pos c8] at H
        have c8b0 := eq_true c8
        have c8b1 : decide ((ji3) ≤ (x0_1.length : Int)) = true := decide_eq_true c8
        clear c8
        obtain ⟨y473, hy473⟩ : ∃ y_ : List Int, y_ = (x0_1.take ((ji3) : Int).toNat) := ⟨_, rfl⟩
        replace H : (torusref02_trim.l0 k1 y473) = some r := by first | (rw [hy473]; with_reducible exact H) | (have H2_ := (Option.bind_some _ _).symm.trans H; rw [hy473]; with_reducible exact H2_) | (have H2_ := (Option.bind_some _ _).symm.trans H; with_reducible exact H2_) | with_reducible exact H | (rw [hy473]; exact H) | exact H
        have Ny473 := Aside0.mk hy473
        clear hy473
        have H' := Aside0.mk H
        clear H
        obtain ⟨Ao9, co9, eo9⟩ := Kd.V_slice HO_0.out
        subst eo9
        have p472 : 0 ≤ ((ji3) : Int) := of_decide_eq_true as_
        have q472 : (ji3) < (x0_1.length : Int) := of_decide_eq_true as_
        obtain ⟨ad472, e472, hx472_0⟩ := Kd.at_int (Kd.V_reads' HO_0.out).2.2 (ji3) p472 q472
        cases e472
        replace p472 := eq_true p472
        replace q472 := eq_true q472
        have q10 : ((ji3) : Int) ≤ ((x0_1.length : Int) : Int) := of_decide_eq_true as_
        obtain ⟨i010, hi010, _, hsz10, _⟩ := info_parts info3
        have hroom10 : x0_1.length ≤ co9 := (Kd.V_reads' HO_0.out).2.1
        have hC10 : Kd.F (Kd.int .i64) _ _ (some ad472) x0_1.length x0_1 := (Kd.V_at (base := w.heap.size) HO_0.out).2.2
        have hcut10 := cut_to (P := Tryz.prog) 146 3 .i64 Tryz.underlying146 hi010 (some ad472) x0_1.length co9 (ji3) (of_decide_eq_true as_) q10 hroom10
        have hr10 := Kd.F_take (m := ((ji3) : Int).toNat) hC10 (by omega)
        have hy10 : y473.length = ((ji3) : Int).toNat := (by rw [Ny473.out, List.length_take]; omega)
        rw [← Ny473.out] at hr10
        rw [← hy10] at hcut10
        have HO477 := Aside0.mk (show Kd.V (Kd.int .i64) 3 _ w.heap.size _ (.slice (some ad472) y473.length co9) y473 from Kd.V_mk (by omega) hr10)
        have HC477 := Aside0.mk (show y473.length ≤ co9 from by omega)
        clear hr10 hC10 hroom10 hi010 hsz10
        have KY10 := Aside0.mk hy10
        clear hy10
        replace q10 := eq_true q10
        go_wp2
        go_roundg k1
        case measure => have := HK1.out; omega
        case rel => exact ⟨(y473), H', ⟨by have := HK1.out; omega⟩, ⟨rVa_ HO477.out⟩, ⟨bw_⟩⟩
       ·rw [if_neg c8] at H
        exact absurd H (by simp)
      ·rw [if_neg c6] at H
       have c6b0 : ((rd x0_1 (ji3)) == 0) = false := beq_eq_false_iff_ne.mpr c6
       have c6b1 : ((rd x0_1 (ji3)) != 0) = true := bne_iff_ne.mpr c6
       obtain rfl := Option.some.inj H
       obtain ⟨Ao11, co11, eo11⟩ := Kd.V_slice HO_0.out
       subst eo11
       have p472 : 0 ≤ ((ji3) : Int) := of_decide_eq_true as_
       have q472 : (ji3) < (x0_1.length : Int) := of_decide_eq_true as_
       obtain ⟨ad472, e472, hx472_0⟩ := Kd.at_int (Kd.V_reads' HO_0.out).2.2 (ji3) p472 q472
       cases e472
       replace p472 := eq_true p472
       replace q472 := eq_true q472
       go_wp2
       go_ret
       exact ⟨_, by first | rfl | (simp [errW_none, errW_some] <;> rfl) | (simp only [← hji3]; first | rfl | (simp [errW_none, errW_some] <;> rfl)) | (simp [*, errW_none, errW_some] <;> rfl), rVa_ HO_0.out, bw_⟩
     ·rw [if_neg c5] at H
      exact absurd H (by simp)
    ·rw [if_neg c4] at H
     exact absurd H (by simp)
   ·rw [if_neg c2] at H
    have c2b0 : decide (0 < (x0_1.length : Int)) = false := decide_eq_false c2
    have c2b1 : decide (0 < x0_1.length) = false := decide_eq_false (by omega)
    clear c2
    obtain rfl := Option.some.inj H
    obtain ⟨Ao12, co12, eo12⟩ := Kd.V_slice HO_0.out
    subst eo12
    go_wp2
    go_ret
    exact ⟨_, by first | rfl | (simp [errW_none, errW_some] <;> rfl) | (simp [*, errW_none, errW_some] <;> rfl), rVa_ HO_0.out, bw_⟩
attribute [local go_sem] max2_int min2_int max_two min_two max_three min_three max_four min_four
set_option linter.unusedVariables false
set_option linter.unusedSimpArgs false
mutual
def torusref02_digits.j0 : Nat → ByteArray → Bool → Option (Bool × List Int)
 |0, _, _ => none
 |k + 1, x0, x4 => torusref02_digits.l0 k x0 x4 ([] : List Int) (wrap64 ((x0.size : Int) - 1))
def torusref02_digits.l0 : Nat → ByteArray → Bool → List Int → Int → Option (Bool × List Int)
 |0, _, _, _, _ => none
 |k + 1, x0, x4, x5, x6 => if x6 ≥ 0 then (if 0 ≤ x6 then (if x6 < (x0.size : Int) then (if (bt x0 x6) = 45 then (torusref02_digits.l0 k x0 x4 x5 (wrap64 (x6 - 1))) else (if x5.length < 17592186044416 then (torusref02_digits.l0 k x0 x4 (x5 ++ [wrap64 ((wrap64 (bt x0 x6)) - 48)]) (wrap64 (x6 - 1))) else (none))) else (none)) else (none)) else ((torusref02_trim.f k x5).bind fun t481 => (some (x4, t481)))
end
def torusref02_digits.f (k : Nat) (a0 : ByteArray) : Option (Bool × List Int) := if (a0.size : Int) > 0 then (if 0 < (a0.size : Int) then (torusref02_digits.j0 k a0 ((bt a0 0) == 45)) else (none)) else (torusref02_digits.j0 k a0 false)
set_option maxHeartbeats 8000000 in
set_option maxRecDepth 100000 in
theorem torusref02_digits.calls (k : Nat) (a0 : ByteArray) (r1 : Bool) (r2 : List Int) (w : World) (h : torusref02_digits.f k a0 = some (r1, r2)) :
  Calls Tryz.prog 156 #[.string a0] w fun e w' => ∃ v1_ : Value, e = .returned (.tuple #[.bool r1, v1_]) ∧ Kd.V (Kd.int .i64) 3 w' w.heap.size (fun k_ => (w.heap.size ≤ k_)) v1_ r2 ∧ Below w.heap.size w w' := by
 have HB := Aside0.mk (Below.refl w.heap.size w)
 have H : (if (a0.size : Int) > 0 then (if 0 < (a0.size : Int) then (torusref02_digits.j0 k a0 ((bt a0 0) == 45)) else (none)) else (torusref02_digits.j0 k a0 false)) = some (r1, r2) := h
 clear h
 have HC2 := Aside0.mk H
 clear H
 go_enter Tryz.func156, Tryz.ntmps156
 go_upto_region 1 with (fail)
 go_cut [4] (fun v4 wc => ∃ (kq : Nat) (x4_1 : Bool), v4 = .bool x4_1 ∧ Aside0 (torusref02_digits.j0 kq a0 x4_1 = some (r1, r2)) ∧ Aside0 (kq ≤ k) ∧ Aside0 (Below w.heap.size w wc))
 case first =>
  have H := HC2.out
  clear HC2
  by_cases c3 : (a0.size : Int) > 0
  ·rw [if_pos c3] at H
   have c3b0 : decide (0 < (a0.size : Int)) = true := decide_eq_true c3
   have c3b1 : decide (0 < a0.size) = true := decide_eq_true (by omega)
   clear c3
   (first | rw [c3b0] | (simp only [i64_w, i32_w]; rw [c3b0]) | skip)
   by_cases c4 : 0 < (a0.size : Int)
   ·rw [if_pos c4] at H
    have c4b0 : decide (0 < (a0.size : Int)) = true := decide_eq_true c4
    have c4b1 : decide (0 < a0.size) = true := decide_eq_true (by omega)
    clear c4
    have H' := Aside0.mk H
    clear H
    have p5 : 0 ≤ (0 : Int) := (by omega)
    have q5 : 0 < a0.size := (by have : (0 : Int) < (a0.size : Int) := of_decide_eq_true as_; omega)
    have hx5 : ∀ h : 0 < a0.size, ((a0[0]'h).toNat : Int) = bt a0 0 := bt_at a0 0
    clear p5
    have qi5 : (0 < (a0.size : Int)) = True := eq_true (of_decide_eq_true as_)
    replace q5 := eq_true q5
    go_wp2
    go_meet
    case rel => exact ⟨_, (((bt a0 0) == 45)), sd_, H', ⟨by first | omega | exact Nat.le_refl _⟩, ⟨bw_⟩⟩
   ·rw [if_neg c4] at H
    exact absurd H (by simp)
  ·rw [if_neg c3] at H
   have c3b0 : decide (0 < (a0.size : Int)) = false := decide_eq_false c3
   have c3b1 : decide (0 < a0.size) = false := decide_eq_false (by omega)
   clear c3
   (first | rw [c3b0] | (simp only [i64_w, i32_w]; rw [c3b0]) | skip)
   have H' := Aside0.mk H
   clear H
   go_wp2
   go_meet
   case rel => exact ⟨_, (false), sd_, H', ⟨by first | omega | exact Nat.le_refl _⟩, ⟨bw_⟩⟩
 case rest =>
  clear HC2
  try clear c1
  try clear p2
  try clear c3
  try clear c3b0
  try clear c3b1
  try clear c4
  try clear c4b0
  try clear c4b1
  try clear p5
  try clear q5
  try clear hx5
  try clear qi5
  try clear p5
  try clear q5
  obtain ⟨kq, x4_1, rfl, HA, HJ1, HB⟩ := hcut
  cases kq with
  |zero => exact absurd HA.out (by simp [torusref02_digits.j0])
  |succ kj1 =>
   have H := HA.out
   clear HA
   simp only [torusref02_digits.j0] at H
   have H' := Aside0.mk H
   clear H
   go_wp2
   go_loopg [5, 6] kj1 (fun kq v5 v6 w' => ∃ (x5_2 : List Int) (x6_2 : Int), v6 = .int .i64 x6_2 ∧ Aside0 (torusref02_digits.l0 kq a0 x4_1 x5_2 x6_2 = some (r1, r2)) ∧ Aside0 (kq ≤ kj1) ∧ Aside0 (Kd.R (Kd.int .i64) 3 w' w.heap.size (fun k_ => (w.heap.size ≤ k_)) v5 x5_2) ∧ Aside0 (Below w.heap.size w w'))
   case atStart => exact ⟨(([] : List Int)), (wrap64 ((a0.size : Int) - 1)), sd_, H', ⟨Nat.le_refl _⟩, ⟨by first | exact Kd.R_nil _ _ _ _ _ | exact Kd.N_nil _ _ _ _ _ | exact Kd.V_nil _ _ _ _ _ | exact Kd.Q_nil _ _ _ _ _ | exact Kd.S_nil _ _ _ _ _⟩, ⟨bw_⟩⟩
   case round =>
    clear H'
    try clear c1
    try clear p2
    try clear c3
    try clear c3b0
    try clear c3b1
    try clear c4
    try clear c4b0
    try clear c4b1
    try clear p5
    try clear q5
    try clear hx5
    try clear qi5
    try clear p2
    try clear p5
    try clear q5
    obtain ⟨x5_2, x6_2, rfl, HA, HK2, HO_5, HB⟩ := hrel
    cases gk with
    |zero => exact absurd HA.out (by simp [torusref02_digits.l0])
    |succ k2 =>
     have H := HA.out
     clear HA
     simp only [torusref02_digits.l0] at H
     by_cases c6 : x6_2 ≥ 0
     ·rw [if_pos c6] at H
      have c6b0 : decide (0 ≤ x6_2) = true := decide_eq_true c6
      clear c6
      by_cases c7 : 0 ≤ x6_2
      ·rw [if_pos c7] at H
       have c7b0 : decide (0 ≤ x6_2) = true := decide_eq_true c7
       clear c7
       by_cases c8 : x6_2 < (a0.size : Int)
       ·rw [if_pos c8] at H
        have c8b0 : decide (x6_2 < (a0.size : Int)) = true := decide_eq_true c8
        clear c8
        by_cases c10 : (bt a0 x6_2) = 45
        ·rw [if_pos c10] at H
         have c10b0 : ((bt a0 x6_2) == 45) = true := beq_iff_eq.mpr c10
         have c10b1 : ((bt a0 x6_2) != 45) = false := bne_eq_false_iff_eq.mpr c10
         clear c10
         have H' := Aside0.mk H
         clear H
         have p9 : 0 ≤ (x6_2 : Int) := of_decide_eq_true as_
         have q9 : x6_2 < (a0.size : Int) := of_decide_eq_true as_
         have hx9 := bt_at a0 x6_2
         replace p9 := eq_true p9
         replace q9 := eq_true q9
         go_wp2
         go_roundg k2
         case measure => have := HJ1.out; have := HK2.out; omega
         case rel => exact ⟨(x5_2), (wrap64 (x6_2 - 1)), sd_, H', ⟨by have := HJ1.out; have := HK2.out; omega⟩, ⟨rRa_ HO_5.out⟩, ⟨bw_⟩⟩
        ·rw [if_neg c10] at H
         have c10b0 : ((bt a0 x6_2) == 45) = false := beq_eq_false_iff_ne.mpr c10
         have c10b1 : ((bt a0 x6_2) != 45) = true := bne_iff_ne.mpr c10
         by_cases c12 : x5_2.length < 17592186044416
         ·rw [if_pos c12] at H
          have LMc12 := Aside0.mk c12
          clear c12
          obtain ⟨y478, hy478⟩ : ∃ y_ : List Int, y_ = (x5_2 ++ [wrap64 ((wrap64 (bt a0 x6_2)) - 48)]) := ⟨_, rfl⟩
          replace H : (torusref02_digits.l0 k2 a0 x4_1 y478 (wrap64 (x6_2 - 1))) = some (r1, r2) := by first | (rw [hy478]; with_reducible exact H) | (have H2_ := (Option.bind_some _ _).symm.trans H; rw [hy478]; with_reducible exact H2_) | (have H2_ := (Option.bind_some _ _).symm.trans H; with_reducible exact H2_) | with_reducible exact H | (rw [hy478]; exact H) | exact H
          have Ny478 := Aside0.mk hy478
          clear hy478
          have H' := Aside0.mk H
          clear H
          have p9 : 0 ≤ (x6_2 : Int) := of_decide_eq_true as_
          have q9 : x6_2 < (a0.size : Int) := of_decide_eq_true as_
          have hx9 := bt_at a0 x6_2
          replace p9 := eq_true p9
          replace q9 := eq_true q9
          have p11 : 0 ≤ (x6_2 : Int) := of_decide_eq_true as_
          have q11 : x6_2 < (a0.size : Int) := of_decide_eq_true as_
          have hx11 := bt_at a0 x6_2
          replace p11 := eq_true p11
          replace q11 := eq_true q11
          go_wp2_with (first | ((with_reducible refine gate_builtin (b := .append) (xs := #[.tmp 26, .tmp 32]) rfl ?_); at_builtin; refine Kd.R_append (Kd.int .i64) (w0 := w) w.heap.size rfl (.tmp 26) (.tmp 32) 146 3 (.int .i64 0) 8 rfl Tryz.underlying146 info3 rfl (by decide) (by omega) u5 x5_2 (wrap64 ((wrap64 (bt a0 x6_2)) - 48)) [.int .i64 (wrap64 ((wrap64 (bt a0 x6_2)) - 48))] (fun k_ => (w.heap.size ≤ k_)) (fun _ => False) rfl rfl ?aP (fun _ hk => hk.elim) ?aF ?aO ?aB ?aS ?aL ?_; (case aP => exact rfl); (case aB => exact bw_); (case aF => exact (fun k_ hk => (Nat.le_trans (below_size bw_) hk))); (case aO => exact (rRa_ HO_5.out)); (case aS => exact (below_size bw_)); (case aL => have := LMc12.out; omega); intro v479 w13 ho hb hg hat; rw [← Ny478.out] at ho; have n0_ := Aside0.mk (hb); have n1_ := Aside0.mk (ho); clear HB; clear HO_5; have HB := n0_; have HO480 := n1_; clear n0_ n1_; clear ho hb hg hat))
          go_roundg k2
          case measure => have := HJ1.out; have := HK2.out; omega
          case rel => exact ⟨(y478), (wrap64 (x6_2 - 1)), sd_, H', ⟨by have := HJ1.out; have := HK2.out; omega⟩, ⟨rRa_ HO480.out⟩, ⟨bw_⟩⟩
         ·rw [if_neg c12] at H
          exact absurd H (by simp)
       ·rw [if_neg c8] at H
        exact absurd H (by simp)
      ·rw [if_neg c7] at H
       exact absurd H (by simp)
     ·rw [if_neg c6] at H
      have c6b0 : decide (0 ≤ x6_2) = false := decide_eq_false c6
      clear c6
      replace H := Option.bind_eq_some_iff.mp H
      obtain ⟨t481, A140, H⟩ := H
      replace H : (some (x4_1, t481)) = some (r1, r2) := H
      have A14 := Aside0.mk A140
      clear A140
      simp only [Option.some.injEq, Prod.mk.injEq] at H
      obtain ⟨rfl, rfl⟩ := H
      obtain ⟨Ao15, co15, eo15⟩ := Kd.R_slice HO_5.out
      subst eo15
      go_wp2_with (first | ((with_reducible refine gate_callee (f := 188) rfl ?_); refine goesL_ (some 36) rfl rfl Tryz.func188 (by kernel_rfl) rfl #[.slice Ao15 x5_2.length co15] rfl ag_ ?_; (with_reducible refine (torusref02_trim.calls k2 (fun k_ => some k_ = (.slice Ao15 x5_2.length co15 : Value).ownBlock) _ _ x5_2 t481 _ ?side1 A14.out).mono ?_); (case side1 => exact Kd.R_V (Kd.R_tight rfl (HO_5.out))); rintro e w16 ⟨v482, rfl, ho0, hb⟩; refine ⟨_, rfl, ?_⟩; have n0_ := Aside0.mk (Kd.R_below (rRa_ HO_5.out) hb); have n1_ := Aside0.mk (Kd.V_lower (Kd.V_mono (ok' := fun k_ => (w.heap.size ≤ k_)) ho0 (fun k_ hk_ => Or.elim hk_ (fun hs_ => ((HO_5.out).1 k_ hs_.symm)) (fun hn_ => (Nat.le_trans (below_size bw_) hn_)))) (below_size bw_)); have n2_ := Aside0.mk (below_step bw_ hb); clear HO_5; clear HB; have HO_5 := n0_; have HO483 := n1_; have HB := n2_; clear n0_ n1_ n2_; (try clear hb); (try clear hb2); (try clear hk); (try clear hi); (try clear ho0)))
      go_ret2
      exact ⟨_, by first | rfl | (simp [errW_none, errW_some] <;> rfl) | (simp [*, errW_none, errW_some] <;> rfl), rVa_ HO483.out, bw_⟩
attribute [local go_sem] max2_int min2_int max_two min_two max_three min_three max_four min_four
set_option linter.unusedVariables false
set_option linter.unusedSimpArgs false
mutual
def torusref02_text.j0 : Nat → List Int → List Int → Option (ByteArray)
 |0, _, _ => none
 |k + 1, x1, x5 => torusref02_text.l0 k x1 x5 (wrap64 ((x1.length : Int) - 1))
def torusref02_text.l0 : Nat → List Int → List Int → Int → Option (ByteArray)
 |0, _, _, _ => none
 |k + 1, x1, x5, x6 => if x6 ≥ 0 then (if 0 ≤ x6 then (if x6 < (x1.length : Int) then (if x5.length < 140737488355328 then (torusref02_text.l0 k x1 (x5 ++ [(wrap64 (48 + (rd x1 x6))) % 256]) (wrap64 (x6 - 1))) else (none)) else (none)) else (none)) else (some (strOfNums x5))
end
def torusref02_text.f (k : Nat) (a0 : Bool) (l1 : List Int) : Option (ByteArray) := (torusref02_trim.f k l1).bind fun t484 => (if (t484.length : Int) = 0 then (some (⟨#[48]⟩ : ByteArray)) else (if a0 = true then (if ([] : List Int).length < 140737488355328 then (torusref02_text.j0 k t484 (([] : List Int) ++ [45])) else (none)) else (torusref02_text.j0 k t484 ([] : List Int))))
set_option maxHeartbeats 8000000 in
set_option maxRecDepth 100000 in
theorem torusref02_text.calls (k : Nat) (a0 : Bool) (A1 : Option Addr) (c1 : Nat) (l1 : List Int) (r : ByteArray) (w : World) (hr1 : Kd.C (Kd.int .i64) w A1 l1.length l1) (hc1 : l1.length ≤ c1) (h : torusref02_text.f k a0 l1 = some r) :
  Calls Tryz.prog 157 #[.bool a0, .slice A1 l1.length c1] w fun e w' => e = .returned (.string r) ∧ Below w.heap.size w w' := by
 have HR1 := Aside0.mk hr1
 have HC1 := Aside0.mk hc1
 clear hr1 hc1
 have HB := Aside0.mk (Below.refl w.heap.size w)
 have H : ((torusref02_trim.f k l1).bind fun t484 => (if (t484.length : Int) = 0 then (some (⟨#[48]⟩ : ByteArray)) else (if a0 = true then (if ([] : List Int).length < 140737488355328 then (torusref02_text.j0 k t484 (([] : List Int) ++ [45])) else (none)) else (torusref02_text.j0 k t484 ([] : List Int))))) = some r := h
 clear h
 replace H := Option.bind_eq_some_iff.mp H
 obtain ⟨t484, A30, H⟩ := H
 have A3 := Aside0.mk A30
 clear A30
 by_cases c4 : (t484.length : Int) = 0
 ·rw [if_pos c4] at H
  have c4b0 : ((t484.length : Int) == 0) = true := beq_iff_eq.mpr c4
  have c4b1 : ((t484.length : Int) != 0) = false := bne_eq_false_iff_eq.mpr c4
  clear c4
  obtain rfl := Option.some.inj H
  go_enter Tryz.func157, Tryz.ntmps157
  go_wp2_with (first | ((with_reducible refine gate_callee (f := 188) rfl ?_); refine goesL_ (some 8) rfl rfl Tryz.func188 (by kernel_rfl) rfl #[.slice A1 l1.length c1] rfl ag_ ?_; (with_reducible refine (torusref02_trim.calls k (fun k_ => k_ < w.heap.size) _ _ l1 t484 _ ?side1 A3.out).mono ?_); (case side1 => exact Kd.V_mk HC1.out (Kd.F_below (Kd.C_F (Kd.heap_int .i64) HR1.out) bw_)); rintro e w5 ⟨v485, rfl, ho0, hb⟩; refine ⟨_, rfl, ?_⟩; have n0_ := Aside0.mk (Kd.V_lower (Kd.V_mono (ok' := fun k_ => True) ho0 (fun k_ hk_ => trivial)) (below_size bw_)); have n1_ := Aside0.mk (below_step bw_ hb); clear HB; have HO486 := n0_; have HB := n1_; clear n0_ n1_; (try clear hb); (try clear hb2); (try clear hk); (try clear hi); (try clear ho0); obtain ⟨Ao6, co6, eo6⟩ := Kd.V_slice HO486.out; subst eo6))
  go_ret
  exact ⟨by first | rfl | (simp [errW_none, errW_some] <;> rfl) | (simp [*, errW_none, errW_some] <;> rfl), bw_⟩
 ·rw [if_neg c4] at H
  have c4b0 : ((t484.length : Int) == 0) = false := beq_eq_false_iff_ne.mpr c4
  have c4b1 : ((t484.length : Int) != 0) = true := bne_iff_ne.mpr c4
  have c4b2 : ¬ (t484 = []) := fun h_ => c4 (by rw [h_]; rfl)
  have HC7 := Aside0.mk H
  clear H
  go_enter Tryz.func157, Tryz.ntmps157
  go_upto_if 12 with (first | ((with_reducible refine gate_callee (f := 188) rfl ?_); refine goesL_ (some 8) rfl rfl Tryz.func188 (by kernel_rfl) rfl #[.slice A1 l1.length c1] rfl ag_ ?_; (with_reducible refine (torusref02_trim.calls k (fun k_ => k_ < w.heap.size) _ _ l1 t484 _ ?side1 A3.out).mono ?_); (case side1 => exact Kd.V_mk HC1.out (Kd.F_below (Kd.C_F (Kd.heap_int .i64) HR1.out) bw_)); rintro e w8 ⟨v485, rfl, ho0, hb⟩; refine ⟨_, rfl, ?_⟩; have n0_ := Aside0.mk (Kd.V_lower (Kd.V_mono (ok' := fun k_ => True) ho0 (fun k_ hk_ => trivial)) (below_size bw_)); have n1_ := Aside0.mk (below_step bw_ hb); clear HB; have HO486 := n0_; have HB := n1_; clear n0_ n1_; (try clear hb); (try clear hb2); (try clear hk); (try clear hi); (try clear ho0); obtain ⟨Ao9, co9, eo9⟩ := Kd.V_slice HO486.out; subst eo9))
  (try simp only [Act.put, List.setIfInBounds_toArray, List.set_cons_zero, List.set_cons_succ])
  go_cut [5] (fun v5 wc => ∃ (kq : Nat) (x5_6 : List Int), Aside0 (torusref02_text.j0 kq t484 x5_6 = some r) ∧ Aside0 (kq ≤ k) ∧ Aside0 (Kd.V (Kd.int .i64) 3 wc w.heap.size (fun k_ => some k_ ≠ (v5 : Value).ownBlock) (.slice Ao9 t484.length co9) t484) ∧ Aside0 (Kd.R (Kd.int .u8) 5 wc w.heap.size (fun _ => True) v5 x5_6) ∧ Aside0 (Below w.heap.size w wc))
  case first =>
   have H := HC7.out
   clear HC7
   by_cases c10 : a0 = true
   ·subst c10
    rw [if_pos rfl] at H
    by_cases c11 : ([] : List Int).length < 140737488355328
    ·rw [if_pos c11] at H
     have LMc11 := Aside0.mk c11
     clear c11
     obtain ⟨y487, hy487⟩ : ∃ y_ : List Int, y_ = (([] : List Int) ++ [45]) := ⟨_, rfl⟩
     replace H : (torusref02_text.j0 k t484 y487) = some r := by first | (rw [hy487]; with_reducible exact H) | (have H2_ := (Option.bind_some _ _).symm.trans H; rw [hy487]; with_reducible exact H2_) | (have H2_ := (Option.bind_some _ _).symm.trans H; with_reducible exact H2_) | with_reducible exact H | (rw [hy487]; exact H) | exact H
     have Ny487 := Aside0.mk hy487
     clear hy487
     have H' := Aside0.mk H
     clear H
     go_wp2_with (first | ((with_reducible refine gate_builtin (b := .append) (xs := #[.tmp 13, .tmp 14]) rfl ?_); at_builtin; refine Kd.R_append (Kd.int .u8) (w0 := w) w.heap.size rfl (.tmp 13) (.tmp 14) 129 5 (.int .u8 0) 1 rfl Tryz.underlying129 info5 rfl (by decide) (by omega) (.slice none 0 0) ([] : List Int) 45 [.int .u8 45] (fun _ => True) (fun _ => False) rfl rfl ?aP (fun _ hk => hk.elim) ?aF ?aO ?aB ?aS ?aL ?_; (case aP => exact rfl); (case aB => exact bw_); (case aF => exact (fun _ _ => trivial)); (case aO => exact ((Kd.R_nil _ _ _ _ (fun _ => True)))); (case aS => exact (below_size bw_)); (case aL => have := LMc11.out; omega); intro v488 w12 ho hb hg hat; rw [← Ny487.out] at ho; have n0_ := Aside0.mk (Kd.V_afterv (Kd.V_apart_nil (rVa_ HO486.out)) hg hat); have n1_ := Aside0.mk (hb); have n2_ := Aside0.mk (ho); clear HO486; clear HB; have HO486 := n0_; have HB := n1_; have HO489 := n2_; clear n0_ n1_ n2_; clear ho hb hg hat))
     go_meet
     case rel => exact ⟨_, (y487), H', ⟨by first | omega | exact Nat.le_refl _⟩, ⟨by (with_reducible repeat (first | apply Kd.V_alloc | apply Kd.V_drewN | apply Kd.V_drew)); exact Kd.V_mono HO486.out (fun _ hk => hk.2)⟩, ⟨rRa_ HO489.out⟩, ⟨bw_⟩⟩
    ·rw [if_neg c11] at H
     exact absurd H (by simp)
   ·replace c10 := Bool.eq_false_iff.mpr c10
    subst c10
    rw [if_neg (show ¬ (false = true) by decide)] at H
    have H' := Aside0.mk H
    clear H
    go_wp2
    go_meet
    case rel => exact ⟨_, (([] : List Int)), H', ⟨by first | omega | exact Nat.le_refl _⟩, ⟨by (with_reducible repeat (first | apply Kd.V_alloc | apply Kd.V_drewN | apply Kd.V_drew)); exact Kd.V_mono HO486.out (fun _ hk => (by simp [Value.ownBlock]))⟩, ⟨by first | exact Kd.R_nil _ _ _ _ _ | exact Kd.N_nil _ _ _ _ _ | exact Kd.V_nil _ _ _ _ _ | exact Kd.Q_nil _ _ _ _ _ | exact Kd.S_nil _ _ _ _ _⟩, ⟨bw_⟩⟩
  case rest =>
   clear HC7
   try clear c1
   try clear p2
   try clear c4
   try clear c4b0
   try clear c4b1
   try clear c4b2
   try clear c10
   try clear c11
   obtain ⟨kq, x5_6, HA, HJ6, HO_1, HO_5, HB⟩ := hcut
   cases kq with
   |zero => exact absurd HA.out (by simp [torusref02_text.j0])
   |succ kj6 =>
    have H := HA.out
    clear HA
    simp only [torusref02_text.j0] at H
    have H' := Aside0.mk H
    clear H
    go_wp2
    go_loopg [5, 6] kj6 (fun kq v5 v6 w' => ∃ (x5_2 : List Int) (x6_2 : Int), v6 = .int .i64 x6_2 ∧ Aside0 (torusref02_text.l0 kq t484 x5_2 x6_2 = some r) ∧ Aside0 (kq ≤ kj6) ∧ Aside0 (Kd.V (Kd.int .i64) 3 w' w.heap.size (fun k_ => some k_ ≠ (v5 : Value).ownBlock) (.slice Ao9 t484.length co9) t484) ∧ Aside0 (Kd.R (Kd.int .u8) 5 w' w.heap.size (fun _ => True) v5 x5_2) ∧ Aside0 (Below w.heap.size w w'))
    case atStart => exact ⟨(x5_6), (wrap64 ((t484.length : Int) - 1)), sd_, H', ⟨Nat.le_refl _⟩, ⟨rVa_ HO_1.out⟩, ⟨rRa_ HO_5.out⟩, ⟨bw_⟩⟩
    case round =>
     clear H'
     try clear c1
     try clear p2
     try clear c4
     try clear c4b0
     try clear c4b1
     try clear c4b2
     try clear p6
     try clear c10
     try clear c11
     try clear p2
     obtain ⟨x5_2, x6_2, rfl, HA, HK2, HO_1, HO_5, HB⟩ := hrel
     cases gk with
     |zero => exact absurd HA.out (by simp [torusref02_text.l0])
     |succ k2 =>
      have H := HA.out
      clear HA
      simp only [torusref02_text.l0] at H
      by_cases c13 : x6_2 ≥ 0
      ·rw [if_pos c13] at H
       have c13b0 : decide (0 ≤ x6_2) = true := decide_eq_true c13
       clear c13
       by_cases c14 : 0 ≤ x6_2
       ·rw [if_pos c14] at H
        have c14b0 : decide (0 ≤ x6_2) = true := decide_eq_true c14
        clear c14
        by_cases c15 : x6_2 < (t484.length : Int)
        ·rw [if_pos c15] at H
         have c15b0 : decide (x6_2 < (t484.length : Int)) = true := decide_eq_true c15
         clear c15
         by_cases c16 : x5_2.length < 140737488355328
         ·rw [if_pos c16] at H
          have LMc16 := Aside0.mk c16
          clear c16
          obtain ⟨y491, hy491⟩ : ∃ y_ : List Int, y_ = (x5_2 ++ [(wrap64 (48 + (rd t484 x6_2))) % 256]) := ⟨_, rfl⟩
          replace H : (torusref02_text.l0 k2 t484 y491 (wrap64 (x6_2 - 1))) = some r := by first | (rw [hy491]; with_reducible exact H) | (have H2_ := (Option.bind_some _ _).symm.trans H; rw [hy491]; with_reducible exact H2_) | (have H2_ := (Option.bind_some _ _).symm.trans H; with_reducible exact H2_) | with_reducible exact H | (rw [hy491]; exact H) | exact H
          have Ny491 := Aside0.mk hy491
          clear hy491
          have H' := Aside0.mk H
          clear H
          have p490 : 0 ≤ (x6_2 : Int) := of_decide_eq_true as_
          have q490 : x6_2 < (t484.length : Int) := of_decide_eq_true as_
          obtain ⟨ad490, e490, hx490_0⟩ := Kd.at_int (Kd.V_reads' HO_1.out).2.2 x6_2 p490 q490
          cases e490
          replace p490 := eq_true p490
          replace q490 := eq_true q490
          go_wp2_with (first | ((with_reducible refine gate_builtin (b := .append) (xs := #[.tmp 23, .tmp 30]) rfl ?_); at_builtin; refine Kd.R_append (Kd.int .u8) (w0 := w) w.heap.size rfl (.tmp 23) (.tmp 30) 129 5 (.int .u8 0) 1 rfl Tryz.underlying129 info5 rfl (by decide) (by omega) u5 x5_2 ((wrap64 (48 + (rd t484 x6_2))) % 256) [.int .u8 ((wrap64 (48 + (rd t484 x6_2))) % 256)] (fun _ => True) (fun _ => False) rfl rfl ?aP (fun _ hk => hk.elim) ?aF ?aO ?aB ?aS ?aL ?_; (case aP => exact rfl); (case aB => exact bw_); (case aF => exact (fun _ _ => trivial)); (case aO => exact (rRa_ HO_5.out)); (case aS => exact (below_size bw_)); (case aL => have := LMc16.out; omega); intro v492 w17 ho hb hg hat; rw [← Ny491.out] at ho; have n0_ := Aside0.mk (Kd.V_afterv (ok := (fun _ => True)) (by (with_reducible repeat (first | apply Kd.V_alloc | apply Kd.V_drewN | apply Kd.V_drew)); exact Kd.V_mono HO_1.out (fun _ hk => ⟨trivial, hk⟩)) hg hat); have n1_ := Aside0.mk (hb); have n2_ := Aside0.mk (ho); clear HO_1; clear HB; clear HO_5; have HO_1 := n0_; have HB := n1_; have HO493 := n2_; clear n0_ n1_ n2_; clear ho hb hg hat))
          go_roundg k2
          case measure => have := HJ6.out; have := HK2.out; omega
          case rel => exact ⟨(y491), (wrap64 (x6_2 - 1)), sd_, H', ⟨by have := HJ6.out; have := HK2.out; omega⟩, ⟨by (with_reducible repeat (first | apply Kd.V_alloc | apply Kd.V_drewN | apply Kd.V_drew)); exact Kd.V_mono HO_1.out (fun _ hk => hk.2)⟩, ⟨rRa_ HO493.out⟩, ⟨bw_⟩⟩
         ·rw [if_neg c16] at H
          exact absurd H (by simp)
        ·rw [if_neg c15] at H
         exact absurd H (by simp)
       ·rw [if_neg c14] at H
        exact absurd H (by simp)
      ·rw [if_neg c13] at H
       have c13b0 : decide (0 ≤ x6_2) = false := decide_eq_false c13
       clear c13
       obtain rfl := Option.some.inj H
       have hcv18 := own_string (P := Tryz.prog) Tryz.underlying129 Tryz.underlying5 Tryz.underlying22 (Kd.own_of_R HO_5.out)
       go_wp2
       go_ret
       exact ⟨by first | rfl | (simp [errW_none, errW_some] <;> rfl) | (simp [*, errW_none, errW_some] <;> rfl), bw_⟩
attribute [local go_sem] max2_int min2_int max_two min_two max_three min_three max_four min_four
set_option linter.unusedVariables false
set_option linter.unusedSimpArgs false
def torusref02_Opposite.f (k : Nat) (a0 : ByteArray) : Option (ByteArray) := (torusref02_digits.f k a0).bind fun bt494 => ((torusref02_text.f k (!bt494.1) bt494.2).bind fun t498 => (some t498))
set_option maxHeartbeats 8000000 in
set_option maxRecDepth 100000 in
theorem torusref02_Opposite.calls (k : Nat) (a0 : ByteArray) (r : ByteArray) (w : World) (h : torusref02_Opposite.f k a0 = some r) :
  Calls Tryz.prog 91 #[.string a0] w fun e w' => e = .returned (.string r) ∧ Below w.heap.size w w' := by
 have HB := Aside0.mk (Below.refl w.heap.size w)
 have H : ((torusref02_digits.f k a0).bind fun bt494 => ((torusref02_text.f k (!bt494.1) bt494.2).bind fun t498 => (some t498))) = some r := h
 clear h
 replace H := Option.bind_eq_some_iff.mp H
 obtain ⟨⟨t494, t495⟩, A20, H⟩ := H
 dsimp only at H
 have A2 := Aside0.mk A20
 clear A20
 replace H := Option.bind_eq_some_iff.mp H
 obtain ⟨t498, A30, H⟩ := H
 have A3 := Aside0.mk A30
 clear A30
 obtain rfl := Option.some.inj H
 go_enter Tryz.func91, Tryz.ntmps91
 go_wp2_with (first | ((with_reducible refine gate_callee (f := 156) rfl ?_); refine goesL_ (some 7) rfl rfl Tryz.func156 (by kernel_rfl) rfl #[.string a0] rfl ag_ ?_; (with_reducible refine (torusref02_digits.calls k a0 t494 t495 _ A2.out).mono ?_); rintro e w4 ⟨v496, rfl, ho0, hb⟩; refine ⟨_, rfl, ?_⟩; have n0_ := Aside0.mk (Kd.V_lower (Kd.V_mono (ok' := fun k_ => True) ho0 (fun k_ hk_ => trivial)) (below_size bw_)); have n1_ := Aside0.mk (below_step bw_ hb); clear HB; have HO497 := n0_; have HB := n1_; clear n0_ n1_; (try clear hb); (try clear hb2); (try clear hk); (try clear hi); (try clear ho0); obtain ⟨Ao5, co5, eo5⟩ := Kd.V_slice HO497.out; subst eo5) | ((with_reducible refine gate_callee (f := 157) rfl ?_); refine goesL_ (some 13) rfl rfl Tryz.func157 (by kernel_rfl) rfl #[.bool (!t494), .slice Ao5 t495.length co5] rfl ag_ ?_; (with_reducible refine (torusref02_text.calls k (!t494) _ _ t495 t498 _ ?side1 ?side2 A3.out).mono ?_); (case side1 => repeat (first | exact (Kd.V_reads' HO497.out).2.2 | (with_reducible refine Kd.C_alloc ?_ _) | (with_reducible refine Kd.C_drewN ?_ _) | (with_reducible refine Kd.C_drew ?_))); (case side2 => exact (Kd.V_reads' HO497.out).2.1); rintro e w6 ⟨rfl, hb⟩; refine ⟨_, rfl, ?_⟩; have n0_ := Aside0.mk (Kd.V_below (rVa_ HO497.out) hb); have n1_ := Aside0.mk (below_step bw_ hb); clear HO497; clear HB; have HO497 := n0_; have HB := n1_; clear n0_ n1_; (try clear hb); (try clear hb2); (try clear hk); (try clear hi)))
 go_ret
 exact ⟨by first | rfl | (simp [errW_none, errW_some] <;> rfl) | (simp [*, errW_none, errW_some] <;> rfl), bw_⟩
end Go.Proofs.YtfmcgammhfdfnaaGreatDoor.PRatio

