/- Go functions as plain Lean functions, each with a proof that the Go code computes just that, and facts on them; conditions: those that each theorem states. -/
import Derived.Test.YtfmcgammhfdfnaaGreatDoorQExpansions5
namespace Go.Proofs.YtfmcgammhfdfnaaGreatDoor.PRatio
open Go.RowKit Go.Proofs.YtfmcgammhfdfnaaGreatDoorW.PrintWords Go.Proofs.YtfmcgammhfdfnaaGreatDoorW.PrintLast Go.Proofs.YtfmcgammhfdfnaaGreatDoorW.PrintMore
attribute [local go_sem] max2_int min2_int max_two min_two max_three min_three max_four min_four
set_option linter.unusedVariables false
set_option linter.unusedSimpArgs false
def torusref02_size.l0 : Nat → List Int → List Int → Int → Option (Int)
 |0, _, _, _ => none
 |k + 1, x0, x1, x5 => if x5 ≥ 0 then (if 0 ≤ x5 then (if x5 < (x0.length : Int) then (if x5 < (x1.length : Int) then (if (rd x0 x5) < (rd x1 x5) then (some (-1)) else (if (rd x0 x5) > (rd x1 x5) then (some 1) else (torusref02_size.l0 k x0 x1 (wrap64 (x5 - 1))))) else (none)) else (none)) else (none)) else (some 0)
def torusref02_size.f (k : Nat) (l0 : List Int) (l1 : List Int) : Option (Int) := if (l0.length : Int) = (l1.length : Int) then (torusref02_size.l0 k l0 l1 (wrap64 ((l0.length : Int) - 1))) else (if (l0.length : Int) < (l1.length : Int) then (some (-1)) else (some 1))
set_option maxHeartbeats 8000000 in
set_option maxRecDepth 100000 in
theorem torusref02_size.calls (k : Nat) (A0 : Option Addr) (c0 : Nat) (l0 : List Int) (A1 : Option Addr) (c1 : Nat) (l1 : List Int) (r : Int) (w : World) (hr0 : Kd.C (Kd.int .i64) w A0 l0.length l0) (hc0 : l0.length ≤ c0) (hr1 : Kd.C (Kd.int .i64) w A1 l1.length l1) (hc1 : l1.length ≤ c1) (h : torusref02_size.f k l0 l1 = some r) :
  Calls Tryz.prog 165 #[.slice A0 l0.length c0, .slice A1 l1.length c1] w fun e w' => e = .returned (.int .i64 r) ∧ Drawn0 w w' := by
 have HR0 := Aside0.mk hr0
 have HC0 := Aside0.mk hc0
 clear hr0 hc0
 have HR1 := Aside0.mk hr1
 have HC1 := Aside0.mk hc1
 clear hr1 hc1
 have H : (if (l0.length : Int) = (l1.length : Int) then (torusref02_size.l0 k l0 l1 (wrap64 ((l0.length : Int) - 1))) else (if (l0.length : Int) < (l1.length : Int) then (some (-1)) else (some 1))) = some r := h
 clear h
 by_cases c3 : (l0.length : Int) = (l1.length : Int)
 ·rw [if_pos c3] at H
  have c3b0 : ((l0.length : Int) == (l1.length : Int)) = true := beq_iff_eq.mpr c3
  have c3b1 : ((l0.length : Int) != (l1.length : Int)) = false := bne_eq_false_iff_eq.mpr c3
  have c3b2 : (l0.length == l1.length) = true := by first | simpa using c3 | (simp at c3 ⊢; omega)
  clear c3
  have H' := Aside0.mk H
  clear H
  go_enter Tryz.func165, Tryz.ntmps165
  go_wp2
  repeat (go_quiet (fail); try go_wp2)
  go_loopg [5] k (fun kq v5 w' => ∃ (x5_1 : Int), v5 = .int .i64 x5_1 ∧ Aside0 (torusref02_size.l0 kq l0 l1 x5_1 = some r) ∧ Aside0 (kq ≤ k) ∧ Drawn0 w w')
  case atStart => exact ⟨(wrap64 ((l0.length : Int) - 1)), sd_, H', ⟨Nat.le_refl _⟩, dr_⟩
  case round =>
   clear H'
   try clear c1
   try clear p2
   try clear c3
   try clear c3b0
   try clear c3b1
   try clear c3b2
   obtain ⟨x5_1, rfl, HA, HK1, ⟨m1, rfl⟩⟩ := hrel
   cases gk with
   |zero => exact absurd HA.out (by simp [torusref02_size.l0])
   |succ k1 =>
    have H := HA.out
    clear HA
    simp only [torusref02_size.l0] at H
    by_cases c4 : x5_1 ≥ 0
    ·rw [if_pos c4] at H
     have c4b0 : decide (0 ≤ x5_1) = true := decide_eq_true c4
     clear c4
     by_cases c5 : 0 ≤ x5_1
     ·rw [if_pos c5] at H
      have c5b0 : decide (0 ≤ x5_1) = true := decide_eq_true c5
      clear c5
      by_cases c6 : x5_1 < (l0.length : Int)
      ·rw [if_pos c6] at H
       have c6b0 : decide (x5_1 < (l0.length : Int)) = true := decide_eq_true c6
       clear c6
       by_cases c7 : x5_1 < (l1.length : Int)
       ·rw [if_pos c7] at H
        have c7b0 : decide (x5_1 < (l1.length : Int)) = true := decide_eq_true c7
        clear c7
        by_cases c8 : (rd l0 x5_1) < (rd l1 x5_1)
        ·rw [if_pos c8] at H
         have c8b0 : decide ((rd l0 x5_1) < (rd l1 x5_1)) = true := decide_eq_true c8
         clear c8
         obtain rfl := Option.some.inj H
         have p506 : 0 ≤ (x5_1 : Int) := of_decide_eq_true as_
         have q506 : x5_1 < (l0.length : Int) := of_decide_eq_true as_
         obtain ⟨ad506, e506, hx506_0⟩ := Kd.at_int HR0.out x5_1 p506 q506
         cases e506
         replace p506 := eq_true p506
         replace q506 := eq_true q506
         have p507 : 0 ≤ (x5_1 : Int) := of_decide_eq_true as_
         have q507 : x5_1 < (l1.length : Int) := of_decide_eq_true as_
         obtain ⟨ad507, e507, hx507_0⟩ := Kd.at_int HR1.out x5_1 p507 q507
         cases e507
         replace p507 := eq_true p507
         replace q507 := eq_true q507
         go_wp2
         repeat (go_quiet (fail); try go_wp2)
         go_ret
         exact ⟨sd_, dr_⟩
        ·rw [if_neg c8] at H
         have c8b0 : decide ((rd l0 x5_1) < (rd l1 x5_1)) = false := decide_eq_false c8
         clear c8
         by_cases c9 : (rd l0 x5_1) > (rd l1 x5_1)
         ·rw [if_pos c9] at H
          have c9b0 : decide ((rd l1 x5_1) < (rd l0 x5_1)) = true := decide_eq_true c9
          clear c9
          obtain rfl := Option.some.inj H
          have p506 : 0 ≤ (x5_1 : Int) := of_decide_eq_true as_
          have q506 : x5_1 < (l0.length : Int) := of_decide_eq_true as_
          obtain ⟨ad506, e506, hx506_0⟩ := Kd.at_int HR0.out x5_1 p506 q506
          cases e506
          replace p506 := eq_true p506
          replace q506 := eq_true q506
          have p507 : 0 ≤ (x5_1 : Int) := of_decide_eq_true as_
          have q507 : x5_1 < (l1.length : Int) := of_decide_eq_true as_
          obtain ⟨ad507, e507, hx507_0⟩ := Kd.at_int HR1.out x5_1 p507 q507
          cases e507
          replace p507 := eq_true p507
          replace q507 := eq_true q507
          have p508 : 0 ≤ (x5_1 : Int) := of_decide_eq_true as_
          have q508 : x5_1 < (l0.length : Int) := of_decide_eq_true as_
          obtain ⟨ad508, e508, hx508_0⟩ := Kd.at_int HR0.out x5_1 p508 q508
          obtain rfl : ad506 = ad508 := (by injection e508)
          replace p508 := eq_true p508
          replace q508 := eq_true q508
          have p509 : 0 ≤ (x5_1 : Int) := of_decide_eq_true as_
          have q509 : x5_1 < (l1.length : Int) := of_decide_eq_true as_
          obtain ⟨ad509, e509, hx509_0⟩ := Kd.at_int HR1.out x5_1 p509 q509
          obtain rfl : ad507 = ad509 := (by injection e509)
          replace p509 := eq_true p509
          replace q509 := eq_true q509
          go_wp2
          repeat (go_quiet (fail); try go_wp2)
          go_ret
          exact ⟨sd_, dr_⟩
         ·rw [if_neg c9] at H
          have c9b0 : decide ((rd l1 x5_1) < (rd l0 x5_1)) = false := decide_eq_false c9
          clear c9
          have H' := Aside0.mk H
          clear H
          have p506 : 0 ≤ (x5_1 : Int) := of_decide_eq_true as_
          have q506 : x5_1 < (l0.length : Int) := of_decide_eq_true as_
          obtain ⟨ad506, e506, hx506_0⟩ := Kd.at_int HR0.out x5_1 p506 q506
          cases e506
          replace p506 := eq_true p506
          replace q506 := eq_true q506
          have p507 : 0 ≤ (x5_1 : Int) := of_decide_eq_true as_
          have q507 : x5_1 < (l1.length : Int) := of_decide_eq_true as_
          obtain ⟨ad507, e507, hx507_0⟩ := Kd.at_int HR1.out x5_1 p507 q507
          cases e507
          replace p507 := eq_true p507
          replace q507 := eq_true q507
          have p508 : 0 ≤ (x5_1 : Int) := of_decide_eq_true as_
          have q508 : x5_1 < (l0.length : Int) := of_decide_eq_true as_
          obtain ⟨ad508, e508, hx508_0⟩ := Kd.at_int HR0.out x5_1 p508 q508
          obtain rfl : ad506 = ad508 := (by injection e508)
          replace p508 := eq_true p508
          replace q508 := eq_true q508
          have p509 : 0 ≤ (x5_1 : Int) := of_decide_eq_true as_
          have q509 : x5_1 < (l1.length : Int) := of_decide_eq_true as_
          obtain ⟨ad509, e509, hx509_0⟩ := Kd.at_int HR1.out x5_1 p509 q509
          obtain rfl : ad507 = ad509 := (by injection e509)
          replace p509 := eq_true p509
          replace q509 := eq_true q509
          go_wp2
          repeat (go_quiet (fail); try go_wp2)
          go_roundg k1
          case measure => have := HK1.out; omega
          case rel => exact ⟨(wrap64 (x5_1 - 1)), sd_, H', ⟨by have := HK1.out; omega⟩, dr_⟩
       ·rw [if_neg c7] at H
        exact absurd H (by simp)
      ·rw [if_neg c6] at H
       exact absurd H (by simp)
     ·rw [if_neg c5] at H
      exact absurd H (by simp)
    ·rw [if_neg c4] at H
     have c4b0 : decide (0 ≤ x5_1) = false := decide_eq_false c4
     clear c4
     obtain rfl := Option.some.inj H
     go_wp2
     repeat (go_quiet (fail); try go_wp2)
     go_ret
     exact ⟨sd_, dr_⟩
 ·rw [if_neg c3] at H
  have c3b0 : ((l0.length : Int) == (l1.length : Int)) = false := beq_eq_false_iff_ne.mpr c3
  have c3b1 : ((l0.length : Int) != (l1.length : Int)) = true := bne_iff_ne.mpr c3
  have c3b2 : (l0.length == l1.length) = false := by first | simpa using c3 | (simp at c3 ⊢; omega)
  by_cases c10 : (l0.length : Int) < (l1.length : Int)
  ·rw [if_pos c10] at H
   have c10b0 : decide ((l0.length : Int) < (l1.length : Int)) = true := decide_eq_true c10
   have c10b1 : decide (l0.length < l1.length) = true := decide_eq_true (Int.ofNat_lt.mp c10)
   clear c10
   obtain rfl := Option.some.inj H
   go_enter Tryz.func165, Tryz.ntmps165
   go_wp2
   repeat (go_quiet (fail); try go_wp2)
   go_ret
   exact ⟨sd_, dr_⟩
  ·rw [if_neg c10] at H
   have c10b0 : decide ((l0.length : Int) < (l1.length : Int)) = false := decide_eq_false c10
   have c10b1 : decide (l0.length < l1.length) = false := decide_eq_false (fun h => c10 (Int.ofNat_lt.mpr h))
   clear c10
   obtain rfl := Option.some.inj H
   go_enter Tryz.func165, Tryz.ntmps165
   go_wp2
   repeat (go_quiet (fail); try go_wp2)
   go_ret
   exact ⟨sd_, dr_⟩
attribute [local go_sem] max2_int min2_int max_two min_two max_three min_three max_four min_four
set_option linter.unusedVariables false
set_option linter.unusedSimpArgs false
def torusref02_Compare.f (k : Nat) (a0 : ByteArray) (a1 : ByteArray) : Option (Int) := (torusref02_digits.f k a0).bind fun bt510 => ((torusref02_digits.f k a1).bind fun bt514 => (if (bt510.1 != bt514.1) = true then (if bt510.1 = true then (some (-1)) else (some 1)) else (if bt510.1 = true then ((torusref02_size.f k bt514.2 bt510.2).bind fun t518 => (some t518)) else ((torusref02_size.f k bt510.2 bt514.2).bind fun t519 => (some t519)))))
set_option maxHeartbeats 8000000 in
set_option maxRecDepth 100000 in
theorem torusref02_Compare.calls (k : Nat) (a0 : ByteArray) (a1 : ByteArray) (r : Int) (w : World) (h : torusref02_Compare.f k a0 a1 = some r) :
  Calls Tryz.prog 128 #[.string a0, .string a1] w fun e w' => e = .returned (.int .i64 r) ∧ Below w.heap.size w w' := by
 have HB := Aside0.mk (Below.refl w.heap.size w)
 have H : ((torusref02_digits.f k a0).bind fun bt510 => ((torusref02_digits.f k a1).bind fun bt514 => (if (bt510.1 != bt514.1) = true then (if bt510.1 = true then (some (-1)) else (some 1)) else (if bt510.1 = true then ((torusref02_size.f k bt514.2 bt510.2).bind fun t518 => (some t518)) else ((torusref02_size.f k bt510.2 bt514.2).bind fun t519 => (some t519)))))) = some r := h
 clear h
 replace H := Option.bind_eq_some_iff.mp H
 obtain ⟨⟨t510, t511⟩, A30, H⟩ := H
 dsimp only at H
 have A3 := Aside0.mk A30
 clear A30
 replace H := Option.bind_eq_some_iff.mp H
 obtain ⟨⟨t514, t515⟩, A40, H⟩ := H
 dsimp only at H
 have A4 := Aside0.mk A40
 clear A40
 by_cases c5 : (t510 != t514) = true
 ·rw [if_pos c5] at H
  have c5b0 : (t510 != t514) = true := c5
  (try (have c5b1 : decide (t510 = t514) = false := by simpa using c5))
  (try (have c5b2 : (t510 == t514) = false := by simpa using c5))
  (try (have c5b3 : ¬ (t510 = t514) := by simpa using c5))
  clear c5
  by_cases c6 : t510 = true
  ·subst c6
   rw [if_pos rfl] at H
   obtain rfl := Option.some.inj H
   go_enter Tryz.func128, Tryz.ntmps128
   go_wp2_with (first | ((with_reducible refine gate_callee (f := 156) rfl ?_); refine goesL_ (some 11) rfl rfl Tryz.func156 (by kernel_rfl) rfl #[.string a0] rfl ag_ ?_; (with_reducible refine (torusref02_digits.calls k a0 true t511 _ A3.out).mono ?_); rintro e w7 ⟨v512, rfl, ho0, hb⟩; refine ⟨_, rfl, ?_⟩; have n0_ := Aside0.mk (Kd.V_lower (Kd.V_mono (ok' := fun k_ => True) ho0 (fun k_ hk_ => trivial)) (below_size bw_)); have n1_ := Aside0.mk (below_step bw_ hb); clear HB; have HO513 := n0_; have HB := n1_; clear n0_ n1_; (try clear hb); (try clear hb2); (try clear hk); (try clear hi); (try clear ho0); (try clear HO513)) | ((with_reducible refine gate_callee (f := 156) rfl ?_); refine goesL_ (some 16) rfl rfl Tryz.func156 (by kernel_rfl) rfl #[.string a1] rfl ag_ ?_; (with_reducible refine (torusref02_digits.calls k a1 t514 t515 _ A4.out).mono ?_); rintro e w8 ⟨v516, rfl, ho0, hb⟩; refine ⟨_, rfl, ?_⟩; have n0_ := Aside0.mk (Kd.V_lower (Kd.V_mono (ok' := fun k_ => True) ho0 (fun k_ hk_ => trivial)) (below_size bw_)); have n1_ := Aside0.mk (below_step bw_ hb); clear HB; have HO517 := n0_; have HB := n1_; clear n0_ n1_; (try clear hb); (try clear hb2); (try clear hk); (try clear hi); (try clear ho0)))
   go_ret
   exact ⟨by first | rfl | (simp [errW_none, errW_some] <;> rfl) | (simp [*, errW_none, errW_some] <;> rfl), bw_⟩
  ·replace c6 := Bool.eq_false_iff.mpr c6
   subst c6
   rw [if_neg (show ¬ (false = true) by decide)] at H
   obtain rfl := Option.some.inj H
   go_enter Tryz.func128, Tryz.ntmps128
   go_wp2_with (first | ((with_reducible refine gate_callee (f := 156) rfl ?_); refine goesL_ (some 11) rfl rfl Tryz.func156 (by kernel_rfl) rfl #[.string a0] rfl ag_ ?_; (with_reducible refine (torusref02_digits.calls k a0 false t511 _ A3.out).mono ?_); rintro e w9 ⟨v512, rfl, ho0, hb⟩; refine ⟨_, rfl, ?_⟩; have n0_ := Aside0.mk (Kd.V_lower (Kd.V_mono (ok' := fun k_ => True) ho0 (fun k_ hk_ => trivial)) (below_size bw_)); have n1_ := Aside0.mk (below_step bw_ hb); clear HB; have HO513 := n0_; have HB := n1_; clear n0_ n1_; (try clear hb); (try clear hb2); (try clear hk); (try clear hi); (try clear ho0); (try clear HO513)) | ((with_reducible refine gate_callee (f := 156) rfl ?_); refine goesL_ (some 16) rfl rfl Tryz.func156 (by kernel_rfl) rfl #[.string a1] rfl ag_ ?_; (with_reducible refine (torusref02_digits.calls k a1 t514 t515 _ A4.out).mono ?_); rintro e w10 ⟨v516, rfl, ho0, hb⟩; refine ⟨_, rfl, ?_⟩; have n0_ := Aside0.mk (Kd.V_lower (Kd.V_mono (ok' := fun k_ => True) ho0 (fun k_ hk_ => trivial)) (below_size bw_)); have n1_ := Aside0.mk (below_step bw_ hb); clear HB; have HO517 := n0_; have HB := n1_; clear n0_ n1_; (try clear hb); (try clear hb2); (try clear hk); (try clear hi); (try clear ho0)))
   go_ret
   exact ⟨by first | rfl | (simp [errW_none, errW_some] <;> rfl) | (simp [*, errW_none, errW_some] <;> rfl), bw_⟩
 ·rw [if_neg c5] at H
  have c5b0 : (t510 != t514) = false := by simpa using c5
  (try (have c5b1 : decide (t510 = t514) = true := by simpa using c5))
  (try (have c5b2 : (t510 == t514) = true := by simpa using c5))
  clear c5
  by_cases c11 : t510 = true
  ·subst c11
   rw [if_pos rfl] at H
   replace H := Option.bind_eq_some_iff.mp H
   obtain ⟨t518, A120, H⟩ := H
   have A12 := Aside0.mk A120
   clear A120
   obtain rfl := Option.some.inj H
   go_enter Tryz.func128, Tryz.ntmps128
   go_wp2_with (first | ((with_reducible refine gate_callee (f := 156) rfl ?_); refine goesL_ (some 11) rfl rfl Tryz.func156 (by kernel_rfl) rfl #[.string a0] rfl ag_ ?_; (with_reducible refine (torusref02_digits.calls k a0 true t511 _ A3.out).mono ?_); rintro e w13 ⟨v512, rfl, ho0, hb⟩; refine ⟨_, rfl, ?_⟩; have n0_ := Aside0.mk (Kd.V_lower (Kd.V_mono (ok' := fun k_ => True) ho0 (fun k_ hk_ => trivial)) (below_size bw_)); have n1_ := Aside0.mk (below_step bw_ hb); clear HB; have HO513 := n0_; have HB := n1_; clear n0_ n1_; (try clear hb); (try clear hb2); (try clear hk); (try clear hi); (try clear ho0)) | ((with_reducible refine gate_callee (f := 156) rfl ?_); refine goesL_ (some 16) rfl rfl Tryz.func156 (by kernel_rfl) rfl #[.string a1] rfl ag_ ?_; (with_reducible refine (torusref02_digits.calls k a1 t514 t515 _ A4.out).mono ?_); rintro e w14 ⟨v516, rfl, ho0, hb⟩; refine ⟨_, rfl, ?_⟩; have n0_ := Aside0.mk (Kd.V_below (rVa_ HO513.out) hb); have n1_ := Aside0.mk (Kd.V_lower (Kd.V_mono (ok' := fun k_ => True) ho0 (fun k_ hk_ => trivial)) (below_size bw_)); have n2_ := Aside0.mk (below_step bw_ hb); clear HO513; clear HB; have HO513 := n0_; have HO517 := n1_; have HB := n2_; clear n0_ n1_ n2_; (try clear hb); (try clear hb2); (try clear hk); (try clear hi); (try clear ho0); obtain ⟨Ao15, co15, eo15⟩ := Kd.V_slice HO517.out; subst eo15; obtain ⟨Ao16, co16, eo16⟩ := Kd.V_slice HO513.out; subst eo16) | ((with_reducible refine gate_callee (f := 165) rfl ?_); refine goesL_ (some 26) rfl rfl Tryz.func165 (by kernel_rfl) rfl #[.slice Ao15 t515.length co15, .slice Ao16 t511.length co16] rfl ag_ ?_; (with_reducible refine (torusref02_size.calls k _ _ t515 _ _ t511 t518 _ ?side1 ?side2 ?side3 ?side4 A12.out).mono ?_); (case side1 => repeat (first | exact (Kd.V_reads' HO517.out).2.2 | (with_reducible refine Kd.C_alloc ?_ _) | (with_reducible refine Kd.C_drewN ?_ _) | (with_reducible refine Kd.C_drew ?_))); (case side2 => exact (Kd.V_reads' HO517.out).2.1); (case side3 => repeat (first | exact (Kd.V_reads' HO513.out).2.2 | (with_reducible refine Kd.C_alloc ?_ _) | (with_reducible refine Kd.C_drewN ?_ _) | (with_reducible refine Kd.C_drew ?_))); (case side4 => exact (Kd.V_reads' HO513.out).2.1); rintro e w' ⟨rfl, ⟨nd, rfl⟩⟩; refine ⟨_, rfl, ?_⟩))
   go_ret
   exact ⟨by first | rfl | (simp [errW_none, errW_some] <;> rfl) | (simp [*, errW_none, errW_some] <;> rfl), bw_⟩
  ·replace c11 := Bool.eq_false_iff.mpr c11
   subst c11
   rw [if_neg (show ¬ (false = true) by decide)] at H
   replace H := Option.bind_eq_some_iff.mp H
   obtain ⟨t519, A170, H⟩ := H
   have A17 := Aside0.mk A170
   clear A170
   obtain rfl := Option.some.inj H
   go_enter Tryz.func128, Tryz.ntmps128
   go_wp2_with (first | ((with_reducible refine gate_callee (f := 156) rfl ?_); refine goesL_ (some 11) rfl rfl Tryz.func156 (by kernel_rfl) rfl #[.string a0] rfl ag_ ?_; (with_reducible refine (torusref02_digits.calls k a0 false t511 _ A3.out).mono ?_); rintro e w18 ⟨v512, rfl, ho0, hb⟩; refine ⟨_, rfl, ?_⟩; have n0_ := Aside0.mk (Kd.V_lower (Kd.V_mono (ok' := fun k_ => True) ho0 (fun k_ hk_ => trivial)) (below_size bw_)); have n1_ := Aside0.mk (below_step bw_ hb); clear HB; have HO513 := n0_; have HB := n1_; clear n0_ n1_; (try clear hb); (try clear hb2); (try clear hk); (try clear hi); (try clear ho0)) | ((with_reducible refine gate_callee (f := 156) rfl ?_); refine goesL_ (some 16) rfl rfl Tryz.func156 (by kernel_rfl) rfl #[.string a1] rfl ag_ ?_; (with_reducible refine (torusref02_digits.calls k a1 t514 t515 _ A4.out).mono ?_); rintro e w19 ⟨v516, rfl, ho0, hb⟩; refine ⟨_, rfl, ?_⟩; have n0_ := Aside0.mk (Kd.V_below (rVa_ HO513.out) hb); have n1_ := Aside0.mk (Kd.V_lower (Kd.V_mono (ok' := fun k_ => True) ho0 (fun k_ hk_ => trivial)) (below_size bw_)); have n2_ := Aside0.mk (below_step bw_ hb); clear HO513; clear HB; have HO513 := n0_; have HO517 := n1_; have HB := n2_; clear n0_ n1_ n2_; (try clear hb); (try clear hb2); (try clear hk); (try clear hi); (try clear ho0); obtain ⟨Ao20, co20, eo20⟩ := Kd.V_slice HO513.out; subst eo20; obtain ⟨Ao21, co21, eo21⟩ := Kd.V_slice HO517.out; subst eo21) | ((with_reducible refine gate_callee (f := 165) rfl ?_); refine goesL_ (some 29) rfl rfl Tryz.func165 (by kernel_rfl) rfl #[.slice Ao20 t511.length co20, .slice Ao21 t515.length co21] rfl ag_ ?_; (with_reducible refine (torusref02_size.calls k _ _ t511 _ _ t515 t519 _ ?side1 ?side2 ?side3 ?side4 A17.out).mono ?_); (case side1 => repeat (first | exact (Kd.V_reads' HO513.out).2.2 | (with_reducible refine Kd.C_alloc ?_ _) | (with_reducible refine Kd.C_drewN ?_ _) | (with_reducible refine Kd.C_drew ?_))); (case side2 => exact (Kd.V_reads' HO513.out).2.1); (case side3 => repeat (first | exact (Kd.V_reads' HO517.out).2.2 | (with_reducible refine Kd.C_alloc ?_ _) | (with_reducible refine Kd.C_drewN ?_ _) | (with_reducible refine Kd.C_drew ?_))); (case side4 => exact (Kd.V_reads' HO517.out).2.1); rintro e w' ⟨rfl, ⟨nd, rfl⟩⟩; refine ⟨_, rfl, ?_⟩))
   go_ret
   exact ⟨by first | rfl | (simp [errW_none, errW_some] <;> rfl) | (simp [*, errW_none, errW_some] <;> rfl), bw_⟩
attribute [local go_sem] max2_int min2_int max_two min_two max_three min_three max_four min_four
set_option linter.unusedVariables false
set_option linter.unusedSimpArgs false
def torusref02_Positive.f (k : Nat) (a0 : ByteArray) : Option (ByteArray) := (torusref02_digits.f k a0).bind fun bt520 => ((torusref02_text.f k false bt520.2).bind fun t524 => (some t524))
set_option maxHeartbeats 8000000 in
set_option maxRecDepth 100000 in
theorem torusref02_Positive.calls (k : Nat) (a0 : ByteArray) (r : ByteArray) (w : World) (h : torusref02_Positive.f k a0 = some r) :
  Calls Tryz.prog 98 #[.string a0] w fun e w' => e = .returned (.string r) ∧ Below w.heap.size w w' := by
 have HB := Aside0.mk (Below.refl w.heap.size w)
 have H : ((torusref02_digits.f k a0).bind fun bt520 => ((torusref02_text.f k false bt520.2).bind fun t524 => (some t524))) = some r := h
 clear h
 replace H := Option.bind_eq_some_iff.mp H
 obtain ⟨⟨t520, t521⟩, A20, H⟩ := H
 dsimp only at H
 have A2 := Aside0.mk A20
 clear A20
 replace H := Option.bind_eq_some_iff.mp H
 obtain ⟨t524, A30, H⟩ := H
 have A3 := Aside0.mk A30
 clear A30
 obtain rfl := Option.some.inj H
 go_enter Tryz.func98, Tryz.ntmps98
 go_wp2_with (first | ((with_reducible refine gate_callee (f := 156) rfl ?_); refine goesL_ (some 7) rfl rfl Tryz.func156 (by kernel_rfl) rfl #[.string a0] rfl ag_ ?_; (with_reducible refine (torusref02_digits.calls k a0 t520 t521 _ A2.out).mono ?_); rintro e w4 ⟨v522, rfl, ho0, hb⟩; refine ⟨_, rfl, ?_⟩; have n0_ := Aside0.mk (Kd.V_lower (Kd.V_mono (ok' := fun k_ => True) ho0 (fun k_ hk_ => trivial)) (below_size bw_)); have n1_ := Aside0.mk (below_step bw_ hb); clear HB; have HO523 := n0_; have HB := n1_; clear n0_ n1_; (try clear hb); (try clear hb2); (try clear hk); (try clear hi); (try clear ho0); obtain ⟨Ao5, co5, eo5⟩ := Kd.V_slice HO523.out; subst eo5) | ((with_reducible refine gate_callee (f := 157) rfl ?_); refine goesL_ (some 11) rfl rfl Tryz.func157 (by kernel_rfl) rfl #[.bool false, .slice Ao5 t521.length co5] rfl ag_ ?_; (with_reducible refine (torusref02_text.calls k false _ _ t521 t524 _ ?side1 ?side2 A3.out).mono ?_); (case side1 => repeat (first | exact (Kd.V_reads' HO523.out).2.2 | (with_reducible refine Kd.C_alloc ?_ _) | (with_reducible refine Kd.C_drewN ?_ _) | (with_reducible refine Kd.C_drew ?_))); (case side2 => exact (Kd.V_reads' HO523.out).2.1); rintro e w6 ⟨rfl, hb⟩; refine ⟨_, rfl, ?_⟩; have n0_ := Aside0.mk (Kd.V_below (rVa_ HO523.out) hb); have n1_ := Aside0.mk (below_step bw_ hb); clear HO523; clear HB; have HO523 := n0_; have HB := n1_; clear n0_ n1_; (try clear hb); (try clear hb2); (try clear hk); (try clear hi)))
 go_ret
 exact ⟨by first | rfl | (simp [errW_none, errW_some] <;> rfl) | (simp [*, errW_none, errW_some] <;> rfl), bw_⟩
attribute [local go_sem] max2_int min2_int max_two min_two max_three min_three max_four min_four
set_option linter.unusedVariables false
set_option linter.unusedSimpArgs false
mutual
def torusref02_Number.l0 : Nat → Int → List Int → Option (ByteArray)
 |0, _, _ => none
 |k + 1, x3, x5 => if x3 > 0 then (if x5.length < 17592186044416 then (torusref02_Number.l0 k (wrap64 (Int.tdiv x3 10)) (x5 ++ [Int.tmod x3 10])) else (none)) else ((torusref02_text.f k true x5).bind fun t531 => (some t531))
def torusref02_Number.l1 : Nat → Int → List Int → Option (ByteArray)
 |0, _, _ => none
 |k + 1, x0, x6 => if x0 > 0 then (if x6.length < 17592186044416 then (torusref02_Number.l1 k (wrap64 (Int.tdiv x0 10)) (x6 ++ [Int.tmod x0 10])) else (none)) else ((torusref02_text.f k false x6).bind fun t535 => (some t535))
end
def torusref02_Number.f (k : Nat) (a0 : Int) : Option (ByteArray) := if a0 < 0 then (if ([] : List Int).length < 17592186044416 then (torusref02_Number.l0 k (wrap64 (-(wrap64 (Int.tdiv a0 10)))) (([] : List Int) ++ [wrap64 (-(Int.tmod a0 10))])) else (none)) else (torusref02_Number.l1 k a0 ([] : List Int))
set_option maxHeartbeats 8000000 in
set_option maxRecDepth 100000 in
theorem torusref02_Number.calls (k : Nat) (a0 : Int) (r : ByteArray) (w : World) (h : torusref02_Number.f k a0 = some r) :
  Calls Tryz.prog 109 #[.int .i64 a0] w fun e w' => e = .returned (.string r) ∧ Below w.heap.size w w' := by
 have HB := Aside0.mk (Below.refl w.heap.size w)
 have H : (if a0 < 0 then (if ([] : List Int).length < 17592186044416 then (torusref02_Number.l0 k (wrap64 (-(wrap64 (Int.tdiv a0 10)))) (([] : List Int) ++ [wrap64 (-(Int.tmod a0 10))])) else (none)) else (torusref02_Number.l1 k a0 ([] : List Int))) = some r := h
 clear h
 by_cases c2 : a0 < 0
 ·rw [if_pos c2] at H
  have c2b0 : decide (a0 < 0) = true := decide_eq_true c2
  clear c2
  by_cases c3 : ([] : List Int).length < 17592186044416
  ·rw [if_pos c3] at H
   have LMc3 := Aside0.mk c3
   clear c3
   obtain ⟨y525, hy525⟩ : ∃ y_ : List Int, y_ = (([] : List Int) ++ [wrap64 (-(Int.tmod a0 10))]) := ⟨_, rfl⟩
   replace H : (torusref02_Number.l0 k (wrap64 (-(wrap64 (Int.tdiv a0 10)))) y525) = some r := by first | (rw [hy525]; with_reducible exact H) | (have H2_ := (Option.bind_some _ _).symm.trans H; rw [hy525]; with_reducible exact H2_) | (have H2_ := (Option.bind_some _ _).symm.trans H; with_reducible exact H2_) | with_reducible exact H | (rw [hy525]; exact H) | exact H
   have Ny525 := Aside0.mk hy525
   clear hy525
   have H' := Aside0.mk H
   clear H
   go_enter Tryz.func109, Tryz.ntmps109
   go_wp2_with (first | ((with_reducible refine gate_builtin (b := .append) (xs := #[.tmp 14, .tmp 16]) rfl ?_); at_builtin; refine Kd.R_append (Kd.int .i64) (w0 := w) w.heap.size rfl (.tmp 14) (.tmp 16) 146 3 (.int .i64 0) 8 rfl Tryz.underlying146 info3 rfl (by decide) (by omega) (.slice none 0 0) ([] : List Int) (wrap64 (-(Int.tmod a0 10))) [.int .i64 (wrap64 (-(Int.tmod a0 10)))] (fun _ => True) (fun _ => False) rfl rfl ?aP (fun _ hk => hk.elim) ?aF ?aO ?aB ?aS ?aL ?_; (case aP => exact rfl); (case aB => exact bw_); (case aF => exact (fun _ _ => trivial)); (case aO => exact ((Kd.R_nil _ _ _ _ (fun _ => True)))); (case aS => exact (below_size bw_)); (case aL => have := LMc3.out; omega); intro v526 w4 ho hb hg hat; rw [← Ny525.out] at ho; have n0_ := Aside0.mk (hb); have n1_ := Aside0.mk (ho); clear HB; have HB := n0_; have HO527 := n1_; clear n0_ n1_; clear ho hb hg hat))
   go_loopg [3, 5] k (fun kq v3 v5 w' => ∃ (x3_1 : Int) (x5_1 : List Int), v3 = .int .i64 x3_1 ∧ Aside0 (torusref02_Number.l0 kq x3_1 x5_1 = some r) ∧ Aside0 (kq ≤ k) ∧ Aside0 (Kd.R (Kd.int .i64) 3 w' w.heap.size (fun _ => True) v5 x5_1) ∧ Aside0 (Below w.heap.size w w'))
   case atStart => exact ⟨(wrap64 (-(wrap64 (Int.tdiv a0 10)))), (y525), sd_, H', ⟨Nat.le_refl _⟩, ⟨rRa_ HO527.out⟩, ⟨bw_⟩⟩
   case round =>
    clear H'
    try clear c1
    try clear c2
    try clear c2b0
    try clear p2
    try clear c3
    obtain ⟨x3_1, x5_1, rfl, HA, HK1, HO_5, HB⟩ := hrel
    cases gk with
    |zero => exact absurd HA.out (by simp [torusref02_Number.l0])
    |succ k1 =>
     have H := HA.out
     clear HA
     simp only [torusref02_Number.l0] at H
     by_cases c5 : x3_1 > 0
     ·rw [if_pos c5] at H
      have c5b0 : decide (0 < x3_1) = true := decide_eq_true c5
      clear c5
      by_cases c6 : x5_1.length < 17592186044416
      ·rw [if_pos c6] at H
       have LMc6 := Aside0.mk c6
       clear c6
       obtain ⟨y528, hy528⟩ : ∃ y_ : List Int, y_ = (x5_1 ++ [Int.tmod x3_1 10]) := ⟨_, rfl⟩
       replace H : (torusref02_Number.l0 k1 (wrap64 (Int.tdiv x3_1 10)) y528) = some r := by first | (rw [hy528]; with_reducible exact H) | (have H2_ := (Option.bind_some _ _).symm.trans H; rw [hy528]; with_reducible exact H2_) | (have H2_ := (Option.bind_some _ _).symm.trans H; with_reducible exact H2_) | with_reducible exact H | (rw [hy528]; exact H) | exact H
       have Ny528 := Aside0.mk hy528
       clear hy528
       have H' := Aside0.mk H
       clear H
       go_wp2_with (first | ((with_reducible refine gate_builtin (b := .append) (xs := #[.tmp 24, .tmp 27]) rfl ?_); at_builtin; refine Kd.R_append (Kd.int .i64) (w0 := w) w.heap.size rfl (.tmp 24) (.tmp 27) 146 3 (.int .i64 0) 8 rfl Tryz.underlying146 info3 rfl (by decide) (by omega) u5 x5_1 (Int.tmod x3_1 10) [.int .i64 (Int.tmod x3_1 10)] (fun _ => True) (fun _ => False) rfl rfl ?aP (fun _ hk => hk.elim) ?aF ?aO ?aB ?aS ?aL ?_; (case aP => exact rfl); (case aB => exact bw_); (case aF => exact (fun _ _ => trivial)); (case aO => exact (rRa_ HO_5.out)); (case aS => exact (below_size bw_)); (case aL => have := LMc6.out; omega); intro v529 w7 ho hb hg hat; rw [← Ny528.out] at ho; have n0_ := Aside0.mk (hb); have n1_ := Aside0.mk (ho); clear HB; clear HO_5; have HB := n0_; have HO530 := n1_; clear n0_ n1_; clear ho hb hg hat))
       go_roundg k1
       case measure => have := HK1.out; omega
       case rel => exact ⟨(wrap64 (Int.tdiv x3_1 10)), (y528), sd_, H', ⟨by have := HK1.out; omega⟩, ⟨rRa_ HO530.out⟩, ⟨bw_⟩⟩
      ·rw [if_neg c6] at H
       exact absurd H (by simp)
     ·rw [if_neg c5] at H
      have c5b0 : decide (0 < x3_1) = false := decide_eq_false c5
      clear c5
      replace H := Option.bind_eq_some_iff.mp H
      obtain ⟨t531, A80, H⟩ := H
      have A8 := Aside0.mk A80
      clear A80
      obtain rfl := Option.some.inj H
      obtain ⟨Ao9, co9, eo9⟩ := Kd.R_slice HO_5.out
      subst eo9
      go_wp2_with (first | ((with_reducible refine gate_callee (f := 157) rfl ?_); refine goesL_ (some 30) rfl rfl Tryz.func157 (by kernel_rfl) rfl #[.bool true, .slice Ao9 x5_1.length co9] rfl ag_ ?_; (with_reducible refine (torusref02_text.calls k1 true _ _ x5_1 t531 _ ?side1 ?side2 A8.out).mono ?_); (case side1 => repeat (first | exact (Kd.R_reads' HO_5.out).2.2 | (with_reducible refine Kd.C_alloc ?_ _) | (with_reducible refine Kd.C_drewN ?_ _) | (with_reducible refine Kd.C_drew ?_))); (case side2 => exact (Kd.R_reads' HO_5.out).2.1); rintro e w10 ⟨rfl, hb⟩; refine ⟨_, rfl, ?_⟩; have n0_ := Aside0.mk (Kd.R_below (rRa_ HO_5.out) hb); have n1_ := Aside0.mk (below_step bw_ hb); clear HO_5; clear HB; have HO_5 := n0_; have HB := n1_; clear n0_ n1_; (try clear hb); (try clear hb2); (try clear hk); (try clear hi)))
      go_ret
      exact ⟨by first | rfl | (simp [errW_none, errW_some] <;> rfl) | (simp [*, errW_none, errW_some] <;> rfl), bw_⟩
  ·rw [if_neg c3] at H
   exact absurd H (by simp)
 ·rw [if_neg c2] at H
  have c2b0 : decide (a0 < 0) = false := decide_eq_false c2
  clear c2
  have H' := Aside0.mk H
  clear H
  go_enter Tryz.func109, Tryz.ntmps109
  go_wp2
  go_loopg [0, 6] k (fun kq v0 v6 w' => ∃ (x0_1 : Int) (x6_1 : List Int), v0 = .int .i64 x0_1 ∧ Aside0 (torusref02_Number.l1 kq x0_1 x6_1 = some r) ∧ Aside0 (kq ≤ k) ∧ Aside0 (Kd.R (Kd.int .i64) 3 w' w.heap.size (fun _ => True) v6 x6_1) ∧ Aside0 (Below w.heap.size w w'))
  case atStart => exact ⟨(a0), (([] : List Int)), sd_, H', ⟨Nat.le_refl _⟩, ⟨by first | exact Kd.R_nil _ _ _ _ _ | exact Kd.N_nil _ _ _ _ _ | exact Kd.V_nil _ _ _ _ _ | exact Kd.Q_nil _ _ _ _ _ | exact Kd.S_nil _ _ _ _ _⟩, ⟨bw_⟩⟩
  case round =>
   clear H'
   try clear c1
   try clear c2
   try clear c2b0
   try clear p2
   try clear c3
   try clear c5
   try clear c5b0
   try clear c6
   try clear p6
   try clear c10
   try clear p2
   obtain ⟨x0_1, x6_1, rfl, HA, HK1, HO_6, HB⟩ := hrel
   cases gk with
   |zero => exact absurd HA.out (by simp [torusref02_Number.l1])
   |succ k1 =>
    have H := HA.out
    clear HA
    simp only [torusref02_Number.l1] at H
    by_cases c11 : x0_1 > 0
    ·rw [if_pos c11] at H
     have c11b0 : decide (0 < x0_1) = true := decide_eq_true c11
     clear c11
     by_cases c12 : x6_1.length < 17592186044416
     ·rw [if_pos c12] at H
      have LMc12 := Aside0.mk c12
      clear c12
      obtain ⟨y532, hy532⟩ : ∃ y_ : List Int, y_ = (x6_1 ++ [Int.tmod x0_1 10]) := ⟨_, rfl⟩
      replace H : (torusref02_Number.l1 k1 (wrap64 (Int.tdiv x0_1 10)) y532) = some r := by first | (rw [hy532]; with_reducible exact H) | (have H2_ := (Option.bind_some _ _).symm.trans H; rw [hy532]; with_reducible exact H2_) | (have H2_ := (Option.bind_some _ _).symm.trans H; with_reducible exact H2_) | with_reducible exact H | (rw [hy532]; exact H) | exact H
      have Ny532 := Aside0.mk hy532
      clear hy532
      have H' := Aside0.mk H
      clear H
      go_wp2_with (first | ((with_reducible refine gate_builtin (b := .append) (xs := #[.tmp 35, .tmp 38]) rfl ?_); at_builtin; refine Kd.R_append (Kd.int .i64) (w0 := w) w.heap.size rfl (.tmp 35) (.tmp 38) 146 3 (.int .i64 0) 8 rfl Tryz.underlying146 info3 rfl (by decide) (by omega) u6 x6_1 (Int.tmod x0_1 10) [.int .i64 (Int.tmod x0_1 10)] (fun _ => True) (fun _ => False) rfl rfl ?aP (fun _ hk => hk.elim) ?aF ?aO ?aB ?aS ?aL ?_; (case aP => exact rfl); (case aB => exact bw_); (case aF => exact (fun _ _ => trivial)); (case aO => exact (rRa_ HO_6.out)); (case aS => exact (below_size bw_)); (case aL => have := LMc12.out; omega); intro v533 w13 ho hb hg hat; rw [← Ny532.out] at ho; have n0_ := Aside0.mk (hb); have n1_ := Aside0.mk (ho); clear HB; clear HO_6; have HB := n0_; have HO534 := n1_; clear n0_ n1_; clear ho hb hg hat))
      go_roundg k1
      case measure => have := HK1.out; omega
      case rel => exact ⟨(wrap64 (Int.tdiv x0_1 10)), (y532), sd_, H', ⟨by have := HK1.out; omega⟩, ⟨rRa_ HO534.out⟩, ⟨bw_⟩⟩
     ·rw [if_neg c12] at H
      exact absurd H (by simp)
    ·rw [if_neg c11] at H
     have c11b0 : decide (0 < x0_1) = false := decide_eq_false c11
     clear c11
     replace H := Option.bind_eq_some_iff.mp H
     obtain ⟨t535, A140, H⟩ := H
     have A14 := Aside0.mk A140
     clear A140
     obtain rfl := Option.some.inj H
     obtain ⟨Ao15, co15, eo15⟩ := Kd.R_slice HO_6.out
     subst eo15
     go_wp2_with (first | ((with_reducible refine gate_callee (f := 157) rfl ?_); refine goesL_ (some 41) rfl rfl Tryz.func157 (by kernel_rfl) rfl #[.bool false, .slice Ao15 x6_1.length co15] rfl ag_ ?_; (with_reducible refine (torusref02_text.calls k1 false _ _ x6_1 t535 _ ?side1 ?side2 A14.out).mono ?_); (case side1 => repeat (first | exact (Kd.R_reads' HO_6.out).2.2 | (with_reducible refine Kd.C_alloc ?_ _) | (with_reducible refine Kd.C_drewN ?_ _) | (with_reducible refine Kd.C_drew ?_))); (case side2 => exact (Kd.R_reads' HO_6.out).2.1); rintro e w16 ⟨rfl, hb⟩; refine ⟨_, rfl, ?_⟩; have n0_ := Aside0.mk (Kd.R_below (rRa_ HO_6.out) hb); have n1_ := Aside0.mk (below_step bw_ hb); clear HO_6; clear HB; have HO_6 := n0_; have HB := n1_; clear n0_ n1_; (try clear hb); (try clear hb2); (try clear hk); (try clear hi)))
     go_ret
     exact ⟨by first | rfl | (simp [errW_none, errW_some] <;> rfl) | (simp [*, errW_none, errW_some] <;> rfl), bw_⟩
attribute [local go_sem] max2_int min2_int max_two min_two max_three min_three max_four min_four
set_option linter.unusedVariables false
set_option linter.unusedSimpArgs false
def torusref02_Digits.f (a0 : ByteArray) : Option (Int) := if (a0.size : Int) > 0 then (if 0 < (a0.size : Int) then (if (bt a0 0) = 45 then (some (wrap64 ((a0.size : Int) - 1))) else (some (a0.size : Int))) else (none)) else (some (a0.size : Int))
set_option maxHeartbeats 8000000 in
set_option maxRecDepth 100000 in
theorem torusref02_Digits.calls (a0 : ByteArray) (r : Int) (w : World) (h : torusref02_Digits.f a0 = some r) :
  Calls Tryz.prog 190 #[.string a0] w fun e w' => e = .returned (.int .i64 r) ∧ Drawn0 w w' := by
 have H : (if (a0.size : Int) > 0 then (if 0 < (a0.size : Int) then (if (bt a0 0) = 45 then (some (wrap64 ((a0.size : Int) - 1))) else (some (a0.size : Int))) else (none)) else (some (a0.size : Int))) = some r := h
 clear h
 by_cases c2 : (a0.size : Int) > 0
 ·rw [if_pos c2] at H
  have c2b0 : decide (0 < (a0.size : Int)) = true := decide_eq_true c2
  have c2b1 : decide (0 < a0.size) = true := decide_eq_true (by omega)
  clear c2
  by_cases c3 : 0 < (a0.size : Int)
  ·rw [if_pos c3] at H
   have c3b0 : decide (0 < (a0.size : Int)) = true := decide_eq_true c3
   have c3b1 : decide (0 < a0.size) = true := decide_eq_true (by omega)
   clear c3
   by_cases c5 : (bt a0 0) = 45
   ·rw [if_pos c5] at H
    have c5b0 : ((bt a0 0) == 45) = true := beq_iff_eq.mpr c5
    have c5b1 : ((bt a0 0) != 45) = false := bne_eq_false_iff_eq.mpr c5
    clear c5
    obtain rfl := Option.some.inj H
    have p4 : 0 ≤ (0 : Int) := (by omega)
    have q4 : 0 < a0.size := (by have : (0 : Int) < (a0.size : Int) := of_decide_eq_true as_; omega)
    have hx4 : ∀ h : 0 < a0.size, ((a0[0]'h).toNat : Int) = bt a0 0 := bt_at a0 0
    clear p4
    have qi4 : (0 < (a0.size : Int)) = True := eq_true (of_decide_eq_true as_)
    replace q4 := eq_true q4
    go_enter Tryz.func190, Tryz.ntmps190
    go_wp2
    go_ret
    exact ⟨sd_, dr_⟩
   ·rw [if_neg c5] at H
    have c5b0 : ((bt a0 0) == 45) = false := beq_eq_false_iff_ne.mpr c5
    have c5b1 : ((bt a0 0) != 45) = true := bne_iff_ne.mpr c5
    obtain rfl := Option.some.inj H
    have p4 : 0 ≤ (0 : Int) := (by omega)
    have q4 : 0 < a0.size := (by have : (0 : Int) < (a0.size : Int) := of_decide_eq_true as_; omega)
    have hx4 : ∀ h : 0 < a0.size, ((a0[0]'h).toNat : Int) = bt a0 0 := bt_at a0 0
    clear p4
    have qi4 : (0 < (a0.size : Int)) = True := eq_true (of_decide_eq_true as_)
    replace q4 := eq_true q4
    go_enter Tryz.func190, Tryz.ntmps190
    go_wp2
    go_ret
    exact ⟨sd_, dr_⟩
  ·rw [if_neg c3] at H
   exact absurd H (by simp)
 ·rw [if_neg c2] at H
  have c2b0 : decide (0 < (a0.size : Int)) = false := decide_eq_false c2
  have c2b1 : decide (0 < a0.size) = false := decide_eq_false (by omega)
  clear c2
  obtain rfl := Option.some.inj H
  go_enter Tryz.func190, Tryz.ntmps190
  go_wp2
  go_ret
  exact ⟨sd_, dr_⟩
attribute [local go_sem] max2_int min2_int max_two min_two max_three min_three max_four min_four
set_option linter.unusedVariables false
set_option linter.unusedSimpArgs false
def torusref02_short.l0 : Nat → ByteArray → Int → Int → Option (Int × Bool)
 |0, _, _, _ => none
 |k + 1, x0, x4, x5 => if x5 < (x0.size : Int) then (if 0 ≤ x5 then (if (bt x0 x5) = 45 then (torusref02_short.l0 k x0 x4 (wrap64 (x5 + 1))) else (torusref02_short.l0 k x0 (wrap64 ((wrap64 ((wrap64 (10 * x4)) + (wrap64 (bt x0 x5)))) - 48)) (wrap64 (x5 + 1)))) else (none)) else (if (x0.size : Int) > 0 then (if 0 < (x0.size : Int) then (if (bt x0 0) = 45 then (some (wrap64 (-x4), true)) else (some (x4, true))) else (none)) else (some (x4, true)))
def torusref02_short.f (k : Nat) (a0 : ByteArray) : Option (Int × Bool) := (torusref02_Digits.f a0).bind fun t536 => (if t536 > 9 then (some (0, false)) else (torusref02_short.l0 k a0 0 0))
set_option maxHeartbeats 8000000 in
set_option maxRecDepth 100000 in
theorem torusref02_short.calls (k : Nat) (a0 : ByteArray) (r1 : Int) (r2 : Bool) (w : World) (h : torusref02_short.f k a0 = some (r1, r2)) :
  Calls Tryz.prog 163 #[.string a0] w fun e w' => e = .returned (.tuple #[.int .i64 r1, .bool r2]) ∧ Drawn0 w w' := by
 have H : ((torusref02_Digits.f a0).bind fun t536 => (if t536 > 9 then (some (0, false)) else (torusref02_short.l0 k a0 0 0))) = some (r1, r2) := h
 clear h
 replace H := Option.bind_eq_some_iff.mp H
 obtain ⟨t536, A20, H⟩ := H
 replace H : (if t536 > 9 then (some (0, false)) else (torusref02_short.l0 k a0 0 0)) = some (r1, r2) := H
 have A2 := Aside0.mk A20
 clear A20
 by_cases c3 : t536 > 9
 ·rw [if_pos c3] at H
  have c3b0 : decide (9 < t536) = true := decide_eq_true c3
  clear c3
  simp only [Option.some.injEq, Prod.mk.injEq] at H
  obtain ⟨rfl, rfl⟩ := H
  go_enter Tryz.func163, Tryz.ntmps163
  go_wp2_with (first | ((with_reducible refine gate_callee (f := 190) rfl ?_); refine goesL_ (some 7) rfl rfl Tryz.func190 (by kernel_rfl) rfl #[.string a0] rfl ag_ ?_; (with_reducible refine (torusref02_Digits.calls a0 t536 _ A2.out).mono ?_); rintro e w' ⟨rfl, ⟨nd, rfl⟩⟩; refine ⟨_, rfl, ?_⟩))
  go_ret2
  exact ⟨sd_, dr_⟩
 ·rw [if_neg c3] at H
  have c3b0 : decide (9 < t536) = false := decide_eq_false c3
  clear c3
  have H' := Aside0.mk H
  clear H
  go_enter Tryz.func163, Tryz.ntmps163
  go_wp2_with (first | ((with_reducible refine gate_callee (f := 190) rfl ?_); refine goesL_ (some 7) rfl rfl Tryz.func190 (by kernel_rfl) rfl #[.string a0] rfl ag_ ?_; (with_reducible refine (torusref02_Digits.calls a0 t536 _ A2.out).mono ?_); rintro e w' ⟨rfl, ⟨nd, rfl⟩⟩; refine ⟨_, rfl, ?_⟩))
  go_loopg [4, 5] k (fun kq v4 v5 w' => ∃ (x4_1 : Int) (x5_1 : Int), v4 = .int .i64 x4_1 ∧ v5 = .int .i64 x5_1 ∧ Aside0 (torusref02_short.l0 kq a0 x4_1 x5_1 = some (r1, r2)) ∧ Aside0 (kq ≤ k) ∧ Drawn0 w w')
  case atStart => exact ⟨(0), (0), sd_, sd_, H', ⟨Nat.le_refl _⟩, dr_⟩
  case round =>
   clear H'
   try clear c1
   try clear p2
   try clear c3
   try clear c3b0
   obtain ⟨x4_1, x5_1, rfl, rfl, HA, HK1, ⟨m1, rfl⟩⟩ := hrel
   cases gk with
   |zero => exact absurd HA.out (by simp [torusref02_short.l0])
   |succ k1 =>
    have H := HA.out
    clear HA
    simp only [torusref02_short.l0] at H
    by_cases c4 : x5_1 < (a0.size : Int)
    ·rw [if_pos c4] at H
     have c4b0 : decide (x5_1 < (a0.size : Int)) = true := decide_eq_true c4
     clear c4
     by_cases c5 : 0 ≤ x5_1
     ·rw [if_pos c5] at H
      have c5b0 : decide (0 ≤ x5_1) = true := decide_eq_true c5
      clear c5
      by_cases c7 : (bt a0 x5_1) = 45
      ·rw [if_pos c7] at H
       have c7b0 : ((bt a0 x5_1) == 45) = true := beq_iff_eq.mpr c7
       have c7b1 : ((bt a0 x5_1) != 45) = false := bne_eq_false_iff_eq.mpr c7
       clear c7
       have H' := Aside0.mk H
       clear H
       have p6 : 0 ≤ (x5_1 : Int) := of_decide_eq_true as_
       have q6 : x5_1 < (a0.size : Int) := of_decide_eq_true as_
       have hx6 := bt_at a0 x5_1
       replace p6 := eq_true p6
       replace q6 := eq_true q6
       go_wp2
       go_roundg k1
       case measure => have := HK1.out; omega
       case rel => exact ⟨(x4_1), (wrap64 (x5_1 + 1)), sd_, sd_, H', ⟨by have := HK1.out; omega⟩, dr_⟩
      ·rw [if_neg c7] at H
       have c7b0 : ((bt a0 x5_1) == 45) = false := beq_eq_false_iff_ne.mpr c7
       have c7b1 : ((bt a0 x5_1) != 45) = true := bne_iff_ne.mpr c7
       have H' := Aside0.mk H
       clear H
       have p6 : 0 ≤ (x5_1 : Int) := of_decide_eq_true as_
       have q6 : x5_1 < (a0.size : Int) := of_decide_eq_true as_
       have hx6 := bt_at a0 x5_1
       replace p6 := eq_true p6
       replace q6 := eq_true q6
       have p8 : 0 ≤ (x5_1 : Int) := of_decide_eq_true as_
       have q8 : x5_1 < (a0.size : Int) := of_decide_eq_true as_
       have hx8 := bt_at a0 x5_1
       replace p8 := eq_true p8
       replace q8 := eq_true q8
       go_wp2
       go_roundg k1
       case measure => have := HK1.out; omega
       case rel => exact ⟨(wrap64 ((wrap64 ((wrap64 (10 * x4_1)) + (wrap64 (bt a0 x5_1)))) - 48)), (wrap64 (x5_1 + 1)), sd_, sd_, H', ⟨by have := HK1.out; omega⟩, dr_⟩
     ·rw [if_neg c5] at H
      exact absurd H (by simp)
    ·rw [if_neg c4] at H
     have c4b0 : decide (x5_1 < (a0.size : Int)) = false := decide_eq_false c4
     clear c4
     by_cases c9 : (a0.size : Int) > 0
     ·rw [if_pos c9] at H
      have c9b0 : decide (0 < (a0.size : Int)) = true := decide_eq_true c9
      have c9b1 : decide (0 < a0.size) = true := decide_eq_true (by omega)
      clear c9
      by_cases c10 : 0 < (a0.size : Int)
      ·rw [if_pos c10] at H
       have c10b0 : decide (0 < (a0.size : Int)) = true := decide_eq_true c10
       have c10b1 : decide (0 < a0.size) = true := decide_eq_true (by omega)
       clear c10
       by_cases c12 : (bt a0 0) = 45
       ·rw [if_pos c12] at H
        have c12b0 : ((bt a0 0) == 45) = true := beq_iff_eq.mpr c12
        have c12b1 : ((bt a0 0) != 45) = false := bne_eq_false_iff_eq.mpr c12
        clear c12
        simp only [Option.some.injEq, Prod.mk.injEq] at H
        obtain ⟨rfl, rfl⟩ := H
        have p11 : 0 ≤ (0 : Int) := (by omega)
        have q11 : 0 < a0.size := (by have : (0 : Int) < (a0.size : Int) := of_decide_eq_true as_; omega)
        have hx11 : ∀ h : 0 < a0.size, ((a0[0]'h).toNat : Int) = bt a0 0 := bt_at a0 0
        clear p11
        have qi11 : (0 < (a0.size : Int)) = True := eq_true (of_decide_eq_true as_)
        replace q11 := eq_true q11
        go_wp2
        go_ret2
        exact ⟨sd_, dr_⟩
       ·rw [if_neg c12] at H
        have c12b0 : ((bt a0 0) == 45) = false := beq_eq_false_iff_ne.mpr c12
        have c12b1 : ((bt a0 0) != 45) = true := bne_iff_ne.mpr c12
        simp only [Option.some.injEq, Prod.mk.injEq] at H
        obtain ⟨rfl, rfl⟩ := H
        have p11 : 0 ≤ (0 : Int) := (by omega)
        have q11 : 0 < a0.size := (by have : (0 : Int) < (a0.size : Int) := of_decide_eq_true as_; omega)
        have hx11 : ∀ h : 0 < a0.size, ((a0[0]'h).toNat : Int) = bt a0 0 := bt_at a0 0
        clear p11
        have qi11 : (0 < (a0.size : Int)) = True := eq_true (of_decide_eq_true as_)
        replace q11 := eq_true q11
        go_wp2
        go_ret2
        exact ⟨sd_, dr_⟩
      ·rw [if_neg c10] at H
       exact absurd H (by simp)
     ·rw [if_neg c9] at H
      have c9b0 : decide (0 < (a0.size : Int)) = false := decide_eq_false c9
      have c9b1 : decide (0 < a0.size) = false := decide_eq_false (by omega)
      clear c9
      simp only [Option.some.injEq, Prod.mk.injEq] at H
      obtain ⟨rfl, rfl⟩ := H
      go_wp2
      go_ret2
      exact ⟨sd_, dr_⟩
theorem ev_some {α : Type} {g : Nat → Option α} {a : α} (h : Ev g a) : Ev (fun n => (g n).bind fun x => some x) a := Ev.bind h (Ev.now _)
theorem ev_of {α : Type} {g : Nat → Option α} {r : α} (K : Nat) (h : ∀ k, K ≤ k → g k = some r) : Ev g r := ⟨K, h⟩
theorem ten_tr : ∀ l : List Int, Ten.tr l = tr l
 |[] => rfl
 |x :: xs => by
  rw [Ten.tr, tr, ten_tr xs]
  all_goals (cases tr xs <;> rfl)
theorem rtrim_l0 : ∀ (n : Nat) (l : List Int) (k : Nat), l.length = n → n < k → n ≤ 9223372036854775807 → torusref02_trim.l0 k l = some (Ten.tr l)
 |0, l, k, h, hk, hn => by
  obtain ⟨k, rfl⟩ : ∃ m, k = m + 1 := ⟨k - 1, by omega⟩
  obtain rfl := List.eq_nil_of_length_eq_zero h
  rfl
 |n + 1, l, k, h, hk, hn => by
  obtain ⟨k, rfl⟩ : ∃ m, k = m + 1 := ⟨k - 1, by omega⟩
  obtain ⟨xs, y, rfl, rfl⟩ := snoc_of h
  have e : wrap64 (((xs ++ [y]).length : Int) - 1) = (xs.length : Int) := by simp only [List.length_append, List.length_cons, List.length_nil]; rw [wrap_id (by omega) (by omega)]; omega
  rw [torusref02_trim.l0, e, if_pos (by simp only [List.length_append, List.length_cons, List.length_nil]; omega), if_pos (by omega), if_pos (by simp only [List.length_append, List.length_cons, List.length_nil]; omega), rd_last]
  by_cases hy : y = 0
  ·subst hy
   rw [if_pos rfl, if_pos (by simp only [List.length_append, List.length_cons, List.length_nil]; omega), ten_tr, tr_snoc_zero, ← ten_tr]
   have : (xs ++ [(0 : Int)]).take (xs.length : Int).toNat = xs := by simp
   rw [this]
   exact rtrim_l0 _ xs k rfl (by omega) (by omega)
  ·rw [if_neg hy, ten_tr, tr_snoc hy]
theorem rtrim_ev (l : List Int) (h : l.length ≤ 9223372036854775807) : Ev (fun k => torusref02_trim.f k l) (Ten.tr l) :=
 ev_of (l.length + 1) fun k hk => rtrim_l0 _ l k rfl (by omega) h
def dgs_ (l : List Int) : List Int := (l.filter (· != 45)).reverse.map (· - 48)
theorem dgs_snoc (l : List Int) (c : Int) : dgs_ (l ++ [c]) = if c = 45 then dgs_ l else (c - 48) :: dgs_ l := by
 unfold dgs_
 rw [List.filter_append]
 by_cases h : c = 45
 ·simp [h]
 ·simp [h, List.filter_cons]
theorem digits_l0_ (a : ByteArray) (b : Bool) (hm : a.size ≤ 9000000000000) : ∀ (i k : Nat) (d : List Int), i ≤ a.size → a.size + i + 2 < k → d.length + i ≤ a.size →
  torusref02_digits.l0 k a b d ((i : Int) - 1) = some (b, Ten.tr (d ++ dgs_ ((bytesOf a).take i)))
 |0, k, d, hi, hk, hd => by
  obtain ⟨k, rfl⟩ : ∃ m, k = m + 1 := ⟨k - 1, by omega⟩
  rw [torusref02_digits.l0, if_neg (by omega)]
  rw [show torusref02_trim.f k d = some (Ten.tr d) from rtrim_l0 _ d k rfl (by omega) (by omega)]
  simp [dgs_]
 |i + 1, k, d, hi, hk, hd => by
  obtain ⟨k, rfl⟩ : ∃ m, k = m + 1 := ⟨k - 1, by omega⟩
  have e : (((i + 1 : Nat) : Int) - 1) = (i : Int) := by omega
  have hs := take_snoc (bytesOf a) i (by rw [bytesOf_size]; omega)
  rw [rd_bytesOf] at hs
  have hr := bt_range a i
  rw [torusref02_digits.l0, e, if_pos (by omega), if_pos (by omega), if_pos (by omega), hs, dgs_snoc, wrap_id (a := (i : Int) - 1) (by omega) (by omega)]
  by_cases hc : bt a i = 45
  ·rw [if_pos hc, if_pos hc]
   exact digits_l0_ a b hm i k d (by omega) (by omega) (by omega)
  ·rw [if_neg hc, if_neg hc, if_pos (by omega), wrap_id (a := bt a i) (by omega) (by omega), wrap_id (by omega) (by omega)]
   rw [digits_l0_ a b hm i k (d ++ [bt a i - 48]) (by omega) (by omega) (by rw [List.length_append, List.length_singleton]; omega)]
   simp
theorem rdigits_ev (a : ByteArray) (hm : a.size ≤ 9000000000000) : Ev (fun k => torusref02_digits.f k a) ((bytesOf a).head? == some 45, Ten.tr (dgs_ (bytesOf a))) := by
 have key : ∀ b, Ev (fun k => torusref02_digits.j0 k a b) (b, Ten.tr (dgs_ (bytesOf a))) := fun b => ev_of (2 * a.size + 5) fun k hk => by
  obtain ⟨k, rfl⟩ : ∃ m, k = m + 1 := ⟨k - 1, by omega⟩
  rw [torusref02_digits.j0, wrap_id (by omega) (by omega), digits_l0_ a b hm a.size k [] (Nat.le_refl _) (by omega) (by simp)]
  rw [List.nil_append, ← bytesOf_size, List.take_length]
 unfold torusref02_digits.f
 by_cases h : a.size = 0
 ·have hb : bytesOf a = [] := List.eq_nil_of_length_eq_zero (by rw [bytesOf_size]; exact h)
  simp only [h]
  rw [hb] at key ⊢
  exact key false
 ·rw [show (fun k => if (a.size : Int) > 0 then (if 0 < (a.size : Int) then torusref02_digits.j0 k a (bt a 0 == 45) else none) else torusref02_digits.j0 k a false) = fun k => torusref02_digits.j0 k a (bt a 0 == 45) from funext fun k => by rw [if_pos (by omega), if_pos (by omega)]]
  have e : ((bytesOf a).head? == some 45) = (bt a 0 == 45) := by
   rw [← rd_bytesOf]
   cases hb : bytesOf a with
   |nil => exact absurd (by rw [← bytesOf_size, hb]; rfl) h
   |cons c r => simp [rd]
  rw [e]
  exact key _
theorem dgs_ntx (z : Int) (h : 0 ≤ z) : Ten.tr (dgs_ (ntx z)) = Ten.dg z.toNat := by
 have hf : (ntx z).filter (· != 45) = ntx z := List.filter_eq_self.2 fun c hc => by
  have := (isd_iff c).1 (List.all_eq_true.1 (ntx_isd z) c hc)
  simp
  omega
 unfold dgs_
 rw [hf, ntx, List.reverse_reverse, sg_sub]
 by_cases h0 : z = 0
 ·subst h0
  rw [if_pos rfl, show (0 : Int).toNat = 0 from rfl, Ten.dg_zero]
  rfl
 ·rw [if_neg h0]
  exact Ten.tr_same _ (Ten.dg_can _)
theorem dgs_tx (z : Int) : Ten.tr (dgs_ (tx z)) = Ten.dg z.natAbs := by
 by_cases h : z < 0
 ·rw [tx_neg h]
  have e : dgs_ (45 :: ntx (-z)) = dgs_ (ntx (-z)) := by unfold dgs_; simp
  rw [e, dgs_ntx _ (by omega), show (-z).toNat = z.natAbs by omega]
 ·rw [tx_nonneg (by omega), dgs_ntx _ (by omega), show z.toNat = z.natAbs by omega]
theorem tx_head (z : Int) : ((tx z).head? == some 45) = decide (z < 0) := by
 by_cases h : z < 0
 ·rw [tx_neg h, decide_eq_true h]
  rfl
 ·rw [tx_nonneg (by omega), decide_eq_false h]
  exact beq_eq_false_iff_ne.mpr (ntx_ne45 z)
theorem TX_size (z : Int) : (TX z).size = (tx z).length := by rw [← bytesOf_TX, bytesOf_size]
def Sz (z : Int) : Prop := (TX z).size ≤ 1000000000
theorem digits_TX {z : Int} (h : Sz z) : Ev (fun k => torusref02_digits.f k (TX z)) (decide (z < 0), Ten.dg z.natAbs) := by
 have := rdigits_ev (TX z) (Nat.le_trans h (by decide))
 rwa [bytesOf_TX, dgs_tx, tx_head] at this
theorem text_l0_ (l : List Int) (hl : Ten.Lim l) (hm : l.length ≤ 9000000000000) : ∀ (i k : Nat) (d : List Int), i ≤ l.length → i < k → d.length + i ≤ 9000000000001 →
  torusref02_text.l0 k l d ((i : Int) - 1) = some (strOfNums (d ++ (sg (l.take i)).reverse))
 |0, k, d, hi, hk, hd => by
  obtain ⟨k, rfl⟩ : ∃ m, k = m + 1 := ⟨k - 1, by omega⟩
  rw [torusref02_text.l0, if_neg (by omega)]
  simp [sg]
 |i + 1, k, d, hi, hk, hd => by
  obtain ⟨k, rfl⟩ : ∃ m, k = m + 1 := ⟨k - 1, by omega⟩
  have e : (((i + 1 : Nat) : Int) - 1) = (i : Int) := by omega
  have hr := hl.rd i (by omega)
  rw [torusref02_text.l0, e, if_pos (by omega), if_pos (by omega), if_pos (by omega), if_pos (by omega), wrap_id (a := (i : Int) - 1) (by omega) (by omega), wrap_id (a := 48 + rd l (i : Int)) (by omega) (by omega), Int.emod_eq_of_lt (by omega) (by omega)]
  rw [text_l0_ l hl hm i k _ (by omega) (by omega) (by rw [List.length_append, List.length_singleton]; omega), take_snoc l i (by omega)]
  simp [sg, Int.add_comm]
theorem text_ev {d : List Int} (b : Bool) (h : Ten.Lim d) (hm : d.length ≤ 9000000000000) : Ev (fun k => torusref02_text.f k b d) (TX (sgnd b (Ten.val d))) := by
 have hv := Ten.val_nonneg d h
 have ht := Ten.tr_dg h
 have hl := Ten.tr_len d
 have hc := Ten.tr_can d h
 unfold torusref02_text.f
 refine (ev_bind (rtrim_ev d (by omega))).2 ?_
 by_cases h0 : Ten.val d = 0
 ·rw [ht, h0, show (0 : Int).toNat = 0 from rfl, Ten.dg_zero]
  have e : sgnd b 0 = 0 := by unfold sgnd; split <;> rfl
  rw [e]
  exact Ev.now _
 ·have hne : (Ten.tr d).length ≠ 0 := fun e => by
   have e2 := List.eq_nil_of_length_eq_zero e
   have e3 := Ten.tr_val d
   rw [e2] at e3
   exact h0 e3.symm
  have key : ∀ s : List Int, s.length ≤ 1 → Ev (fun k => torusref02_text.j0 k (Ten.tr d) s) (strOfNums (s ++ (sg (Ten.tr d)).reverse)) := fun s hs => ev_of ((Ten.tr d).length + 3) fun k hk => by
   obtain ⟨k, rfl⟩ : ∃ m, k = m + 1 := ⟨k - 1, by omega⟩
   rw [torusref02_text.j0, wrap_id (by omega) (by omega), text_l0_ _ hc.1 (by omega) _ k s (Nat.le_refl _) (by omega) (by omega), List.take_length]
  have hB : ∀ l, strOfNums l = B l := fun l => rfl
  have hn : ntx (Ten.val d) = (sg (Ten.tr d)).reverse := by rw [ntx_pos (by omega), ht]
  cases b with
  |false =>
   have := key [] (by simp)
   rw [List.nil_append, hB, ← hn] at this
   rw [sgnd_false, show TX (Ten.val d) = B (ntx (Ten.val d)) from congrArg B (tx_nonneg hv)]
   simp only [show ¬ ((Ten.tr d).length : Int) = 0 by omega, if_false, Bool.false_eq_true]
   exact this
  |true =>
   have := key [45] (by simp)
   rw [hB, ← hn] at this
   rw [sgnd_true, show TX (-Ten.val d) = B (45 :: ntx (Ten.val d)) from congrArg B (by rw [tx_neg (by omega), Int.neg_neg])]
   simp only [show ¬ ((Ten.tr d).length : Int) = 0 by omega, if_false, if_true]
   rw [show (fun k => if ([] : List Int).length < 140737488355328 then torusref02_text.j0 k (Ten.tr d) (([] : List Int) ++ [45]) else none) = fun k => torusref02_text.j0 k (Ten.tr d) [45] from funext fun k => by rw [if_pos (by decide)]; rfl]
   exact this
attribute [local go_sem] max2_int min2_int max_two min_two max_three min_three max_four min_four
set_option linter.unusedVariables false
set_option linter.unusedSimpArgs false
mutual
def torusref02_sum.l0 : Nat → List Int → List Int → List Int → Int → Int → Option (List Int)
 |0, _, _, _, _, _ => none
 |k + 1, x0, x1, x5, x6, x7 => if x7 < (x0.length : Int) then (torusref02_sum.j1 k x0 x1 x5 x6 x7 true) else (if x7 < (x1.length : Int) then (torusref02_sum.j1 k x0 x1 x5 x6 x7 true) else (torusref02_sum.j1 k x0 x1 x5 x6 x7 (decide (x6 > 0))))
def torusref02_sum.j1 : Nat → List Int → List Int → List Int → Int → Int → Bool → Option (List Int)
 |0, _, _, _, _, _, _ => none
 |k + 1, x0, x1, x5, x6, x7, x22 => if x22 = true then (if x7 < (x0.length : Int) then (if 0 ≤ x7 then (if x7 < (x1.length : Int) then (if x5.length < 17592186044416 then (torusref02_sum.l0 k x0 x1 (x5 ++ [Int.tmod (wrap64 ((wrap64 (x6 + (rd x0 x7))) + (rd x1 x7))) 10]) (wrap64 (Int.tdiv (wrap64 ((wrap64 (x6 + (rd x0 x7))) + (rd x1 x7))) 10)) (wrap64 (x7 + 1))) else (none)) else (if x5.length < 17592186044416 then (torusref02_sum.l0 k x0 x1 (x5 ++ [Int.tmod (wrap64 (x6 + (rd x0 x7))) 10]) (wrap64 (Int.tdiv (wrap64 (x6 + (rd x0 x7))) 10)) (wrap64 (x7 + 1))) else (none))) else (none)) else (if x7 < (x1.length : Int) then (if 0 ≤ x7 then (if x5.length < 17592186044416 then (torusref02_sum.l0 k x0 x1 (x5 ++ [Int.tmod (wrap64 (x6 + (rd x1 x7))) 10]) (wrap64 (Int.tdiv (wrap64 (x6 + (rd x1 x7))) 10)) (wrap64 (x7 + 1))) else (none)) else (none)) else (if x5.length < 17592186044416 then (torusref02_sum.l0 k x0 x1 (x5 ++ [Int.tmod x6 10]) (wrap64 (Int.tdiv x6 10)) (wrap64 (x7 + 1))) else (none)))) else (some x5)
end
def torusref02_sum.f (k : Nat) (l0 : List Int) (l1 : List Int) : Option (List Int) := torusref02_sum.l0 k l0 l1 ([] : List Int) 0 0
theorem torusref02_sum.mono_l : ∀ k, (∀ y0 y1 y2 y3 y4, LeO (torusref02_sum.l0 k y0 y1 y2 y3 y4) (torusref02_sum.l0 (k + 1) y0 y1 y2 y3 y4)) ∧ (∀ y0 y1 y2 y3 y4 y5, LeO (torusref02_sum.j1 k y0 y1 y2 y3 y4 y5) (torusref02_sum.j1 (k + 1) y0 y1 y2 y3 y4 y5))
 |0 => ⟨fun _ _ _ _ _ r h => by simp [torusref02_sum.l0] at h, fun _ _ _ _ _ _ r h => by simp [torusref02_sum.j1] at h⟩
 |k + 1 => by
  obtain ⟨ih0, ih1⟩ := torusref02_sum.mono_l k
  refine ⟨?_, ?_⟩
  ·intro y0 y1 y2 y3 y4
   unfold torusref02_sum.l0
   repeat' first
   |(with_reducible exact ih0 _ _ _ _ _)
   |(with_reducible exact ih1 _ _ _ _ _ _)
   |(with_reducible exact LeO.refl _)
   |(with_reducible exact LeO.none _)
   |(with_reducible refine LeO.ite ?_ ?_)
   |(with_reducible refine LeO.bind ?_ (fun _ => ?_))
  ·intro y0 y1 y2 y3 y4 y5
   unfold torusref02_sum.j1
   repeat' first
   |(with_reducible exact ih0 _ _ _ _ _)
   |(with_reducible exact ih1 _ _ _ _ _ _)
   |(with_reducible exact LeO.refl _)
   |(with_reducible exact LeO.none _)
   |(with_reducible refine LeO.ite ?_ ?_)
   |(with_reducible refine LeO.bind ?_ (fun _ => ?_))
theorem torusref02_sum.mono : ∀ a0 a1 k, LeO (torusref02_sum.f k a0 a1) (torusref02_sum.f (k + 1) a0 a1) := by
 intro a0 a1 k
 obtain ⟨ih0, ih1⟩ := torusref02_sum.mono_l k
 unfold torusref02_sum.f
 repeat' first
   |(with_reducible exact ih0 _ _ _ _ _)
   |(with_reducible exact ih1 _ _ _ _ _ _)
   |(with_reducible exact LeO.refl _)
   |(with_reducible exact LeO.none _)
   |(with_reducible refine LeO.ite ?_ ?_)
   |(with_reducible refine LeO.bind ?_ (fun _ => ?_))
set_option maxHeartbeats 8000000 in
set_option maxRecDepth 100000 in
theorem torusref02_sum.calls (k : Nat) (A0 : Option Addr) (c0 : Nat) (l0 : List Int) (A1 : Option Addr) (c1 : Nat) (l1 : List Int) (r : List Int) (w : World) (hr0 : Kd.C (Kd.int .i64) w A0 l0.length l0) (hc0 : l0.length ≤ c0) (hr1 : Kd.C (Kd.int .i64) w A1 l1.length l1) (hc1 : l1.length ≤ c1) (h : torusref02_sum.f k l0 l1 = some r) :
  Calls Tryz.prog 164 #[.slice A0 l0.length c0, .slice A1 l1.length c1] w fun e w' => ∃ v0_ : Value, e = .returned (v0_) ∧ Kd.R (Kd.int .i64) 3 w' w.heap.size (fun _ => True) v0_ r ∧ Below w.heap.size w w' := by
 have HR0 := Aside0.mk hr0
 have HC0 := Aside0.mk hc0
 clear hr0 hc0
 have HR1 := Aside0.mk hr1
 have HC1 := Aside0.mk hc1
 clear hr1 hc1
 have HB := Aside0.mk (Below.refl w.heap.size w)
 have H : (torusref02_sum.l0 k l0 l1 ([] : List Int) 0 0) = some r := h
 clear h
 have H' := Aside0.mk H
 clear H
 go_enter Tryz.func164, Tryz.ntmps164
 go_wp2
 go_loopg [5, 6, 7] k (fun kq v5 v6 v7 w' => ∃ (x5_1 : List Int) (x6_1 : Int) (x7_1 : Int), v6 = .int .i64 x6_1 ∧ v7 = .int .i64 x7_1 ∧ Aside0 (torusref02_sum.l0 kq l0 l1 x5_1 x6_1 x7_1 = some r) ∧ Aside0 (kq ≤ k) ∧ Aside0 (Kd.R (Kd.int .i64) 3 w' w.heap.size (fun _ => True) v5 x5_1) ∧ Aside0 (Below w.heap.size w w'))
 case atStart => exact ⟨(([] : List Int)), (0), (0), sd_, sd_, H', ⟨Nat.le_refl _⟩, ⟨by first | exact Kd.R_nil _ _ _ _ _ | exact Kd.N_nil _ _ _ _ _ | exact Kd.V_nil _ _ _ _ _ | exact Kd.Q_nil _ _ _ _ _ | exact Kd.S_nil _ _ _ _ _⟩, ⟨bw_⟩⟩
 case round =>
  clear H'
  try clear c1
  try clear p2
  obtain ⟨x5_1, x6_1, x7_1, rfl, rfl, HA, HK1, HO_5, HB⟩ := hrel
  cases gk with
  |zero => exact absurd HA.out (by simp [torusref02_sum.l0])
  |succ k1 =>
   have H := HA.out
   clear HA
   simp only [torusref02_sum.l0] at H
   have HC3 := Aside0.mk H
   clear H
   go_upto_region 4 with (fail)
   go_cut [22] (fun v22 wc => ∃ (kq : Nat) (x22_2 : Bool), v22 = .bool x22_2 ∧ Aside0 (torusref02_sum.j1 kq l0 l1 x5_1 x6_1 x7_1 x22_2 = some r) ∧ Aside0 (kq ≤ k1) ∧ Aside0 (Kd.R (Kd.int .i64) 3 wc w.heap.size (fun _ => True) u5 x5_1) ∧ Aside0 (Below w.heap.size w wc))
   case first =>
    have H := HC3.out
    clear HC3
    by_cases c4 : x7_1 < (l0.length : Int)
    ·rw [if_pos c4] at H
     have c4b0 : decide (x7_1 < (l0.length : Int)) = true := decide_eq_true c4
     clear c4
     (first | rw [c4b0] | (simp only [i64_w, i32_w]; rw [c4b0]) | skip)
     have H' := Aside0.mk H
     clear H
     go_wp2
     go_meet
     case rel => exact ⟨_, (true), sd_, H', ⟨by have := HK1.out; first | omega | exact Nat.le_refl _⟩, ⟨rRa_ HO_5.out⟩, ⟨bw_⟩⟩
    ·rw [if_neg c4] at H
     have c4b0 : decide (x7_1 < (l0.length : Int)) = false := decide_eq_false c4
     clear c4
     (first | rw [c4b0] | (simp only [i64_w, i32_w]; rw [c4b0]) | skip)
     by_cases c5 : x7_1 < (l1.length : Int)
     ·rw [if_pos c5] at H
      have c5b0 : decide (x7_1 < (l1.length : Int)) = true := decide_eq_true c5
      clear c5
      have H' := Aside0.mk H
      clear H
      go_wp2
      go_meet
      case rel => exact ⟨_, (true), sd_, H', ⟨by have := HK1.out; first | omega | exact Nat.le_refl _⟩, ⟨rRa_ HO_5.out⟩, ⟨bw_⟩⟩
     ·rw [if_neg c5] at H
      have c5b0 : decide (x7_1 < (l1.length : Int)) = false := decide_eq_false c5
      clear c5
      have H' := Aside0.mk H
      clear H
      go_wp2
      go_meet
      case rel => exact ⟨_, (decide (x6_1 > 0)), sd_, H', ⟨by have := HK1.out; first | omega | exact Nat.le_refl _⟩, ⟨rRa_ HO_5.out⟩, ⟨bw_⟩⟩
   case rest =>
    clear HC3
    try clear c1
    try clear p2
    try clear c4
    try clear c4b0
    try clear c5
    try clear c5b0
    try clear p2
    obtain ⟨kq, x22_2, rfl, HA, HJ2, HO_5, HB⟩ := hcut
    cases kq with
    |zero => exact absurd HA.out (by simp [torusref02_sum.j1])
    |succ kj2 =>
     have H := HA.out
     clear HA
     simp only [torusref02_sum.j1] at H
     by_cases c6 : x22_2 = true
     ·subst c6
      rw [if_pos rfl] at H
      by_cases c7 : x7_1 < (l0.length : Int)
      ·rw [if_pos c7] at H
       have c7b0 : decide (x7_1 < (l0.length : Int)) = true := decide_eq_true c7
       clear c7
       by_cases c8 : 0 ≤ x7_1
       ·rw [if_pos c8] at H
        have c8b0 : decide (0 ≤ x7_1) = true := decide_eq_true c8
        clear c8
        by_cases c9 : x7_1 < (l1.length : Int)
        ·rw [if_pos c9] at H
         have c9b0 : decide (x7_1 < (l1.length : Int)) = true := decide_eq_true c9
         clear c9
         by_cases c10 : x5_1.length < 17592186044416
         ·rw [if_pos c10] at H
          have LMc10 := Aside0.mk c10
          clear c10
          obtain ⟨y539, hy539⟩ : ∃ y_ : List Int, y_ = (x5_1 ++ [Int.tmod (wrap64 ((wrap64 (x6_1 + (rd l0 x7_1))) + (rd l1 x7_1))) 10]) := ⟨_, rfl⟩
          replace H : (torusref02_sum.l0 kj2 l0 l1 y539 (wrap64 (Int.tdiv (wrap64 ((wrap64 (x6_1 + (rd l0 x7_1))) + (rd l1 x7_1))) 10)) (wrap64 (x7_1 + 1))) = some r := by first | (rw [hy539]; with_reducible exact H) | (have H2_ := (Option.bind_some _ _).symm.trans H; rw [hy539]; with_reducible exact H2_) | (have H2_ := (Option.bind_some _ _).symm.trans H; with_reducible exact H2_) | with_reducible exact H | (rw [hy539]; exact H) | exact H
          have Ny539 := Aside0.mk hy539
          clear hy539
          have H' := Aside0.mk H
          clear H
          have p537 : 0 ≤ (x7_1 : Int) := of_decide_eq_true as_
          have q537 : x7_1 < (l0.length : Int) := of_decide_eq_true as_
          obtain ⟨ad537, e537, hx537_0⟩ := Kd.at_int HR0.out x7_1 p537 q537
          cases e537
          replace hx537_0 := (HB.out.cell (World.block_lt_of_cell? w _ hx537_0)).trans hx537_0
          replace p537 := eq_true p537
          replace q537 := eq_true q537
          have p538 : 0 ≤ (x7_1 : Int) := of_decide_eq_true as_
          have q538 : x7_1 < (l1.length : Int) := of_decide_eq_true as_
          obtain ⟨ad538, e538, hx538_0⟩ := Kd.at_int HR1.out x7_1 p538 q538
          cases e538
          replace hx538_0 := (HB.out.cell (World.block_lt_of_cell? w _ hx538_0)).trans hx538_0
          replace p538 := eq_true p538
          replace q538 := eq_true q538
          go_wp2_with (first | ((with_reducible refine gate_builtin (b := .append) (xs := #[.tmp 46, .tmp 49]) rfl ?_); (try (refine gate_guard (by rfl) ?_; dsimp only)); at_builtin; refine Kd.R_append (Kd.int .i64) (w0 := w) w.heap.size rfl (.tmp 46) (.tmp 49) 146 3 (.int .i64 0) 8 rfl Tryz.underlying146 info3 rfl (by decide) (by omega) u5 x5_1 (Int.tmod (wrap64 ((wrap64 (x6_1 + (rd l0 x7_1))) + (rd l1 x7_1))) 10) [.int .i64 (Int.tmod (wrap64 ((wrap64 (x6_1 + (rd l0 x7_1))) + (rd l1 x7_1))) 10)] (fun _ => True) (fun _ => False) rfl rfl ?aP (fun _ hk => hk.elim) ?aF ?aO ?aB ?aS ?aL ?_; (case aP => exact rfl); (case aB => exact bw_); (case aF => exact (fun _ _ => trivial)); (case aO => exact (rRa_ HO_5.out)); (case aS => exact (below_size bw_)); (case aL => have := LMc10.out; omega); intro v540 w11 ho hb hg hat; rw [← Ny539.out] at ho; have n0_ := Aside0.mk (hb); have n1_ := Aside0.mk (ho); clear HB; clear HO_5; have HB := n0_; have HO541 := n1_; clear n0_ n1_; clear ho hb hg hat))
          go_roundg kj2
          case measure => have := HK1.out; have := HJ2.out; omega
          case rel => exact ⟨(y539), (wrap64 (Int.tdiv (wrap64 ((wrap64 (x6_1 + (rd l0 x7_1))) + (rd l1 x7_1))) 10)), (wrap64 (x7_1 + 1)), sd_, sd_, H', ⟨by have := HK1.out; have := HJ2.out; omega⟩, ⟨rRa_ HO541.out⟩, ⟨bw_⟩⟩
         ·rw [if_neg c10] at H
          exact absurd H (by simp)
        ·rw [if_neg c9] at H
         have c9b0 : decide (x7_1 < (l1.length : Int)) = false := decide_eq_false c9
         clear c9
         by_cases c12 : x5_1.length < 17592186044416
         ·rw [if_pos c12] at H
          have LMc12 := Aside0.mk c12
          clear c12
          obtain ⟨y542, hy542⟩ : ∃ y_ : List Int, y_ = (x5_1 ++ [Int.tmod (wrap64 (x6_1 + (rd l0 x7_1))) 10]) := ⟨_, rfl⟩
          replace H : (torusref02_sum.l0 kj2 l0 l1 y542 (wrap64 (Int.tdiv (wrap64 (x6_1 + (rd l0 x7_1))) 10)) (wrap64 (x7_1 + 1))) = some r := by first | (rw [hy542]; with_reducible exact H) | (have H2_ := (Option.bind_some _ _).symm.trans H; rw [hy542]; with_reducible exact H2_) | (have H2_ := (Option.bind_some _ _).symm.trans H; with_reducible exact H2_) | with_reducible exact H | (rw [hy542]; exact H) | exact H
          have Ny542 := Aside0.mk hy542
          clear hy542
          have H' := Aside0.mk H
          clear H
          have p537 : 0 ≤ (x7_1 : Int) := of_decide_eq_true as_
          have q537 : x7_1 < (l0.length : Int) := of_decide_eq_true as_
          obtain ⟨ad537, e537, hx537_0⟩ := Kd.at_int HR0.out x7_1 p537 q537
          cases e537
          replace hx537_0 := (HB.out.cell (World.block_lt_of_cell? w _ hx537_0)).trans hx537_0
          replace p537 := eq_true p537
          replace q537 := eq_true q537
          go_wp2_with (first | ((with_reducible refine gate_builtin (b := .append) (xs := #[.tmp 46, .tmp 49]) rfl ?_); (try (refine gate_guard (by rfl) ?_; dsimp only)); at_builtin; refine Kd.R_append (Kd.int .i64) (w0 := w) w.heap.size rfl (.tmp 46) (.tmp 49) 146 3 (.int .i64 0) 8 rfl Tryz.underlying146 info3 rfl (by decide) (by omega) u5 x5_1 (Int.tmod (wrap64 (x6_1 + (rd l0 x7_1))) 10) [.int .i64 (Int.tmod (wrap64 (x6_1 + (rd l0 x7_1))) 10)] (fun _ => True) (fun _ => False) rfl rfl ?aP (fun _ hk => hk.elim) ?aF ?aO ?aB ?aS ?aL ?_; (case aP => exact rfl); (case aB => exact bw_); (case aF => exact (fun _ _ => trivial)); (case aO => exact (rRa_ HO_5.out)); (case aS => exact (below_size bw_)); (case aL => have := LMc12.out; omega); intro v543 w13 ho hb hg hat; rw [← Ny542.out] at ho; have n0_ := Aside0.mk (hb); have n1_ := Aside0.mk (ho); clear HB; clear HO_5; have HB := n0_; have HO544 := n1_; clear n0_ n1_; clear ho hb hg hat))
          go_roundg kj2
          case measure => have := HK1.out; have := HJ2.out; omega
          case rel => exact ⟨(y542), (wrap64 (Int.tdiv (wrap64 (x6_1 + (rd l0 x7_1))) 10)), (wrap64 (x7_1 + 1)), sd_, sd_, H', ⟨by have := HK1.out; have := HJ2.out; omega⟩, ⟨rRa_ HO544.out⟩, ⟨bw_⟩⟩
         ·rw [if_neg c12] at H
          exact absurd H (by simp)
       ·rw [if_neg c8] at H
        exact absurd H (by simp)
      ·rw [if_neg c7] at H
       have c7b0 : decide (x7_1 < (l0.length : Int)) = false := decide_eq_false c7
       clear c7
       by_cases c14 : x7_1 < (l1.length : Int)
       ·rw [if_pos c14] at H
        have c14b0 : decide (x7_1 < (l1.length : Int)) = true := decide_eq_true c14
        clear c14
        by_cases c15 : 0 ≤ x7_1
        ·rw [if_pos c15] at H
         have c15b0 : decide (0 ≤ x7_1) = true := decide_eq_true c15
         clear c15
         by_cases c16 : x5_1.length < 17592186044416
         ·rw [if_pos c16] at H
          have LMc16 := Aside0.mk c16
          clear c16
          obtain ⟨y546, hy546⟩ : ∃ y_ : List Int, y_ = (x5_1 ++ [Int.tmod (wrap64 (x6_1 + (rd l1 x7_1))) 10]) := ⟨_, rfl⟩
          replace H : (torusref02_sum.l0 kj2 l0 l1 y546 (wrap64 (Int.tdiv (wrap64 (x6_1 + (rd l1 x7_1))) 10)) (wrap64 (x7_1 + 1))) = some r := by first | (rw [hy546]; with_reducible exact H) | (have H2_ := (Option.bind_some _ _).symm.trans H; rw [hy546]; with_reducible exact H2_) | (have H2_ := (Option.bind_some _ _).symm.trans H; with_reducible exact H2_) | with_reducible exact H | (rw [hy546]; exact H) | exact H
          have Ny546 := Aside0.mk hy546
          clear hy546
          have H' := Aside0.mk H
          clear H
          have p545 : 0 ≤ (x7_1 : Int) := of_decide_eq_true as_
          have q545 : x7_1 < (l1.length : Int) := of_decide_eq_true as_
          obtain ⟨ad545, e545, hx545_0⟩ := Kd.at_int HR1.out x7_1 p545 q545
          cases e545
          replace hx545_0 := (HB.out.cell (World.block_lt_of_cell? w _ hx545_0)).trans hx545_0
          replace p545 := eq_true p545
          replace q545 := eq_true q545
          go_wp2_with (first | ((with_reducible refine gate_builtin (b := .append) (xs := #[.tmp 46, .tmp 49]) rfl ?_); (try (refine gate_guard (by rfl) ?_; dsimp only)); at_builtin; refine Kd.R_append (Kd.int .i64) (w0 := w) w.heap.size rfl (.tmp 46) (.tmp 49) 146 3 (.int .i64 0) 8 rfl Tryz.underlying146 info3 rfl (by decide) (by omega) u5 x5_1 (Int.tmod (wrap64 (x6_1 + (rd l1 x7_1))) 10) [.int .i64 (Int.tmod (wrap64 (x6_1 + (rd l1 x7_1))) 10)] (fun _ => True) (fun _ => False) rfl rfl ?aP (fun _ hk => hk.elim) ?aF ?aO ?aB ?aS ?aL ?_; (case aP => exact rfl); (case aB => exact bw_); (case aF => exact (fun _ _ => trivial)); (case aO => exact (rRa_ HO_5.out)); (case aS => exact (below_size bw_)); (case aL => have := LMc16.out; omega); intro v547 w17 ho hb hg hat; rw [← Ny546.out] at ho; have n0_ := Aside0.mk (hb); have n1_ := Aside0.mk (ho); clear HB; clear HO_5; have HB := n0_; have HO548 := n1_; clear n0_ n1_; clear ho hb hg hat))
          go_roundg kj2
          case measure => have := HK1.out; have := HJ2.out; omega
          case rel => exact ⟨(y546), (wrap64 (Int.tdiv (wrap64 (x6_1 + (rd l1 x7_1))) 10)), (wrap64 (x7_1 + 1)), sd_, sd_, H', ⟨by have := HK1.out; have := HJ2.out; omega⟩, ⟨rRa_ HO548.out⟩, ⟨bw_⟩⟩
         ·rw [if_neg c16] at H
          exact absurd H (by simp)
        ·rw [if_neg c15] at H
         exact absurd H (by simp)
       ·rw [if_neg c14] at H
        have c14b0 : decide (x7_1 < (l1.length : Int)) = false := decide_eq_false c14
        clear c14
        by_cases c18 : x5_1.length < 17592186044416
        ·rw [if_pos c18] at H
         have LMc18 := Aside0.mk c18
         clear c18
         obtain ⟨y549, hy549⟩ : ∃ y_ : List Int, y_ = (x5_1 ++ [Int.tmod x6_1 10]) := ⟨_, rfl⟩
         replace H : (torusref02_sum.l0 kj2 l0 l1 y549 (wrap64 (Int.tdiv x6_1 10)) (wrap64 (x7_1 + 1))) = some r := by first | (rw [hy549]; with_reducible exact H) | (have H2_ := (Option.bind_some _ _).symm.trans H; rw [hy549]; with_reducible exact H2_) | (have H2_ := (Option.bind_some _ _).symm.trans H; with_reducible exact H2_) | with_reducible exact H | (rw [hy549]; exact H) | exact H
         have Ny549 := Aside0.mk hy549
         clear hy549
         have H' := Aside0.mk H
         clear H
         go_wp2_with (first | ((with_reducible refine gate_builtin (b := .append) (xs := #[.tmp 46, .tmp 49]) rfl ?_); (try (refine gate_guard (by rfl) ?_; dsimp only)); at_builtin; refine Kd.R_append (Kd.int .i64) (w0 := w) w.heap.size rfl (.tmp 46) (.tmp 49) 146 3 (.int .i64 0) 8 rfl Tryz.underlying146 info3 rfl (by decide) (by omega) u5 x5_1 (Int.tmod x6_1 10) [.int .i64 (Int.tmod x6_1 10)] (fun _ => True) (fun _ => False) rfl rfl ?aP (fun _ hk => hk.elim) ?aF ?aO ?aB ?aS ?aL ?_; (case aP => exact rfl); (case aB => exact bw_); (case aF => exact (fun _ _ => trivial)); (case aO => exact (rRa_ HO_5.out)); (case aS => exact (below_size bw_)); (case aL => have := LMc18.out; omega); intro v550 w19 ho hb hg hat; rw [← Ny549.out] at ho; have n0_ := Aside0.mk (hb); have n1_ := Aside0.mk (ho); clear HB; clear HO_5; have HB := n0_; have HO551 := n1_; clear n0_ n1_; clear ho hb hg hat))
         go_roundg kj2
         case measure => have := HK1.out; have := HJ2.out; omega
         case rel => exact ⟨(y549), (wrap64 (Int.tdiv x6_1 10)), (wrap64 (x7_1 + 1)), sd_, sd_, H', ⟨by have := HK1.out; have := HJ2.out; omega⟩, ⟨rRa_ HO551.out⟩, ⟨bw_⟩⟩
        ·rw [if_neg c18] at H
         exact absurd H (by simp)
     ·replace c6 := Bool.eq_false_iff.mpr c6
      subst c6
      rw [if_neg (show ¬ (false = true) by decide)] at H
      obtain rfl := Option.some.inj H
      go_wp2
      go_ret
      exact ⟨_, by first | rfl | (simp [errW_none, errW_some] <;> rfl) | (simp [*, errW_none, errW_some] <;> rfl), rRa_ HO_5.out, bw_⟩
attribute [local go_sem] max2_int min2_int max_two min_two max_three min_three max_four min_four
set_option linter.unusedVariables false
set_option linter.unusedSimpArgs false
def torusref02_difference.l0 : Nat → List Int → List Int → List Int → Int → Int → Option (List Int)
 |0, _, _, _, _, _ => none
 |k + 1, x0, x1, x5, x6, x7 => if x7 < (x0.length : Int) then (if 0 ≤ x7 then (if x7 < (x1.length : Int) then (if (wrap64 ((wrap64 ((rd x0 x7) - x6)) - (rd x1 x7))) < 0 then (if x5.length < 17592186044416 then (torusref02_difference.l0 k x0 x1 (x5 ++ [wrap64 ((wrap64 ((wrap64 ((rd x0 x7) - x6)) - (rd x1 x7))) + 10)]) 1 (wrap64 (x7 + 1))) else (none)) else (if x5.length < 17592186044416 then (torusref02_difference.l0 k x0 x1 (x5 ++ [wrap64 ((wrap64 ((rd x0 x7) - x6)) - (rd x1 x7))]) 0 (wrap64 (x7 + 1))) else (none))) else (if (wrap64 ((rd x0 x7) - x6)) < 0 then (if x5.length < 17592186044416 then (torusref02_difference.l0 k x0 x1 (x5 ++ [wrap64 ((wrap64 ((rd x0 x7) - x6)) + 10)]) 1 (wrap64 (x7 + 1))) else (none)) else (if x5.length < 17592186044416 then (torusref02_difference.l0 k x0 x1 (x5 ++ [wrap64 ((rd x0 x7) - x6)]) 0 (wrap64 (x7 + 1))) else (none)))) else (none)) else ((torusref02_trim.f k x5).bind fun t552 => (some t552))
def torusref02_difference.f (k : Nat) (l0 : List Int) (l1 : List Int) : Option (List Int) := torusref02_difference.l0 k l0 l1 ([] : List Int) 0 0
theorem torusref02_difference.mono_l : ∀ k, (∀ y0 y1 y2 y3 y4, LeO (torusref02_difference.l0 k y0 y1 y2 y3 y4) (torusref02_difference.l0 (k + 1) y0 y1 y2 y3 y4))
 |0 => fun _ _ _ _ _ r h => by simp [torusref02_difference.l0] at h
 |k + 1 => by
  have ih0 := torusref02_difference.mono_l k
  ·intro y0 y1 y2 y3 y4
   unfold torusref02_difference.l0
   repeat' first
   |(with_reducible exact ih0 _ _ _ _ _)
   |(with_reducible exact torusref02_trim.mono _ _)
   |(with_reducible exact LeO.refl _)
   |(with_reducible exact LeO.none _)
   |(with_reducible refine LeO.ite ?_ ?_)
   |(with_reducible refine LeO.bind ?_ (fun _ => ?_))
theorem torusref02_difference.mono : ∀ a0 a1 k, LeO (torusref02_difference.f k a0 a1) (torusref02_difference.f (k + 1) a0 a1) := by
 intro a0 a1 k
 have ih0 := torusref02_difference.mono_l k
 unfold torusref02_difference.f
 repeat' first
   |(with_reducible exact ih0 _ _ _ _ _)
   |(with_reducible exact torusref02_trim.mono _ _)
   |(with_reducible exact LeO.refl _)
   |(with_reducible exact LeO.none _)
   |(with_reducible refine LeO.ite ?_ ?_)
   |(with_reducible refine LeO.bind ?_ (fun _ => ?_))
set_option maxHeartbeats 8000000 in
set_option maxRecDepth 100000 in
theorem torusref02_difference.calls (k : Nat) (A0 : Option Addr) (c0 : Nat) (l0 : List Int) (A1 : Option Addr) (c1 : Nat) (l1 : List Int) (r : List Int) (w : World) (hr0 : Kd.C (Kd.int .i64) w A0 l0.length l0) (hc0 : l0.length ≤ c0) (hr1 : Kd.C (Kd.int .i64) w A1 l1.length l1) (hc1 : l1.length ≤ c1) (h : torusref02_difference.f k l0 l1 = some r) :
  Calls Tryz.prog 166 #[.slice A0 l0.length c0, .slice A1 l1.length c1] w fun e w' => ∃ v0_ : Value, e = .returned (v0_) ∧ Kd.V (Kd.int .i64) 3 w' w.heap.size (fun k_ => (w.heap.size ≤ k_)) v0_ r ∧ Below w.heap.size w w' := by
 have HR0 := Aside0.mk hr0
 have HC0 := Aside0.mk hc0
 clear hr0 hc0
 have HR1 := Aside0.mk hr1
 have HC1 := Aside0.mk hc1
 clear hr1 hc1
 have HB := Aside0.mk (Below.refl w.heap.size w)
 have H : (torusref02_difference.l0 k l0 l1 ([] : List Int) 0 0) = some r := h
 clear h
 have H' := Aside0.mk H
 clear H
 go_enter Tryz.func166, Tryz.ntmps166
 go_wp2
 go_loopg [5, 6, 7] k (fun kq v5 v6 v7 w' => ∃ (x5_1 : List Int) (x6_1 : Int) (x7_1 : Int), v6 = .int .i64 x6_1 ∧ v7 = .int .i64 x7_1 ∧ Aside0 (torusref02_difference.l0 kq l0 l1 x5_1 x6_1 x7_1 = some r) ∧ Aside0 (kq ≤ k) ∧ Aside0 (Kd.R (Kd.int .i64) 3 w' w.heap.size (fun k_ => (w.heap.size ≤ k_)) v5 x5_1) ∧ Aside0 (Below w.heap.size w w'))
 case atStart => exact ⟨(([] : List Int)), (0), (0), sd_, sd_, H', ⟨Nat.le_refl _⟩, ⟨by first | exact Kd.R_nil _ _ _ _ _ | exact Kd.N_nil _ _ _ _ _ | exact Kd.V_nil _ _ _ _ _ | exact Kd.Q_nil _ _ _ _ _ | exact Kd.S_nil _ _ _ _ _⟩, ⟨bw_⟩⟩
 case round =>
  clear H'
  try clear c1
  try clear p2
  obtain ⟨x5_1, x6_1, x7_1, rfl, rfl, HA, HK1, HO_5, HB⟩ := hrel
  cases gk with
  |zero => exact absurd HA.out (by simp [torusref02_difference.l0])
  |succ k1 =>
   have H := HA.out
   clear HA
   simp only [torusref02_difference.l0] at H
   by_cases c3 : x7_1 < (l0.length : Int)
   ·rw [if_pos c3] at H
    have c3b0 : decide (x7_1 < (l0.length : Int)) = true := decide_eq_true c3
    clear c3
    by_cases c4 : 0 ≤ x7_1
    ·rw [if_pos c4] at H
     have c4b0 : decide (0 ≤ x7_1) = true := decide_eq_true c4
     clear c4
     by_cases c5 : x7_1 < (l1.length : Int)
     ·rw [if_pos c5] at H
      have c5b0 : decide (x7_1 < (l1.length : Int)) = true := decide_eq_true c5
      clear c5
      by_cases c6 : (wrap64 ((wrap64 ((rd l0 x7_1) - x6_1)) - (rd l1 x7_1))) < 0
      ·rw [if_pos c6] at H
       have c6b0 : decide ((wrap64 ((wrap64 ((rd l0 x7_1) - x6_1)) - (rd l1 x7_1))) < 0) = true := decide_eq_true c6
       clear c6
       by_cases c7 : x5_1.length < 17592186044416
       ·rw [if_pos c7] at H
        have LMc7 := Aside0.mk c7
        clear c7
        obtain ⟨y557, hy557⟩ : ∃ y_ : List Int, y_ = (x5_1 ++ [wrap64 ((wrap64 ((wrap64 ((rd l0 x7_1) - x6_1)) - (rd l1 x7_1))) + 10)]) := ⟨_, rfl⟩
        replace H : (torusref02_difference.l0 k1 l0 l1 y557 1 (wrap64 (x7_1 + 1))) = some r := by first | (rw [hy557]; with_reducible exact H) | (have H2_ := (Option.bind_some _ _).symm.trans H; rw [hy557]; with_reducible exact H2_) | (have H2_ := (Option.bind_some _ _).symm.trans H; with_reducible exact H2_) | with_reducible exact H | (rw [hy557]; exact H) | exact H
        have Ny557 := Aside0.mk hy557
        clear hy557
        have H' := Aside0.mk H
        clear H
        have p555 : 0 ≤ (x7_1 : Int) := of_decide_eq_true as_
        have q555 : x7_1 < (l0.length : Int) := of_decide_eq_true as_
        obtain ⟨ad555, e555, hx555_0⟩ := Kd.at_int HR0.out x7_1 p555 q555
        cases e555
        replace hx555_0 := (HB.out.cell (World.block_lt_of_cell? w _ hx555_0)).trans hx555_0
        replace p555 := eq_true p555
        replace q555 := eq_true q555
        have p556 : 0 ≤ (x7_1 : Int) := of_decide_eq_true as_
        have q556 : x7_1 < (l1.length : Int) := of_decide_eq_true as_
        obtain ⟨ad556, e556, hx556_0⟩ := Kd.at_int HR1.out x7_1 p556 q556
        cases e556
        replace hx556_0 := (HB.out.cell (World.block_lt_of_cell? w _ hx556_0)).trans hx556_0
        replace p556 := eq_true p556
        replace q556 := eq_true q556
        go_wp2_with (first | ((with_reducible refine gate_builtin (b := .append) (xs := #[.tmp 35, .tmp 37]) rfl ?_); at_builtin; refine Kd.R_append (Kd.int .i64) (w0 := w) w.heap.size rfl (.tmp 35) (.tmp 37) 146 3 (.int .i64 0) 8 rfl Tryz.underlying146 info3 rfl (by decide) (by omega) u5 x5_1 (wrap64 ((wrap64 ((wrap64 ((rd l0 x7_1) - x6_1)) - (rd l1 x7_1))) + 10)) [.int .i64 (wrap64 ((wrap64 ((wrap64 ((rd l0 x7_1) - x6_1)) - (rd l1 x7_1))) + 10))] (fun k_ => (w.heap.size ≤ k_)) (fun _ => False) rfl rfl ?aP (fun _ hk => hk.elim) ?aF ?aO ?aB ?aS ?aL ?_; (case aP => exact rfl); (case aB => exact bw_); (case aF => exact (fun k_ hk => (Nat.le_trans (below_size bw_) hk))); (case aO => exact (rRa_ HO_5.out)); (case aS => exact (below_size bw_)); (case aL => have := LMc7.out; omega); intro v558 w8 ho hb hg hat; rw [← Ny557.out] at ho; have n0_ := Aside0.mk (hb); have n1_ := Aside0.mk (ho); clear HB; clear HO_5; have HB := n0_; have HO559 := n1_; clear n0_ n1_; clear ho hb hg hat))
        go_roundg k1
        case measure => have := HK1.out; omega
        case rel => exact ⟨(y557), (1), (wrap64 (x7_1 + 1)), sd_, sd_, H', ⟨by have := HK1.out; omega⟩, ⟨rRa_ HO559.out⟩, ⟨bw_⟩⟩
       ·rw [if_neg c7] at H
        exact absurd H (by simp)
      ·rw [if_neg c6] at H
       have c6b0 : decide ((wrap64 ((wrap64 ((rd l0 x7_1) - x6_1)) - (rd l1 x7_1))) < 0) = false := decide_eq_false c6
       clear c6
       by_cases c9 : x5_1.length < 17592186044416
       ·rw [if_pos c9] at H
        have LMc9 := Aside0.mk c9
        clear c9
        obtain ⟨y560, hy560⟩ : ∃ y_ : List Int, y_ = (x5_1 ++ [wrap64 ((wrap64 ((rd l0 x7_1) - x6_1)) - (rd l1 x7_1))]) := ⟨_, rfl⟩
        replace H : (torusref02_difference.l0 k1 l0 l1 y560 0 (wrap64 (x7_1 + 1))) = some r := by first | (rw [hy560]; with_reducible exact H) | (have H2_ := (Option.bind_some _ _).symm.trans H; rw [hy560]; with_reducible exact H2_) | (have H2_ := (Option.bind_some _ _).symm.trans H; with_reducible exact H2_) | with_reducible exact H | (rw [hy560]; exact H) | exact H
        have Ny560 := Aside0.mk hy560
        clear hy560
        have H' := Aside0.mk H
        clear H
        have p555 : 0 ≤ (x7_1 : Int) := of_decide_eq_true as_
        have q555 : x7_1 < (l0.length : Int) := of_decide_eq_true as_
        obtain ⟨ad555, e555, hx555_0⟩ := Kd.at_int HR0.out x7_1 p555 q555
        cases e555
        replace hx555_0 := (HB.out.cell (World.block_lt_of_cell? w _ hx555_0)).trans hx555_0
        replace p555 := eq_true p555
        replace q555 := eq_true q555
        have p556 : 0 ≤ (x7_1 : Int) := of_decide_eq_true as_
        have q556 : x7_1 < (l1.length : Int) := of_decide_eq_true as_
        obtain ⟨ad556, e556, hx556_0⟩ := Kd.at_int HR1.out x7_1 p556 q556
        cases e556
        replace hx556_0 := (HB.out.cell (World.block_lt_of_cell? w _ hx556_0)).trans hx556_0
        replace p556 := eq_true p556
        replace q556 := eq_true q556
        go_wp2_with (first | ((with_reducible refine gate_builtin (b := .append) (xs := #[.tmp 35, .tmp 37]) rfl ?_); at_builtin; refine Kd.R_append (Kd.int .i64) (w0 := w) w.heap.size rfl (.tmp 35) (.tmp 37) 146 3 (.int .i64 0) 8 rfl Tryz.underlying146 info3 rfl (by decide) (by omega) u5 x5_1 (wrap64 ((wrap64 ((rd l0 x7_1) - x6_1)) - (rd l1 x7_1))) [.int .i64 (wrap64 ((wrap64 ((rd l0 x7_1) - x6_1)) - (rd l1 x7_1)))] (fun k_ => (w.heap.size ≤ k_)) (fun _ => False) rfl rfl ?aP (fun _ hk => hk.elim) ?aF ?aO ?aB ?aS ?aL ?_; (case aP => exact rfl); (case aB => exact bw_); (case aF => exact (fun k_ hk => (Nat.le_trans (below_size bw_) hk))); (case aO => exact (rRa_ HO_5.out)); (case aS => exact (below_size bw_)); (case aL => have := LMc9.out; omega); intro v561 w10 ho hb hg hat; rw [← Ny560.out] at ho; have n0_ := Aside0.mk (hb); have n1_ := Aside0.mk (ho); clear HB; clear HO_5; have HB := n0_; have HO562 := n1_; clear n0_ n1_; clear ho hb hg hat))
        go_roundg k1
        case measure => have := HK1.out; omega
        case rel => exact ⟨(y560), (0), (wrap64 (x7_1 + 1)), sd_, sd_, H', ⟨by have := HK1.out; omega⟩, ⟨rRa_ HO562.out⟩, ⟨bw_⟩⟩
       ·rw [if_neg c9] at H
        exact absurd H (by simp)
     ·rw [if_neg c5] at H
      have c5b0 : decide (x7_1 < (l1.length : Int)) = false := decide_eq_false c5
      clear c5
      by_cases c11 : (wrap64 ((rd l0 x7_1) - x6_1)) < 0
      ·rw [if_pos c11] at H
       have c11b0 : decide ((wrap64 ((rd l0 x7_1) - x6_1)) < 0) = true := decide_eq_true c11
       clear c11
       by_cases c12 : x5_1.length < 17592186044416
       ·rw [if_pos c12] at H
        have LMc12 := Aside0.mk c12
        clear c12
        obtain ⟨y563, hy563⟩ : ∃ y_ : List Int, y_ = (x5_1 ++ [wrap64 ((wrap64 ((rd l0 x7_1) - x6_1)) + 10)]) := ⟨_, rfl⟩
        replace H : (torusref02_difference.l0 k1 l0 l1 y563 1 (wrap64 (x7_1 + 1))) = some r := by first | (rw [hy563]; with_reducible exact H) | (have H2_ := (Option.bind_some _ _).symm.trans H; rw [hy563]; with_reducible exact H2_) | (have H2_ := (Option.bind_some _ _).symm.trans H; with_reducible exact H2_) | with_reducible exact H | (rw [hy563]; exact H) | exact H
        have Ny563 := Aside0.mk hy563
        clear hy563
        have H' := Aside0.mk H
        clear H
        have p555 : 0 ≤ (x7_1 : Int) := of_decide_eq_true as_
        have q555 : x7_1 < (l0.length : Int) := of_decide_eq_true as_
        obtain ⟨ad555, e555, hx555_0⟩ := Kd.at_int HR0.out x7_1 p555 q555
        cases e555
        replace hx555_0 := (HB.out.cell (World.block_lt_of_cell? w _ hx555_0)).trans hx555_0
        replace p555 := eq_true p555
        replace q555 := eq_true q555
        go_wp2_with (first | ((with_reducible refine gate_builtin (b := .append) (xs := #[.tmp 35, .tmp 37]) rfl ?_); at_builtin; refine Kd.R_append (Kd.int .i64) (w0 := w) w.heap.size rfl (.tmp 35) (.tmp 37) 146 3 (.int .i64 0) 8 rfl Tryz.underlying146 info3 rfl (by decide) (by omega) u5 x5_1 (wrap64 ((wrap64 ((rd l0 x7_1) - x6_1)) + 10)) [.int .i64 (wrap64 ((wrap64 ((rd l0 x7_1) - x6_1)) + 10))] (fun k_ => (w.heap.size ≤ k_)) (fun _ => False) rfl rfl ?aP (fun _ hk => hk.elim) ?aF ?aO ?aB ?aS ?aL ?_; (case aP => exact rfl); (case aB => exact bw_); (case aF => exact (fun k_ hk => (Nat.le_trans (below_size bw_) hk))); (case aO => exact (rRa_ HO_5.out)); (case aS => exact (below_size bw_)); (case aL => have := LMc12.out; omega); intro v564 w13 ho hb hg hat; rw [← Ny563.out] at ho; have n0_ := Aside0.mk (hb); have n1_ := Aside0.mk (ho); clear HB; clear HO_5; have HB := n0_; have HO565 := n1_; clear n0_ n1_; clear ho hb hg hat))
        go_roundg k1
        case measure => have := HK1.out; omega
        case rel => exact ⟨(y563), (1), (wrap64 (x7_1 + 1)), sd_, sd_, H', ⟨by have := HK1.out; omega⟩, ⟨rRa_ HO565.out⟩, ⟨bw_⟩⟩
       ·rw [if_neg c12] at H
        exact absurd H (by simp)
      ·rw [if_neg c11] at H
       have c11b0 : decide ((wrap64 ((rd l0 x7_1) - x6_1)) < 0) = false := decide_eq_false c11
       clear c11
       by_cases c14 : x5_1.length < 17592186044416
       ·rw [if_pos c14] at H
        have LMc14 := Aside0.mk c14
        clear c14
        obtain ⟨y566, hy566⟩ : ∃ y_ : List Int, y_ = (x5_1 ++ [wrap64 ((rd l0 x7_1) - x6_1)]) := ⟨_, rfl⟩
        replace H : (torusref02_difference.l0 k1 l0 l1 y566 0 (wrap64 (x7_1 + 1))) = some r := by first | (rw [hy566]; with_reducible exact H) | (have H2_ := (Option.bind_some _ _).symm.trans H; rw [hy566]; with_reducible exact H2_) | (have H2_ := (Option.bind_some _ _).symm.trans H; with_reducible exact H2_) | with_reducible exact H | (rw [hy566]; exact H) | exact H
        have Ny566 := Aside0.mk hy566
        clear hy566
        have H' := Aside0.mk H
        clear H
        have p555 : 0 ≤ (x7_1 : Int) := of_decide_eq_true as_
        have q555 : x7_1 < (l0.length : Int) := of_decide_eq_true as_
        obtain ⟨ad555, e555, hx555_0⟩ := Kd.at_int HR0.out x7_1 p555 q555
        cases e555
        replace hx555_0 := (HB.out.cell (World.block_lt_of_cell? w _ hx555_0)).trans hx555_0
        replace p555 := eq_true p555
        replace q555 := eq_true q555
        go_wp2_with (first | ((with_reducible refine gate_builtin (b := .append) (xs := #[.tmp 35, .tmp 37]) rfl ?_); at_builtin; refine Kd.R_append (Kd.int .i64) (w0 := w) w.heap.size rfl (.tmp 35) (.tmp 37) 146 3 (.int .i64 0) 8 rfl Tryz.underlying146 info3 rfl (by decide) (by omega) u5 x5_1 (wrap64 ((rd l0 x7_1) - x6_1)) [.int .i64 (wrap64 ((rd l0 x7_1) - x6_1))] (fun k_ => (w.heap.size ≤ k_)) (fun _ => False) rfl rfl ?aP (fun _ hk => hk.elim) ?aF ?aO ?aB ?aS ?aL ?_; (case aP => exact rfl); (case aB => exact bw_); (case aF => exact (fun k_ hk => (Nat.le_trans (below_size bw_) hk))); (case aO => exact (rRa_ HO_5.out)); (case aS => exact (below_size bw_)); (case aL => have := LMc14.out; omega); intro v567 w15 ho hb hg hat; rw [← Ny566.out] at ho; have n0_ := Aside0.mk (hb); have n1_ := Aside0.mk (ho); clear HB; clear HO_5; have HB := n0_; have HO568 := n1_; clear n0_ n1_; clear ho hb hg hat))
        go_roundg k1
        case measure => have := HK1.out; omega
        case rel => exact ⟨(y566), (0), (wrap64 (x7_1 + 1)), sd_, sd_, H', ⟨by have := HK1.out; omega⟩, ⟨rRa_ HO568.out⟩, ⟨bw_⟩⟩
       ·rw [if_neg c14] at H
        exact absurd H (by simp)
    ·rw [if_neg c4] at H
     exact absurd H (by simp)
   ·rw [if_neg c3] at H
    have c3b0 : decide (x7_1 < (l0.length : Int)) = false := decide_eq_false c3
    clear c3
    replace H := Option.bind_eq_some_iff.mp H
    obtain ⟨t552, A160, H⟩ := H
    have A16 := Aside0.mk A160
    clear A160
    obtain rfl := Option.some.inj H
    obtain ⟨Ao17, co17, eo17⟩ := Kd.R_slice HO_5.out
    subst eo17
    go_wp2_with (first | ((with_reducible refine gate_callee (f := 188) rfl ?_); refine goesL_ (some 40) rfl rfl Tryz.func188 (by kernel_rfl) rfl #[.slice Ao17 x5_1.length co17] rfl ag_ ?_; (with_reducible refine (torusref02_trim.calls k1 (fun k_ => some k_ = (.slice Ao17 x5_1.length co17 : Value).ownBlock) _ _ x5_1 t552 _ ?side1 A16.out).mono ?_); (case side1 => exact Kd.R_V (Kd.R_tight rfl (HO_5.out))); rintro e w18 ⟨v553, rfl, ho0, hb⟩; refine ⟨_, rfl, ?_⟩; have n0_ := Aside0.mk (Kd.R_below (rRa_ HO_5.out) hb); have n1_ := Aside0.mk (Kd.V_lower (Kd.V_mono (ok' := fun k_ => (w.heap.size ≤ k_)) ho0 (fun k_ hk_ => Or.elim hk_ (fun hs_ => ((HO_5.out).1 k_ hs_.symm)) (fun hn_ => (Nat.le_trans (below_size bw_) hn_)))) (below_size bw_)); have n2_ := Aside0.mk (below_step bw_ hb); clear HO_5; clear HB; have HO_5 := n0_; have HO554 := n1_; have HB := n2_; clear n0_ n1_ n2_; (try clear hb); (try clear hb2); (try clear hk); (try clear hi); (try clear ho0)))
    go_ret
    exact ⟨_, by first | rfl | (simp [errW_none, errW_some] <;> rfl) | (simp [*, errW_none, errW_some] <;> rfl), rVa_ HO554.out, bw_⟩
attribute [local go_sem] max2_int min2_int max_two min_two max_three min_three max_four min_four
set_option linter.unusedVariables false
set_option linter.unusedSimpArgs false
def torusref02_Plus.j0 : Nat → ByteArray → ByteArray → Int → Int → Bool → Option (ByteArray)
 |0, _, _, _, _, _ => none
 |k + 1, x0, x1, x5, x7, x26 => if x26 = true then ((torusref02_Number.f k (wrap64 (x5 + x7))).bind fun t573 => (some t573)) else ((torusref02_digits.f k x0).bind fun bt574 => ((torusref02_digits.f k x1).bind fun bt578 => (if (bt574.1 == bt578.1) = true then ((torusref02_sum.f k bt574.2 bt578.2).bind fun t582 => ((torusref02_text.f k bt574.1 t582).bind fun t585 => (some t585))) else ((torusref02_size.f k bt574.2 bt578.2).bind fun t586 => (if t586 < 0 then ((torusref02_difference.f k bt578.2 bt574.2).bind fun t587 => ((torusref02_text.f k bt578.1 t587).bind fun t590 => (some t590))) else ((torusref02_difference.f k bt574.2 bt578.2).bind fun t591 => ((torusref02_text.f k bt574.1 t591).bind fun t594 => (some t594))))))))
def torusref02_Plus.f (k : Nat) (a0 : ByteArray) (a1 : ByteArray) : Option (ByteArray) := (torusref02_short.f k a0).bind fun bt569 => ((torusref02_short.f k a1).bind fun bt571 => (if bt569.2 = true then (torusref02_Plus.j0 k a0 a1 bt569.1 bt571.1 bt571.2) else (torusref02_Plus.j0 k a0 a1 bt569.1 bt571.1 false)))
set_option maxHeartbeats 8000000 in
set_option maxRecDepth 100000 in
theorem torusref02_Plus.calls (k : Nat) (a0 : ByteArray) (a1 : ByteArray) (r : ByteArray) (w : World) (h : torusref02_Plus.f k a0 a1 = some r) :
  Calls Tryz.prog 108 #[.string a0, .string a1] w fun e w' => e = .returned (.string r) ∧ Below w.heap.size w w' := by
 have HB := Aside0.mk (Below.refl w.heap.size w)
 have H : ((torusref02_short.f k a0).bind fun bt569 => ((torusref02_short.f k a1).bind fun bt571 => (if bt569.2 = true then (torusref02_Plus.j0 k a0 a1 bt569.1 bt571.1 bt571.2) else (torusref02_Plus.j0 k a0 a1 bt569.1 bt571.1 false)))) = some r := h
 clear h
 replace H := Option.bind_eq_some_iff.mp H
 obtain ⟨⟨t569, t570⟩, A30, H⟩ := H
 dsimp only at H
 have A3 := Aside0.mk A30
 clear A30
 replace H := Option.bind_eq_some_iff.mp H
 obtain ⟨⟨t571, t572⟩, A40, H⟩ := H
 dsimp only at H
 have A4 := Aside0.mk A40
 clear A40
 have HC5 := Aside0.mk H
 clear H
 go_enter Tryz.func108, Tryz.ntmps108
 go_upto_region 3 with (first | ((with_reducible refine gate_callee (f := 163) rfl ?_); refine goesL_ (some 15) rfl rfl Tryz.func163 (by kernel_rfl) rfl #[.string a0] rfl ag_ ?_; (with_reducible refine (torusref02_short.calls k a0 t569 t570 _ A3.out).mono ?_); rintro e w' ⟨rfl, ⟨nd, rfl⟩⟩; refine ⟨_, rfl, ?_⟩) | ((with_reducible refine gate_callee (f := 163) rfl ?_); refine goesL_ (some 20) rfl rfl Tryz.func163 (by kernel_rfl) rfl #[.string a1] rfl ag_ ?_; (with_reducible refine (torusref02_short.calls k a1 t571 t572 _ A4.out).mono ?_); rintro e w' ⟨rfl, ⟨nd, rfl⟩⟩; refine ⟨_, rfl, ?_⟩))
 (try simp only [Act.put, List.setIfInBounds_toArray, List.set_cons_zero, List.set_cons_succ])
 go_cut [26] (fun v26 wc => ∃ (kq : Nat) (x26_4 : Bool), v26 = .bool x26_4 ∧ Aside0 (torusref02_Plus.j0 kq a0 a1 t569 t571 x26_4 = some r) ∧ Aside0 (kq ≤ k) ∧ Aside0 (Below w.heap.size w wc))
 case first =>
  have H := HC5.out
  clear HC5
  by_cases c6 : t570 = true
  ·subst c6
   rw [if_pos rfl] at H
   have H' := Aside0.mk H
   clear H
   go_wp2
   go_meet
   case rel => exact ⟨_, (t572), sd_, H', ⟨by first | omega | exact Nat.le_refl _⟩, ⟨bw_⟩⟩
  ·replace c6 := Bool.eq_false_iff.mpr c6
   subst c6
   rw [if_neg (show ¬ (false = true) by decide)] at H
   have H' := Aside0.mk H
   clear H
   go_wp2
   go_meet
   case rel => exact ⟨_, (false), sd_, H', ⟨by first | omega | exact Nat.le_refl _⟩, ⟨bw_⟩⟩
 case rest =>
  clear HC5
  try clear c1
  try clear p2
  try clear c6
  obtain ⟨kq, x26_4, rfl, HA, HJ4, HB⟩ := hcut
  cases kq with
  |zero => exact absurd HA.out (by simp [torusref02_Plus.j0])
  |succ kj4 =>
   have H := HA.out
   clear HA
   simp only [torusref02_Plus.j0] at H
   by_cases c7 : x26_4 = true
   ·subst c7
    rw [if_pos rfl] at H
    replace H := Option.bind_eq_some_iff.mp H
    obtain ⟨t573, A80, H⟩ := H
    have A8 := Aside0.mk A80
    clear A80
    obtain rfl := Option.some.inj H
    go_wp2_with (first | ((with_reducible refine gate_callee (f := 109) rfl ?_); refine goesL_ (some 30) rfl rfl Tryz.func109 (by kernel_rfl) rfl #[.int .i64 (wrap64 (t569 + t571))] rfl ag_ ?_; (with_reducible refine (torusref02_Number.calls kj4 (wrap64 (t569 + t571)) t573 _ A8.out).mono ?_); rintro e w9 ⟨rfl, hb⟩; refine ⟨_, rfl, ?_⟩; have n0_ := Aside0.mk (below_step bw_ hb); clear HB; have HB := n0_; clear n0_; (try clear hb); (try clear hb2); (try clear hk); (try clear hi)))
    go_ret
    exact ⟨by first | rfl | (simp [errW_none, errW_some] <;> rfl) | (simp [*, errW_none, errW_some] <;> rfl), bw_⟩
   ·replace c7 := Bool.eq_false_iff.mpr c7
    subst c7
    rw [if_neg (show ¬ (false = true) by decide)] at H
    replace H := Option.bind_eq_some_iff.mp H
    obtain ⟨⟨t574, t575⟩, A100, H⟩ := H
    dsimp only at H
    have A10 := Aside0.mk A100
    clear A100
    replace H := Option.bind_eq_some_iff.mp H
    obtain ⟨⟨t578, t579⟩, A110, H⟩ := H
    dsimp only at H
    have A11 := Aside0.mk A110
    clear A110
    by_cases c12 : (t574 == t578) = true
    ·rw [if_pos c12] at H
     have c12b0 : (t574 == t578) = true := c12
     (try (have c12b1 : decide (t574 = t578) = true := by simpa using c12))
     (try (have c12b2 : (t574 == t578) = true := by simpa using c12))
     clear c12
     replace H := Option.bind_eq_some_iff.mp H
     obtain ⟨t582, A130, H⟩ := H
     have A13 := Aside0.mk A130
     clear A130
     replace H := Option.bind_eq_some_iff.mp H
     obtain ⟨t585, A140, H⟩ := H
     have A14 := Aside0.mk A140
     clear A140
     obtain rfl := Option.some.inj H
     go_wp2_with (first | ((with_reducible refine gate_callee (f := 156) rfl ?_); refine goesL_ (some 33) rfl rfl Tryz.func156 (by kernel_rfl) rfl #[.string a0] rfl ag_ ?_; (with_reducible refine (torusref02_digits.calls kj4 a0 t574 t575 _ A10.out).mono ?_); rintro e w15 ⟨v576, rfl, ho0, hb⟩; refine ⟨_, rfl, ?_⟩; have n0_ := Aside0.mk (Kd.V_lower (Kd.V_mono (ok' := fun k_ => True) ho0 (fun k_ hk_ => trivial)) (below_size bw_)); have n1_ := Aside0.mk (below_step bw_ hb); clear HB; have HO577 := n0_; have HB := n1_; clear n0_ n1_; (try clear hb); (try clear hb2); (try clear hk); (try clear hi); (try clear ho0)) | ((with_reducible refine gate_callee (f := 156) rfl ?_); refine goesL_ (some 38) rfl rfl Tryz.func156 (by kernel_rfl) rfl #[.string a1] rfl ag_ ?_; (with_reducible refine (torusref02_digits.calls kj4 a1 t578 t579 _ A11.out).mono ?_); rintro e w16 ⟨v580, rfl, ho0, hb⟩; refine ⟨_, rfl, ?_⟩; have n0_ := Aside0.mk (Kd.V_below (rVa_ HO577.out) hb); have n1_ := Aside0.mk (Kd.V_lower (Kd.V_mono (ok' := fun k_ => True) ho0 (fun k_ hk_ => trivial)) (below_size bw_)); have n2_ := Aside0.mk (below_step bw_ hb); clear HO577; clear HB; have HO577 := n0_; have HO581 := n1_; have HB := n2_; clear n0_ n1_ n2_; (try clear hb); (try clear hb2); (try clear hk); (try clear hi); (try clear ho0); obtain ⟨Ao17, co17, eo17⟩ := Kd.V_slice HO577.out; subst eo17; obtain ⟨Ao18, co18, eo18⟩ := Kd.V_slice HO581.out; subst eo18) | ((with_reducible refine gate_callee (f := 164) rfl ?_); refine goesL_ (some 47) rfl rfl Tryz.func164 (by kernel_rfl) rfl #[.slice Ao17 t575.length co17, .slice Ao18 t579.length co18] rfl ag_ ?_; (with_reducible refine (torusref02_sum.calls kj4 _ _ t575 _ _ t579 t582 _ ?side1 ?side2 ?side3 ?side4 A13.out).mono ?_); (case side1 => repeat (first | exact (Kd.V_reads' HO577.out).2.2 | (with_reducible refine Kd.C_alloc ?_ _) | (with_reducible refine Kd.C_drewN ?_ _) | (with_reducible refine Kd.C_drew ?_))); (case side2 => exact (Kd.V_reads' HO577.out).2.1); (case side3 => repeat (first | exact (Kd.V_reads' HO581.out).2.2 | (with_reducible refine Kd.C_alloc ?_ _) | (with_reducible refine Kd.C_drewN ?_ _) | (with_reducible refine Kd.C_drew ?_))); (case side4 => exact (Kd.V_reads' HO581.out).2.1); rintro e w19 ⟨v583, rfl, ho0, hb⟩; refine ⟨_, rfl, ?_⟩; have n0_ := Aside0.mk (Kd.V_elder' (rVa_ HO577.out) (Kd.R_base ho0) hb); have n1_ := Aside0.mk (Kd.V_elder' (rVa_ HO581.out) (Kd.R_base ho0) hb); have n2_ := Aside0.mk (Kd.R_lower ho0 (below_size bw_)); have n3_ := Aside0.mk (below_step bw_ hb); clear HO577; clear HO581; clear HB; have HO577 := n0_; have HO581 := n1_; have HO584 := n2_; have HB := n3_; clear n0_ n1_ n2_ n3_; (try clear hb); (try clear hb2); (try clear hk); (try clear hi); (try clear ho0); (try clear HO577); (try clear HO581); obtain ⟨Ao20, co20, eo20⟩ := Kd.R_slice HO584.out; subst eo20) | ((with_reducible refine gate_callee (f := 157) rfl ?_); refine goesL_ (some 48) rfl rfl Tryz.func157 (by kernel_rfl) rfl #[.bool t574, .slice Ao20 t582.length co20] rfl ag_ ?_; (with_reducible refine (torusref02_text.calls kj4 t574 _ _ t582 t585 _ ?side1 ?side2 A14.out).mono ?_); (case side1 => repeat (first | exact (Kd.R_reads' HO584.out).2.2 | (with_reducible refine Kd.C_alloc ?_ _) | (with_reducible refine Kd.C_drewN ?_ _) | (with_reducible refine Kd.C_drew ?_))); (case side2 => exact (Kd.R_reads' HO584.out).2.1); rintro e w21 ⟨rfl, hb⟩; refine ⟨_, rfl, ?_⟩; have n0_ := Aside0.mk (Kd.R_below (rRa_ HO584.out) hb); have n1_ := Aside0.mk (below_step bw_ hb); clear HO584; clear HB; have HO584 := n0_; have HB := n1_; clear n0_ n1_; (try clear hb); (try clear hb2); (try clear hk); (try clear hi)))
     go_ret
     exact ⟨by first | rfl | (simp [errW_none, errW_some] <;> rfl) | (simp [*, errW_none, errW_some] <;> rfl), bw_⟩
    ·rw [if_neg c12] at H
     have c12b0 : (t574 == t578) = false := by simpa using c12
     (try (have c12b1 : decide (t574 = t578) = false := by simpa using c12))
     (try (have c12b2 : (t574 == t578) = false := by simpa using c12))
     (try (have c12b3 : ¬ (t574 = t578) := by simpa using c12))
     clear c12
     replace H := Option.bind_eq_some_iff.mp H
     obtain ⟨t586, A220, H⟩ := H
     have A22 := Aside0.mk A220
     clear A220
     by_cases c23 : t586 < 0
     ·rw [if_pos c23] at H
      have c23b0 : decide (t586 < 0) = true := decide_eq_true c23
      clear c23
      replace H := Option.bind_eq_some_iff.mp H
      obtain ⟨t587, A240, H⟩ := H
      have A24 := Aside0.mk A240
      clear A240
      replace H := Option.bind_eq_some_iff.mp H
      obtain ⟨t590, A250, H⟩ := H
      have A25 := Aside0.mk A250
      clear A250
      obtain rfl := Option.some.inj H
      go_wp2_with (first | ((with_reducible refine gate_callee (f := 156) rfl ?_); refine goesL_ (some 33) rfl rfl Tryz.func156 (by kernel_rfl) rfl #[.string a0] rfl ag_ ?_; (with_reducible refine (torusref02_digits.calls kj4 a0 t574 t575 _ A10.out).mono ?_); rintro e w26 ⟨v576, rfl, ho0, hb⟩; refine ⟨_, rfl, ?_⟩; have n0_ := Aside0.mk (Kd.V_lower (Kd.V_mono (ok' := fun k_ => True) ho0 (fun k_ hk_ => trivial)) (below_size bw_)); have n1_ := Aside0.mk (below_step bw_ hb); clear HB; have HO577 := n0_; have HB := n1_; clear n0_ n1_; (try clear hb); (try clear hb2); (try clear hk); (try clear hi); (try clear ho0)) | ((with_reducible refine gate_callee (f := 156) rfl ?_); refine goesL_ (some 38) rfl rfl Tryz.func156 (by kernel_rfl) rfl #[.string a1] rfl ag_ ?_; (with_reducible refine (torusref02_digits.calls kj4 a1 t578 t579 _ A11.out).mono ?_); rintro e w27 ⟨v580, rfl, ho0, hb⟩; refine ⟨_, rfl, ?_⟩; have n0_ := Aside0.mk (Kd.V_below (rVa_ HO577.out) hb); have n1_ := Aside0.mk (Kd.V_lower (Kd.V_mono (ok' := fun k_ => True) ho0 (fun k_ hk_ => trivial)) (below_size bw_)); have n2_ := Aside0.mk (below_step bw_ hb); clear HO577; clear HB; have HO577 := n0_; have HO581 := n1_; have HB := n2_; clear n0_ n1_ n2_; (try clear hb); (try clear hb2); (try clear hk); (try clear hi); (try clear ho0); obtain ⟨Ao28, co28, eo28⟩ := Kd.V_slice HO577.out; subst eo28; obtain ⟨Ao29, co29, eo29⟩ := Kd.V_slice HO581.out; subst eo29) | ((with_reducible refine gate_callee (f := 165) rfl ?_); refine goesL_ (some 51) rfl rfl Tryz.func165 (by kernel_rfl) rfl #[.slice Ao28 t575.length co28, .slice Ao29 t579.length co29] rfl ag_ ?_; (with_reducible refine (torusref02_size.calls kj4 _ _ t575 _ _ t579 t586 _ ?side1 ?side2 ?side3 ?side4 A22.out).mono ?_); (case side1 => repeat (first | exact (Kd.V_reads' HO577.out).2.2 | (with_reducible refine Kd.C_alloc ?_ _) | (with_reducible refine Kd.C_drewN ?_ _) | (with_reducible refine Kd.C_drew ?_))); (case side2 => exact (Kd.V_reads' HO577.out).2.1); (case side3 => repeat (first | exact (Kd.V_reads' HO581.out).2.2 | (with_reducible refine Kd.C_alloc ?_ _) | (with_reducible refine Kd.C_drewN ?_ _) | (with_reducible refine Kd.C_drew ?_))); (case side4 => exact (Kd.V_reads' HO581.out).2.1); rintro e w' ⟨rfl, ⟨nd, rfl⟩⟩; refine ⟨_, rfl, ?_⟩) | ((with_reducible refine gate_callee (f := 166) rfl ?_); refine goesL_ (some 56) rfl rfl Tryz.func166 (by kernel_rfl) rfl #[.slice Ao29 t579.length co29, .slice Ao28 t575.length co28] rfl ag_ ?_; (with_reducible refine (torusref02_difference.calls kj4 _ _ t579 _ _ t575 t587 _ ?side1 ?side2 ?side3 ?side4 A24.out).mono ?_); (case side1 => repeat (first | exact (Kd.V_reads' HO581.out).2.2 | (with_reducible refine Kd.C_alloc ?_ _) | (with_reducible refine Kd.C_drewN ?_ _) | (with_reducible refine Kd.C_drew ?_))); (case side2 => exact (Kd.V_reads' HO581.out).2.1); (case side3 => repeat (first | exact (Kd.V_reads' HO577.out).2.2 | (with_reducible refine Kd.C_alloc ?_ _) | (with_reducible refine Kd.C_drewN ?_ _) | (with_reducible refine Kd.C_drew ?_))); (case side4 => exact (Kd.V_reads' HO577.out).2.1); rintro e w30 ⟨v588, rfl, ho0, hb⟩; refine ⟨_, rfl, ?_⟩; have n0_ := Aside0.mk (Kd.V_below (rVa_ HO577.out) hb); have n1_ := Aside0.mk (Kd.V_below (rVa_ HO581.out) hb); have n2_ := Aside0.mk (Kd.V_lower (Kd.V_mono (ok' := fun k_ => True) ho0 (fun k_ hk_ => trivial)) (below_size bw_)); have n3_ := Aside0.mk (below_step bw_ hb); clear HO577; clear HO581; clear HB; have HO577 := n0_; have HO581 := n1_; have HO589 := n2_; have HB := n3_; clear n0_ n1_ n2_ n3_; (try clear hb); (try clear hb2); (try clear hk); (try clear hi); (try clear ho0); (try clear HO577); (try clear HO581); obtain ⟨Ao31, co31, eo31⟩ := Kd.V_slice HO589.out; subst eo31) | ((with_reducible refine gate_callee (f := 157) rfl ?_); refine goesL_ (some 57) rfl rfl Tryz.func157 (by kernel_rfl) rfl #[.bool t578, .slice Ao31 t587.length co31] rfl ag_ ?_; (with_reducible refine (torusref02_text.calls kj4 t578 _ _ t587 t590 _ ?side1 ?side2 A25.out).mono ?_); (case side1 => repeat (first | exact (Kd.V_reads' HO589.out).2.2 | (with_reducible refine Kd.C_alloc ?_ _) | (with_reducible refine Kd.C_drewN ?_ _) | (with_reducible refine Kd.C_drew ?_))); (case side2 => exact (Kd.V_reads' HO589.out).2.1); rintro e w32 ⟨rfl, hb⟩; refine ⟨_, rfl, ?_⟩; have n0_ := Aside0.mk (Kd.V_below (rVa_ HO589.out) hb); have n1_ := Aside0.mk (below_step bw_ hb); clear HO589; clear HB; have HO589 := n0_; have HB := n1_; clear n0_ n1_; (try clear hb); (try clear hb2); (try clear hk); (try clear hi)))
      go_ret
      exact ⟨by first | rfl | (simp [errW_none, errW_some] <;> rfl) | (simp [*, errW_none, errW_some] <;> rfl), bw_⟩
     ·rw [if_neg c23] at H
      have c23b0 : decide (t586 < 0) = false := decide_eq_false c23
      clear c23
      replace H := Option.bind_eq_some_iff.mp H
      obtain ⟨t591, A330, H⟩ := H
      have A33 := Aside0.mk A330
      clear A330
      replace H := Option.bind_eq_some_iff.mp H
      obtain ⟨t594, A340, H⟩ := H
      have A34 := Aside0.mk A340
      clear A340
      obtain rfl := Option.some.inj H
      go_wp2_with (first | ((with_reducible refine gate_callee (f := 156) rfl ?_); refine goesL_ (some 33) rfl rfl Tryz.func156 (by kernel_rfl) rfl #[.string a0] rfl ag_ ?_; (with_reducible refine (torusref02_digits.calls kj4 a0 t574 t575 _ A10.out).mono ?_); rintro e w35 ⟨v576, rfl, ho0, hb⟩; refine ⟨_, rfl, ?_⟩; have n0_ := Aside0.mk (Kd.V_lower (Kd.V_mono (ok' := fun k_ => True) ho0 (fun k_ hk_ => trivial)) (below_size bw_)); have n1_ := Aside0.mk (below_step bw_ hb); clear HB; have HO577 := n0_; have HB := n1_; clear n0_ n1_; (try clear hb); (try clear hb2); (try clear hk); (try clear hi); (try clear ho0)) | ((with_reducible refine gate_callee (f := 156) rfl ?_); refine goesL_ (some 38) rfl rfl Tryz.func156 (by kernel_rfl) rfl #[.string a1] rfl ag_ ?_; (with_reducible refine (torusref02_digits.calls kj4 a1 t578 t579 _ A11.out).mono ?_); rintro e w36 ⟨v580, rfl, ho0, hb⟩; refine ⟨_, rfl, ?_⟩; have n0_ := Aside0.mk (Kd.V_below (rVa_ HO577.out) hb); have n1_ := Aside0.mk (Kd.V_lower (Kd.V_mono (ok' := fun k_ => True) ho0 (fun k_ hk_ => trivial)) (below_size bw_)); have n2_ := Aside0.mk (below_step bw_ hb); clear HO577; clear HB; have HO577 := n0_; have HO581 := n1_; have HB := n2_; clear n0_ n1_ n2_; (try clear hb); (try clear hb2); (try clear hk); (try clear hi); (try clear ho0); obtain ⟨Ao37, co37, eo37⟩ := Kd.V_slice HO577.out; subst eo37; obtain ⟨Ao38, co38, eo38⟩ := Kd.V_slice HO581.out; subst eo38) | ((with_reducible refine gate_callee (f := 165) rfl ?_); refine goesL_ (some 51) rfl rfl Tryz.func165 (by kernel_rfl) rfl #[.slice Ao37 t575.length co37, .slice Ao38 t579.length co38] rfl ag_ ?_; (with_reducible refine (torusref02_size.calls kj4 _ _ t575 _ _ t579 t586 _ ?side1 ?side2 ?side3 ?side4 A22.out).mono ?_); (case side1 => repeat (first | exact (Kd.V_reads' HO577.out).2.2 | (with_reducible refine Kd.C_alloc ?_ _) | (with_reducible refine Kd.C_drewN ?_ _) | (with_reducible refine Kd.C_drew ?_))); (case side2 => exact (Kd.V_reads' HO577.out).2.1); (case side3 => repeat (first | exact (Kd.V_reads' HO581.out).2.2 | (with_reducible refine Kd.C_alloc ?_ _) | (with_reducible refine Kd.C_drewN ?_ _) | (with_reducible refine Kd.C_drew ?_))); (case side4 => exact (Kd.V_reads' HO581.out).2.1); rintro e w' ⟨rfl, ⟨nd, rfl⟩⟩; refine ⟨_, rfl, ?_⟩) | ((with_reducible refine gate_callee (f := 166) rfl ?_); refine goesL_ (some 61) rfl rfl Tryz.func166 (by kernel_rfl) rfl #[.slice Ao37 t575.length co37, .slice Ao38 t579.length co38] rfl ag_ ?_; (with_reducible refine (torusref02_difference.calls kj4 _ _ t575 _ _ t579 t591 _ ?side1 ?side2 ?side3 ?side4 A33.out).mono ?_); (case side1 => repeat (first | exact (Kd.V_reads' HO577.out).2.2 | (with_reducible refine Kd.C_alloc ?_ _) | (with_reducible refine Kd.C_drewN ?_ _) | (with_reducible refine Kd.C_drew ?_))); (case side2 => exact (Kd.V_reads' HO577.out).2.1); (case side3 => repeat (first | exact (Kd.V_reads' HO581.out).2.2 | (with_reducible refine Kd.C_alloc ?_ _) | (with_reducible refine Kd.C_drewN ?_ _) | (with_reducible refine Kd.C_drew ?_))); (case side4 => exact (Kd.V_reads' HO581.out).2.1); rintro e w39 ⟨v592, rfl, ho0, hb⟩; refine ⟨_, rfl, ?_⟩; have n0_ := Aside0.mk (Kd.V_below (rVa_ HO577.out) hb); have n1_ := Aside0.mk (Kd.V_below (rVa_ HO581.out) hb); have n2_ := Aside0.mk (Kd.V_lower (Kd.V_mono (ok' := fun k_ => True) ho0 (fun k_ hk_ => trivial)) (below_size bw_)); have n3_ := Aside0.mk (below_step bw_ hb); clear HO577; clear HO581; clear HB; have HO577 := n0_; have HO581 := n1_; have HO593 := n2_; have HB := n3_; clear n0_ n1_ n2_ n3_; (try clear hb); (try clear hb2); (try clear hk); (try clear hi); (try clear ho0); (try clear HO577); (try clear HO581); obtain ⟨Ao40, co40, eo40⟩ := Kd.V_slice HO593.out; subst eo40) | ((with_reducible refine gate_callee (f := 157) rfl ?_); refine goesL_ (some 62) rfl rfl Tryz.func157 (by kernel_rfl) rfl #[.bool t574, .slice Ao40 t591.length co40] rfl ag_ ?_; (with_reducible refine (torusref02_text.calls kj4 t574 _ _ t591 t594 _ ?side1 ?side2 A34.out).mono ?_); (case side1 => repeat (first | exact (Kd.V_reads' HO593.out).2.2 | (with_reducible refine Kd.C_alloc ?_ _) | (with_reducible refine Kd.C_drewN ?_ _) | (with_reducible refine Kd.C_drew ?_))); (case side2 => exact (Kd.V_reads' HO593.out).2.1); rintro e w41 ⟨rfl, hb⟩; refine ⟨_, rfl, ?_⟩; have n0_ := Aside0.mk (Kd.V_below (rVa_ HO593.out) hb); have n1_ := Aside0.mk (below_step bw_ hb); clear HO593; clear HB; have HO593 := n0_; have HB := n1_; clear n0_ n1_; (try clear hb); (try clear hb2); (try clear hk); (try clear hi)))
      go_ret
      exact ⟨by first | rfl | (simp [errW_none, errW_some] <;> rfl) | (simp [*, errW_none, errW_some] <;> rfl), bw_⟩
attribute [local go_sem] max2_int min2_int max_two min_two max_three min_three max_four min_four
set_option linter.unusedVariables false
set_option linter.unusedSimpArgs false
def torusref02_Minus.f (k : Nat) (a0 : ByteArray) (a1 : ByteArray) : Option (ByteArray) := (torusref02_Opposite.f k a1).bind fun t595 => ((torusref02_Plus.f k a0 t595).bind fun t596 => (some t596))
set_option maxHeartbeats 8000000 in
set_option maxRecDepth 100000 in
theorem torusref02_Minus.calls (k : Nat) (a0 : ByteArray) (a1 : ByteArray) (r : ByteArray) (w : World) (h : torusref02_Minus.f k a0 a1 = some r) :
  Calls Tryz.prog 189 #[.string a0, .string a1] w fun e w' => e = .returned (.string r) ∧ Below w.heap.size w w' := by
 have HB := Aside0.mk (Below.refl w.heap.size w)
 have H : ((torusref02_Opposite.f k a1).bind fun t595 => ((torusref02_Plus.f k a0 t595).bind fun t596 => (some t596))) = some r := h
 clear h
 replace H := Option.bind_eq_some_iff.mp H
 obtain ⟨t595, A30, H⟩ := H
 have A3 := Aside0.mk A30
 clear A30
 replace H := Option.bind_eq_some_iff.mp H
 obtain ⟨t596, A40, H⟩ := H
 have A4 := Aside0.mk A40
 clear A40
 obtain rfl := Option.some.inj H
 go_enter Tryz.func189, Tryz.ntmps189
 go_wp2_with (first | ((with_reducible refine gate_callee (f := 91) rfl ?_); refine goesL_ (some 7) rfl rfl Tryz.func91 (by kernel_rfl) rfl #[.string a1] rfl ag_ ?_; (with_reducible refine (torusref02_Opposite.calls k a1 t595 _ A3.out).mono ?_); rintro e w5 ⟨rfl, hb⟩; refine ⟨_, rfl, ?_⟩; have n0_ := Aside0.mk (below_step bw_ hb); clear HB; have HB := n0_; clear n0_; (try clear hb); (try clear hb2); (try clear hk); (try clear hi)) | ((with_reducible refine gate_callee (f := 108) rfl ?_); refine goesL_ (some 8) rfl rfl Tryz.func108 (by kernel_rfl) rfl #[.string a0, .string t595] rfl ag_ ?_; (with_reducible refine (torusref02_Plus.calls k a0 t595 t596 _ A4.out).mono ?_); rintro e w6 ⟨rfl, hb⟩; refine ⟨_, rfl, ?_⟩; have n0_ := Aside0.mk (below_step bw_ hb); clear HB; have HB := n0_; clear n0_; (try clear hb); (try clear hb2); (try clear hk); (try clear hi)))
 go_ret
 exact ⟨by first | rfl | (simp [errW_none, errW_some] <;> rfl) | (simp [*, errW_none, errW_some] <;> rfl), bw_⟩
theorem ten_take_drop (l : List Int) (i : Nat) (h : i ≤ l.length) : Ten.val l = Ten.val (l.take i) + 10 ^ i * Ten.val (l.drop i) := by
 conv => lhs; rw [← List.take_append_drop i l]
 rw [Ten.val_append, List.length_take, Nat.min_eq_left h]
theorem rsize_l0 {a b : List Int} (ha : Ten.Lim a) (hb : Ten.Lim b) (hl : a.length = b.length) (hm : a.length ≤ 9223372036854775807) : ∀ (i k : Nat), i ≤ a.length → i < k → a.drop i = b.drop i →
  torusref02_size.l0 k a b ((i : Int) - 1) = some ((Ten.val a - Ten.val b).sign)
 |0, k, h, hk, he => by
  obtain ⟨k, rfl⟩ : ∃ m, k = m + 1 := ⟨k - 1, by omega⟩
  simp only [List.drop_zero] at he
  subst he
  rw [torusref02_size.l0, if_neg (by simp), Int.sub_self, Int.sign_zero]
 |i + 1, k, h, hk, he => by
  obtain ⟨k, rfl⟩ : ∃ m, k = m + 1 := ⟨k - 1, by omega⟩
  have e : (((i + 1 : Nat) : Int) - 1) = (i : Int) := by omega
  rw [torusref02_size.l0, e, if_pos (by omega), if_pos (by omega), if_pos (by omega), if_pos (by omega)]
  have d1 := drop_cons a i (by omega)
  have d2 := drop_cons b i (by omega)
  have v1 := ten_take_drop a i (by omega)
  have v2 := ten_take_drop b i (by omega)
  have l1 := Ten.val_lt _ (ha.take i)
  have l2 := Ten.val_lt _ (hb.take i)
  have n1 := Ten.val_nonneg _ (ha.take i)
  have n2 := Ten.val_nonneg _ (hb.take i)
  rw [List.length_take, Nat.min_eq_left (by omega)] at l1 l2
  rw [d1, Ten.val, he] at v1
  rw [d2, Ten.val] at v2
  have hp := Ten.pow_pos i
  rw [Int.mul_add] at v1 v2
  by_cases hx : rd a (i : Int) < rd b (i : Int)
  ·rw [if_pos hx]
   have h3 : (10 : Int) ^ i * (rd a (i : Int) + 1) ≤ 10 ^ i * rd b (i : Int) := Int.mul_le_mul_of_nonneg_left (by omega) (by omega)
   rw [Int.mul_add] at h3
   rw [Int.sign_eq_neg_one_of_neg (by omega)]
  ·rw [if_neg hx]
   by_cases hy : rd a (i : Int) > rd b (i : Int)
   ·rw [if_pos hy]
    have h3 : (10 : Int) ^ i * (rd b (i : Int) + 1) ≤ 10 ^ i * rd a (i : Int) := Int.mul_le_mul_of_nonneg_left (by omega) (by omega)
    rw [Int.mul_add] at h3
    rw [Int.sign_eq_one_of_pos (by omega)]
   ·rw [if_neg hy, wrap_id (by omega) (by omega)]
    exact rsize_l0 ha hb hl hm i k (by omega) (by omega) (by rw [d1, d2, show rd a (i : Int) = rd b (i : Int) by omega, he])
theorem rsize_ev {a b : List Int} (ha : Ten.Can a) (hb : Ten.Can b) (hm : a.length ≤ 9223372036854775807) : Ev (fun k => torusref02_size.f k a b) ((Ten.val a - Ten.val b).sign) := by
 refine ev_of (a.length + 1) fun k hk => ?_
 unfold torusref02_size.f
 by_cases h : a.length = b.length
 ·rw [if_pos (by omega), wrap_id (by omega) (by omega)]
  exact rsize_l0 ha.1 hb.1 h hm _ _ (Nat.le_refl _) (by omega) (by rw [List.drop_length, h, List.drop_length])
 ·rw [if_neg (by omega)]
  by_cases h2 : a.length < b.length
  ·rw [if_pos (by omega)]
   have := Ten.can_len_lt ha hb h2
   rw [Int.sign_eq_neg_one_of_neg (by omega)]
  ·rw [if_neg (by omega)]
   have := Ten.can_len_lt hb ha (by omega)
   rw [Int.sign_eq_one_of_pos (by omega)]
theorem rntx_len_ {z : Int} (h : 0 < z) : (ntx z).length = nd z.toNat := by rw [ntx_pos h, List.length_reverse, sg, List.length_map, nd]
theorem rtx_len_ (z : Int) : (tx z).length ≤ nd z.natAbs + 1 ∧ nd z.natAbs ≤ (tx z).length := by
 rcases Int.lt_trichotomy z 0 with h | h | h
 ·rw [tx_neg h, List.length_cons, rntx_len_ (by omega), show (-z).toNat = z.natAbs by omega]
  omega
 ·subst h
  exact ⟨by decide, by rw [show (0 : Int).natAbs = 0 from rfl, nd_zero]; omega⟩
 ·rw [tx_nonneg (by omega), rntx_len_ h, show z.toNat = z.natAbs by omega]
  omega
theorem sz_of {z : Int} (h : nd z.natAbs ≤ 999999999) : Sz z := by
 unfold Sz
 rw [TX_size]
 have := rtx_len_ z
 omega
theorem sz_nd {z : Int} (h : Sz z) : (Ten.dg z.natAbs).length ≤ 1000000000 := by
 unfold Sz at h
 rw [TX_size] at h
 have := rtx_len_ z
 unfold nd at this
 omega
theorem val_dg10 (z : Int) : Ten.val (Ten.dg z.natAbs) = z.natAbs := Ten.dg_val _
theorem Opposite_ev {z : Int} (h : Sz z) : Ev (fun k => torusref02_Opposite.f k (TX z)) (TX (-z)) := by
 unfold torusref02_Opposite.f
 refine (ev_bind (digits_TX h)).2 ?_
 have := text_ev (!decide (z < 0)) (Ten.dg_can z.natAbs).1 (Nat.le_trans (sz_nd h) (by decide))
 rw [val_dg10] at this
 have e : sgnd (!decide (z < 0)) (z.natAbs : Int) = -z := by
  unfold sgnd
  by_cases hz : z < 0
  ·simp [hz]; omega
  ·simp [hz]; omega
 rw [e] at this
 exact ev_some this
theorem Positive_ev {z : Int} (h : Sz z) : Ev (fun k => torusref02_Positive.f k (TX z)) (TX z.natAbs) := by
 unfold torusref02_Positive.f
 refine (ev_bind (digits_TX h)).2 ?_
 have := text_ev false (Ten.dg_can z.natAbs).1 (Nat.le_trans (sz_nd h) (by decide))
 rw [val_dg10, sgnd_false] at this
 exact ev_some this
theorem Compare_ev {x y : Int} (hx : Sz x) (hy : Sz y) : Ev (fun k => torusref02_Compare.f k (TX x) (TX y)) ((x - y).sign) := by
 unfold torusref02_Compare.f
 refine (ev_bind (digits_TX hx)).2 ((ev_bind (digits_TX hy)).2 ?_)
 have h1 := rsize_ev (Ten.dg_can x.natAbs) (Ten.dg_can y.natAbs) (Nat.le_trans (sz_nd hx) (by decide))
 have h2 := rsize_ev (Ten.dg_can y.natAbs) (Ten.dg_can x.natAbs) (Nat.le_trans (sz_nd hy) (by decide))
 rw [val_dg10, val_dg10] at h1 h2
 by_cases cx : x < 0 <;> by_cases cy : y < 0 <;> simp only [cx, cy, decide_true, decide_false, bne_self_eq_false, Bool.false_eq_true, if_false, if_true, Bool.true_bne, Bool.not_false, Bool.false_bne]
 ·rw [show (y.natAbs : Int) - x.natAbs = x - y by omega] at h2
  exact ev_some h2
 ·rw [Int.sign_eq_neg_one_of_neg (by omega)]
  exact Ev.now _
 ·rw [Int.sign_eq_one_of_pos (by omega)]
  exact Ev.now _
 ·rw [show (x.natAbs : Int) - y.natAbs = x - y by omega] at h1
  exact ev_some h1
theorem Number_l1 {x : Nat} : ∀ (m : Nat) (d : List Int) (y : Nat), y ≤ m → y < 9223372036854775808 → Ten.Lim d → d.length + nd y ≤ 1000 → Ten.val d + 10 ^ d.length * y = x → Ev (fun k => torusref02_Number.l1 k (y : Int) d) (TX x)
 |m, d, y, hy, hb, hl, hn, hv => by
  refine ev_succ ?_
  simp only [torusref02_Number.l1]
  by_cases h0 : y = 0
  ·subst h0
   simp only [show ¬ ((0 : Nat) : Int) > 0 by omega, if_false]
   have := text_ev false hl (by omega)
   rw [sgnd_false, show Ten.val d = (x : Int) by rw [← hv]; simp] at this
   exact ev_some this
  ·have e1 : Int.tdiv (y : Int) 10 = ((y / 10 : Nat) : Int) := by rw [Int.tdiv_eq_ediv_of_nonneg (by omega)]; omega
   have e2 : Int.tmod (y : Int) 10 = ((y % 10 : Nat) : Int) := by rw [Int.tmod_eq_emod_of_nonneg (by omega)]; omega
   simp only [show ((y : Int) > 0) by omega, if_true, e1, e2]
   rw [wrap_id (by omega) (by omega)]
   have hnd := nd_pos y h0
   rw [show (fun k => if d.length < 17592186044416 then torusref02_Number.l1 k ((y / 10 : Nat) : Int) (d ++ [((y % 10 : Nat) : Int)]) else none) = fun k => torusref02_Number.l1 k ((y / 10 : Nat) : Int) (d ++ [((y % 10 : Nat) : Int)]) from funext fun k => by rw [if_pos (by omega)]]
   refine Number_l1 (y / 10) _ (y / 10) (Nat.le_refl _) (by omega) (hl.append (Ten.Lim.cons (by omega) (by omega) Ten.Lim.nil)) (by rw [List.length_append, List.length_singleton]; omega) ?_
   rw [Ten.val_append, List.length_append, List.length_singleton, Int.pow_succ, ← hv]
   have e3 : Ten.val [((y % 10 : Nat) : Int)] = ((y % 10 : Nat) : Int) := by simp [Ten.val]
   rw [e3]
   conv => rhs; rw [show (y : Int) = ((y % 10 : Nat) : Int) + 10 * ((y / 10 : Nat) : Int) by omega]
   grind
 termination_by m d y => y
 decreasing_by omega
theorem nd_int64 {y : Nat} (h : y < 10000000000000000000) : nd y ≤ 19 := (nd_le 19 y).2 h
theorem Number_l0 {x : Int} : ∀ (d : List Int) (y : Nat), y < 9223372036854775809 → Ten.Lim d → d.length + nd y ≤ 1000 → -(Ten.val d + 10 ^ d.length * y) = x → Ev (fun k => torusref02_Number.l0 k (y : Int) d) (TX x)
 |d, y, hb, hl, hn, hv => by
  refine ev_succ ?_
  simp only [torusref02_Number.l0]
  by_cases h0 : y = 0
  ·subst h0
   simp only [show ¬ ((0 : Nat) : Int) > 0 by omega, if_false]
   have := text_ev true hl (by omega)
   rw [sgnd_true, show -Ten.val d = x by rw [← hv]; simp] at this
   exact ev_some this
  ·have e1 : Int.tdiv (y : Int) 10 = ((y / 10 : Nat) : Int) := by rw [Int.tdiv_eq_ediv_of_nonneg (by omega)]; omega
   have e2 : Int.tmod (y : Int) 10 = ((y % 10 : Nat) : Int) := by rw [Int.tmod_eq_emod_of_nonneg (by omega)]; omega
   simp only [show ((y : Int) > 0) by omega, if_true, e1, e2]
   rw [wrap_id (by omega) (by omega)]
   have hnd := nd_pos y h0
   rw [show (fun k => if d.length < 17592186044416 then torusref02_Number.l0 k ((y / 10 : Nat) : Int) (d ++ [((y % 10 : Nat) : Int)]) else none) = fun k => torusref02_Number.l0 k ((y / 10 : Nat) : Int) (d ++ [((y % 10 : Nat) : Int)]) from funext fun k => by rw [if_pos (by omega)]]
   refine Number_l0 _ (y / 10) (by omega) (hl.append (Ten.Lim.cons (by omega) (by omega) Ten.Lim.nil)) (by rw [List.length_append, List.length_singleton]; omega) ?_
   rw [Ten.val_append, List.length_append, List.length_singleton, Int.pow_succ, ← hv]
   have e3 : Ten.val [((y % 10 : Nat) : Int)] = ((y % 10 : Nat) : Int) := by simp [Ten.val]
   rw [e3]
   conv => rhs; rw [show (y : Int) = ((y % 10 : Nat) : Int) + 10 * ((y / 10 : Nat) : Int) by omega]
   grind
 termination_by d y => y
 decreasing_by omega
theorem Number_ev {z : Int} (h0 : -9223372036854775808 ≤ z) (h1 : z ≤ 9223372036854775807) : Ev (fun k => torusref02_Number.f k z) (TX z) := by
 unfold torusref02_Number.f
 by_cases h : z < 0
 ·have e1 : wrap64 (-(wrap64 (Int.tdiv z 10))) = (((-z).toNat / 10 : Nat) : Int) := by
   have : Int.tdiv z 10 = -(((-z).toNat / 10 : Nat) : Int) := by
    have := Int.neg_tdiv (-z) 10
    rw [Int.neg_neg, Int.tdiv_eq_ediv_of_nonneg (a := -z) (by omega)] at this
    omega
   rw [this, wrap_id (a := -(((-z).toNat / 10 : Nat) : Int)) (by omega) (by omega), wrap_id (by omega) (by omega)]
   omega
  have e2 : wrap64 (-(Int.tmod z 10)) = (((-z).toNat % 10 : Nat) : Int) := by
   have : Int.tmod z 10 = -(((-z).toNat % 10 : Nat) : Int) := by
    have := Int.neg_tmod (-z) 10
    rw [Int.neg_neg, Int.tmod_eq_emod_of_nonneg (a := -z) (by omega)] at this
    omega
   rw [this, wrap_id (by omega) (by omega)]
   omega
  simp only [h, if_true, e1, e2]
  rw [show (fun k => if ([] : List Int).length < 17592186044416 then torusref02_Number.l0 k (((-z).toNat / 10 : Nat) : Int) (([] : List Int) ++ [(((-z).toNat % 10 : Nat) : Int)]) else none) = fun k => torusref02_Number.l0 k (((-z).toNat / 10 : Nat) : Int) [(((-z).toNat % 10 : Nat) : Int)] from funext fun k => by rw [if_pos (by decide)]; rfl]
  have := nd_int64 (y := (-z).toNat / 10) (by omega)
  refine Number_l0 _ _ (by omega) (Ten.Lim.cons (by omega) (by omega) Ten.Lim.nil) (by rw [List.length_singleton]; omega) ?_
  have e3 : Ten.val [(((-z).toNat % 10 : Nat) : Int)] = (((-z).toNat % 10 : Nat) : Int) := by simp [Ten.val]
  rw [e3, List.length_singleton]
  omega
 ·simp only [h, if_false]
  obtain ⟨n, rfl⟩ := Int.eq_ofNat_of_zero_le (by omega : 0 ≤ z)
  have := nd_int64 (y := n) (by omega)
  exact Number_l1 n [] n (Nat.le_refl _) (by omega) Ten.Lim.nil (by simp; omega) (by simp [Ten.val])
theorem rDigits_ev {z : Int} (h : Sz z) : torusref02_Digits.f (TX z) = some ((ntx z.natAbs).length : Int) := by
 unfold torusref02_Digits.f
 have hs := TX_size z
 unfold Sz at h
 by_cases hz : z < 0
 ·have e : tx z = 45 :: ntx z.natAbs := by rw [tx_neg hz]; congr 2; omega
  have hb : bt (TX z) 0 = 45 := by rw [← rd_bytesOf, bytesOf_TX, e]; rfl
  rw [e, List.length_cons] at hs
  rw [if_pos (by omega), if_pos (by omega), if_pos hb, wrap_id (by omega) (by omega)]
  congr 1
  omega
 ·have e : tx z = ntx z.natAbs := by rw [tx_nonneg (by omega)]; congr 1; omega
  have hp : (tx z).length ≠ 0 := fun e2 => tx_ne z (List.eq_nil_of_length_eq_zero e2)
  have hb : bt (TX z) 0 ≠ 45 := by
   rw [← rd_bytesOf, bytesOf_TX]
   intro hc
   have h1 := tx_head z
   rw [decide_eq_false hz] at h1
   cases ht : tx z with
   |nil => exact tx_ne z ht
   |cons c r =>
    rw [ht] at hc h1
    have : c = 45 := hc
    rw [this] at h1
    simp at h1
  rw [e] at hs hp
  rw [if_pos (by omega), if_pos (by omega), if_neg hb]
  congr 1
  omega
theorem rd_app (a b : List Int) (i : Nat) : rd (a ++ b) ((a.length + i : Nat) : Int) = rd b (i : Int) := by
 unfold rd
 rw [Int.toNat_natCast, Int.toNat_natCast]
 simp [List.getElem?_append]
 rw [if_neg (by omega)]
theorem short_l0_ (s : ByteArray) (l : List Int) (p : List Int) (hb : bytesOf s = p ++ l) (hp : p.length ≤ 1) (hl : l.all isd = true) (hm : l.length ≤ 9) : ∀ (j i k : Nat), i + j = l.length → j < k →
  torusref02_short.l0 k s (tv (l.take i)) ((p.length + i : Nat) : Int) = (if (s.size : Int) > 0 then (if 0 < (s.size : Int) then (if bt s 0 = 45 then some (wrap64 (-(tv l)), true) else some (tv l, true)) else none) else some (tv l, true))
 |0, i, k, hi, hk => by
  obtain ⟨k, rfl⟩ : ∃ m, k = m + 1 := ⟨k - 1, by omega⟩
  have hs : s.size = p.length + l.length := by rw [← bytesOf_size, hb, List.length_append]
  rw [torusref02_short.l0, if_neg (by omega), show l.take i = l by rw [show i = l.length by omega, List.take_length]]
 |j + 1, i, k, hi, hk => by
  obtain ⟨k, rfl⟩ : ∃ m, k = m + 1 := ⟨k - 1, by omega⟩
  have hs : s.size = p.length + l.length := by rw [← bytesOf_size, hb, List.length_append]
  have hx : bt s ((p.length + i : Nat) : Int) = rd l (i : Int) := by rw [← rd_bytesOf, hb, rd_app]
  have hd : 48 ≤ rd l (i : Int) ∧ rd l (i : Int) ≤ 57 := by
   refine (isd_iff _).1 (List.all_eq_true.1 hl _ ?_)
   have := List.getElem_mem (l := l) (n := i) (by omega)
   have e : rd l (i : Int) = l[i] := by simp [rd, show i < l.length by omega]
   rw [e]
   exact this
  have ht := tv_lim (all_take hl i)
  have hlt : tv (l.take i) < 1000000000 := by
   have h1 : (10 : Int) ^ (l.take i).length ≤ 10 ^ 9 := Ten.pow_mono (by rw [List.length_take]; omega)
   omega
  have hn := tv_snoc (l.take i) (rd l (i : Int))
  rw [← take_snoc l i (by omega)] at hn
  rw [torusref02_short.l0, if_pos (by omega), if_pos (by omega), hx, if_neg (by omega), wrap_id (a := 10 * tv (l.take i)) (by omega) (by omega), wrap_id (a := rd l (i : Int)) (by omega) (by omega), wrap_id (a := 10 * tv (l.take i) + rd l (i : Int)) (by omega) (by omega), wrap_id (a := 10 * tv (l.take i) + rd l (i : Int) - 48) (by omega) (by omega), wrap_id (a := ((p.length + i : Nat) : Int) + 1) (by omega) (by omega),
   show 10 * tv (l.take i) + rd l (i : Int) - 48 = tv (l.take (i + 1)) by omega, show ((p.length + i : Nat) : Int) + 1 = ((p.length + (i + 1) : Nat) : Int) by omega]
  exact short_l0_ s l p hb hp hl hm j (i + 1) k (by omega) (by omega)
theorem tv_ntx {z : Int} (h : 0 ≤ z) : tv (ntx z) = z := by
 unfold tv
 rw [show sub (ntx z) = (ntx z).map (· - 48) from rfl, ntx, List.map_reverse, sg_sub, List.reverse_reverse]
 split
 next e => subst e; rfl
 ·rw [Ten.dg_val]; omega
def shortN (z : Int) : Int × Bool := if z.natAbs < 1000000000 then (z, true) else (0, false)
theorem ntx_len9 (z : Int) : (ntx z.natAbs).length ≤ 9 ↔ z.natAbs < 1000000000 := by
 have h := nd_le 9 z.natAbs
 by_cases h0 : z.natAbs = 0
 ·rw [h0]
  exact ⟨fun _ => by omega, fun _ => by decide⟩
 ·rw [rntx_len_ (by omega), Int.toNat_natCast]
  exact h
theorem Short_ev {z : Int} (h : Sz z) : Ev (fun k => torusref02_short.f k (TX z)) (shortN z) := by
 refine ev_of 20 fun k hk => ?_
 unfold torusref02_short.f shortN
 rw [rDigits_ev h, Option.bind_some]
 have h9 := ntx_len9 z
 by_cases c : z.natAbs < 1000000000
 ·have hc := h9.2 c
  rw [if_neg (by omega), if_pos c]
  have hd := ntx_isd (z.natAbs : Int)
  have ht := tv_ntx (z := (z.natAbs : Int)) (by omega)
  by_cases hz : z < 0
  ·have e : bytesOf (TX z) = [45] ++ ntx z.natAbs := by rw [bytesOf_TX, tx_neg hz, show -z = (z.natAbs : Int) by omega]; rfl
   have hb : bt (TX z) 0 = 45 := by rw [← rd_bytesOf, e]; rfl
   have hs : (TX z).size = (ntx z.natAbs).length + 1 := by rw [← bytesOf_size, e]; simp
   obtain ⟨k, rfl⟩ : ∃ m, k = m + 1 := ⟨k - 1, by omega⟩
   rw [torusref02_short.l0, if_pos (by omega), if_pos (by omega), if_pos hb, wrap_id (by omega) (by omega)]
   have := short_l0_ (TX z) (ntx z.natAbs) [45] e (by simp) hd hc (ntx z.natAbs).length 0 k (by omega) (by omega)
   rw [List.take_zero, tv_nil, List.length_singleton, Nat.add_zero] at this
   rw [show (0 : Int) + 1 = ((1 : Nat) : Int) by omega, this, if_pos (by omega), if_pos (by omega), if_pos hb, ht, wrap_id (by omega) (by omega), show -(z.natAbs : Int) = z by omega]
  ·have e : bytesOf (TX z) = [] ++ ntx z.natAbs := by rw [bytesOf_TX, tx_nonneg (by omega), show z = (z.natAbs : Int) by omega]; rfl
   have hb : bt (TX z) 0 ≠ 45 := by
    rw [← rd_bytesOf, bytesOf_TX]
    intro hc
    have h1 := tx_head z
    rw [decide_eq_false hz] at h1
    cases ht : tx z with
    |nil => exact tx_ne z ht
    |cons c r =>
     rw [ht] at hc h1
     have : c = 45 := hc
     rw [this] at h1
     simp at h1
   have hs0 : (TX z).size ≠ 0 := by rw [TX_size]; exact fun e2 => tx_ne z (List.eq_nil_of_length_eq_zero e2)
   have := short_l0_ (TX z) (ntx z.natAbs) [] e (by simp) hd hc (ntx z.natAbs).length 0 k (by omega) (by omega)
   rw [List.take_zero, tv_nil, List.length_nil, Nat.add_zero] at this
   rw [show (0 : Int) = ((0 : Nat) : Int) by rfl] 
   rw [show torusref02_short.l0 k (TX z) ((0 : Nat) : Int) ((0 : Nat) : Int) = torusref02_short.l0 k (TX z) 0 ((0 : Nat) : Int) from rfl, this, if_pos (by omega), if_pos (by omega), if_neg hb, ht, show (z.natAbs : Int) = z by omega]
 ·rw [if_pos (by have := mt h9.1 c; omega), if_neg c]
theorem sum_l0_ {a b : List Int} (ha : Ten.Lim a) (hb : Ten.Lim b) (hm : a.length ≤ 2000000000) (hm' : b.length ≤ 2000000000) : ∀ (m i k : Nat) (d : List Int) (c : Int), i + m = max a.length b.length + 1 → 2 * m + 2 < k → d.length = i → Ten.Lim d → (c = 0 ∨ c = 1) → (m = 0 → c = 0) →
  ∃ r, torusref02_sum.l0 k a b d c (i : Int) = some r ∧ Ten.Lim r ∧ r.length ≤ max a.length b.length + 1 ∧ Ten.val r = Ten.val d + 10 ^ i * (c + Ten.val (a.drop i) + Ten.val (b.drop i))
 |m, i, k, d, c, hi, hk, hd, hl, hc, h0 => by
  obtain ⟨k, rfl⟩ : ∃ q, k = q + 2 := ⟨k - 2, by omega⟩
  have fin : (¬ i < a.length) → (¬ i < b.length) → c = 0 → Ten.val d = Ten.val d + 10 ^ i * (c + Ten.val (a.drop i) + Ten.val (b.drop i)) := fun h1 h2 h3 => by
   rw [List.drop_eq_nil_of_le (by omega), List.drop_eq_nil_of_le (by omega), h3]
   simp [Ten.val]
  have step : ∀ x y, Ten.val (a.drop i) = x + 10 * Ten.val (a.drop (i + 1)) → Ten.val (b.drop i) = y + 10 * Ten.val (b.drop (i + 1)) → 0 ≤ x → x ≤ 9 → 0 ≤ y → y ≤ 9 → (i < a.length ∨ i < b.length ∨ c = 1) → m ≠ 0 →
    ∃ r, torusref02_sum.l0 k a b (d ++ [(c + x + y) % 10]) ((c + x + y) / 10) ((i + 1 : Nat) : Int) = some r ∧ Ten.Lim r ∧ r.length ≤ max a.length b.length + 1 ∧ Ten.val r = Ten.val d + 10 ^ i * (c + Ten.val (a.drop i) + Ten.val (b.drop i)) := fun x y ex ey x0 x9 y0 y9 hor hm0 => by
   obtain ⟨m', rfl⟩ : ∃ q, m = q + 1 := ⟨m - 1, by omega⟩
   obtain ⟨r, h1, h2, h3, h4⟩ := sum_l0_ ha hb hm hm' m' (i + 1) k (d ++ [(c + x + y) % 10]) ((c + x + y) / 10) (by omega) (by omega) (by rw [List.length_append, List.length_singleton]; omega) (hl.append (Ten.Lim.cons (by omega) (by omega) Ten.Lim.nil)) (by omega) (fun hq => by
    have e1 : a.drop i = [] := List.drop_eq_nil_of_le (by omega)
    have e2 : b.drop i = [] := List.drop_eq_nil_of_le (by omega)
    have e3 : a.drop (i + 1) = [] := List.drop_eq_nil_of_le (by omega)
    have e4 : b.drop (i + 1) = [] := List.drop_eq_nil_of_le (by omega)
    rw [e1, e3] at ex
    rw [e2, e4] at ey
    simp only [Ten.val] at ex ey
    omega)
   refine ⟨r, h1, h2, h3, ?_⟩
   rw [h4, Ten.val_append, hd, ex, ey, Int.pow_succ]
   have e5 : Ten.val [(c + x + y) % 10] = (c + x + y) % 10 := by simp [Ten.val]
   rw [e5]
   have e6 : c + x + y = (c + x + y) % 10 + 10 * ((c + x + y) / 10) := by omega
   generalize (c + x + y) / 10 = Q at *
   generalize (c + x + y) % 10 = R at *
   have e7 : c + (x + 10 * Ten.val (a.drop (i + 1))) + (y + 10 * Ten.val (b.drop (i + 1))) = R + 10 * (Q + Ten.val (a.drop (i + 1)) + Ten.val (b.drop (i + 1))) := by omega
   rw [e7]
   grind
  have zc : ∀ l : List Int, ¬ i < l.length → Ten.val (l.drop i) = 0 + 10 * Ten.val (l.drop (i + 1)) := fun l h => by
   rw [List.drop_eq_nil_of_le (by omega), List.drop_eq_nil_of_le (by omega)]
   rfl
  have nc : ∀ l : List Int, i < l.length → Ten.val (l.drop i) = rd l (i : Int) + 10 * Ten.val (l.drop (i + 1)) := fun l h => by rw [drop_cons l i h, Ten.val]
  rw [torusref02_sum.l0]
  by_cases ca : i < a.length
  ·have ra := ha.rd i ca
   rw [if_pos (by omega), torusref02_sum.j1, if_pos rfl, if_pos (by omega), if_pos (by omega)]
   by_cases cb : i < b.length
   ·have rb := hb.rd i cb
    rw [if_pos (by omega), if_pos (by omega), wrap_id (a := c + rd a (i : Int)) (by omega) (by omega), wrap_id (a := c + rd a (i : Int) + rd b (i : Int)) (by omega) (by omega), Int.tmod_eq_emod_of_nonneg (by omega), Int.tdiv_eq_ediv_of_nonneg (by omega), wrap_id (by omega) (by omega), wrap_id (by omega) (by omega)]
    exact step _ _ (nc a ca) (nc b cb) (by omega) (by omega) (by omega) (by omega) (.inl ca) (by omega)
   ·rw [if_neg (by omega), if_pos (by omega), wrap_id (a := c + rd a (i : Int)) (by omega) (by omega), Int.tmod_eq_emod_of_nonneg (by omega), Int.tdiv_eq_ediv_of_nonneg (by omega), wrap_id (by omega) (by omega), wrap_id (by omega) (by omega)]
    have := step _ _ (nc a ca) (zc b cb) (by omega) (by omega) (by omega) (by omega) (.inl ca) (by omega)
    rw [Int.add_zero] at this
    exact this
  ·rw [if_neg (by omega)]
   by_cases cb : i < b.length
   ·have rb := hb.rd i cb
    rw [if_pos (by omega), torusref02_sum.j1, if_pos rfl, if_neg (by omega), if_pos (by omega), if_pos (by omega), if_pos (by omega), wrap_id (a := c + rd b (i : Int)) (by omega) (by omega), Int.tmod_eq_emod_of_nonneg (by omega), Int.tdiv_eq_ediv_of_nonneg (by omega), wrap_id (by omega) (by omega), wrap_id (by omega) (by omega)]
    have := step _ _ (zc a ca) (nc b cb) (by omega) (by omega) (by omega) (by omega) (.inr (.inl cb)) (by omega)
    rw [Int.add_zero] at this
    exact this
   ·rw [if_neg (by omega), torusref02_sum.j1]
    by_cases c1 : c = 1
    ·rw [if_pos (decide_eq_true (by omega)), if_neg (by omega), if_neg (by omega), if_pos (by omega), Int.tmod_eq_emod_of_nonneg (by omega), Int.tdiv_eq_ediv_of_nonneg (by omega), wrap_id (by omega) (by omega), wrap_id (by omega) (by omega)]
     have := step _ _ (zc a ca) (zc b cb) (by omega) (by omega) (by omega) (by omega) (.inr (.inr c1)) (fun e => by have := h0 e; omega)
     rw [Int.add_zero, Int.add_zero] at this
     exact this
    ·rw [if_neg (by rw [decide_eq_true_eq]; omega)]
     exact ⟨d, rfl, hl, by omega, fin ca cb (by omega)⟩
 termination_by m => m
theorem sum_ev {a b : List Int} (ha : Ten.Lim a) (hb : Ten.Lim b) (hm : a.length ≤ 2000000000) (hm' : b.length ≤ 2000000000) : ∃ r, Ev (fun k => torusref02_sum.f k a b) r ∧ Ten.Lim r ∧ r.length ≤ max a.length b.length + 1 ∧ Ten.val r = Ten.val a + Ten.val b := by
 obtain ⟨r, h1, h2, h3, h4⟩ := sum_l0_ ha hb hm hm' (max a.length b.length + 1) 0 (2 * (max a.length b.length + 1) + 3) [] 0 (by omega) (by omega) rfl Ten.Lim.nil (.inl rfl) (fun h => by omega)
 refine ⟨r, Ev.of (torusref02_sum.mono a b) (k := 2 * (max a.length b.length + 1) + 3) h1, h2, h3, ?_⟩
 rw [h4]
 simp [Ten.val]
theorem difference_l0_ {a b : List Int} (ha : Ten.Lim a) (hb : Ten.Lim b) (hm : a.length ≤ 2000000000) (hlen : b.length ≤ a.length) : ∀ (m i k : Nat) (d : List Int) (c : Int), i + m = a.length → a.length + m + 3 < k → d.length = i → Ten.Lim d → (c = 0 ∨ c = 1) →
  Ten.val (b.drop i) + c ≤ Ten.val (a.drop i) → ∃ r, torusref02_difference.l0 k a b d c (i : Int) = some r ∧ Ten.Can r ∧ r.length ≤ a.length ∧ Ten.val r = Ten.val d + 10 ^ i * (Ten.val (a.drop i) - Ten.val (b.drop i) - c)
 |0, i, k, d, c, hi, hk, hd, hl, hc, hle => by
  obtain ⟨k, rfl⟩ : ∃ q, k = q + 1 := ⟨k - 1, by omega⟩
  have e1 : a.drop i = [] := List.drop_eq_nil_of_le (by omega)
  have e2 : b.drop i = [] := List.drop_eq_nil_of_le (by omega)
  rw [torusref02_difference.l0, if_neg (by omega), show torusref02_trim.f k d = some (Ten.tr d) from rtrim_l0 _ d k rfl (by omega) (by omega)]
  rw [e1, e2] at hle ⊢
  simp only [Ten.val] at hle
  refine ⟨Ten.tr d, rfl, Ten.tr_can d hl, by have := Ten.tr_len d; omega, ?_⟩
  rw [Ten.tr_val, show c = 0 by omega]
  simp [Ten.val]
 |m + 1, i, k, d, c, hi, hk, hd, hl, hc, hle => by
  obtain ⟨k, rfl⟩ : ∃ q, k = q + 1 := ⟨k - 1, by omega⟩
  have ra := ha.rd i (by omega)
  have va : Ten.val (a.drop i) = rd a (i : Int) + 10 * Ten.val (a.drop (i + 1)) := by rw [drop_cons a i (by omega), Ten.val]
  have step : ∀ y, Ten.val (b.drop i) = y + 10 * Ten.val (b.drop (i + 1)) → 0 ≤ y → y ≤ 9 → ∀ c' x, (c' = 0 ∨ c' = 1) → x = rd a (i : Int) - c - y + 10 * c' → 0 ≤ x → x ≤ 9 →
    ∃ r, torusref02_difference.l0 k a b (d ++ [x]) c' ((i + 1 : Nat) : Int) = some r ∧ Ten.Can r ∧ r.length ≤ a.length ∧ Ten.val r = Ten.val d + 10 ^ i * (Ten.val (a.drop i) - Ten.val (b.drop i) - c) := fun y ey y0 y9 c' x hc' hx x0 x9 => by
   obtain ⟨r, h1, h2, h3, h4⟩ := difference_l0_ ha hb hm hlen m (i + 1) k (d ++ [x]) c' (by omega) (by omega) (by rw [List.length_append, List.length_singleton]; omega) (hl.append (Ten.Lim.cons (by omega) (by omega) Ten.Lim.nil)) hc' (by omega)
   refine ⟨r, h1, h2, h3, ?_⟩
   have e5 : Ten.val [x] = x := by simp [Ten.val]
   rw [h4, Ten.val_append, hd, va, ey, Int.pow_succ, e5, hx]
   grind
  rw [torusref02_difference.l0, if_pos (by omega), if_pos (by omega)]
  by_cases cb : i < b.length
  ·have rb := hb.rd i cb
   have vb : Ten.val (b.drop i) = rd b (i : Int) + 10 * Ten.val (b.drop (i + 1)) := by rw [drop_cons b i cb, Ten.val]
   rw [if_pos (by omega), wrap_id (a := rd a (i : Int) - c) (by omega) (by omega), wrap_id (a := rd a (i : Int) - c - rd b (i : Int)) (by omega) (by omega), wrap_id (a := (i : Int) + 1) (by omega) (by omega)]
   by_cases hx : rd a (i : Int) - c - rd b (i : Int) < 0
   ·rw [if_pos hx, if_pos (by omega), wrap_id (by omega) (by omega)]
    exact step _ vb (by omega) (by omega) 1 _ (.inr rfl) (by omega) (by omega) (by omega)
   ·rw [if_neg hx, if_pos (by omega)]
    exact step _ vb (by omega) (by omega) 0 _ (.inl rfl) (by omega) (by omega) (by omega)
  ·have vb : Ten.val (b.drop i) = 0 + 10 * Ten.val (b.drop (i + 1)) := by
    rw [List.drop_eq_nil_of_le (by omega), List.drop_eq_nil_of_le (by omega)]
    rfl
   rw [if_neg (by omega), wrap_id (a := rd a (i : Int) - c) (by omega) (by omega), wrap_id (a := (i : Int) + 1) (by omega) (by omega)]
   by_cases hx : rd a (i : Int) - c < 0
   ·rw [if_pos hx, if_pos (by omega), wrap_id (by omega) (by omega)]
    exact step _ vb (by omega) (by omega) 1 _ (.inr rfl) (by omega) (by omega) (by omega)
   ·rw [if_neg hx, if_pos (by omega)]
    exact step _ vb (by omega) (by omega) 0 _ (.inl rfl) (by omega) (by omega) (by omega)
theorem difference_ev {a b : List Int} (ha : Ten.Lim a) (hb : Ten.Lim b) (hm : a.length ≤ 2000000000) (hlen : b.length ≤ a.length) (hle : Ten.val b ≤ Ten.val a) : ∃ r, Ev (fun k => torusref02_difference.f k a b) r ∧ Ten.Can r ∧ r.length ≤ a.length ∧ Ten.val r = Ten.val a - Ten.val b := by
 obtain ⟨r, h1, h2, h3, h4⟩ := difference_l0_ ha hb hm hlen a.length 0 (2 * a.length + 4) [] 0 (by omega) (by omega) rfl Ten.Lim.nil (.inl rfl) (by simpa using hle)
 refine ⟨r, Ev.of (torusref02_difference.mono a b) (k := 2 * a.length + 4) h1, h2, h3, ?_⟩
 rw [h4]
 simp [Ten.val]
theorem can_len_le {a b : List Int} (ha : Ten.Can a) (hb : Ten.Can b) (h : Ten.val b ≤ Ten.val a) : b.length ≤ a.length := by
 refine Nat.le_of_not_lt fun hl => ?_
 have := Ten.can_len_lt ha hb hl
 omega
theorem Plus_ev {x y : Int} (hx : Sz x) (hy : Sz y) : Ev (fun k => torusref02_Plus.f k (TX x) (TX y)) (TX (x + y)) := by
 have key : Ev (fun k => torusref02_Plus.j0 k (TX x) (TX y) (shortN x).1 (shortN y).1 (if (shortN x).2 = true then (shortN y).2 else false)) (TX (x + y)) := by
  refine ev_succ ?_
  simp only [torusref02_Plus.j0]
  by_cases c : x.natAbs < 1000000000 ∧ y.natAbs < 1000000000
  ·have e1 : shortN x = (x, true) := if_pos c.1
   have e2 : shortN y = (y, true) := if_pos c.2
   simp only [e1, e2, if_true]
   rw [wrap_id (by omega) (by omega)]
   exact ev_some (Number_ev (by omega) (by omega))
  ·have e : (if (shortN x).2 = true then (shortN y).2 else false) = false := by
    unfold shortN
    by_cases c1 : x.natAbs < 1000000000
    ·rw [if_pos c1, if_neg (fun h => c ⟨c1, h⟩)]
     rfl
    ·rw [if_neg c1]
     rfl
   simp only [e, Bool.false_eq_true, if_false]
   refine (ev_bind (digits_TX hx)).2 ((ev_bind (digits_TX hy)).2 ?_)
   have lx := sz_nd hx
   have ly := sz_nd hy
   have cx := Ten.dg_can x.natAbs
   have cy := Ten.dg_can y.natAbs
   by_cases hs : decide (x < 0) = decide (y < 0)
   ·simp only [hs, beq_self_eq_true, if_true]
    obtain ⟨r, h1, h2, h3, h4⟩ := sum_ev cx.1 cy.1 (by omega) (by omega)
    refine (ev_bind h1).2 ?_
    have := text_ev (decide (y < 0)) h2 (by omega)
    rw [h4, val_dg10, val_dg10] at this
    have e2 : sgnd (decide (y < 0)) ((x.natAbs : Int) + y.natAbs) = x + y := by
     unfold sgnd
     by_cases c2 : y < 0
     ·have c3 : x < 0 := of_decide_eq_true (hs.trans (decide_eq_true c2))
      rw [decide_eq_true c2, if_pos rfl]; omega
     ·have c3 : ¬ x < 0 := of_decide_eq_false (hs.trans (decide_eq_false c2))
      rw [decide_eq_false c2, if_neg (by decide)]; omega
    rw [e2] at this
    exact ev_some this
   ·have hs' : (decide (x < 0) == decide (y < 0)) = false := beq_eq_false_iff_ne.mpr hs
    simp only [hs', Bool.false_eq_true, if_false]
    refine (ev_bind (rsize_ev cx cy (by omega))).2 ?_
    rw [val_dg10, val_dg10]
    by_cases hl : (x.natAbs : Int) < y.natAbs
    ·simp only [show ((x.natAbs : Int) - y.natAbs).sign < 0 from Int.sign_neg_iff.2 (by omega), if_true]
     obtain ⟨r, h1, h2, h3, h4⟩ := difference_ev cy.1 cx.1 (by omega) (can_len_le cy cx (by rw [val_dg10, val_dg10]; omega)) (by rw [val_dg10, val_dg10]; omega)
     refine (ev_bind h1).2 ?_
     have := text_ev (decide (y < 0)) h2.1 (by omega)
     rw [h4, val_dg10, val_dg10] at this
     have e2 : sgnd (decide (y < 0)) ((y.natAbs : Int) - x.natAbs) = x + y := by
      unfold sgnd
      by_cases c2 : y < 0
      ·have c3 : ¬ x < 0 := fun h => hs ((decide_eq_true h).trans (decide_eq_true c2).symm)
       rw [decide_eq_true c2, if_pos rfl]; omega
      ·have c3 : x < 0 := by
        by_cases h : x < 0
        ·exact h
        ·exact absurd ((decide_eq_false h).trans (decide_eq_false c2).symm) hs
       rw [decide_eq_false c2, if_neg (by decide)]; omega
     rw [e2] at this
     exact ev_some this
    ·simp only [show ¬ ((x.natAbs : Int) - y.natAbs).sign < 0 from fun h => by have := Int.sign_neg_iff.1 h; omega, if_false]
     obtain ⟨r, h1, h2, h3, h4⟩ := difference_ev cx.1 cy.1 (by omega) (can_len_le cx cy (by rw [val_dg10, val_dg10]; omega)) (by rw [val_dg10, val_dg10]; omega)
     refine (ev_bind h1).2 ?_
     have := text_ev (decide (x < 0)) h2.1 (by omega)
     rw [h4, val_dg10, val_dg10] at this
     have e2 : sgnd (decide (x < 0)) ((x.natAbs : Int) - y.natAbs) = x + y := by
      unfold sgnd
      by_cases c2 : x < 0
      ·have c3 : ¬ y < 0 := fun h => hs ((decide_eq_true c2).trans (decide_eq_true h).symm)
       rw [decide_eq_true c2, if_pos rfl]; omega
      ·have c3 : y < 0 := by
        by_cases h : y < 0
        ·exact h
        ·exact absurd ((decide_eq_false c2).trans (decide_eq_false h).symm) hs
       rw [decide_eq_false c2, if_neg (by decide)]; omega
     rw [e2] at this
     exact ev_some this
 unfold torusref02_Plus.f
 refine (ev_bind (Short_ev hx)).2 ((ev_bind (Short_ev hy)).2 ?_)
 by_cases c : (shortN x).2 = true
 ·simp only [c, if_true] at key ⊢
  exact key
 ·simp only [c, if_false] at key ⊢
  exact key
theorem Minus_ev {x y : Int} (hx : Sz x) (hy : Sz y) (hy' : Sz (-y)) : Ev (fun k => torusref02_Minus.f k (TX x) (TX y)) (TX (x - y)) := by
 unfold torusref02_Minus.f
 refine (ev_bind (Opposite_ev hy)).2 ?_
 exact ev_some (Plus_ev hx hy')
end Go.Proofs.YtfmcgammhfdfnaaGreatDoor.PRatio

