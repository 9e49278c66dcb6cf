/- Go functions as plain Lean functions, each with a proof that the Go code computes just that, and facts on them; conditions: those that each theorem states. -/
import Derived.Test.YtfmcgammhfdfnaaGreatDoorQOrder6
namespace Go.Proofs.YtfmcgammhfdfnaaGreatDoor.PRatio
open Go.RowKit Go.Proofs.YtfmcgammhfdfnaaGreatDoorW.PrintWords Go.Proofs.YtfmcgammhfdfnaaGreatDoorW.PrintLast Go.Proofs.YtfmcgammhfdfnaaGreatDoorW.PrintMore
attribute [local go_sem] max2_int min2_int max_two min_two max_three min_three max_four min_four
set_option linter.unusedVariables false
set_option linter.unusedSimpArgs false
mutual
def torusref02_Fit.l0 : Nat → ByteArray → Int → List Int → Int → Option (ByteArray)
 |0, _, _, _, _ => none
 |k + 1, x0, x1, x5, x6 => if x6 < (x0.size : Int) then (torusref02_Fit.j1 k x0 x1 x5 x6 (decide ((x5.length : Int) < x1))) else (torusref02_Fit.j1 k x0 x1 x5 x6 false)
def torusref02_Fit.j1 : Nat → ByteArray → Int → List Int → Int → Bool → Option (ByteArray)
 |0, _, _, _, _, _ => none
 |k + 1, x0, x1, x5, x6, x16 => if x16 = true then (if 0 ≤ x6 then (if x6 < (x0.size : Int) then (if (bt x0 x6) ≥ 48 then (if (bt x0 x6) ≤ 57 then (if x5.length < 17592186044416 then (torusref02_Fit.l0 k x0 x1 (x5 ++ [wrap64 ((wrap64 (bt x0 x6)) - 48)]) (wrap64 (x6 + 1))) else (none)) else (torusref02_Fit.l0 k x0 x1 x5 (wrap64 (x6 + 1)))) else (torusref02_Fit.l0 k x0 x1 x5 (wrap64 (x6 + 1)))) else (none)) else (none)) else (if (x0.size : Int) > 0 then (if 0 < (x0.size : Int) then ((torusref02_text.f k ((bt x0 0) == 45) x5).bind fun t1075 => (some t1075)) else (none)) else ((torusref02_text.f k false x5).bind fun t1076 => (some t1076)))
end
def torusref02_Fit.f (k : Nat) (a0 : ByteArray) (a1 : Int) : Option (ByteArray) := torusref02_Fit.l0 k a0 a1 ([] : List Int) 0
set_option maxHeartbeats 8000000 in
set_option maxRecDepth 100000 in
theorem torusref02_Fit.calls (k : Nat) (a0 : ByteArray) (a1 : Int) (r : ByteArray) (w : World) (h : torusref02_Fit.f k a0 a1 = some r) :
  Calls Tryz.prog 99 #[.string a0, .int .i64 a1] w fun e w' => e = .returned (.string r) ∧ Below w.heap.size w w' := by
 have HB := Aside0.mk (Below.refl w.heap.size w)
 have H : (torusref02_Fit.l0 k a0 a1 ([] : List Int) 0) = some r := h
 clear h
 have H' := Aside0.mk H
 clear H
 go_enter Tryz.func99, Tryz.ntmps99
 go_wp2
 go_loopg [5, 6] k (fun kq v5 v6 w' => ∃ (x5_1 : List Int) (x6_1 : Int), v6 = .int .i64 x6_1 ∧ Aside0 (torusref02_Fit.l0 kq a0 a1 x5_1 x6_1 = some r) ∧ Aside0 (kq ≤ k) ∧ Aside0 (Kd.R (Kd.int .i64) 3 w' w.heap.size (fun _ => True) v5 x5_1) ∧ Aside0 (Below w.heap.size w w'))
 case atStart => exact ⟨(([] : List Int)), (0), sd_, H', ⟨Nat.le_refl _⟩, ⟨by first | exact Kd.R_nil _ _ _ _ _ | exact Kd.N_nil _ _ _ _ _ | exact Kd.V_nil _ _ _ _ _ | exact Kd.Q_nil _ _ _ _ _ | exact Kd.S_nil _ _ _ _ _⟩, ⟨bw_⟩⟩
 case round =>
  clear H'
  try clear p2
  obtain ⟨x5_1, x6_1, rfl, HA, HK1, HO_5, HB⟩ := hrel
  cases gk with
  |zero => exact absurd HA.out (by simp [torusref02_Fit.l0])
  |succ k1 =>
   have H := HA.out
   clear HA
   simp only [torusref02_Fit.l0] at H
   have HC3 := Aside0.mk H
   clear H
   go_upto_region 3 with (fail)
   go_cut [16] (fun v16 wc => ∃ (kq : Nat) (x16_2 : Bool), v16 = .bool x16_2 ∧ Aside0 (torusref02_Fit.j1 kq a0 a1 x5_1 x6_1 x16_2 = some r) ∧ Aside0 (kq ≤ k1) ∧ Aside0 (Kd.R (Kd.int .i64) 3 wc w.heap.size (fun _ => True) u5 x5_1) ∧ Aside0 (Below w.heap.size w wc))
   case first =>
    have H := HC3.out
    clear HC3
    by_cases c4 : x6_1 < (a0.size : Int)
    ·rw [if_pos c4] at H
     have c4b0 : decide (x6_1 < (a0.size : Int)) = true := decide_eq_true c4
     clear c4
     (first | rw [c4b0] | (simp only [i64_w, i32_w]; rw [c4b0]) | skip)
     have H' := Aside0.mk H
     clear H
     obtain ⟨Ao5, co5, eo5⟩ := Kd.R_slice HO_5.out
     subst eo5
     go_wp2
     go_meet
     case rel => exact ⟨_, (decide ((x5_1.length : Int) < a1)), sd_, H', ⟨by have := HK1.out; first | omega | exact Nat.le_refl _⟩, ⟨rRa_ HO_5.out⟩, ⟨bw_⟩⟩
    ·rw [if_neg c4] at H
     have c4b0 : decide (x6_1 < (a0.size : Int)) = false := decide_eq_false c4
     clear c4
     (first | rw [c4b0] | (simp only [i64_w, i32_w]; rw [c4b0]) | skip)
     have H' := Aside0.mk H
     clear H
     go_wp2
     go_meet
     case rel => exact ⟨_, (false), sd_, H', ⟨by have := HK1.out; first | omega | exact Nat.le_refl _⟩, ⟨rRa_ HO_5.out⟩, ⟨bw_⟩⟩
   case rest =>
    clear HC3
    try clear p2
    try clear c4
    try clear c4b0
    try clear p2
    obtain ⟨kq, x16_2, rfl, HA, HJ2, HO_5, HB⟩ := hcut
    cases kq with
    |zero => exact absurd HA.out (by simp [torusref02_Fit.j1])
    |succ kj2 =>
     have H := HA.out
     clear HA
     simp only [torusref02_Fit.j1] at H
     by_cases c6 : x16_2 = true
     ·subst c6
      rw [if_pos rfl] at H
      by_cases c7 : 0 ≤ x6_1
      ·rw [if_pos c7] at H
       have c7b0 : decide (0 ≤ x6_1) = true := decide_eq_true c7
       clear c7
       by_cases c8 : x6_1 < (a0.size : Int)
       ·rw [if_pos c8] at H
        have c8b0 : decide (x6_1 < (a0.size : Int)) = true := decide_eq_true c8
        clear c8
        by_cases c10 : (bt a0 x6_1) ≥ 48
        ·rw [if_pos c10] at H
         have c10b0 : decide (48 ≤ (bt a0 x6_1)) = true := decide_eq_true c10
         clear c10
         by_cases c12 : (bt a0 x6_1) ≤ 57
         ·rw [if_pos c12] at H
          have c12b0 : decide ((bt a0 x6_1) ≤ 57) = true := decide_eq_true c12
          clear c12
          by_cases c14 : x5_1.length < 17592186044416
          ·rw [if_pos c14] at H
           have LMc14 := Aside0.mk c14
           clear c14
           obtain ⟨y1072, hy1072⟩ : ∃ y_ : List Int, y_ = (x5_1 ++ [wrap64 ((wrap64 (bt a0 x6_1)) - 48)]) := ⟨_, rfl⟩
           replace H : (torusref02_Fit.l0 kj2 a0 a1 y1072 (wrap64 (x6_1 + 1))) = some r := by first | (rw [hy1072]; with_reducible exact H) | (have H2_ := (Option.bind_some _ _).symm.trans H; rw [hy1072]; with_reducible exact H2_) | (have H2_ := (Option.bind_some _ _).symm.trans H; with_reducible exact H2_) | with_reducible exact H | (rw [hy1072]; exact H) | exact H
           have Ny1072 := Aside0.mk hy1072
           clear hy1072
           have H' := Aside0.mk H
           clear H
           have p9 : 0 ≤ (x6_1 : Int) := of_decide_eq_true as_
           have q9 : x6_1 < (a0.size : Int) := of_decide_eq_true as_
           have hx9 := bt_at a0 x6_1
           replace p9 := eq_true p9
           replace q9 := eq_true q9
           have p11 : 0 ≤ (x6_1 : Int) := of_decide_eq_true as_
           have q11 : x6_1 < (a0.size : Int) := of_decide_eq_true as_
           have hx11 := bt_at a0 x6_1
           replace p11 := eq_true p11
           replace q11 := eq_true q11
           have p13 : 0 ≤ (x6_1 : Int) := of_decide_eq_true as_
           have q13 : x6_1 < (a0.size : Int) := of_decide_eq_true as_
           have hx13 := bt_at a0 x6_1
           replace p13 := eq_true p13
           replace q13 := eq_true q13
           go_wp2_with (first | ((with_reducible refine gate_builtin (b := .append) (xs := #[.tmp 29, .tmp 35]) rfl ?_); (try (refine gate_guard (by rfl) ?_; dsimp only)); at_builtin; refine Kd.R_append (Kd.int .i64) (w0 := w) w.heap.size rfl (.tmp 29) (.tmp 35) 146 3 (.int .i64 0) 8 rfl Tryz.underlying146 info3 rfl (by decide) (by omega) u5 x5_1 (wrap64 ((wrap64 (bt a0 x6_1)) - 48)) [.int .i64 (wrap64 ((wrap64 (bt a0 x6_1)) - 48))] (fun _ => True) (fun _ => False) rfl rfl ?aP (fun _ hk => hk.elim) ?aF ?aO ?aB ?aS ?aL ?_; (case aP => exact rfl); (case aB => exact bw_); (case aF => exact (fun _ _ => trivial)); (case aO => exact (rRa_ HO_5.out)); (case aS => exact (below_size bw_)); (case aL => have := LMc14.out; omega); intro v1073 w15 ho hb hg hat; rw [← Ny1072.out] at ho; have n0_ := Aside0.mk (hb); have n1_ := Aside0.mk (ho); clear HB; clear HO_5; have HB := n0_; have HO1074 := n1_; clear n0_ n1_; clear ho hb hg hat))
           go_roundg kj2
           case measure => have := HK1.out; have := HJ2.out; omega
           case rel => exact ⟨(y1072), (wrap64 (x6_1 + 1)), sd_, H', ⟨by have := HK1.out; have := HJ2.out; omega⟩, ⟨rRa_ HO1074.out⟩, ⟨bw_⟩⟩
          ·rw [if_neg c14] at H
           exact absurd H (by simp)
         ·rw [if_neg c12] at H
          have c12b0 : decide ((bt a0 x6_1) ≤ 57) = false := decide_eq_false c12
          clear c12
          have H' := Aside0.mk H
          clear H
          have p9 : 0 ≤ (x6_1 : Int) := of_decide_eq_true as_
          have q9 : x6_1 < (a0.size : Int) := of_decide_eq_true as_
          have hx9 := bt_at a0 x6_1
          replace p9 := eq_true p9
          replace q9 := eq_true q9
          have p11 : 0 ≤ (x6_1 : Int) := of_decide_eq_true as_
          have q11 : x6_1 < (a0.size : Int) := of_decide_eq_true as_
          have hx11 := bt_at a0 x6_1
          replace p11 := eq_true p11
          replace q11 := eq_true q11
          go_wp2
          go_roundg kj2
          case measure => have := HK1.out; have := HJ2.out; omega
          case rel => exact ⟨(x5_1), (wrap64 (x6_1 + 1)), sd_, H', ⟨by have := HK1.out; have := HJ2.out; omega⟩, ⟨rRa_ HO_5.out⟩, ⟨bw_⟩⟩
        ·rw [if_neg c10] at H
         have c10b0 : decide (48 ≤ (bt a0 x6_1)) = false := decide_eq_false c10
         clear c10
         have H' := Aside0.mk H
         clear H
         have p9 : 0 ≤ (x6_1 : Int) := of_decide_eq_true as_
         have q9 : x6_1 < (a0.size : Int) := of_decide_eq_true as_
         have hx9 := bt_at a0 x6_1
         replace p9 := eq_true p9
         replace q9 := eq_true q9
         go_wp2
         go_roundg kj2
         case measure => have := HK1.out; have := HJ2.out; omega
         case rel => exact ⟨(x5_1), (wrap64 (x6_1 + 1)), sd_, H', ⟨by have := HK1.out; have := HJ2.out; omega⟩, ⟨rRa_ HO_5.out⟩, ⟨bw_⟩⟩
       ·rw [if_neg c8] at H
        exact absurd H (by simp)
      ·rw [if_neg c7] at H
       exact absurd H (by simp)
     ·replace c6 := Bool.eq_false_iff.mpr c6
      subst c6
      rw [if_neg (show ¬ (false = true) by decide)] at H
      by_cases c16 : (a0.size : Int) > 0
      ·rw [if_pos c16] at H
       have c16b0 : decide (0 < (a0.size : Int)) = true := decide_eq_true c16
       have c16b1 : decide (0 < a0.size) = true := decide_eq_true (by omega)
       clear c16
       by_cases c17 : 0 < (a0.size : Int)
       ·rw [if_pos c17] at H
        have c17b0 : decide (0 < (a0.size : Int)) = true := decide_eq_true c17
        have c17b1 : decide (0 < a0.size) = true := decide_eq_true (by omega)
        clear c17
        replace H := Option.bind_eq_some_iff.mp H
        obtain ⟨t1075, A190, H⟩ := H
        have A19 := Aside0.mk A190
        clear A190
        obtain rfl := Option.some.inj H
        have p18 : 0 ≤ (0 : Int) := (by omega)
        have q18 : 0 < a0.size := (by have : (0 : Int) < (a0.size : Int) := of_decide_eq_true as_; omega)
        have hx18 : ∀ h : 0 < a0.size, ((a0[0]'h).toNat : Int) = bt a0 0 := bt_at a0 0
        clear p18
        have qi18 : (0 < (a0.size : Int)) = True := eq_true (of_decide_eq_true as_)
        replace q18 := eq_true q18
        obtain ⟨Ao20, co20, eo20⟩ := Kd.R_slice HO_5.out
        subst eo20
        go_wp2_with (first | ((with_reducible refine gate_callee (f := 157) rfl ?_); refine goesL_ (some 46) rfl rfl Tryz.func157 (by kernel_rfl) rfl #[.bool ((bt a0 0) == 45), .slice Ao20 x5_1.length co20] rfl ag_ ?_; (with_reducible refine (torusref02_text.calls kj2 ((bt a0 0) == 45) _ _ x5_1 t1075 _ ?side1 ?side2 A19.out).mono ?_); (case side1 => repeat (first | exact (Kd.R_reads' HO_5.out).2.2 | (with_reducible refine Kd.C_alloc ?_ _) | (with_reducible refine Kd.C_drewN ?_ _) | (with_reducible refine Kd.C_drew ?_))); (case side2 => exact (Kd.R_reads' HO_5.out).2.1); rintro e w21 ⟨rfl, hb⟩; refine ⟨_, rfl, ?_⟩; have n0_ := Aside0.mk (Kd.R_below (rRa_ HO_5.out) hb); have n1_ := Aside0.mk (below_step bw_ hb); clear HO_5; clear HB; have HO_5 := n0_; have HB := n1_; clear n0_ n1_; (try clear hb); (try clear hb2); (try clear hk); (try clear hi)))
        go_ret
        exact ⟨by first | rfl | (simp [errW_none, errW_some] <;> rfl) | (simp [*, errW_none, errW_some] <;> rfl), bw_⟩
       ·rw [if_neg c17] at H
        exact absurd H (by simp)
      ·rw [if_neg c16] at H
       have c16b0 : decide (0 < (a0.size : Int)) = false := decide_eq_false c16
       have c16b1 : decide (0 < a0.size) = false := decide_eq_false (by omega)
       clear c16
       replace H := Option.bind_eq_some_iff.mp H
       obtain ⟨t1076, A220, H⟩ := H
       have A22 := Aside0.mk A220
       clear A220
       obtain rfl := Option.some.inj H
       obtain ⟨Ao23, co23, eo23⟩ := Kd.R_slice HO_5.out
       subst eo23
       go_wp2_with (first | ((with_reducible refine gate_callee (f := 157) rfl ?_); refine goesL_ (some 46) rfl rfl Tryz.func157 (by kernel_rfl) rfl #[.bool false, .slice Ao23 x5_1.length co23] rfl ag_ ?_; (with_reducible refine (torusref02_text.calls kj2 false _ _ x5_1 t1076 _ ?side1 ?side2 A22.out).mono ?_); (case side1 => repeat (first | exact (Kd.R_reads' HO_5.out).2.2 | (with_reducible refine Kd.C_alloc ?_ _) | (with_reducible refine Kd.C_drewN ?_ _) | (with_reducible refine Kd.C_drew ?_))); (case side2 => exact (Kd.R_reads' HO_5.out).2.1); rintro e w24 ⟨rfl, hb⟩; refine ⟨_, rfl, ?_⟩; have n0_ := Aside0.mk (Kd.R_below (rRa_ HO_5.out) hb); have n1_ := Aside0.mk (below_step bw_ hb); clear HO_5; clear HB; have HO_5 := n0_; have HB := n1_; clear n0_ n1_; (try clear hb); (try clear hb2); (try clear hk); (try clear hi)))
       go_ret
       exact ⟨by first | rfl | (simp [errW_none, errW_some] <;> rfl) | (simp [*, errW_none, errW_some] <;> rfl), bw_⟩
attribute [local go_sem] max2_int min2_int max_two min_two max_three min_three max_four min_four
set_option linter.unusedVariables false
set_option linter.unusedSimpArgs false
def torusref03_Fit.f (k : Nat) (a0 : ByteArray) (a1 : ByteArray) (a2 : Int) : Option (ByteArray) := (torusref02_Fit.f k a1 a2).bind fun t1077 => ((torusref02_Positive.f k t1077).bind fun t1078 => (if t1078.toList = ([48] : List UInt8) then ((torusref02_Fit.f k a0 a2).bind fun t1079 => ((torusref03_Reduced.f k t1079 (⟨#[49]⟩ : ByteArray)).bind fun t1080 => (some t1080))) else ((torusref02_Fit.f k a0 a2).bind fun t1081 => ((torusref03_Reduced.f k t1081 t1078).bind fun t1082 => (some t1082)))))
set_option maxHeartbeats 8000000 in
set_option maxRecDepth 100000 in
theorem torusref03_Fit.calls (k : Nat) (a0 : ByteArray) (a1 : ByteArray) (a2 : Int) (r : ByteArray) (w : World) (h : torusref03_Fit.f k a0 a1 a2 = some r) :
  Calls Tryz.prog 18 #[.string a0, .string a1, .int .i64 a2] w fun e w' => e = .returned (.string r) ∧ Below w.heap.size w w' := by
 have HB := Aside0.mk (Below.refl w.heap.size w)
 have H : ((torusref02_Fit.f k a1 a2).bind fun t1077 => ((torusref02_Positive.f k t1077).bind fun t1078 => (if t1078.toList = ([48] : List UInt8) then ((torusref02_Fit.f k a0 a2).bind fun t1079 => ((torusref03_Reduced.f k t1079 (⟨#[49]⟩ : ByteArray)).bind fun t1080 => (some t1080))) else ((torusref02_Fit.f k a0 a2).bind fun t1081 => ((torusref03_Reduced.f k t1081 t1078).bind fun t1082 => (some t1082)))))) = some r := h
 clear h
 replace H := Option.bind_eq_some_iff.mp H
 obtain ⟨t1077, A40, H⟩ := H
 have A4 := Aside0.mk A40
 clear A40
 replace H := Option.bind_eq_some_iff.mp H
 obtain ⟨t1078, A50, H⟩ := H
 have A5 := Aside0.mk A50
 clear A50
 by_cases c6 : t1078.toList = ([48] : List UInt8)
 ·rw [if_pos c6] at H
  have c6b0 : (t1078.toList == ([48] : List UInt8)) = true := beq_iff_eq.mpr c6
  have c6b1 : (t1078.toList != ([48] : List UInt8)) = false := bne_eq_false_iff_eq.mpr c6
  clear c6
  replace H := Option.bind_eq_some_iff.mp H
  obtain ⟨t1079, A70, H⟩ := H
  have A7 := Aside0.mk A70
  clear A70
  replace H := Option.bind_eq_some_iff.mp H
  obtain ⟨t1080, A80, H⟩ := H
  have A8 := Aside0.mk A80
  clear A80
  obtain rfl := Option.some.inj H
  go_enter Tryz.func18, Tryz.ntmps18
  go_wp2_with (first | ((with_reducible refine gate_callee (f := 99) rfl ?_); refine goesL_ (some 10) rfl rfl Tryz.func99 (by kernel_rfl) rfl #[.string a1, .int .i64 a2] rfl ag_ ?_; (with_reducible refine (torusref02_Fit.calls k a1 a2 t1077 _ A4.out).mono ?_); rintro e w9 ⟨rfl, hb⟩; refine ⟨_, rfl, ?_⟩; have n0_ := Aside0.mk (below_step bw_ hb); clear HB; have HB := n0_; clear n0_; (try clear hb); (try clear hb2); (try clear hk); (try clear hi)) | ((with_reducible refine gate_callee (f := 98) rfl ?_); refine goesL_ (some 11) rfl rfl Tryz.func98 (by kernel_rfl) rfl #[.string t1077] rfl ag_ ?_; (with_reducible refine (torusref02_Positive.calls k t1077 t1078 _ A5.out).mono ?_); rintro e w10 ⟨rfl, hb⟩; refine ⟨_, rfl, ?_⟩; have n0_ := Aside0.mk (below_step bw_ hb); clear HB; have HB := n0_; clear n0_; (try clear hb); (try clear hb2); (try clear hk); (try clear hi)) | ((with_reducible refine gate_callee (f := 99) rfl ?_); refine goesL_ (some 16) rfl rfl Tryz.func99 (by kernel_rfl) rfl #[.string a0, .int .i64 a2] rfl ag_ ?_; (with_reducible refine (torusref02_Fit.calls k a0 a2 t1079 _ A7.out).mono ?_); rintro e w11 ⟨rfl, hb⟩; refine ⟨_, rfl, ?_⟩; have n0_ := Aside0.mk (below_step bw_ hb); clear HB; have HB := n0_; clear n0_; (try clear hb); (try clear hb2); (try clear hk); (try clear hi)) | ((with_reducible refine gate_callee (f := 93) rfl ?_); refine goesL_ (some 18) rfl rfl Tryz.func93 (by kernel_rfl) rfl #[.string t1079, .string (⟨#[49]⟩ : ByteArray)] rfl ag_ ?_; (with_reducible refine (torusref03_Reduced.calls k t1079 (⟨#[49]⟩ : ByteArray) t1080 _ A8.out).mono ?_); rintro e w12 ⟨rfl, hb⟩; refine ⟨_, rfl, ?_⟩; have n0_ := Aside0.mk (below_step bw_ hb); clear HB; have HB := n0_; clear n0_; (try clear hb); (try clear hb2); (try clear hk); (try clear hi)))
  go_ret
  exact ⟨by first | rfl | (simp [errW_none, errW_some] <;> rfl) | (simp [*, errW_none, errW_some] <;> rfl), bw_⟩
 ·rw [if_neg c6] at H
  have c6b0 : (t1078.toList == ([48] : List UInt8)) = false := beq_eq_false_iff_ne.mpr c6
  have c6b1 : (t1078.toList != ([48] : List UInt8)) = true := bne_iff_ne.mpr c6
  replace H := Option.bind_eq_some_iff.mp H
  obtain ⟨t1081, A130, H⟩ := H
  have A13 := Aside0.mk A130
  clear A130
  replace H := Option.bind_eq_some_iff.mp H
  obtain ⟨t1082, A140, H⟩ := H
  have A14 := Aside0.mk A140
  clear A140
  obtain rfl := Option.some.inj H
  go_enter Tryz.func18, Tryz.ntmps18
  go_wp2_with (first | ((with_reducible refine gate_callee (f := 99) rfl ?_); refine goesL_ (some 10) rfl rfl Tryz.func99 (by kernel_rfl) rfl #[.string a1, .int .i64 a2] rfl ag_ ?_; (with_reducible refine (torusref02_Fit.calls k a1 a2 t1077 _ A4.out).mono ?_); rintro e w15 ⟨rfl, hb⟩; refine ⟨_, rfl, ?_⟩; have n0_ := Aside0.mk (below_step bw_ hb); clear HB; have HB := n0_; clear n0_; (try clear hb); (try clear hb2); (try clear hk); (try clear hi)) | ((with_reducible refine gate_callee (f := 98) rfl ?_); refine goesL_ (some 11) rfl rfl Tryz.func98 (by kernel_rfl) rfl #[.string t1077] rfl ag_ ?_; (with_reducible refine (torusref02_Positive.calls k t1077 t1078 _ A5.out).mono ?_); rintro e w16 ⟨rfl, hb⟩; refine ⟨_, rfl, ?_⟩; have n0_ := Aside0.mk (below_step bw_ hb); clear HB; have HB := n0_; clear n0_; (try clear hb); (try clear hb2); (try clear hk); (try clear hi)) | ((with_reducible refine gate_callee (f := 99) rfl ?_); refine goesL_ (some 16) rfl rfl Tryz.func99 (by kernel_rfl) rfl #[.string a0, .int .i64 a2] rfl ag_ ?_; (with_reducible refine (torusref02_Fit.calls k a0 a2 t1081 _ A13.out).mono ?_); rintro e w17 ⟨rfl, hb⟩; refine ⟨_, rfl, ?_⟩; have n0_ := Aside0.mk (below_step bw_ hb); clear HB; have HB := n0_; clear n0_; (try clear hb); (try clear hb2); (try clear hk); (try clear hi)) | ((with_reducible refine gate_callee (f := 93) rfl ?_); refine goesL_ (some 18) rfl rfl Tryz.func93 (by kernel_rfl) rfl #[.string t1081, .string t1078] rfl ag_ ?_; (with_reducible refine (torusref03_Reduced.calls k t1081 t1078 t1082 _ A14.out).mono ?_); rintro e w18 ⟨rfl, hb⟩; refine ⟨_, rfl, ?_⟩; have n0_ := Aside0.mk (below_step bw_ hb); clear HB; have HB := n0_; clear n0_; (try clear hb); (try clear hb2); (try clear hk); (try clear hi)))
  go_ret
  exact ⟨by first | rfl | (simp [errW_none, errW_some] <;> rfl) | (simp [*, errW_none, errW_some] <;> rfl), bw_⟩
theorem RT_one {q : Rat} (h : q.den = 1) : RT q = TX q.num := by
 unfold RT rtx
 rw [if_pos h]
 rfl
theorem RT_frac {q : Rat} (h : q.den ≠ 1) : RT q = (TX q.num ++ ⟨#[47]⟩) ++ TX q.den := by
 refine bytesOf_inj ?_
 rw [bytesOf_RT, bytesOf_append, bytesOf_append, bytesOf_TX, bytesOf_TX]
 unfold rtx
 rw [if_neg h]
 have e : bytesOf ⟨#[47]⟩ = [47] := rfl
 rw [e, List.append_assoc]
 rfl
def Sd (z : Int) : Prop := nd z.natAbs ≤ 999999990
theorem Sd.sz {z : Int} (h : Sd z) : Sz z := sz_of (by unfold Sd at h; omega)
theorem Sd.mono {z w : Int} (h : Sd z) (hw : w.natAbs ≤ z.natAbs) : Sd w := by
 unfold Sd at h ⊢
 have h1 := (nd_le (nd z.natAbs) z.natAbs).1 (Nat.le_refl _)
 have h2 := (nd_le (nd z.natAbs) w.natAbs).2 (by omega)
 omega
theorem Sd.neg {z : Int} (h : Sd z) : Sd (-z) := h.mono (by omega)
theorem reduced_tail {n d : Int} (hn : Sd n) (hd : Sd d) (hd0 : 0 < d) {a b : Int} (ha : a = (Rat.divInt n d).num) (hb : b = ((Rat.divInt n d).den : Int)) (la : Sd a) (lb : Sd b) :
  (if (TX b).toList = ([49] : List UInt8) then (some (TX a)) else (if (TX a).size + 1 ≤ 9223372036854775807 then (if (TX a ++ (⟨#[47]⟩ : ByteArray)).size + (TX b).size ≤ 9223372036854775807 then (some ((TX a ++ (⟨#[47]⟩ : ByteArray)) ++ TX b)) else (none)) else (none))) = some (RT (Rat.divInt n d)) := by
 have s1 : (TX a).size ≤ 1000000000 := la.sz
 have s2 : (TX b).size ≤ 1000000000 := lb.sz
 by_cases h1 : b = 1
 ·rw [if_pos ((toList49 b).2 h1), RT_one (by omega), ha]
 ·have s3 : (TX a ++ (⟨#[47]⟩ : ByteArray)).size = (TX a).size + 1 := by rw [ByteArray.size_append]; rfl
  rw [if_neg (fun h => h1 ((toList49 b).1 h)), if_pos (by omega), if_pos (by omega), RT_frac (by omega), ha, hb]
theorem reduced_pos {n d : Int} (hn : Sd n) (hd : Sd d) (hd0 : 0 < d) : Ev (fun k => torusref03_Reduced.j0 k (TX n) (TX d)) (RT (Rat.divInt n d)) := by
 refine ev_succ ?_
 simp only [torusref03_Reduced.j0]
 refine (ev_bind (Divisor_ev hn.sz hd.sz hn hd)).2 ?_
 have ho := over_rat (n := n) hd0
 have hg : 0 < Int.gcd n d := Int.gcd_pos_of_ne_zero_right _ (by omega)
 simp only [toList49]
 by_cases h1 : ((Int.gcd n d : Nat) : Int) = 1
 ·simp only [h1, if_true]
  rw [h1, Int.fdiv_one, Int.fdiv_one] at ho
  have := reduced_tail hn hd hd0 ho.1 ho.2 hn hd
  simp only [toList49] at this
  rw [this]
  exact Ev.now _
 ·simp only [h1, if_false]
  have hgd : Int.gcd n d ≤ d.natAbs := Nat.le_of_dvd (by omega) (Int.gcd_dvd_natAbs_right n d)
  have lg : Sd ((Int.gcd n d : Nat) : Int) := hd.mono (by rw [Int.natAbs_natCast]; exact hgd)
  refine (ev_bind (Quotient_ev hn.sz lg.sz hn lg (by omega))).2 ((ev_bind (Quotient_ev hd.sz lg.sz hd lg (by omega))).2 ?_)
  have ab : ∀ z : Int, (z.fdiv ((Int.gcd n d : Nat) : Int)).natAbs ≤ z.natAbs := fun z => by
   rw [Int.fdiv_eq_ediv_of_nonneg _ (by omega)]
   exact Int.natAbs_ediv_le_natAbs _ _
  have := reduced_tail hn hd hd0 ho.1 ho.2 (hn.mono (ab n)) (hd.mono (ab d))
  simp only [toList49] at this ⊢
  rw [this]
  exact Ev.now _
theorem Reduced_ev {n d : Int} (hn : Sd n) (hd : Sd d) (hd0 : d ≠ 0) : Ev (fun k => torusref03_Reduced.f k (TX n) (TX d)) (RT (Rat.divInt n d)) := by
 unfold torusref03_Reduced.f
 rw [← TX_zero]
 refine (ev_bind (Compare_ev hd.sz (sz_small (by decide)))).2 ?_
 rw [Int.sub_zero]
 by_cases h : d < 0
 ·simp only [show d.sign < 0 from Int.sign_neg_iff.2 h, if_true]
  refine (ev_bind (Opposite_ev hn.sz)).2 ((ev_bind (Opposite_ev hd.sz)).2 ?_)
  have := reduced_pos hn.neg hd.neg (by omega)
  rwa [Rat.neg_divInt_neg] at this
 ·simp only [show ¬ d.sign < 0 from fun h2 => h (Int.sign_neg_iff.1 h2), if_false]
  exact reduced_pos hn hd (by omega)
theorem fit_l0 {s : ByteArray} {m : Nat} (hs : s.size ≤ 9223372036854775807) (hm : m ≤ 1000) : ∀ (j i : Nat) (d : List Int), i + j = s.size → Ten.Lim d → d.length ≤ m → ∃ z : Int, z.natAbs < 10 ^ m ∧ Ev (fun k => torusref02_Fit.l0 k s (m : Int) d (i : Int)) (TX z) := by
 have fin : ∀ (i : Nat) (d : List Int), Ten.Lim d → d.length ≤ m → ∃ z : Int, z.natAbs < 10 ^ m ∧ Ev (fun k => torusref02_Fit.j1 k s (m : Int) d (i : Int) false) (TX z) := fun i d hl hd => by
  have hz : ∀ b, (sgnd b (Ten.val d)).natAbs < 10 ^ m := fun b => by
   rw [sgnd_abs]
   exact (nd_le m _).1 (Nat.le_trans (nd_val hl) hd)
  by_cases h0 : s.size = 0
  ·refine ⟨_, hz false, ev_succ ?_⟩
   simp only [torusref02_Fit.j1, Bool.false_eq_true, if_false, show ¬ ((s.size : Int) > 0) by omega]
   exact ev_some (text_ev false hl (by omega))
  ·refine ⟨_, hz (bt s 0 == 45), ev_succ ?_⟩
   simp only [torusref02_Fit.j1, Bool.false_eq_true, if_false, show ((s.size : Int) > 0) by omega, show (0 < (s.size : Int)) by omega, if_true]
   exact ev_some (text_ev _ hl (by omega))
 intro j
 induction j with
 |zero =>
  intro i d hi hl hd
  obtain ⟨z, hz, he⟩ := fin i d hl hd
  refine ⟨z, hz, ev_succ ?_⟩
  simp only [torusref02_Fit.l0, show ¬ ((i : Int) < (s.size : Int)) by omega, if_false]
  exact he
 |succ j ih =>
  intro i d hi hl hd
  by_cases hdm : d.length < m
  ·have e1 : wrap64 ((i : Int) + 1) = ((i + 1 : Nat) : Int) := by rw [wrap_id (by omega) (by omega)]; omega
   have p1 : ((i : Int) < (s.size : Int)) := by omega
   have p2 : (0 : Int) ≤ (i : Int) := by omega
   have p3 : decide ((d.length : Int) < (m : Int)) = true := decide_eq_true (by omega)
   by_cases hc : 48 ≤ bt s i ∧ bt s i ≤ 57
   ·obtain ⟨z, hz, he⟩ := ih (i + 1) (d ++ [bt s i - 48]) (by omega) (hl.append (Ten.Lim.cons (by omega) (by omega) Ten.Lim.nil)) (by rw [List.length_append, List.length_singleton]; omega)
    refine ⟨z, hz, ev_succ (ev_succ ?_)⟩
    have e2 : wrap64 (wrap64 (bt s i) - 48) = bt s i - 48 := by rw [wrap_id (a := bt s i) (by omega) (by omega), wrap_id (by omega) (by omega)]
    simp only [torusref02_Fit.l0, torusref02_Fit.j1, p1, p2, p3, e1, e2, if_true, show bt s i ≥ 48 from hc.1, hc.2, show d.length < 17592186044416 by omega]
    exact he
   ·obtain ⟨z, hz, he⟩ := ih (i + 1) d (by omega) hl hd
    refine ⟨z, hz, ev_succ (ev_succ ?_)⟩
    by_cases h1 : bt s i ≥ 48
    ·simp only [torusref02_Fit.l0, torusref02_Fit.j1, p1, p2, p3, e1, if_true, h1, show ¬ bt s i ≤ 57 from fun h => hc ⟨h1, h⟩, if_false]
     exact he
    ·simp only [torusref02_Fit.l0, torusref02_Fit.j1, p1, p2, p3, e1, if_true, h1, if_false]
     exact he
  ·obtain ⟨z, hz, he⟩ := fin i d hl hd
   refine ⟨z, hz, ev_succ ?_⟩
   simp only [torusref02_Fit.l0, show ((i : Int) < (s.size : Int)) by omega, if_true, show decide ((d.length : Int) < (m : Int)) = false from decide_eq_false (by omega)]
   exact he
theorem Fit02_ev {s : ByteArray} {m : Nat} (hs : s.size ≤ 9223372036854775807) (hm : m ≤ 1000) : ∃ z : Int, z.natAbs < 10 ^ m ∧ Ev (fun k => torusref02_Fit.f k s (m : Int)) (TX z) := fit_l0 hs hm s.size 0 [] (by omega) Ten.Lim.nil (by simp)
theorem Fit03_ev {s t : ByteArray} {m : Nat} (hs : s.size ≤ 9223372036854775807) (ht : t.size ≤ 9223372036854775807) (h1 : 1 ≤ m) (hm : m ≤ 1000) : ∃ q : Rat, Lq q m ∧ Ev (fun k => torusref03_Fit.f k s t (m : Int)) (RT q) := by
 obtain ⟨n, hn, en⟩ := Fit02_ev hs hm
 obtain ⟨d, hd, ed⟩ := Fit02_ev ht hm
 have sn : Sd n := by have := (nd_le m _).2 hn; unfold Sd; omega
 have sd : Sd d := by have := (nd_le m _).2 hd; unfold Sd; omega
 have sd' : Sd (d.natAbs : Int) := sd.mono (by omega)
 have o1 : 1 < 10 ^ m := Nat.one_lt_pow (by omega) (by decide)
 by_cases h0 : d = 0
 ·refine ⟨Rat.divInt n 1, lq_div hn o1 h1, ?_⟩
  unfold torusref03_Fit.f
  refine (ev_bind ed).2 ((ev_bind (Positive_ev sd.sz)).2 ?_)
  simp only [toList48, show (d.natAbs : Int) = 0 by omega, if_true]
  refine (ev_bind en).2 ?_
  rw [← TX_one]
  exact ev_some (Reduced_ev sn (Sd.mono (z := d.natAbs + 1) (by unfold Sd; have := (nd_le 1 1).2 (by decide); rw [show ((d.natAbs : Int) + 1).natAbs = 1 by omega]; omega) (by omega)) (by decide))
 ·refine ⟨Rat.divInt n d.natAbs, lq_div hn (by rw [Int.natAbs_natCast]; exact hd) h1, ?_⟩
  unfold torusref03_Fit.f
  refine (ev_bind ed).2 ((ev_bind (Positive_ev sd.sz)).2 ?_)
  simp only [toList48, show ¬ (d.natAbs : Int) = 0 by omega, if_false]
  refine (ev_bind en).2 ?_
  exact ev_some (Reduced_ev sn sd' (by omega))
theorem fit_calls (W : World) {s t : ByteArray} {m : Nat} (hs : s.size ≤ 9223372036854775807) (ht : t.size ≤ 9223372036854775807) (h1 : 1 ≤ m) (hm : m ≤ 1000) : ∃ q : Rat, Lq q m ∧ ∀ W : World, Calls Tryz.prog 18 #[.string s, .string t, .int .i64 (m : Int)] W fun e w' => Below W.heap.size W w' ∧ e = .returned (.string (RT q)) := by
 obtain ⟨q, hq, he⟩ := Fit03_ev hs ht h1 hm
 obtain ⟨k, hk⟩ := he.rounds
 refine ⟨q, hq, fun W => (torusref03_Fit.calls k s t m (RT q) W hk).mono ?_⟩
 rintro e w' ⟨rfl, hb⟩
 exact ⟨hb, rfl⟩
theorem rt_size {q : Rat} (h : lgq q = false) : (RT q).size ≤ 9000000000000 := by
 have h1 : nd q.num.natAbs ≤ 1000 := by
  unfold lgq at h
  have := (Bool.or_eq_false_iff.1 h).1
  unfold Lg at this
  have := of_decide_eq_false this
  omega
 have h2 : nd q.den ≤ 1000 := by
  unfold lgq at h
  have := (Bool.or_eq_false_iff.1 h).2
  unfold Lg at this
  have := of_decide_eq_false this
  rw [Int.natAbs_natCast] at this
  omega
 have l1 := rtx_len_ q.num
 have l2 := rtx_len_ (q.den : Int)
 rw [Int.natAbs_natCast] at l2
 rw [← bytesOf_size, bytesOf_RT]
 unfold rtx
 split
 ·omega
 ·rw [List.length_append, List.length_cons]
  omega
section
variable {x y z : Rat} {a b : Nat}
theorem sum_rt (hx : Lq x a) (hy : Lq y b) (hk : a + b + 1 ≤ 1000) (hz : x + y = z) (W : World) : Calls Tryz.prog 19 #[.string (RT x), .string (RT y)] W fun e w' => Below W.heap.size W w' ∧ e = .returned (.string (RT z)) := by
 have h1 := hx.lg (by omega)
 have h2 := hy.lg (by omega)
 have h3 := (lq_add hx hy).lg hk
 have := lsum_calls W (RT x) (RT y) (rt_size h1) (rt_size h2)
 rwa [two_RT h1 h2, orE_res h3, hz] at this
theorem sub_rt (hx : Lq x a) (hy : Lq y b) (hk : a + b + 1 ≤ 1000) (hz : x - y = z) (W : World) : Calls Tryz.prog 21 #[.string (RT x), .string (RT y)] W fun e w' => Below W.heap.size W w' ∧ e = .returned (.tuple #[.string (RT z), .int .i64 0]) := by
 have h1 := hx.lg (by omega)
 have h2 := hy.lg (by omega)
 have h3 := (lq_sub hx hy).lg hk
 have := rsube_calls W (RT x) (RT y) (rt_size h1) (rt_size h2)
 rwa [two_RT h1 h2, res_ok h3, hz] at this
end
theorem sgnI_val (z : Int) : sgnI z = if z < 0 then -1 else if 0 < z then 1 else 0 := by
 unfold sgnI
 rcases Int.lt_trichotomy z 0 with h | h | h
 ·rw [if_pos h, Int.sign_eq_neg_one_of_neg h]
 ·subst h; rfl
 ·rw [if_neg (by omega), if_pos h, Int.sign_eq_one_of_pos h]
theorem scmp_val (x y : Rat) : scmp x y = if x < y then -1 else if y < x then 1 else 0 := by
 have h1 := scmp_lt x y
 have h2 := scmp_le x y
 have h3 : scmp x y = -1 ∨ scmp x y = 0 ∨ scmp x y = 1 := by
  unfold scmp
  rw [sgnI_val]
  split
  ·exact .inl rfl
  ·split
   ·exact .inr (.inr rfl)
   ·exact .inr (.inl rfl)
 by_cases a : x < y
 ·rw [if_pos a]
  have := h1.2 a
  omega
 ·rw [if_neg a]
  by_cases b : y < x
  ·rw [if_pos b]
   have : ¬ scmp x y ≤ 0 := fun h => by have := h2.1 h; grind
   omega
  ·rw [if_neg b]
   have c1 : ¬ scmp x y < 0 := fun h => a (h1.1 h)
   have c2 : scmp x y ≤ 0 := h2.2 (by grind)
   omega
theorem rat_sgn (q : Rat) : sgnI q.num = if q < 0 then -1 else if 0 < q then 1 else 0 := by
 rw [sgnI_val]
 have h0 : q < 0 ↔ q.num < 0 := by
  have := Rat.lt_iff q 0
  simpa using this
 have h1 : 0 < q ↔ 0 < q.num := by
  have := Rat.lt_iff 0 q
  simpa using this
 by_cases a : q < 0
 ·rw [if_pos a, if_pos (h0.1 a)]
 ·rw [if_neg a, if_neg (fun h => a (h0.2 h))]
  by_cases b : 0 < q
  ·rw [if_pos b, if_pos (h1.1 b)]
  ·rw [if_neg b, if_neg (fun h => b (h1.2 h))]
section
variable {x y z : Rat}
theorem ends_ss (hx : lgq x = false) (hy : lgq y = false) : ends2 (RT x) (RT y) = some (some x, some y) := by
 unfold ends2
 rw [ev_RT hx, ev_RT hy]
theorem ev_inf : ev ⟨#[105, 110, 102]⟩ = some none := by
 have h : ev infS = some none := by unfold ev; rw [if_pos rfl]
 exact h
theorem cmp_rt (hx : lgq x = false) (hy : lgq y = false) {o : Int} (ho : scmp x y = o) (W : World) : Calls Tryz.prog 29 #[.string (RT x), .string (RT y)] W fun e w' => Below W.heap.size W w' ∧ e = .returned (.int .i64 o) := by
 have := cmpe_calls W (RT x) (RT y) (rt_size hx) (rt_size hy)
 rw [ends_ss hx hy] at this
 simp only [Option.elim, ce_some, ho] at this
 exact this
theorem cmp_xi (hx : lgq x = false) (W : World) : Calls Tryz.prog 29 #[.string (RT x), .string ⟨#[105, 110, 102]⟩] W fun e w' => Below W.heap.size W w' ∧ e = .returned (.int .i64 (-1)) := by
 have := cmpe_calls W (RT x) ⟨#[105, 110, 102]⟩ (rt_size hx) (by decide)
 unfold ends2 at this
 rw [ev_RT hx, ev_inf] at this
 exact this
theorem cmp_ix (hx : lgq x = false) (W : World) : Calls Tryz.prog 29 #[.string ⟨#[105, 110, 102]⟩, .string (RT x)] W fun e w' => Below W.heap.size W w' ∧ e = .returned (.int .i64 1) := by
 have := cmpe_calls W ⟨#[105, 110, 102]⟩ (RT x) (by decide) (rt_size hx)
 unfold ends2 at this
 rw [ev_RT hx, ev_inf] at this
 exact this
theorem cmp_ii (W : World) : Calls Tryz.prog 29 #[.string ⟨#[105, 110, 102]⟩, .string ⟨#[105, 110, 102]⟩] W fun e w' => Below W.heap.size W w' ∧ e = .returned (.int .i64 0) := by
 have := cmpe_calls W ⟨#[105, 110, 102]⟩ ⟨#[105, 110, 102]⟩ (by decide) (by decide)
 unfold ends2 at this
 rw [ev_inf] at this
 exact this
theorem min_rt (hx : lgq x = false) (hy : lgq y = false) (hz : (if y < x then y else x) = z) (W : World) : Calls Tryz.prog 32 #[.string (RT x), .string (RT y)] W fun e w' => Below W.heap.size W w' ∧ e = .returned (.string (RT z)) := by
 have := mine_calls W (RT x) (RT y) (rt_size hx) (rt_size hy)
 rw [ends_ss hx hy] at this
 simp only [Option.elim, ce_some, scmp_lt] at this
 by_cases c : y < x
 ·rw [if_pos c] at this hz
  rw [← hz]
  exact this
 ·rw [if_neg c] at this hz
  rw [← hz]
  exact this
theorem min_ix (hx : lgq x = false) (W : World) : Calls Tryz.prog 32 #[.string ⟨#[105, 110, 102]⟩, .string (RT x)] W fun e w' => Below W.heap.size W w' ∧ e = .returned (.string (RT x)) := by
 have := mine_calls W ⟨#[105, 110, 102]⟩ (RT x) (by decide) (rt_size hx)
 unfold ends2 at this
 rw [ev_RT hx, ev_inf] at this
 exact this
theorem max_rt (hx : lgq x = false) (hy : lgq y = false) (hz : (if x < y then y else x) = z) (W : World) : Calls Tryz.prog 33 #[.string (RT x), .string (RT y)] W fun e w' => Below W.heap.size W w' ∧ e = .returned (.string (RT z)) := by
 have := maxe_calls W (RT x) (RT y) (rt_size hx) (rt_size hy)
 rw [ends_ss hx hy] at this
 simp only [Option.elim, ce_some, scmp_lt] at this
 by_cases c : x < y
 ·rw [if_pos c] at this hz
  rw [← hz]
  exact this
 ·rw [if_neg c] at this hz
  rw [← hz]
  exact this
theorem max_ix (hx : lgq x = false) (W : World) : Calls Tryz.prog 33 #[.string ⟨#[105, 110, 102]⟩, .string (RT x)] W fun e w' => Below W.heap.size W w' ∧ e = .returned (.string ⟨#[105, 110, 102]⟩) := by
 have := maxe_calls W ⟨#[105, 110, 102]⟩ (RT x) (by decide) (rt_size hx)
 unfold ends2 at this
 rw [ev_RT hx, ev_inf] at this
 exact this
theorem mid_rt (hx : lgq x = false) (hy : lgq y = false) (hz : (x + y) / 2 = z) (hl : lgq z = false) (W : World) : Calls Tryz.prog 30 #[.string (RT x), .string (RT y)] W fun e w' => Below W.heap.size W w' ∧ e = .returned (.tuple #[.string (RT z), .int .i64 0]) := by
 have := rmide_calls W (RT x) (RT y) (rt_size hx) (rt_size hy)
 rwa [two_RT hx hy, hz, res_ok hl] at this
theorem sign_rt (hx : lgq x = false) {o : Int} (ho : sgnI x.num = o) (W : World) : Calls Tryz.prog 31 #[.string (RT x)] W fun e w' => Below W.heap.size W w' ∧ e = .returned (.int .i64 o) := by
 have := rsgn_calls W (RT x) (rt_size hx)
 rw [rv_RT hx] at this
 simp only [Option.elim, ho] at this
 exact this
end
theorem lq_half (k : Nat) : Lq (1 / 2) (k + 1) := by
 have h1 : (1 / 2 : Rat).num = 1 := by decide +kernel
 have h2 : (1 / 2 : Rat).den = 2 := by decide +kernel
 have h3 : 10 ^ 1 ≤ 10 ^ (k + 1) := Nat.pow_le_pow_right (by decide) (by omega)
 refine ⟨?_, ?_⟩
 ·rw [h1]
  show 1 < _
  omega
 ·rw [h2]
  omega
theorem rt_ne {x y : Rat} (h : x ≠ y) : ((RT x).toList == (RT y).toList) = false := beq_eq_false_iff_ne.mpr fun e => h (RT_inj ((bl_iff _ _).1 e))
theorem order_calls {A0 A1 B0 B1 C0 C1 : ByteArray} (hA0 : A0.size ≤ 9223372036854775807) (hA1 : A1.size ≤ 9223372036854775807) (hB0 : B0.size ≤ 9223372036854775807) (hB1 : B1.size ≤ 9223372036854775807) (hC0 : C0.size ≤ 9223372036854775807) (hC1 : C1.size ≤ 9223372036854775807) (W : World) :
  Calls Tryz.prog 6 #[.agg #[.string A0, .string A1], .agg #[.string B0, .string B1], .agg #[.string C0, .string C1]] W fun e w' => Below W.heap.size W w' ∧ e = .returned (.bool true) := by
 obtain ⟨x, hx, cx⟩ := fit_calls W hA0 hA1 (m := 60) (by decide) (by decide)
 obtain ⟨y, hy, cy⟩ := fit_calls W hB0 hB1 (m := 60) (by decide) (by decide)
 obtain ⟨z, hz, cz⟩ := fit_calls W hC0 hC1 (m := 60) (by decide) (by decide)
 have xy := lq_add hx hy
 obtain ⟨m, hm⟩ : ∃ m, (x + y) / 2 = m := ⟨_, rfl⟩
 have lm : Lq m 123 := by
  have := lq_mul xy (lq_half 0)
  have e : (x + y) * (1 / 2) = m := by rw [← hm]; grind
  rw [e] at this
  exact this.mono (by decide)
 have hmm : m + m = x + y := by rw [← hm]; grind
 have lx := hx.lg (by decide)
 have ly := hy.lg (by decide)
 have lz := hz.lg (by decide)
 have lmm := lm.lg (by decide)
 have lxz := (lq_add hx hz).lg (by decide)
 have lyz := (lq_add hy hz).lg (by decide)
 have ld := (lq_sub hx hy).lg (by decide)
 have o3 : scmp (x + z) (y + z) = scmp x y := by rw [scmp_val, scmp_val]; grind
 have o4 : scmp x m = scmp x y := by rw [scmp_val, scmp_val]; grind
 have o5 : scmp m y = scmp x y := by rw [scmp_val, scmp_val]; grind
 have o6 : sgnI (x - y).num = scmp x y := by rw [scmp_val, rat_sgn]; grind
 refine order_walk (Ft := fun u v r => ∀ W : World, Calls Tryz.prog 18 #[.string u, .string v, .int .i64 60] W fun e w' => Below W.heap.size W w' ∧ e = .returned (.string r))
   (Sm := fun u v r => ∀ W : World, Calls Tryz.prog 19 #[.string u, .string v] W fun e w' => Below W.heap.size W w' ∧ e = .returned (.string r))
   (Mi := fun u v r => ∀ W : World, Calls Tryz.prog 32 #[.string u, .string v] W fun e w' => Below W.heap.size W w' ∧ e = .returned (.string r))
   (Mx := fun u v r => ∀ W : World, Calls Tryz.prog 33 #[.string u, .string v] W fun e w' => Below W.heap.size W w' ∧ e = .returned (.string r))
   (Cp := fun u v r => ∀ W : World, Calls Tryz.prog 29 #[.string u, .string v] W fun e w' => Below W.heap.size W w' ∧ e = .returned (.int .i64 r))
   (xz := RT (x + z)) (yz := RT (y + z)) (m := RT m) (d := RT (x - y)) (s := RT (x + y)) (lo := RT (if y < x then y else x)) (hi := RT (if x < y then y else x)) (o := scmp x y) (o' := scmp y x) (p := scmp y z) (q := scmp x z)
   (fun W u v r h => h W) (fun W u v r h => h W) (fun W u v r h => h W) (fun W u v r h => h W) (fun W u v r h => h W)
   (sub_rt hx hy (by decide) rfl) (mid_rt lx ly hm lmm) (sign_rt ld o6) cx cy cz
   ⟨sum_rt hx hz (by decide) rfl, sum_rt hy hz (by decide) rfl, sum_rt lm lm (by decide) hmm, sum_rt hx hy (by decide) rfl, cmp_rt lx ly rfl, cmp_rt ly lx rfl, cmp_rt lxz lyz o3, cmp_rt lx lmm o4, cmp_rt lmm ly o5, cmp_xi lx, cmp_ix lx, cmp_ii, cmp_rt ly lz rfl, cmp_rt lx lz rfl, min_ix lx, min_rt lx ly rfl, max_ix lx, max_rt lx ly rfl⟩ ?_ W
 have pq : ¬ y < x → (0 < scmp y z ∨ ¬ 0 < scmp y z ∧ scmp x z ≤ 0) := fun h => by
  by_cases c : 0 < scmp y z
  ·exact .inl c
  ·refine .inr ⟨c, (scmp_le x z).2 ?_⟩
   have : y ≤ z := (scmp_le y z).1 (by omega)
   grind
 by_cases a : y < x
 ·refine .inl ⟨?_, ?_, rt_ne (by grind), ?_, ?_⟩
  ·rw [scmp_val, if_neg (by grind), if_pos a]
  ·rw [scmp_val, if_pos a]
  ·rw [if_pos a]
  ·rw [if_neg (by grind)]
 ·by_cases b : x < y
  ·refine .inr (.inl ⟨?_, ?_, rt_ne (by grind), ?_, ?_, pq a⟩)
   ·rw [scmp_val, if_pos b]
   ·rw [scmp_val, if_neg a, if_pos b]
   ·rw [if_neg a]
   ·rw [if_pos b]
  ·obtain rfl : y = x := by grind
   refine .inr (.inr ⟨?_, ?_, rfl, rfl, rfl, ?_, ?_⟩)
   ·rw [scmp_val, if_neg a, if_neg a]
   ·rw [scmp_val, if_neg a, if_neg a]
   ·rw [if_neg a]
   ·rw [if_neg a]
end Go.Proofs.YtfmcgammhfdfnaaGreatDoor.PRatio

