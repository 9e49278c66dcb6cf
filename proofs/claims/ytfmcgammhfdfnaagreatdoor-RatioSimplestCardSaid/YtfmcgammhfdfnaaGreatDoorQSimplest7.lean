/- Go functions as plain Lean functions, each with a proof that the Go code computes just that, and facts on them; conditions: those that each theorem states. -/
import Derived.Test.YtfmcgammhfdfnaaGreatDoorQSimplest6
namespace Go.Proofs.YtfmcgammhfdfnaaGreatDoor.PRatio
open Go.RowKit Go.Proofs.YtfmcgammhfdfnaaGreatDoorW.PrintWords Go.Proofs.YtfmcgammhfdfnaaGreatDoorW.PrintLast Go.Proofs.YtfmcgammhfdfnaaGreatDoorW.PrintMore
attribute [local go_sem] max2_int min2_int max_two min_two max_three min_three max_four min_four
set_option linter.unusedVariables false
set_option linter.unusedSimpArgs false
mutual
def torusref02_Fit.l0 : Nat → ByteArray → Int → List Int → Int → Option (ByteArray)
 |0, _, _, _, _ => none
 |k + 1, x0, x1, x5, x6 => if x6 < (x0.size : Int) then (torusref02_Fit.j1 k x0 x1 x5 x6 (decide ((x5.length : Int) < x1))) else (torusref02_Fit.j1 k x0 x1 x5 x6 false)
def torusref02_Fit.j1 : Nat → ByteArray → Int → List Int → Int → Bool → Option (ByteArray)
 |0, _, _, _, _, _ => none
 |k + 1, x0, x1, x5, x6, x16 => if x16 = true then (if 0 ≤ x6 then (if x6 < (x0.size : Int) then (if (bt x0 x6) ≥ 48 then (if (bt x0 x6) ≤ 57 then (if x5.length < 17592186044416 then (torusref02_Fit.l0 k x0 x1 (x5 ++ [wrap64 ((wrap64 (bt x0 x6)) - 48)]) (wrap64 (x6 + 1))) else (none)) else (torusref02_Fit.l0 k x0 x1 x5 (wrap64 (x6 + 1)))) else (torusref02_Fit.l0 k x0 x1 x5 (wrap64 (x6 + 1)))) else (none)) else (none)) else (if (x0.size : Int) > 0 then (if 0 < (x0.size : Int) then ((torusref02_text.f k ((bt x0 0) == 45) x5).bind fun t1075 => (some t1075)) else (none)) else ((torusref02_text.f k false x5).bind fun t1076 => (some t1076)))
end
def torusref02_Fit.f (k : Nat) (a0 : ByteArray) (a1 : Int) : Option (ByteArray) := torusref02_Fit.l0 k a0 a1 ([] : List Int) 0
set_option maxHeartbeats 8000000 in
set_option maxRecDepth 100000 in
theorem torusref02_Fit.calls (k : Nat) (a0 : ByteArray) (a1 : Int) (r : ByteArray) (w : World) (h : torusref02_Fit.f k a0 a1 = some r) :
  Calls Tryz.prog 99 #[.string a0, .int .i64 a1] w fun e w' => e = .returned (.string r) ∧ Below w.heap.size w w' := by
 have HB := Aside0.mk (Below.refl w.heap.size w)
 have H : (torusref02_Fit.l0 k a0 a1 ([] : List Int) 0) = some r := h
 clear h
 have H' := Aside0.mk H
 clear H
 go_enter Tryz.func99, Tryz.ntmps99
 go_wp2
 go_loopg [5, 6] k (fun kq v5 v6 w' => ∃ (x5_1 : List Int) (x6_1 : Int), v6 = .int .i64 x6_1 ∧ Aside0 (torusref02_Fit.l0 kq a0 a1 x5_1 x6_1 = some r) ∧ Aside0 (kq ≤ k) ∧ Aside0 (Kd.R (Kd.int .i64) 3 w' w.heap.size (fun _ => True) v5 x5_1) ∧ Aside0 (Below w.heap.size w w'))
 case atStart => exact ⟨(([] : List Int)), (0), sd_, H', ⟨Nat.le_refl _⟩, ⟨by first | exact Kd.R_nil _ _ _ _ _ | exact Kd.N_nil _ _ _ _ _ | exact Kd.V_nil _ _ _ _ _ | exact Kd.Q_nil _ _ _ _ _ | exact Kd.S_nil _ _ _ _ _⟩, ⟨bw_⟩⟩
 case round =>
  clear H'
  try clear p2
  obtain ⟨x5_1, x6_1, rfl, HA, HK1, HO_5, HB⟩ := hrel
  cases gk with
  |zero => exact absurd HA.out (by simp [torusref02_Fit.l0])
  |succ k1 =>
   have H := HA.out
   clear HA
   simp only [torusref02_Fit.l0] at H
   have HC3 := Aside0.mk H
   clear H
   go_upto_region 3 with (fail)
   go_cut [16] (fun v16 wc => ∃ (kq : Nat) (x16_2 : Bool), v16 = .bool x16_2 ∧ Aside0 (torusref02_Fit.j1 kq a0 a1 x5_1 x6_1 x16_2 = some r) ∧ Aside0 (kq ≤ k1) ∧ Aside0 (Kd.R (Kd.int .i64) 3 wc w.heap.size (fun _ => True) u5 x5_1) ∧ Aside0 (Below w.heap.size w wc))
   case first =>
    have H := HC3.out
    clear HC3
    by_cases c4 : x6_1 < (a0.size : Int)
    ·rw [if_pos c4] at H
     have c4b0 : decide (x6_1 < (a0.size : Int)) = true := decide_eq_true c4
     clear c4
     (first | rw [c4b0] | (simp only [i64_w, i32_w]; rw [c4b0]) | skip)
     have H' := Aside0.mk H
     clear H
     obtain ⟨Ao5, co5, eo5⟩ := Kd.R_slice HO_5.out
     subst eo5
     go_wp2
     go_meet
     case rel => exact ⟨_, (decide ((x5_1.length : Int) < a1)), sd_, H', ⟨by have := HK1.out; first | omega | exact Nat.le_refl _⟩, ⟨rRa_ HO_5.out⟩, ⟨bw_⟩⟩
    ·rw [if_neg c4] at H
     have c4b0 : decide (x6_1 < (a0.size : Int)) = false := decide_eq_false c4
     clear c4
     (first | rw [c4b0] | (simp only [i64_w, i32_w]; rw [c4b0]) | skip)
     have H' := Aside0.mk H
     clear H
     go_wp2
     go_meet
     case rel => exact ⟨_, (false), sd_, H', ⟨by have := HK1.out; first | omega | exact Nat.le_refl _⟩, ⟨rRa_ HO_5.out⟩, ⟨bw_⟩⟩
   case rest =>
    clear HC3
    try clear p2
    try clear c4
    try clear c4b0
    try clear p2
    obtain ⟨kq, x16_2, rfl, HA, HJ2, HO_5, HB⟩ := hcut
    cases kq with
    |zero => exact absurd HA.out (by simp [torusref02_Fit.j1])
    |succ kj2 =>
     have H := HA.out
     clear HA
     simp only [torusref02_Fit.j1] at H
     by_cases c6 : x16_2 = true
     ·subst c6
      rw [if_pos rfl] at H
      by_cases c7 : 0 ≤ x6_1
      ·rw [if_pos c7] at H
       have c7b0 : decide (0 ≤ x6_1) = true := decide_eq_true c7
       clear c7
       by_cases c8 : x6_1 < (a0.size : Int)
       ·rw [if_pos c8] at H
        have c8b0 : decide (x6_1 < (a0.size : Int)) = true := decide_eq_true c8
        clear c8
        by_cases c10 : (bt a0 x6_1) ≥ 48
        ·rw [if_pos c10] at H
         have c10b0 : decide (48 ≤ (bt a0 x6_1)) = true := decide_eq_true c10
         clear c10
         by_cases c12 : (bt a0 x6_1) ≤ 57
         ·rw [if_pos c12] at H
          have c12b0 : decide ((bt a0 x6_1) ≤ 57) = true := decide_eq_true c12
          clear c12
          by_cases c14 : x5_1.length < 17592186044416
          ·rw [if_pos c14] at H
           have LMc14 := Aside0.mk c14
           clear c14
           obtain ⟨y1072, hy1072⟩ : ∃ y_ : List Int, y_ = (x5_1 ++ [wrap64 ((wrap64 (bt a0 x6_1)) - 48)]) := ⟨_, rfl⟩
           replace H : (torusref02_Fit.l0 kj2 a0 a1 y1072 (wrap64 (x6_1 + 1))) = some r := by first | (rw [hy1072]; with_reducible exact H) | (have H2_ := (Option.bind_some _ _).symm.trans H; rw [hy1072]; with_reducible exact H2_) | (have H2_ := (Option.bind_some _ _).symm.trans H; with_reducible exact H2_) | with_reducible exact H | (rw [hy1072]; exact H) | exact H
           have Ny1072 := Aside0.mk hy1072
           clear hy1072
           have H' := Aside0.mk H
           clear H
           have p9 : 0 ≤ (x6_1 : Int) := of_decide_eq_true as_
           have q9 : x6_1 < (a0.size : Int) := of_decide_eq_true as_
           have hx9 := bt_at a0 x6_1
           replace p9 := eq_true p9
           replace q9 := eq_true q9
           have p11 : 0 ≤ (x6_1 : Int) := of_decide_eq_true as_
           have q11 : x6_1 < (a0.size : Int) := of_decide_eq_true as_
           have hx11 := bt_at a0 x6_1
           replace p11 := eq_true p11
           replace q11 := eq_true q11
           have p13 : 0 ≤ (x6_1 : Int) := of_decide_eq_true as_
           have q13 : x6_1 < (a0.size : Int) := of_decide_eq_true as_
           have hx13 := bt_at a0 x6_1
           replace p13 := eq_true p13
           replace q13 := eq_true q13
           go_wp2_with (first | ((with_reducible refine gate_builtin (b := .append) (xs := #[.tmp 29, .tmp 35]) rfl ?_); (try (refine gate_guard (by rfl) ?_; dsimp only)); at_builtin; refine Kd.R_append (Kd.int .i64) (w0 := w) w.heap.size rfl (.tmp 29) (.tmp 35) 146 3 (.int .i64 0) 8 rfl Tryz.underlying146 info3 rfl (by decide) (by omega) u5 x5_1 (wrap64 ((wrap64 (bt a0 x6_1)) - 48)) [.int .i64 (wrap64 ((wrap64 (bt a0 x6_1)) - 48))] (fun _ => True) (fun _ => False) rfl rfl ?aP (fun _ hk => hk.elim) ?aF ?aO ?aB ?aS ?aL ?_; (case aP => exact rfl); (case aB => exact bw_); (case aF => exact (fun _ _ => trivial)); (case aO => exact (rRa_ HO_5.out)); (case aS => exact (below_size bw_)); (case aL => have := LMc14.out; omega); intro v1073 w15 ho hb hg hat; rw [← Ny1072.out] at ho; have n0_ := Aside0.mk (hb); have n1_ := Aside0.mk (ho); clear HB; clear HO_5; have HB := n0_; have HO1074 := n1_; clear n0_ n1_; clear ho hb hg hat))
           go_roundg kj2
           case measure => have := HK1.out; have := HJ2.out; omega
           case rel => exact ⟨(y1072), (wrap64 (x6_1 + 1)), sd_, H', ⟨by have := HK1.out; have := HJ2.out; omega⟩, ⟨rRa_ HO1074.out⟩, ⟨bw_⟩⟩
          ·rw [if_neg c14] at H
           exact absurd H (by simp)
         ·rw [if_neg c12] at H
          have c12b0 : decide ((bt a0 x6_1) ≤ 57) = false := decide_eq_false c12
          clear c12
          have H' := Aside0.mk H
          clear H
          have p9 : 0 ≤ (x6_1 : Int) := of_decide_eq_true as_
          have q9 : x6_1 < (a0.size : Int) := of_decide_eq_true as_
          have hx9 := bt_at a0 x6_1
          replace p9 := eq_true p9
          replace q9 := eq_true q9
          have p11 : 0 ≤ (x6_1 : Int) := of_decide_eq_true as_
          have q11 : x6_1 < (a0.size : Int) := of_decide_eq_true as_
          have hx11 := bt_at a0 x6_1
          replace p11 := eq_true p11
          replace q11 := eq_true q11
          go_wp2
          go_roundg kj2
          case measure => have := HK1.out; have := HJ2.out; omega
          case rel => exact ⟨(x5_1), (wrap64 (x6_1 + 1)), sd_, H', ⟨by have := HK1.out; have := HJ2.out; omega⟩, ⟨rRa_ HO_5.out⟩, ⟨bw_⟩⟩
        ·rw [if_neg c10] at H
         have c10b0 : decide (48 ≤ (bt a0 x6_1)) = false := decide_eq_false c10
         clear c10
         have H' := Aside0.mk H
         clear H
         have p9 : 0 ≤ (x6_1 : Int) := of_decide_eq_true as_
         have q9 : x6_1 < (a0.size : Int) := of_decide_eq_true as_
         have hx9 := bt_at a0 x6_1
         replace p9 := eq_true p9
         replace q9 := eq_true q9
         go_wp2
         go_roundg kj2
         case measure => have := HK1.out; have := HJ2.out; omega
         case rel => exact ⟨(x5_1), (wrap64 (x6_1 + 1)), sd_, H', ⟨by have := HK1.out; have := HJ2.out; omega⟩, ⟨rRa_ HO_5.out⟩, ⟨bw_⟩⟩
       ·rw [if_neg c8] at H
        exact absurd H (by simp)
      ·rw [if_neg c7] at H
       exact absurd H (by simp)
     ·replace c6 := Bool.eq_false_iff.mpr c6
      subst c6
      rw [if_neg (show ¬ (false = true) by decide)] at H
      by_cases c16 : (a0.size : Int) > 0
      ·rw [if_pos c16] at H
       have c16b0 : decide (0 < (a0.size : Int)) = true := decide_eq_true c16
       have c16b1 : decide (0 < a0.size) = true := decide_eq_true (by omega)
       clear c16
       by_cases c17 : 0 < (a0.size : Int)
       ·rw [if_pos c17] at H
        have c17b0 : decide (0 < (a0.size : Int)) = true := decide_eq_true c17
        have c17b1 : decide (0 < a0.size) = true := decide_eq_true (by omega)
        clear c17
        replace H := Option.bind_eq_some_iff.mp H
        obtain ⟨t1075, A190, H⟩ := H
        have A19 := Aside0.mk A190
        clear A190
        obtain rfl := Option.some.inj H
        have p18 : 0 ≤ (0 : Int) := (by omega)
        have q18 : 0 < a0.size := (by have : (0 : Int) < (a0.size : Int) := of_decide_eq_true as_; omega)
        have hx18 : ∀ h : 0 < a0.size, ((a0[0]'h).toNat : Int) = bt a0 0 := bt_at a0 0
        clear p18
        have qi18 : (0 < (a0.size : Int)) = True := eq_true (of_decide_eq_true as_)
        replace q18 := eq_true q18
        obtain ⟨Ao20, co20, eo20⟩ := Kd.R_slice HO_5.out
        subst eo20
        go_wp2_with (first | ((with_reducible refine gate_callee (f := 157) rfl ?_); refine goesL_ (some 46) rfl rfl Tryz.func157 (by kernel_rfl) rfl #[.bool ((bt a0 0) == 45), .slice Ao20 x5_1.length co20] rfl ag_ ?_; (with_reducible refine (torusref02_text.calls kj2 ((bt a0 0) == 45) _ _ x5_1 t1075 _ ?side1 ?side2 A19.out).mono ?_); (case side1 => repeat (first | exact (Kd.R_reads' HO_5.out).2.2 | (with_reducible refine Kd.C_alloc ?_ _) | (with_reducible refine Kd.C_drewN ?_ _) | (with_reducible refine Kd.C_drew ?_))); (case side2 => exact (Kd.R_reads' HO_5.out).2.1); rintro e w21 ⟨rfl, hb⟩; refine ⟨_, rfl, ?_⟩; have n0_ := Aside0.mk (Kd.R_below (rRa_ HO_5.out) hb); have n1_ := Aside0.mk (below_step bw_ hb); clear HO_5; clear HB; have HO_5 := n0_; have HB := n1_; clear n0_ n1_; (try clear hb); (try clear hb2); (try clear hk); (try clear hi)))
        go_ret
        exact ⟨by first | rfl | (simp [errW_none, errW_some] <;> rfl) | (simp [*, errW_none, errW_some] <;> rfl), bw_⟩
       ·rw [if_neg c17] at H
        exact absurd H (by simp)
      ·rw [if_neg c16] at H
       have c16b0 : decide (0 < (a0.size : Int)) = false := decide_eq_false c16
       have c16b1 : decide (0 < a0.size) = false := decide_eq_false (by omega)
       clear c16
       replace H := Option.bind_eq_some_iff.mp H
       obtain ⟨t1076, A220, H⟩ := H
       have A22 := Aside0.mk A220
       clear A220
       obtain rfl := Option.some.inj H
       obtain ⟨Ao23, co23, eo23⟩ := Kd.R_slice HO_5.out
       subst eo23
       go_wp2_with (first | ((with_reducible refine gate_callee (f := 157) rfl ?_); refine goesL_ (some 46) rfl rfl Tryz.func157 (by kernel_rfl) rfl #[.bool false, .slice Ao23 x5_1.length co23] rfl ag_ ?_; (with_reducible refine (torusref02_text.calls kj2 false _ _ x5_1 t1076 _ ?side1 ?side2 A22.out).mono ?_); (case side1 => repeat (first | exact (Kd.R_reads' HO_5.out).2.2 | (with_reducible refine Kd.C_alloc ?_ _) | (with_reducible refine Kd.C_drewN ?_ _) | (with_reducible refine Kd.C_drew ?_))); (case side2 => exact (Kd.R_reads' HO_5.out).2.1); rintro e w24 ⟨rfl, hb⟩; refine ⟨_, rfl, ?_⟩; have n0_ := Aside0.mk (Kd.R_below (rRa_ HO_5.out) hb); have n1_ := Aside0.mk (below_step bw_ hb); clear HO_5; clear HB; have HO_5 := n0_; have HB := n1_; clear n0_ n1_; (try clear hb); (try clear hb2); (try clear hk); (try clear hi)))
       go_ret
       exact ⟨by first | rfl | (simp [errW_none, errW_some] <;> rfl) | (simp [*, errW_none, errW_some] <;> rfl), bw_⟩
attribute [local go_sem] max2_int min2_int max_two min_two max_three min_three max_four min_four
set_option linter.unusedVariables false
set_option linter.unusedSimpArgs false
def torusref03_Fit.f (k : Nat) (a0 : ByteArray) (a1 : ByteArray) (a2 : Int) : Option (ByteArray) := (torusref02_Fit.f k a1 a2).bind fun t1077 => ((torusref02_Positive.f k t1077).bind fun t1078 => (if t1078.toList = ([48] : List UInt8) then ((torusref02_Fit.f k a0 a2).bind fun t1079 => ((torusref03_Reduced.f k t1079 (⟨#[49]⟩ : ByteArray)).bind fun t1080 => (some t1080))) else ((torusref02_Fit.f k a0 a2).bind fun t1081 => ((torusref03_Reduced.f k t1081 t1078).bind fun t1082 => (some t1082)))))
set_option maxHeartbeats 8000000 in
set_option maxRecDepth 100000 in
theorem torusref03_Fit.calls (k : Nat) (a0 : ByteArray) (a1 : ByteArray) (a2 : Int) (r : ByteArray) (w : World) (h : torusref03_Fit.f k a0 a1 a2 = some r) :
  Calls Tryz.prog 18 #[.string a0, .string a1, .int .i64 a2] w fun e w' => e = .returned (.string r) ∧ Below w.heap.size w w' := by
 have HB := Aside0.mk (Below.refl w.heap.size w)
 have H : ((torusref02_Fit.f k a1 a2).bind fun t1077 => ((torusref02_Positive.f k t1077).bind fun t1078 => (if t1078.toList = ([48] : List UInt8) then ((torusref02_Fit.f k a0 a2).bind fun t1079 => ((torusref03_Reduced.f k t1079 (⟨#[49]⟩ : ByteArray)).bind fun t1080 => (some t1080))) else ((torusref02_Fit.f k a0 a2).bind fun t1081 => ((torusref03_Reduced.f k t1081 t1078).bind fun t1082 => (some t1082)))))) = some r := h
 clear h
 replace H := Option.bind_eq_some_iff.mp H
 obtain ⟨t1077, A40, H⟩ := H
 have A4 := Aside0.mk A40
 clear A40
 replace H := Option.bind_eq_some_iff.mp H
 obtain ⟨t1078, A50, H⟩ := H
 have A5 := Aside0.mk A50
 clear A50
 by_cases c6 : t1078.toList = ([48] : List UInt8)
 ·rw [if_pos c6] at H
  have c6b0 : (t1078.toList == ([48] : List UInt8)) = true := beq_iff_eq.mpr c6
  have c6b1 : (t1078.toList != ([48] : List UInt8)) = false := bne_eq_false_iff_eq.mpr c6
  clear c6
  replace H := Option.bind_eq_some_iff.mp H
  obtain ⟨t1079, A70, H⟩ := H
  have A7 := Aside0.mk A70
  clear A70
  replace H := Option.bind_eq_some_iff.mp H
  obtain ⟨t1080, A80, H⟩ := H
  have A8 := Aside0.mk A80
  clear A80
  obtain rfl := Option.some.inj H
  go_enter Tryz.func18, Tryz.ntmps18
  go_wp2_with (first | ((with_reducible refine gate_callee (f := 99) rfl ?_); refine goesL_ (some 10) rfl rfl Tryz.func99 (by kernel_rfl) rfl #[.string a1, .int .i64 a2] rfl ag_ ?_; (with_reducible refine (torusref02_Fit.calls k a1 a2 t1077 _ A4.out).mono ?_); rintro e w9 ⟨rfl, hb⟩; refine ⟨_, rfl, ?_⟩; have n0_ := Aside0.mk (below_step bw_ hb); clear HB; have HB := n0_; clear n0_; (try clear hb); (try clear hb2); (try clear hk); (try clear hi)) | ((with_reducible refine gate_callee (f := 98) rfl ?_); refine goesL_ (some 11) rfl rfl Tryz.func98 (by kernel_rfl) rfl #[.string t1077] rfl ag_ ?_; (with_reducible refine (torusref02_Positive.calls k t1077 t1078 _ A5.out).mono ?_); rintro e w10 ⟨rfl, hb⟩; refine ⟨_, rfl, ?_⟩; have n0_ := Aside0.mk (below_step bw_ hb); clear HB; have HB := n0_; clear n0_; (try clear hb); (try clear hb2); (try clear hk); (try clear hi)) | ((with_reducible refine gate_callee (f := 99) rfl ?_); refine goesL_ (some 16) rfl rfl Tryz.func99 (by kernel_rfl) rfl #[.string a0, .int .i64 a2] rfl ag_ ?_; (with_reducible refine (torusref02_Fit.calls k a0 a2 t1079 _ A7.out).mono ?_); rintro e w11 ⟨rfl, hb⟩; refine ⟨_, rfl, ?_⟩; have n0_ := Aside0.mk (below_step bw_ hb); clear HB; have HB := n0_; clear n0_; (try clear hb); (try clear hb2); (try clear hk); (try clear hi)) | ((with_reducible refine gate_callee (f := 93) rfl ?_); refine goesL_ (some 18) rfl rfl Tryz.func93 (by kernel_rfl) rfl #[.string t1079, .string (⟨#[49]⟩ : ByteArray)] rfl ag_ ?_; (with_reducible refine (torusref03_Reduced.calls k t1079 (⟨#[49]⟩ : ByteArray) t1080 _ A8.out).mono ?_); rintro e w12 ⟨rfl, hb⟩; refine ⟨_, rfl, ?_⟩; have n0_ := Aside0.mk (below_step bw_ hb); clear HB; have HB := n0_; clear n0_; (try clear hb); (try clear hb2); (try clear hk); (try clear hi)))
  go_ret
  exact ⟨by first | rfl | (simp [errW_none, errW_some] <;> rfl) | (simp [*, errW_none, errW_some] <;> rfl), bw_⟩
 ·rw [if_neg c6] at H
  have c6b0 : (t1078.toList == ([48] : List UInt8)) = false := beq_eq_false_iff_ne.mpr c6
  have c6b1 : (t1078.toList != ([48] : List UInt8)) = true := bne_iff_ne.mpr c6
  replace H := Option.bind_eq_some_iff.mp H
  obtain ⟨t1081, A130, H⟩ := H
  have A13 := Aside0.mk A130
  clear A130
  replace H := Option.bind_eq_some_iff.mp H
  obtain ⟨t1082, A140, H⟩ := H
  have A14 := Aside0.mk A140
  clear A140
  obtain rfl := Option.some.inj H
  go_enter Tryz.func18, Tryz.ntmps18
  go_wp2_with (first | ((with_reducible refine gate_callee (f := 99) rfl ?_); refine goesL_ (some 10) rfl rfl Tryz.func99 (by kernel_rfl) rfl #[.string a1, .int .i64 a2] rfl ag_ ?_; (with_reducible refine (torusref02_Fit.calls k a1 a2 t1077 _ A4.out).mono ?_); rintro e w15 ⟨rfl, hb⟩; refine ⟨_, rfl, ?_⟩; have n0_ := Aside0.mk (below_step bw_ hb); clear HB; have HB := n0_; clear n0_; (try clear hb); (try clear hb2); (try clear hk); (try clear hi)) | ((with_reducible refine gate_callee (f := 98) rfl ?_); refine goesL_ (some 11) rfl rfl Tryz.func98 (by kernel_rfl) rfl #[.string t1077] rfl ag_ ?_; (with_reducible refine (torusref02_Positive.calls k t1077 t1078 _ A5.out).mono ?_); rintro e w16 ⟨rfl, hb⟩; refine ⟨_, rfl, ?_⟩; have n0_ := Aside0.mk (below_step bw_ hb); clear HB; have HB := n0_; clear n0_; (try clear hb); (try clear hb2); (try clear hk); (try clear hi)) | ((with_reducible refine gate_callee (f := 99) rfl ?_); refine goesL_ (some 16) rfl rfl Tryz.func99 (by kernel_rfl) rfl #[.string a0, .int .i64 a2] rfl ag_ ?_; (with_reducible refine (torusref02_Fit.calls k a0 a2 t1081 _ A13.out).mono ?_); rintro e w17 ⟨rfl, hb⟩; refine ⟨_, rfl, ?_⟩; have n0_ := Aside0.mk (below_step bw_ hb); clear HB; have HB := n0_; clear n0_; (try clear hb); (try clear hb2); (try clear hk); (try clear hi)) | ((with_reducible refine gate_callee (f := 93) rfl ?_); refine goesL_ (some 18) rfl rfl Tryz.func93 (by kernel_rfl) rfl #[.string t1081, .string t1078] rfl ag_ ?_; (with_reducible refine (torusref03_Reduced.calls k t1081 t1078 t1082 _ A14.out).mono ?_); rintro e w18 ⟨rfl, hb⟩; refine ⟨_, rfl, ?_⟩; have n0_ := Aside0.mk (below_step bw_ hb); clear HB; have HB := n0_; clear n0_; (try clear hb); (try clear hb2); (try clear hk); (try clear hi)))
  go_ret
  exact ⟨by first | rfl | (simp [errW_none, errW_some] <;> rfl) | (simp [*, errW_none, errW_some] <;> rfl), bw_⟩
theorem RT_one {q : Rat} (h : q.den = 1) : RT q = TX q.num := by
 unfold RT rtx
 rw [if_pos h]
 rfl
theorem RT_frac {q : Rat} (h : q.den ≠ 1) : RT q = (TX q.num ++ ⟨#[47]⟩) ++ TX q.den := by
 refine bytesOf_inj ?_
 rw [bytesOf_RT, bytesOf_append, bytesOf_append, bytesOf_TX, bytesOf_TX]
 unfold rtx
 rw [if_neg h]
 have e : bytesOf ⟨#[47]⟩ = [47] := rfl
 rw [e, List.append_assoc]
 rfl
def Sd (z : Int) : Prop := nd z.natAbs ≤ 999999990
theorem Sd.sz {z : Int} (h : Sd z) : Sz z := sz_of (by unfold Sd at h; omega)
theorem Sd.mono {z w : Int} (h : Sd z) (hw : w.natAbs ≤ z.natAbs) : Sd w := by
 unfold Sd at h ⊢
 have h1 := (nd_le (nd z.natAbs) z.natAbs).1 (Nat.le_refl _)
 have h2 := (nd_le (nd z.natAbs) w.natAbs).2 (by omega)
 omega
theorem Sd.neg {z : Int} (h : Sd z) : Sd (-z) := h.mono (by omega)
theorem reduced_tail {n d : Int} (hn : Sd n) (hd : Sd d) (hd0 : 0 < d) {a b : Int} (ha : a = (Rat.divInt n d).num) (hb : b = ((Rat.divInt n d).den : Int)) (la : Sd a) (lb : Sd b) :
  (if (TX b).toList = ([49] : List UInt8) then (some (TX a)) else (if (TX a).size + 1 ≤ 9223372036854775807 then (if (TX a ++ (⟨#[47]⟩ : ByteArray)).size + (TX b).size ≤ 9223372036854775807 then (some ((TX a ++ (⟨#[47]⟩ : ByteArray)) ++ TX b)) else (none)) else (none))) = some (RT (Rat.divInt n d)) := by
 have s1 : (TX a).size ≤ 1000000000 := la.sz
 have s2 : (TX b).size ≤ 1000000000 := lb.sz
 by_cases h1 : b = 1
 ·rw [if_pos ((toList49 b).2 h1), RT_one (by omega), ha]
 ·have s3 : (TX a ++ (⟨#[47]⟩ : ByteArray)).size = (TX a).size + 1 := by rw [ByteArray.size_append]; rfl
  rw [if_neg (fun h => h1 ((toList49 b).1 h)), if_pos (by omega), if_pos (by omega), RT_frac (by omega), ha, hb]
theorem reduced_pos {n d : Int} (hn : Sd n) (hd : Sd d) (hd0 : 0 < d) : Ev (fun k => torusref03_Reduced.j0 k (TX n) (TX d)) (RT (Rat.divInt n d)) := by
 refine ev_succ ?_
 simp only [torusref03_Reduced.j0]
 refine (ev_bind (Divisor_ev hn.sz hd.sz hn hd)).2 ?_
 have ho := over_rat (n := n) hd0
 have hg : 0 < Int.gcd n d := Int.gcd_pos_of_ne_zero_right _ (by omega)
 simp only [toList49]
 by_cases h1 : ((Int.gcd n d : Nat) : Int) = 1
 ·simp only [h1, if_true]
  rw [h1, Int.fdiv_one, Int.fdiv_one] at ho
  have := reduced_tail hn hd hd0 ho.1 ho.2 hn hd
  simp only [toList49] at this
  rw [this]
  exact Ev.now _
 ·simp only [h1, if_false]
  have hgd : Int.gcd n d ≤ d.natAbs := Nat.le_of_dvd (by omega) (Int.gcd_dvd_natAbs_right n d)
  have lg : Sd ((Int.gcd n d : Nat) : Int) := hd.mono (by rw [Int.natAbs_natCast]; exact hgd)
  refine (ev_bind (Quotient_ev hn.sz lg.sz hn lg (by omega))).2 ((ev_bind (Quotient_ev hd.sz lg.sz hd lg (by omega))).2 ?_)
  have ab : ∀ z : Int, (z.fdiv ((Int.gcd n d : Nat) : Int)).natAbs ≤ z.natAbs := fun z => by
   rw [Int.fdiv_eq_ediv_of_nonneg _ (by omega)]
   exact Int.natAbs_ediv_le_natAbs _ _
  have := reduced_tail hn hd hd0 ho.1 ho.2 (hn.mono (ab n)) (hd.mono (ab d))
  simp only [toList49] at this ⊢
  rw [this]
  exact Ev.now _
theorem Reduced_ev {n d : Int} (hn : Sd n) (hd : Sd d) (hd0 : d ≠ 0) : Ev (fun k => torusref03_Reduced.f k (TX n) (TX d)) (RT (Rat.divInt n d)) := by
 unfold torusref03_Reduced.f
 rw [← TX_zero]
 refine (ev_bind (Compare_ev hd.sz (sz_small (by decide)))).2 ?_
 rw [Int.sub_zero]
 by_cases h : d < 0
 ·simp only [show d.sign < 0 from Int.sign_neg_iff.2 h, if_true]
  refine (ev_bind (Opposite_ev hn.sz)).2 ((ev_bind (Opposite_ev hd.sz)).2 ?_)
  have := reduced_pos hn.neg hd.neg (by omega)
  rwa [Rat.neg_divInt_neg] at this
 ·simp only [show ¬ d.sign < 0 from fun h2 => h (Int.sign_neg_iff.1 h2), if_false]
  exact reduced_pos hn hd (by omega)
theorem fit_l0 {s : ByteArray} {m : Nat} (hs : s.size ≤ 9223372036854775807) (hm : m ≤ 1000) : ∀ (j i : Nat) (d : List Int), i + j = s.size → Ten.Lim d → d.length ≤ m → ∃ z : Int, z.natAbs < 10 ^ m ∧ Ev (fun k => torusref02_Fit.l0 k s (m : Int) d (i : Int)) (TX z) := by
 have fin : ∀ (i : Nat) (d : List Int), Ten.Lim d → d.length ≤ m → ∃ z : Int, z.natAbs < 10 ^ m ∧ Ev (fun k => torusref02_Fit.j1 k s (m : Int) d (i : Int) false) (TX z) := fun i d hl hd => by
  have hz : ∀ b, (sgnd b (Ten.val d)).natAbs < 10 ^ m := fun b => by
   rw [sgnd_abs]
   exact (nd_le m _).1 (Nat.le_trans (nd_val hl) hd)
  by_cases h0 : s.size = 0
  ·refine ⟨_, hz false, ev_succ ?_⟩
   simp only [torusref02_Fit.j1, Bool.false_eq_true, if_false, show ¬ ((s.size : Int) > 0) by omega]
   exact ev_some (text_ev false hl (by omega))
  ·refine ⟨_, hz (bt s 0 == 45), ev_succ ?_⟩
   simp only [torusref02_Fit.j1, Bool.false_eq_true, if_false, show ((s.size : Int) > 0) by omega, show (0 < (s.size : Int)) by omega, if_true]
   exact ev_some (text_ev _ hl (by omega))
 intro j
 induction j with
 |zero =>
  intro i d hi hl hd
  obtain ⟨z, hz, he⟩ := fin i d hl hd
  refine ⟨z, hz, ev_succ ?_⟩
  simp only [torusref02_Fit.l0, show ¬ ((i : Int) < (s.size : Int)) by omega, if_false]
  exact he
 |succ j ih =>
  intro i d hi hl hd
  by_cases hdm : d.length < m
  ·have e1 : wrap64 ((i : Int) + 1) = ((i + 1 : Nat) : Int) := by rw [wrap_id (by omega) (by omega)]; omega
   have p1 : ((i : Int) < (s.size : Int)) := by omega
   have p2 : (0 : Int) ≤ (i : Int) := by omega
   have p3 : decide ((d.length : Int) < (m : Int)) = true := decide_eq_true (by omega)
   by_cases hc : 48 ≤ bt s i ∧ bt s i ≤ 57
   ·obtain ⟨z, hz, he⟩ := ih (i + 1) (d ++ [bt s i - 48]) (by omega) (hl.append (Ten.Lim.cons (by omega) (by omega) Ten.Lim.nil)) (by rw [List.length_append, List.length_singleton]; omega)
    refine ⟨z, hz, ev_succ (ev_succ ?_)⟩
    have e2 : wrap64 (wrap64 (bt s i) - 48) = bt s i - 48 := by rw [wrap_id (a := bt s i) (by omega) (by omega), wrap_id (by omega) (by omega)]
    simp only [torusref02_Fit.l0, torusref02_Fit.j1, p1, p2, p3, e1, e2, if_true, show bt s i ≥ 48 from hc.1, hc.2, show d.length < 17592186044416 by omega]
    exact he
   ·obtain ⟨z, hz, he⟩ := ih (i + 1) d (by omega) hl hd
    refine ⟨z, hz, ev_succ (ev_succ ?_)⟩
    by_cases h1 : bt s i ≥ 48
    ·simp only [torusref02_Fit.l0, torusref02_Fit.j1, p1, p2, p3, e1, if_true, h1, show ¬ bt s i ≤ 57 from fun h => hc ⟨h1, h⟩, if_false]
     exact he
    ·simp only [torusref02_Fit.l0, torusref02_Fit.j1, p1, p2, p3, e1, if_true, h1, if_false]
     exact he
  ·obtain ⟨z, hz, he⟩ := fin i d hl hd
   refine ⟨z, hz, ev_succ ?_⟩
   simp only [torusref02_Fit.l0, show ((i : Int) < (s.size : Int)) by omega, if_true, show decide ((d.length : Int) < (m : Int)) = false from decide_eq_false (by omega)]
   exact he
theorem Fit02_ev {s : ByteArray} {m : Nat} (hs : s.size ≤ 9223372036854775807) (hm : m ≤ 1000) : ∃ z : Int, z.natAbs < 10 ^ m ∧ Ev (fun k => torusref02_Fit.f k s (m : Int)) (TX z) := fit_l0 hs hm s.size 0 [] (by omega) Ten.Lim.nil (by simp)
theorem Fit03_ev {s t : ByteArray} {m : Nat} (hs : s.size ≤ 9223372036854775807) (ht : t.size ≤ 9223372036854775807) (h1 : 1 ≤ m) (hm : m ≤ 1000) : ∃ q : Rat, Lq q m ∧ Ev (fun k => torusref03_Fit.f k s t (m : Int)) (RT q) := by
 obtain ⟨n, hn, en⟩ := Fit02_ev hs hm
 obtain ⟨d, hd, ed⟩ := Fit02_ev ht hm
 have sn : Sd n := by have := (nd_le m _).2 hn; unfold Sd; omega
 have sd : Sd d := by have := (nd_le m _).2 hd; unfold Sd; omega
 have sd' : Sd (d.natAbs : Int) := sd.mono (by omega)
 have o1 : 1 < 10 ^ m := Nat.one_lt_pow (by omega) (by decide)
 by_cases h0 : d = 0
 ·refine ⟨Rat.divInt n 1, lq_div hn o1 h1, ?_⟩
  unfold torusref03_Fit.f
  refine (ev_bind ed).2 ((ev_bind (Positive_ev sd.sz)).2 ?_)
  simp only [toList48, show (d.natAbs : Int) = 0 by omega, if_true]
  refine (ev_bind en).2 ?_
  rw [← TX_one]
  exact ev_some (Reduced_ev sn (Sd.mono (z := d.natAbs + 1) (by unfold Sd; have := (nd_le 1 1).2 (by decide); rw [show ((d.natAbs : Int) + 1).natAbs = 1 by omega]; omega) (by omega)) (by decide))
 ·refine ⟨Rat.divInt n d.natAbs, lq_div hn (by rw [Int.natAbs_natCast]; exact hd) h1, ?_⟩
  unfold torusref03_Fit.f
  refine (ev_bind ed).2 ((ev_bind (Positive_ev sd.sz)).2 ?_)
  simp only [toList48, show ¬ (d.natAbs : Int) = 0 by omega, if_false]
  refine (ev_bind en).2 ?_
  exact ev_some (Reduced_ev sn sd' (by omega))
theorem fit_calls (W : World) {s t : ByteArray} {m : Nat} (hs : s.size ≤ 9223372036854775807) (ht : t.size ≤ 9223372036854775807) (h1 : 1 ≤ m) (hm : m ≤ 1000) : ∃ q : Rat, Lq q m ∧ ∀ W : World, Calls Tryz.prog 18 #[.string s, .string t, .int .i64 (m : Int)] W fun e w' => Below W.heap.size W w' ∧ e = .returned (.string (RT q)) := by
 obtain ⟨q, hq, he⟩ := Fit03_ev hs ht h1 hm
 obtain ⟨k, hk⟩ := he.rounds
 refine ⟨q, hq, fun W => (torusref03_Fit.calls k s t m (RT q) W hk).mono ?_⟩
 rintro e w' ⟨rfl, hb⟩
 exact ⟨hb, rfl⟩
theorem rt_size {q : Rat} (h : lgq q = false) : (RT q).size ≤ 9000000000000 := by
 have h1 : nd q.num.natAbs ≤ 1000 := by
  unfold lgq at h
  have := (Bool.or_eq_false_iff.1 h).1
  unfold Lg at this
  have := of_decide_eq_false this
  omega
 have h2 : nd q.den ≤ 1000 := by
  unfold lgq at h
  have := (Bool.or_eq_false_iff.1 h).2
  unfold Lg at this
  have := of_decide_eq_false this
  rw [Int.natAbs_natCast] at this
  omega
 have l1 := rtx_len_ q.num
 have l2 := rtx_len_ (q.den : Int)
 rw [Int.natAbs_natCast] at l2
 rw [← bytesOf_size, bytesOf_RT]
 unfold rtx
 split
 ·omega
 ·rw [List.length_append, List.length_cons]
  omega
section
variable {x y z : Rat} {a b : Nat}
theorem neg_rt (hx : lgq x = false) (W : World) : Calls Tryz.prog 24 #[.string (RT x)] W fun e w' => Below W.heap.size W w' ∧ e = .returned (.string (RT (-x))) := by
 have := rxneg_calls W (RT x) (rt_size hx)
 rwa [rv_RT hx] at this
end
theorem RT_0 : RT 0 = ⟨#[48]⟩ := RT_zero_iff.2 rfl
theorem lq_zero (k : Nat) : Lq 0 (k + 1) := ⟨Nat.pow_pos (by decide), Nat.one_lt_pow (by omega) (by decide)⟩
theorem sgnI_val (z : Int) : sgnI z = if z < 0 then -1 else if 0 < z then 1 else 0 := by
 unfold sgnI
 rcases Int.lt_trichotomy z 0 with h | h | h
 ·rw [if_pos h, Int.sign_eq_neg_one_of_neg h]
 ·subst h; rfl
 ·rw [if_neg (by omega), if_pos h, Int.sign_eq_one_of_pos h]
theorem rat_sgn (q : Rat) : sgnI q.num = if q < 0 then -1 else if 0 < q then 1 else 0 := by
 rw [sgnI_val]
 have h0 : q < 0 ↔ q.num < 0 := by
  have := Rat.lt_iff q 0
  simpa using this
 have h1 : 0 < q ↔ 0 < q.num := by
  have := Rat.lt_iff 0 q
  simpa using this
 by_cases a : q < 0
 ·rw [if_pos a, if_pos (h0.1 a)]
 ·rw [if_neg a, if_neg (fun h => a (h0.2 h))]
  by_cases b : 0 < q
  ·rw [if_pos b, if_pos (h1.1 b)]
  ·rw [if_neg b, if_neg (fun h => b (h1.2 h))]
section
variable {x y z : Rat}
theorem ends_ss (hx : lgq x = false) (hy : lgq y = false) : ends2 (RT x) (RT y) = some (some x, some y) := by
 unfold ends2
 rw [ev_RT hx, ev_RT hy]
theorem ev_inf : ev ⟨#[105, 110, 102]⟩ = some none := by
 have h : ev infS = some none := by unfold ev; rw [if_pos rfl]
 exact h
theorem cmp_rt (hx : lgq x = false) (hy : lgq y = false) {o : Int} (ho : scmp x y = o) (W : World) : Calls Tryz.prog 29 #[.string (RT x), .string (RT y)] W fun e w' => Below W.heap.size W w' ∧ e = .returned (.int .i64 o) := by
 have := cmpe_calls W (RT x) (RT y) (rt_size hx) (rt_size hy)
 rw [ends_ss hx hy] at this
 simp only [Option.elim, ce_some, ho] at this
 exact this
theorem sign_rt (hx : lgq x = false) {o : Int} (ho : sgnI x.num = o) (W : World) : Calls Tryz.prog 31 #[.string (RT x)] W fun e w' => Below W.heap.size W w' ∧ e = .returned (.int .i64 o) := by
 have := rsgn_calls W (RT x) (rt_size hx)
 rw [rv_RT hx] at this
 simp only [Option.elim, ho] at this
 exact this
end
set_option maxHeartbeats 8000000
set_option maxRecDepth 100000
theorem madeCells_nonInt {z : Array Value} (hz : z.toList.all nonInt = true) (n : Nat) (h0 : 0 < z.size) : (madeCells z n).toList.all nonInt = true := by
 rw [List.all_eq_true] at hz ⊢
 intro x hx
 unfold madeCells at hx
 rw [Array.toList_map, List.mem_map] at hx
 obtain ⟨i, hi, rfl⟩ := hx
 have hlt : i % z.size < z.size := Nat.mod_lt _ h0
 rw [getElem!_pos z _ hlt]
 exact hz _ (by simp)
section
variable {P : Program} {ops : Array Oper} {rest : List Oper} {o : Oper} {a : Act} {Q : Exit → Act → World → Prop} {w0 W : World} {e size base n : Nat}
theorem RowN.makecap (hgd : o.guard = none) (t : TypeId) (x y : Operand) (ho : o.op = .makeSlice t x y) (hx : a.eval x = .int .i64 0) (hy : a.eval y = .int .i64 (n : Int))
  (ht : P.underlying t = some (.slice e)) (z : Value) (bytes : Nat) (hinfo : (P.info? e).map (fun i => (i.zero, i.size, i.bytes)) = some (some z, size, bytes)) (hz : z.cells.size = size) (hzn : z.cells.toList.all nonInt = true) (hs0 : 0 < size) (hb0 : 0 < bytes)
  (hl : n * bytes ≤ 281474976710656) (HB : Below base w0 W) (hbase : base ≤ W.heap.size)
  (h : ∀ g w1, RowN e size base w1 (.slice (some ⟨g, 0, none⟩) 0 n) 0 [] → Below base w0 w1 → IK W w1 → wpList P ops Q rest (a.put o.dst (.slice (some ⟨g, 0, none⟩) 0 n)) w1) : wpList P ops Q (o :: rest) a W := by
 obtain ⟨i0, hi, hzz⟩ := Option.map_eq_some_iff.1 hinfo
 simp only [Prod.mk.injEq] at hzz
 obtain ⟨hz0, hz1, hz2⟩ := hzz
 have hm : n ≤ 281474976710656 := Nat.le_trans (Nat.le_mul_of_pos_right _ hb0) hl
 have hr := run_make (P := P) W t e i0 z ht hi hz0 .i64 .i64 0 (n : Int) (by omega) (by omega)
  (by
   have h3 : ((i0.bytes * n : Nat) : Int) ≤ 281474976710656 := by rw [hz2, Nat.mul_comm]; omega
   rwa [Int.natCast_mul] at h3) (by omega)
 simp only [Int.toNat_zero, Int.toNat_natCast] at hr
 refine Kd.event_run (v := .slice (some ⟨W.heap.size, 0, none⟩) 0 n) (w1 := W.alloc (.cells (madeCells z.cells (n * i0.size)) e)) hgd ?_ (h W.heap.size _ ⟨by simp, .inr ⟨W.heap.size, n, (madeCells z.cells (n * i0.size)).toList, rfl, hbase, ?_, Nat.zero_le _, by simp only [maxLen]; omega, ?_, ?_⟩⟩ (HB.alloc hbase _) (IK.alloc W _))
 ·simp [execOp, ho, hx, hy, hr]
 ·simpa using heap_alloc_new W (.cells (madeCells z.cells (n * i0.size)) e)
 ·simp [size_madeCells, hz1]
 ·rw [List.nil_append]
  exact madeCells_nonInt hzn _ (by omega)
end
def iv (s : ByteArray) : Option Int := (int? (bytesOf s)).bind fun z => if Lg z = true then none else some z
def ivs : List ByteArray → Option (List Int)
 |[] => some []
 |s :: r => match iv s, ivs r with
  |some x, some xs => some (x :: xs)
  |_, _ => none
theorem ivs_snoc : ∀ (l : List ByteArray) (s : ByteArray), ivs (l ++ [s]) = match ivs l, iv s with | some xs, some x => some (xs ++ [x]) | _, _ => none
 |[], s => by rw [List.nil_append, ivs, ivs, ivs]; cases iv s <;> rfl
 |a :: l, s => by
  rw [List.cons_append, ivs, ivs_snoc l s, ivs]
  cases iv a <;> cases ivs l <;> cases iv s <;> rfl
theorem ivs_none : ∀ (l r : List ByteArray) (s : ByteArray), iv s = none → ivs (l ++ s :: r) = none
 |[], r, s, h => by rw [List.nil_append, ivs, h]
 |a :: l, r, s, h => by rw [List.cons_append, ivs, ivs_none l r s h]; cases iv a <;> rfl
theorem ivs_len : ∀ {l : List ByteArray} {xs : List Int}, ivs l = some xs → xs.length = l.length
 |[], xs, h => by cases h; rfl
 |a :: l, xs, h => by
  rw [ivs] at h
  split at h
  next x ys h1 h2 => cases h; rw [List.length_cons, List.length_cons, ivs_len h2]
  ·cases h
structure RawI where
 b : Bool
 A : Option Addr
 n : Nat
 c : Nat
 s : ByteArray
def RawI.cells (r : RawI) : List Value := [.bool r.b, .slice r.A r.n r.c, .string r.s]
def IntOk (W : World) (r : RawI) (z : Int) : Prop := Wh W r.b (.slice r.A r.n r.c) z
def IntsOk (W : World) : List RawI → List ByteArray → List Int → Prop
 |[], [], [] => True
 |r :: rs, s :: ss, x :: xs => (r.s = s ∧ IntOk W r x) ∧ IntsOk W rs ss xs
 |_, _, _ => False
theorem IntsOk.ik {W W' : World} (k : IK W W') : ∀ {rs : List RawI} {ss : List ByteArray} {xs : List Int}, IntsOk W rs ss xs → IntsOk W' rs ss xs
 |[], [], [], h => h
 |r :: rs, s :: ss, x :: xs, h => ⟨⟨h.1.1, Wh.ik h.1.2 k⟩, IntsOk.ik k h.2⟩
 |[], _ :: _, _, h => h.elim
 |[], [], _ :: _, h => h.elim
 |_ :: _, [], _, h => h.elim
 |_ :: _, _ :: _, [], h => h.elim
theorem IntsOk.snoc {W : World} {r : RawI} {s : ByteArray} {x : Int} (hx : r.s = s ∧ IntOk W r x) : ∀ {rs : List RawI} {ss : List ByteArray} {xs : List Int}, IntsOk W rs ss xs → IntsOk W (rs ++ [r]) (ss ++ [s]) (xs ++ [x])
 |[], [], [], h => ⟨hx, trivial⟩
 |a :: rs, c :: ss, b :: xs, h => ⟨h.1, IntsOk.snoc hx h.2⟩
 |[], _ :: _, _, h => h.elim
 |[], [], _ :: _, h => h.elim
 |_ :: _, [], _, h => h.elim
 |_ :: _, _ :: _, [], h => h.elim
def Is_ (rs : List RawI) : List Value := rs.flatMap RawI.cells
theorem Is_snoc (rs : List RawI) (r : RawI) : Is_ (rs ++ [r]) = Is_ rs ++ r.cells := by simp [Is_]
def RdwInv (ls : List ByteArray) (x : Int) (kq : Nat) (xs : List Int) : Prop := 0 ≤ x ∧ x ≤ (ls.length : Int) ∧ (kq : Int) = (ls.length : Int) + 1 - x ∧ ivs (ls.take x.toNat) = some xs
def RI (base : Nat) (ls : List ByteArray) (o : Option (List Int)) (e : Ending) (w' : World) : Prop := match o with
 |none => e = .returned (.tuple #[.slice none 0 0, .bool false])
 |some xs => ∃ g rs cs, e = .returned (.tuple #[.slice (some ⟨g, 0, none⟩) xs.length xs.length, .bool true]) ∧ base ≤ g ∧ w'.heap[g]? = some (.cells (Is_ rs ++ cs).toArray 123 (0, 0)) ∧ (Is_ rs ++ cs).all nonInt = true ∧ IntsOk w' rs ls xs
theorem RdwInv.next {ls : List ByteArray} {x : Int} {kq : Nat} {xs : List Int} {s : ByteArray} {e : Int} (h : RdwInv ls x kq xs) (hx : x < (ls.length : Int)) (hm : ls.length ≤ 1000000) (ht : ls.take (x.toNat + 1) = ls.take x.toNat ++ [s]) (he : iv s = some e) :
  kq - 1 < kq ∧ RdwInv ls (wrap64 (x + 1)) (kq - 1) (xs ++ [e]) ∧ (wrap64 (x + 1)).toNat = x.toNat + 1 := by
 obtain ⟨h1, h2, h3, h4⟩ := h
 have hw : wrap64 (x + 1) = x + 1 := wrap_id (by omega) (by omega)
 rw [hw]
 refine ⟨by omega, ⟨by omega, by omega, by omega, ?_⟩, by omega⟩
 rw [show (x + 1).toNat = x.toNat + 1 by omega, ht, ivs_snoc, h4, he]
theorem icells_one (r : RawI) : ∀ u ∈ r.cells, u.oneCell' = true := by
 intro u hu
 simp only [RawI.cells, List.mem_cons, List.not_mem_nil, or_false] at hu
 rcases hu with rfl | rfl | rfl <;> rfl
theorem rdw_facts {ls : List ByteArray} {s : ByteArray} {x : Int} (HS : ∀ s ∈ ls, s.size ≤ 9000000000000) (x0 : 0 ≤ x) (hx : x < (ls.length : Int)) (hs : s = rdOf ByteArray.empty ls x) : s.size ≤ 9000000000000 ∧ ls.take (x.toNat + 1) = ls.take x.toNat ++ [s] ∧ ∃ r, ls = ls.take x.toNat ++ s :: r := by
 have hl : x.toNat < ls.length := by omega
 have e : s = ls[x.toNat] := by rw [hs]; simp [rdOf, hl]
 subst e
 exact ⟨HS _ (List.getElem_mem hl), by rw [List.take_succ_eq_append_getElem hl], ls.drop (x.toNat + 1), by rw [← List.drop_eq_getElem_cons hl, List.take_append_drop]⟩
theorem wread_calls (w00 : World) {A : Option Addr} {c : Nat} {ls : List ByteArray} (h : Kd.C Kd.string w00 A ls.length ls) (hm : ls.length ≤ 1000000) (hs : ∀ s ∈ ls, s.size ≤ 9000000000000) : Calls Tryz.prog 125 #[.slice A ls.length c] w00 fun e w' => Below w00.heap.size w00 w' ∧ RI w00.heap.size ls (ivs ls) e w' := by
 have D := Aside0.mk h
 have HM := Aside0.mk hm
 have HS := Aside0.mk hs
 have HB := Aside0.mk (Below.refl w00.heap.size w00)
 clear h hm hs
 go_enter Tryz.func125, Tryz.ntmps125
 go_wp2_with (first | (at_make; refine RowN.makecap (w0 := w00) (base := w00.heap.size) (size := 3) (n := ls.length) (by rfl) 119 _ _ (by rfl) (by rfl) (by rfl) Tryz.underlying119 (.agg #[.bool false, .slice none 0 0, .string ByteArray.empty]) 48 info123 rfl (by rfl) (by decide) (by decide) (by have := HM.out; omega) HB.out HB.out.size ?_; intro gm wm ho hb hik; clear HB; have HO := Aside0.mk ho; have HB := Aside0.mk hb; clear ho hb hik))
 go_loopg [4, 14] (ls.length + 1) (fun kq v4 v14 w' => ∃ (x : Int) (rs : List RawI) (xs : List Int) (g cap : Nat), v14 = .int .i64 x ∧ v4 = .slice (some ⟨g, 0, none⟩) x.toNat cap ∧ Aside0 (RdwInv ls x kq xs) ∧ Aside0 (RowN 123 3 w00.heap.size w' (.slice (some ⟨g, 0, none⟩) x.toNat cap) x.toNat (Is_ rs)) ∧ Aside0 (IntsOk w' rs (ls.take x.toNat) xs) ∧ Aside0 (Below w00.heap.size w00 w'))
 case atStart => exact ⟨0, [], [], gm, ls.length, rfl, rfl, ⟨by simp [RdwInv, ivs]⟩, HO, ⟨trivial⟩, HB⟩
 case round =>
  clear HO HB
  obtain ⟨x, rs, xs, g, cap, rfl, rfl, INV, HO, EO, HB⟩ := hrel
  have x0 : 0 ≤ x := INV.out.1
  by_cases hx : x < (ls.length : Int)
  ·have hxb : decide (x < (ls.length : Int)) = true := decide_eq_true hx
   obtain ⟨ad, eA, cA⟩ := Kd.at_string (Kd.C_below D.out HB.out) x x0 hx
   cases eA
   obtain ⟨s, hs⟩ : ∃ s, s = rdOf ByteArray.empty ls x := ⟨_, rfl⟩
   rw [← hs] at cA
   have HSS := Aside0.mk (show s.size ≤ 9000000000000 ∧ ls.take (x.toNat + 1) = ls.take x.toNat ++ [s] ∧ ∃ r, ls = ls.take x.toNat ++ s :: r from rdw_facts HS.out x0 hx hs)
   have HX := Aside0.mk hx
   have hx1 : (0 ≤ x) = True := eq_true x0
   have hx2 : (x < (ls.length : Int)) = True := eq_true hx
   clear hx hs
   have E := Env.start wr
   have fin : iv s = none → ∀ w' : World, Below wr.heap.size wr w' → Below w00.heap.size w00 w' ∧ RI w00.heap.size ls (ivs ls) (.returned (.tuple #[.slice none 0 0, .bool false])) w' := fun h w' hb => by
    obtain ⟨r, hl⟩ := HSS.out.2.2
    rw [hl, ivs_none _ _ _ h]
    exact ⟨HB.out.trans (hb.mono HB.out.size), rfl⟩
   have FIN := Aside0.mk fin
   clear fin
   cases hr : int? (bytesOf s) with
   |none =>
    have HR := Aside0.mk hr
    clear hr
    go_wp2_with (first | ((with_reducible first | refine gate_box (by rfl) ?_ | refine gate_alloc (by rfl) ?_); refine bx_ E ?_; clear E; intro gb wb E; have q := E.cls; (repeat obtain ⟨_, _, q⟩ := q); clear q) | (go_at_call 95; refine env_call E (read_none _ HR.out HSS.out.1) ?_; clear E; rintro e wc E ⟨br, Ar, nr, cr, rfl, hw_⟩; replace E := E.wh hw_; clear hw_; have q := E.cls; (repeat obtain ⟨_, _, q⟩ := q); clear q) | ((with_reducible refine gate_stored (t := 77) (by rfl) ?_); refine st_ (fun ws hs_ => ?_); replace E := Env.pt2 hs_ E; clear hs_; have q := E.cls; (repeat obtain ⟨_, _, q⟩ := q); clear q))
    refine bodyPost_ret (results_list (rs := [.tmp _, .tmp _]) rfl (by simp) (.tmp (.tmp .nil))) rfl ?_
    exact FIN.out (by unfold iv; rw [HR.out]; rfl) _ E.below
   |some z =>
    have HR := Aside0.mk hr
    have HL := Aside0.mk (ln_text hr HSS.out.1)
    cases hg : Lg z with
    |true =>
     have HG := Aside0.mk hg
     clear hr
     go_wp2_with (first | ((with_reducible first | refine gate_box (by rfl) ?_ | refine gate_alloc (by rfl) ?_); refine bx_ E ?_; clear E; intro gb wb E; have q := E.cls; (repeat obtain ⟨_, _, q⟩ := q); clear q) | (go_at_call 95; refine env_call E (read_some _ HR.out HSS.out.1) ?_; clear E; rintro e wc E ⟨br, Ar, nr, cr, rfl, hw_⟩; replace E := E.wh hw_; clear hw_; have q := E.cls; (repeat obtain ⟨_, _, q⟩ := q); clear q) | ((with_reducible refine gate_stored (t := 77) (by rfl) ?_); refine st_ (fun ws hs_ => ?_); replace E := Env.pt2 hs_ E; clear hs_; have q := E.cls; (repeat obtain ⟨_, _, q⟩ := q); clear q) | (go_at_call 142; refine env_call E (long_calls E.getW (HL.out.fits (by omega))) ?_; clear E; rintro e wc E rfl; have q := E.cls; (repeat obtain ⟨_, _, q⟩ := q); clear q))
     refine bodyPost_ret (results_list (rs := [.tmp _, .tmp _]) rfl (by simp) (.tmp (.tmp .nil))) rfl ?_
     exact FIN.out (by unfold iv; rw [HR.out, Option.bind_some, if_pos HG.out]) _ E.below
    |false =>
     have HG := Aside0.mk hg
     have hn := INV.out.next HX.out HM.out HSS.out.2.1 (e := z) (by unfold iv; rw [hr, Option.bind_some, if_neg (by rw [hg]; decide)])
     replace hn := Aside0.mk hn
     clear hr
     go_wp2_with (first | ((with_reducible first | refine gate_box (by rfl) ?_ | refine gate_alloc (by rfl) ?_); refine bx_ E ?_; clear E; intro gb wb E; have q := E.cls; (repeat obtain ⟨_, _, q⟩ := q); clear q) | (go_at_call 95; refine env_call E (read_some _ HR.out HSS.out.1) ?_; clear E; rintro e wc E ⟨br, Ar, nr, cr, rfl, hw_⟩; replace E := E.wh hw_; clear hw_; have q := E.cls; (repeat obtain ⟨_, _, q⟩ := q); clear q) | ((with_reducible refine gate_stored (t := 77) (by rfl) ?_); refine st_ (fun ws hs_ => ?_); replace E := Env.pt2 hs_ E; clear hs_; have q := E.cls; (repeat obtain ⟨_, _, q⟩ := q); clear q) | (go_at_call 142; refine env_call E (long_calls E.getW (HL.out.fits (by omega))) ?_; clear E; rintro e wc E rfl; have q := E.cls; (repeat obtain ⟨_, _, q⟩ := q); clear q) | (at_builtin; refine RowN.append (w0 := w00) (base := w00.heap.size) (n := x.toNat) (xs := Is_ rs) (by rfl) _ _ 119 (.agg #[.bool false, .slice none 0 0, .string ByteArray.empty]) 48 (by rfl) Tryz.underlying119 info123 rfl rfl (by decide) (by decide) (RawI.cells ⟨br, Ar, nr, cr, s⟩) (by rfl) (by rfl) rfl (icells_one _) rfl (HO.out.below E.below) (HB.out.trans (E.below.mono HB.out.size)) (Nat.le_trans HB.out.size E.below.size) (by have := HM.out; have := HX.out; omega) ?_; intro v1 w1 ho hb hik hg; clear hg; rcases ho.2 with ⟨-, h0⟩ | ⟨g', cap', cs', rfl, -⟩; exact absurd h0 (Nat.succ_ne_zero _)))
     go_roundg (gk - 1)
     case measure => exact hn.out.1
     case rel => exact ⟨_, rs ++ [⟨br, Ar, nr, cr, s⟩], _, g', cap', rfl, by rw [hn.out.2.2], ⟨hn.out.2.1⟩, ⟨by rw [hn.out.2.2, Is_snoc]; exact ho⟩, ⟨by rw [hn.out.2.2, HSS.out.2.1]; exact IntsOk.snoc (r := ⟨br, Ar, nr, cr, s⟩) (s := s) (x := z) ⟨rfl, E.getW.ik hik⟩ ((EO.out.ik (IK.below E.below)).ik hik)⟩, ⟨hb⟩⟩
  ·have hxb : decide (x < (ls.length : Int)) = false := decide_eq_false hx
   have e : x.toNat = ls.length := by have := INV.out.2.1; omega
   have hxv : ivs ls = some xs := by have := INV.out.2.2.2; rwa [e, List.take_length] at this
   have hl : xs.length = ls.length := ivs_len hxv
   rw [e] at HO EO ⊢
   rw [List.take_length] at EO
   have HLC := Aside0.mk hl
   have HXV := Aside0.mk hxv
   have hcap : ls.length ≤ cap := by
    rcases HO.out.2 with ⟨h0, -⟩ | ⟨g', cap', cs', h0, -, -, h1, -⟩
    ·cases h0
    ·cases h0; exact h1
   have hel : Tryz.prog.elem 119 = 123 := by kernel_rfl
   have hi1 : (0 : Int) ≤ (ls.length : Int) := by omega
   have hi2 : (ls.length : Int) ≤ (cap : Int) := by omega
   clear hl hxv hx
   go_wp2
   refine bodyPost_ret (results_list (rs := [.tmp _, .tmp _]) rfl (by simp) (.tmp (.tmp .nil))) rfl ?_
   rw [HXV.out]
   rcases HO.out.2 with ⟨h0, -⟩ | ⟨g', cap', cs', h0, h1, h2, -, -, -, h3⟩
   ·cases h0
   ·cases h0
    exact ⟨HB.out, g, rs, cs', by rw [HLC.out]; rfl, h1, h2, h3, EO.out⟩
theorem strings_row (W : World) (t : Nat) (l : List ByteArray) (hl : l.length ≤ maxLen) : Kd.C Kd.string (W.alloc (.cells (l.map Value.string).toArray t (0, 0))) (some ⟨W.heap.size, 0, none⟩) l.length l := by
 refine ⟨rfl, hl, fun _ => ⟨_, rfl, fun j p hp => ⟨[.string p], rfl, rfl, fun i u hu => ?_⟩⟩⟩
 have hi : i = 0 := by
  rcases i with _ | i
  ·rfl
  ·simp at hu
 subst hi
 have hu' : u = .string p := by simpa using hu.symm
 subst hu'
 have := blk_cell (blk_new W (.cells (l.map Value.string).toArray t (0, 0))) j
 simp only [Addr.add_lit, Nat.zero_add, Nat.add_zero]
 rw [show j * Kd.string.sz = j from Nat.mul_one j, this]
 simp [hp]
theorem iv_ln {s : ByteArray} {z : Int} (h : iv s = some z) : Ln z 112 ∧ int? (bytesOf s) = some z := by
 unfold iv at h
 obtain ⟨w, h1, h2⟩ := Option.bind_eq_some_iff.1 h
 split at h2
 ·cases h2
 next hl =>
  cases h2
  exact ⟨ln_short (by simpa using hl), h1⟩
section
variable {w W : World} {rows : List (World → Prop)} {a b : ByteArray} {post : Ending → World → Prop}
theorem ints2_some (E : Env w W rows []) (ha : a.size ≤ 9000000000000) (hb : b.size ≤ 9000000000000) {x y : Int} (hx : iv a = some x) (hy : iv b = some y)
  (h : ∀ g b1 A1 x1 c1 b2 A2 x2 c2 cs w', Env w w' ((fun W => Wh W b1 (.slice A1 x1 c1) x) :: (fun W => Wh W b2 (.slice A2 x2 c2) y) :: rows)
   [(g, .bool b1 :: .slice A1 x1 c1 :: .string a :: .bool b2 :: .slice A2 x2 c2 :: .string b :: cs, 123)] → post (.returned (.tuple #[.slice (some ⟨g, 0, none⟩) 2 2, .bool true])) w') :
  Calls Tryz.prog 125 #[.slice (some ⟨W.heap.size, 0, none⟩) 2 2] (W.alloc (.cells #[.string a, .string b] 22 (0, 0))) post := by
 refine (wread_calls (W.alloc (.cells #[.string a, .string b] 22 (0, 0))) (strings_row W 22 [a, b] (show 2 ≤ maxLen by decide)) (by simp) (by simp [ha, hb])).mono ?_
 rintro e w' ⟨hb', hr⟩
 have hi : ivs [a, b] = some [x, y] := by simp [ivs, hx, hy]
 rw [hi] at hr
 obtain ⟨g, rs, cs, rfl, hg, hh, hall, he⟩ := hr
 obtain ⟨r1, r2, rfl⟩ : ∃ r1 r2, rs = [r1, r2] := by
  rcases rs with _ | ⟨r1, _ | ⟨r2, _ | ⟨r3, rs⟩⟩⟩
  ·exact he.elim
  ·exact he.2.elim
  ·exact ⟨r1, r2, rfl⟩
  ·exact he.2.2.elim
 have h1 : r1.s = a ∧ Wh w' r1.b (.slice r1.A r1.n r1.c) x := he.1
 have h2 : r2.s = b ∧ Wh w' r2.b (.slice r2.A r2.n r2.c) y := he.2.1
 have E' := (((E.next (below_alloc (Below.refl _ _) _)).next hb').wh h2.2).wh h1.2
 have hcs : Is_ [r1, r2] ++ cs = .bool r1.b :: .slice r1.A r1.n r1.c :: .string a :: .bool r2.b :: .slice r2.A r2.n r2.c :: .string b :: cs := by
  rw [← h1.1, ← h2.1]
  rfl
 rw [hcs] at hh hall
 refine h g r1.b r1.A r1.n r1.c r2.b r2.A r2.n r2.c cs w' ⟨E'.below, E'.rows, ⟨⟨?_, hh, hall, fun b hb => by cases hb⟩, trivial⟩⟩
 have := E.below.size
 have h3 : W.heap.size ≤ (W.alloc (.cells #[.string a, .string b] 22 (0, 0))).heap.size := (below_alloc (Below.refl W.heap.size W) (.cells #[.string a, .string b] 22 (0, 0))).size
 omega
theorem ints1_some (E : Env w W rows []) (ha : a.size ≤ 9000000000000) {x : Int} (hx : iv a = some x)
  (h : ∀ g b1 A1 x1 c1 cs w', Env w w' ((fun W => Wh W b1 (.slice A1 x1 c1) x) :: rows) [(g, .bool b1 :: .slice A1 x1 c1 :: .string a :: cs, 123)] → post (.returned (.tuple #[.slice (some ⟨g, 0, none⟩) 1 1, .bool true])) w') :
  Calls Tryz.prog 125 #[.slice (some ⟨W.heap.size, 0, none⟩) 1 1] (W.alloc (.cells #[.string a] 22 (0, 0))) post := by
 refine (wread_calls (W.alloc (.cells #[.string a] 22 (0, 0))) (strings_row W 22 [a] (show 1 ≤ maxLen by decide)) (by simp) (by simp [ha])).mono ?_
 rintro e w' ⟨hb', hr⟩
 have hi : ivs [a] = some [x] := by simp [ivs, hx]
 rw [hi] at hr
 obtain ⟨g, rs, cs, rfl, hg, hh, hall, he⟩ := hr
 obtain ⟨r1, rfl⟩ : ∃ r1, rs = [r1] := by
  rcases rs with _ | ⟨r1, _ | ⟨r2, rs⟩⟩
  ·exact he.elim
  ·exact ⟨r1, rfl⟩
  ·exact he.2.elim
 have h1 : r1.s = a ∧ Wh w' r1.b (.slice r1.A r1.n r1.c) x := he.1
 have E' := ((E.next (below_alloc (Below.refl _ _) _)).next hb').wh h1.2
 have hcs : Is_ [r1] ++ cs = .bool r1.b :: .slice r1.A r1.n r1.c :: .string a :: cs := by
  rw [← h1.1]
  rfl
 rw [hcs] at hh hall
 refine h g r1.b r1.A r1.n r1.c cs w' ⟨E'.below, E'.rows, ⟨⟨?_, hh, hall, fun b hb => by cases hb⟩, trivial⟩⟩
 have := E.below.size
 have h3 : W.heap.size ≤ (W.alloc (.cells #[.string a] 22 (0, 0))).heap.size := (below_alloc (Below.refl W.heap.size W) (.cells #[.string a] 22 (0, 0))).size
 omega
end
theorem wcmp_calls (W : World) {a b : ByteArray} {x y : Int} (ha : iv a = some x) (hb : iv b = some y) (hsa : a.size ≤ 9000000000000) (hsb : b.size ≤ 9000000000000) : Calls Tryz.prog 126 #[.string a, .string b] W fun e w' => Below W.heap.size W w' ∧ e = .returned (.int .i64 (sgnI (x - y))) := by
 have E := Env.start W
 have HSA := Aside0.mk hsa
 have HSB := Aside0.mk hsb
 have HX := Aside0.mk ha
 have HY := Aside0.mk hb
 have LX := Aside0.mk (iv_ln ha).1
 have LY := Aside0.mk (iv_ln hb).1
 clear ha hb hsa hsb
 go_enter Tryz.func126, Tryz.ntmps126
 go_wp2_with (first | (go_at_call 125; refine ints2_some E HSA.out HSB.out HX.out HY.out ?_; clear E; rintro g b1 A1 x1 c1 b2 A2 x2 c2 cs wc E; have q := E.cls; (repeat obtain ⟨_, _, q⟩ := q); clear q) | (refine start_ (id := 4) (n := 10) (S := fun w' => Cls w' _) (ds := []) (bz 10 0) (by kernel_rfl) rfl rfl E.draw.cls (fun hH => ?_); replace E := E.draw; refine pu_ 0 (some 16) (bz 10 1) ?_; refine pu_ 1 (some 17) (bz 10 3) ?_; refine pu_ 2 (some 18) (bz 10 7) ?_; refine pu_ 4 (some 20) (bz 10 23) ?_; refine pu_ 5 (some 21) (bz 10 55) ?_; refine pu_ 6 (some 22) (bz 10 119) ?_; refine ta_ 3 (some 19) (bz 10 127) hH ?_; refine ta_ 7 (some 23) (bz 10 255) hH ?_; refine on_ 8 (some 24) (bz 10 511) (fun K hK => ?_); refine gs_ Tryz.func141 ?_; refine env_call E (cmp_calls E.getW E.getW) ?_; clear E; rintro e wc E rfl; refine ⟨_, rfl, ?_⟩; refine hK.out _ _ E.cls (fun hH => ?_); clear hK K; refine nm_ (some 24) ?_; refine pu_ 9 (some 4) (bz 10 1023) ?_; refine done_ (by kernel_rfl) ?_; all_goals (have q := E.cls; (repeat obtain ⟨_, _, q⟩ := q); clear q)))
 go_ret
 exact ⟨E.below, rfl⟩
theorem wabs_calls (W : World) {a : ByteArray} {x : Int} (ha : iv a = some x) (hsa : a.size ≤ 9000000000000) : Calls Tryz.prog 76 #[.string a] W fun e w' => Below W.heap.size W w' ∧ e = .returned (.string (TX x.natAbs)) := by
 have E := Env.start W
 have HSA := Aside0.mk hsa
 have HX := Aside0.mk ha
 have LX := Aside0.mk (iv_ln ha).1
 have TXE := Aside0.mk (int?_TX (iv_ln ha).2)
 clear ha hsa
 by_cases h : sgnI x < 0
 ·have hb : decide (sgnI x < 0) = true := decide_eq_true h
  go_enter Tryz.func76, Tryz.ntmps76
  go_wp2_with (first | (go_at_call 125; refine ints1_some E HSA.out HX.out ?_; clear E; rintro g b1 A1 x1 c1 cs wc E; have q := E.cls; (repeat obtain ⟨_, _, q⟩ := q); clear q) | (go_at_call 84; refine env_call E (sign_calls E.getW) ?_; clear E; rintro e wc E rfl; have q := E.cls; (repeat obtain ⟨_, _, q⟩ := q); clear q) | (go_at_call 86; refine env_call E (neg_calls E.getW) ?_; clear E; rintro e wc E ⟨br, Ar, nr, cr, rfl, hw_⟩; replace E := E.wh hw_; clear hw_; have q := E.cls; (repeat obtain ⟨_, _, q⟩ := q); clear q) | (go_at_call 114; refine env_call E (text_calls E.getW (LX.out.neg.mono (by omega))) ?_; clear E; rintro e wc E rfl; have q := E.cls; (repeat obtain ⟨_, _, q⟩ := q); clear q))
  go_ret
  have hx : x < 0 := (sgnI_neg x).1 h
  exact ⟨E.below, by rw [show (x.natAbs : Int) = -x by omega]; rfl⟩
 ·have hb : decide (sgnI x < 0) = false := decide_eq_false h
  go_enter Tryz.func76, Tryz.ntmps76
  go_wp2_with (first | (go_at_call 125; refine ints1_some E HSA.out HX.out ?_; clear E; rintro g b1 A1 x1 c1 cs wc E; have q := E.cls; (repeat obtain ⟨_, _, q⟩ := q); clear q) | (go_at_call 84; refine env_call E (sign_calls E.getW) ?_; clear E; rintro e wc E rfl; have q := E.cls; (repeat obtain ⟨_, _, q⟩ := q); clear q))
  go_ret
  have hx : ¬ x < 0 := fun h2 => absurd ((sgnI_neg x).2 h2) (by omega)
  exact ⟨E.below, by rw [show (x.natAbs : Int) = x by omega, ← TXE.out]; rfl⟩
attribute [local go_sem] max2_int min2_int max_two min_two max_three min_three max_four min_four
set_option linter.unusedVariables false
set_option linter.unusedSimpArgs false
mutual
def torusref02_Times.j0 : Nat → ByteArray → ByteArray → Int → Int → Bool → Option (ByteArray)
 |0, _, _, _, _, _ => none
 |k + 1, x0, x1, x5, x7, x30 => if x30 = true then ((torusref02_Number.f k (wrap64 (x5 * x7))).bind fun t1227 => (some t1227)) else ((torusref02_digits.f k x0).bind fun bt1228 => ((torusref02_digits.f k x1).bind fun bt1232 => (if 0 ≤ (wrap64 ((wrap64 ((bt1228.2.length : Int) + (bt1232.2.length : Int))) + 1)) then (if (wrap64 ((wrap64 ((bt1228.2.length : Int) + (bt1232.2.length : Int))) + 1) : Int).toNat ≤ 35184372088832 then (torusref02_Times.l0 k bt1228.1 bt1228.2 bt1232.1 bt1232.2 (List.replicate (wrap64 ((wrap64 ((bt1228.2.length : Int) + (bt1232.2.length : Int))) + 1) : Int).toNat 0) 0) else (none)) else (none))))
def torusref02_Times.l0 : Nat → Bool → List Int → Bool → List Int → List Int → Int → Option (ByteArray)
 |0, _, _, _, _, _, _ => none
 |k + 1, x9, x10, x11, x12, x13, x14 => if x14 < (x10.length : Int) then (torusref02_Times.l1 k x9 x10 x11 x12 x13 x14 0) else (torusref02_Times.l2 k x9 x11 x13 0)
def torusref02_Times.l1 : Nat → Bool → List Int → Bool → List Int → List Int → Int → Int → Option (ByteArray)
 |0, _, _, _, _, _, _, _ => none
 |k + 1, x9, x10, x11, x12, x13, x14, x15 => if x15 < (x12.length : Int) then (if 0 ≤ (wrap64 (x14 + x15)) then (if (wrap64 (x14 + x15)) < (x13.length : Int) then (if 0 ≤ x14 then (if x14 < (x10.length : Int) then (if 0 ≤ x15 then (torusref02_Times.l1 k x9 x10 x11 x12 (x13.set ((wrap64 (x14 + x15)) : Int).toNat (wrap64 ((rd x13 (wrap64 (x14 + x15))) + (wrap64 ((rd x10 x14) * (rd x12 x15)))))) x14 (wrap64 (x15 + 1))) else (none)) else (none)) else (none)) else (none)) else (none)) else (torusref02_Times.l0 k x9 x10 x11 x12 x13 (wrap64 (x14 + 1)))
def torusref02_Times.l2 : Nat → Bool → Bool → List Int → Int → Option (ByteArray)
 |0, _, _, _, _ => none
 |k + 1, x9, x11, x13, x16 => if (wrap64 (x16 + 1)) < (x13.length : Int) then (if 0 ≤ (wrap64 (x16 + 1)) then (if 0 ≤ x16 then (if x16 < (x13.length : Int) then ((some (x13.set ((wrap64 (x16 + 1)) : Int).toNat (wrap64 ((rd x13 (wrap64 (x16 + 1))) + (wrap64 (Int.tdiv (rd x13 x16) 10)))) : List Int)).bind fun y1245 => (torusref02_Times.l2 k x9 x11 (y1245.set (x16 : Int).toNat (Int.tmod (rd y1245 x16) 10)) (wrap64 (x16 + 1)))) else (none)) else (none)) else (none)) else ((torusref02_text.f k (x9 != x11) x13).bind fun t1248 => (some t1248))
end
def torusref02_Times.f (k : Nat) (a0 : ByteArray) (a1 : ByteArray) : Option (ByteArray) := (torusref02_short.f k a0).bind fun bt1223 => ((torusref02_short.f k a1).bind fun bt1225 => (if bt1223.2 = true then (torusref02_Times.j0 k a0 a1 bt1223.1 bt1225.1 bt1225.2) else (torusref02_Times.j0 k a0 a1 bt1223.1 bt1225.1 false)))
def torusref02_Times.T14 : Bool × List (List Nat × List Nat) := (true, [([], []), ([], []), ([], []), ([1, 2], [1, 2]), ([], []), ([], []), ([], []), ([5, 6], [5, 6]), ([4, 7], [4, 7]), ([8], [8]), ([], []), ([], []), ([10, 11], [10, 11]), ([12], [12]), ([], []), ([], []), ([14, 15], [14, 15]), ([16], [16]), ([13, 17], [13, 17]), ([9, 18], [9, 18]), ([0, 3, 0, 1, 2, 3, 4, 5, 6, 7, 8, 9, 10, 11, 12, 13, 14, 15, 16, 17, 18, 19], [0, 3]), ([20, 19, 0, 1, 2, 3, 4, 5, 6, 7, 8, 9, 10, 11, 12, 13, 14, 15, 16, 17, 18, 19], [19, 20])])
def torusref02_Times.B14 : List Nat := [0, 0, 0, 6, 0, 0, 0, 96, 240, 496, 0, 0, 3072, 7168, 0, 0, 49152, 114688, 261120, 524272, 1048575, 2097151]
theorem torusref02_Times.tab14 : rtab .any (opsOf Tryz.f129 14) = torusref02_Times.T14 := by kernel_rfl
theorem torusref02_Times.bits14 : waitsOk torusref02_Times.T14.2 torusref02_Times.B14 = true := by kernel_rfl
def torusref02_Times.T18 : Bool × List (List Nat × List Nat) := (true, [([], []), ([], []), ([1], [1]), ([], []), ([], []), ([4], [4]), ([3, 5], [3, 5]), ([6], [6]), ([], []), ([], []), ([8, 9], [8, 9]), ([10], [10]), ([11], [11]), ([7, 12], [7, 12]), ([0, 2, 0, 1, 2, 3, 4, 5, 6, 7, 8, 9, 10, 11, 12, 13], [0, 2]), ([14, 13, 0, 1, 2, 3, 4, 5, 6, 7, 8, 9, 10, 11, 12, 13], [13, 14])])
def torusref02_Times.B18 : List Nat := [0, 0, 2, 0, 0, 16, 56, 120, 0, 0, 768, 1792, 3840, 8184, 16383, 32767]
theorem torusref02_Times.tab18 : rtab .any (opsOf Tryz.f129 18) = torusref02_Times.T18 := by kernel_rfl
theorem torusref02_Times.bits18 : waitsOk torusref02_Times.T18.2 torusref02_Times.B18 = true := by kernel_rfl
set_option maxHeartbeats 8000000 in
set_option maxRecDepth 100000 in
theorem torusref02_Times.calls (k : Nat) (a0 : ByteArray) (a1 : ByteArray) (r : ByteArray) (w : World) (h : torusref02_Times.f k a0 a1 = some r) :
  Calls Tryz.prog 129 #[.string a0, .string a1] w fun e w' => e = .returned (.string r) ∧ Below w.heap.size w w' := by
 have HB := Aside0.mk (Below.refl w.heap.size w)
 have H : ((torusref02_short.f k a0).bind fun bt1223 => ((torusref02_short.f k a1).bind fun bt1225 => (if bt1223.2 = true then (torusref02_Times.j0 k a0 a1 bt1223.1 bt1225.1 bt1225.2) else (torusref02_Times.j0 k a0 a1 bt1223.1 bt1225.1 false)))) = some r := h
 clear h
 replace H := Option.bind_eq_some_iff.mp H
 obtain ⟨⟨t1223, t1224⟩, A30, H⟩ := H
 dsimp only at H
 have A3 := Aside0.mk A30
 clear A30
 replace H := Option.bind_eq_some_iff.mp H
 obtain ⟨⟨t1225, t1226⟩, A40, H⟩ := H
 dsimp only at H
 have A4 := Aside0.mk A40
 clear A40
 have HC5 := Aside0.mk H
 clear H
 go_enter Tryz.func129, Tryz.ntmps129
 go_upto_region 3 with (first | ((with_reducible refine gate_callee (f := 163) rfl ?_); refine goesL_ (some 19) rfl rfl Tryz.func163 (by kernel_rfl) rfl #[.string a0] rfl ag_ ?_; (with_reducible refine (torusref02_short.calls k a0 t1223 t1224 _ A3.out).mono ?_); rintro e w' ⟨rfl, ⟨nd, rfl⟩⟩; refine ⟨_, rfl, ?_⟩) | ((with_reducible refine gate_callee (f := 163) rfl ?_); refine goesL_ (some 24) rfl rfl Tryz.func163 (by kernel_rfl) rfl #[.string a1] rfl ag_ ?_; (with_reducible refine (torusref02_short.calls k a1 t1225 t1226 _ A4.out).mono ?_); rintro e w' ⟨rfl, ⟨nd, rfl⟩⟩; refine ⟨_, rfl, ?_⟩))
 (try simp only [Act.put, List.setIfInBounds_toArray, List.set_cons_zero, List.set_cons_succ])
 go_cut [30] (fun v30 wc => ∃ (kq : Nat) (x30_4 : Bool), v30 = .bool x30_4 ∧ Aside0 (torusref02_Times.j0 kq a0 a1 t1223 t1225 x30_4 = some r) ∧ Aside0 (kq ≤ k) ∧ Aside0 (Below w.heap.size w wc))
 case first =>
  have H := HC5.out
  clear HC5
  by_cases c6 : t1224 = true
  ·subst c6
   rw [if_pos rfl] at H
   have H' := Aside0.mk H
   clear H
   go_wp2
   go_meet
   case rel => exact ⟨_, (t1226), sd_, H', ⟨by first | omega | exact Nat.le_refl _⟩, ⟨bw_⟩⟩
  ·replace c6 := Bool.eq_false_iff.mpr c6
   subst c6
   rw [if_neg (show ¬ (false = true) by decide)] at H
   have H' := Aside0.mk H
   clear H
   go_wp2
   go_meet
   case rel => exact ⟨_, (false), sd_, H', ⟨by first | omega | exact Nat.le_refl _⟩, ⟨bw_⟩⟩
 case rest =>
  clear HC5
  try clear c1
  try clear p2
  try clear c6
  obtain ⟨kq, x30_4, rfl, HA, HJ4, HB⟩ := hcut
  cases kq with
  |zero => exact absurd HA.out (by simp [torusref02_Times.j0])
  |succ kj4 =>
   have H := HA.out
   clear HA
   simp only [torusref02_Times.j0] at H
   by_cases c7 : x30_4 = true
   ·subst c7
    rw [if_pos rfl] at H
    replace H := Option.bind_eq_some_iff.mp H
    obtain ⟨t1227, A80, H⟩ := H
    have A8 := Aside0.mk A80
    clear A80
    obtain rfl := Option.some.inj H
    go_wp2_with (first | ((with_reducible refine gate_callee (f := 109) rfl ?_); refine goesL_ (some 34) rfl rfl Tryz.func109 (by kernel_rfl) rfl #[.int .i64 (wrap64 (t1223 * t1225))] rfl ag_ ?_; (with_reducible refine (torusref02_Number.calls kj4 (wrap64 (t1223 * t1225)) t1227 _ A8.out).mono ?_); rintro e w9 ⟨rfl, hb⟩; refine ⟨_, rfl, ?_⟩; have n0_ := Aside0.mk (below_step bw_ hb); clear HB; have HB := n0_; clear n0_; (try clear hb); (try clear hb2); (try clear hk); (try clear hi)))
    go_ret
    exact ⟨by first | rfl | (simp [errW_none, errW_some] <;> rfl) | (simp [*, errW_none, errW_some] <;> rfl), bw_⟩
   ·replace c7 := Bool.eq_false_iff.mpr c7
    subst c7
    rw [if_neg (show ¬ (false = true) by decide)] at H
    replace H := Option.bind_eq_some_iff.mp H
    obtain ⟨⟨t1228, t1229⟩, A100, H⟩ := H
    dsimp only at H
    have A10 := Aside0.mk A100
    clear A100
    replace H := Option.bind_eq_some_iff.mp H
    obtain ⟨⟨t1232, t1233⟩, A110, H⟩ := H
    dsimp only at H
    have A11 := Aside0.mk A110
    clear A110
    obtain ⟨ji12, hji12⟩ : ∃ j_ : Int, (wrap64 ((wrap64 ((t1229.length : Int) + (t1233.length : Int))) + 1)) = j_ := ⟨_, rfl⟩
    replace H : (if 0 ≤ (ji12) then (if (ji12 : Int).toNat ≤ 35184372088832 then (torusref02_Times.l0 kj4 t1228 t1229 t1232 t1233 (List.replicate (ji12 : Int).toNat 0) 0) else (none)) else (none)) = some r := by first | (rw [hji12] at H; exact H) | (simp only [hji12] at H ⊢; exact H)
    (try rw [hji12] at A10)
    (try rw [hji12] at A11)
    have hji12w : (IntKind.i64.wrap ((wrap64 ((t1229.length : Int) + (t1233.length : Int))) + 1)) = ji12 := (i64_w _).trans hji12
    by_cases c13 : 0 ≤ (ji12)
    ·rw [if_pos c13] at H
     have c13b0 := eq_true c13
     have c13b1 : decide (0 ≤ (ji12)) = true := decide_eq_true c13
     clear c13
     by_cases c14 : (ji12 : Int).toNat ≤ 35184372088832
     ·rw [if_pos c14] at H
      have c14b0 := eq_true c14
      have c14b1 : decide ((ji12 : Int).toNat ≤ 35184372088832) = true := decide_eq_true c14
      clear c14
      obtain ⟨y1236, hy1236⟩ : ∃ y_ : List Int, y_ = (List.replicate (ji12 : Int).toNat 0) := ⟨_, rfl⟩
      replace H : (torusref02_Times.l0 kj4 t1228 t1229 t1232 t1233 y1236 0) = some r := by first | (rw [hy1236]; with_reducible exact H) | (have H2_ := (Option.bind_some _ _).symm.trans H; rw [hy1236]; with_reducible exact H2_) | (have H2_ := (Option.bind_some _ _).symm.trans H; with_reducible exact H2_) | with_reducible exact H | (rw [hy1236]; exact H) | exact H
      have Ny1236 := Aside0.mk hy1236
      clear hy1236
      have H' := Aside0.mk H
      clear H
      go_wp2_with (first | ((with_reducible refine gate_callee (f := 156) rfl ?_); refine goesL_ (some 37) rfl rfl Tryz.func156 (by kernel_rfl) rfl #[.string a0] rfl ag_ ?_; (with_reducible refine (torusref02_digits.calls kj4 a0 t1228 t1229 _ A10.out).mono ?_); rintro e w15 ⟨v1230, rfl, ho0, hb⟩; refine ⟨_, rfl, ?_⟩; have n0_ := Aside0.mk (Kd.V_lower (Kd.V_mono (ok' := fun k_ => True) ho0 (fun k_ hk_ => trivial)) (below_size bw_)); have n1_ := Aside0.mk (below_step bw_ hb); clear HB; have HO1231 := n0_; have HB := n1_; clear n0_ n1_; (try clear hb); (try clear hb2); (try clear hk); (try clear hi); (try clear ho0)) | ((with_reducible refine gate_callee (f := 156) rfl ?_); refine goesL_ (some 42) rfl rfl Tryz.func156 (by kernel_rfl) rfl #[.string a1] rfl ag_ ?_; (with_reducible refine (torusref02_digits.calls kj4 a1 t1232 t1233 _ A11.out).mono ?_); rintro e w16 ⟨v1234, rfl, ho0, hb⟩; refine ⟨_, rfl, ?_⟩; have n0_ := Aside0.mk (Kd.V_below (rVa_ HO1231.out) hb); have n1_ := Aside0.mk (Kd.V_lower (Kd.V_mono (ok' := fun k_ => True) ho0 (fun k_ hk_ => trivial)) (below_size bw_)); have n2_ := Aside0.mk (below_step bw_ hb); clear HO1231; clear HB; have HO1231 := n0_; have HO1235 := n1_; have HB := n2_; clear n0_ n1_ n2_; (try clear hb); (try clear hb2); (try clear hk); (try clear hi); (try clear ho0); obtain ⟨Ao17, co17, eo17⟩ := Kd.V_slice HO1231.out; subst eo17; obtain ⟨Ao18, co18, eo18⟩ := Kd.V_slice HO1235.out; subst eo18) | ((with_reducible refine gate_dst (N := 51) rfl ?_); refine Kd.R_make (Kd.int .i64) _ 3 rfl (N := 51) rfl 146 _ _ rfl ji12 rfl rfl Tryz.underlying146 (.int .i64 0) 8 info3 rfl (by decide) (by omega) 0 (ok := fun _ => True) (okp := fun _ => True) rfl (fun _ hk => hk) trivial (of_decide_eq_true as_) (Nat.le_trans (Nat.mul_le_mul_right _ (of_decide_eq_true as_ : ji12.toNat ≤ 35184372088832)) (by omega)) (Below.refl _ _) (Nat.le_refl _) ?_; intro v1237 w19 ho20 hb hg_ hnew_; clear hg_ hnew_; (first | rw [← Ny1236.out] at ho20 | (simp only [Int.reduceToNat] at ho20; rw [← Ny1236.out] at ho20)); have n0_ := Aside0.mk (Kd.V_elder' (rVa_ HO1231.out) (Kd.R_base ho20) hb); have n1_ := Aside0.mk (Kd.V_elder' (rVa_ HO1235.out) (Kd.R_base ho20) hb); have n2_ := Aside0.mk (Kd.R_lower ho20 (below_size bw_)); have n3_ := Aside0.mk (below_step bw_ hb); clear HO1231; clear HO1235; clear HB; have HO1231 := n0_; have HO1235 := n1_; have HO1238 := n2_; have HB := n3_; clear n0_ n1_ n2_ n3_; clear hb ho20))
      go_loopg [14] kj4 (fun kq v14 w' => ∃ (x13_2 : List Int) (x14_2 : Int), v14 = .int .i64 x14_2 ∧ Aside0 (torusref02_Times.l0 kq t1228 t1229 t1232 t1233 x13_2 x14_2 = some r) ∧ Aside0 (kq ≤ kj4) ∧ Aside0 (Kd.V (Kd.int .i64) 3 w' w.heap.size (fun k_ => some k_ ≠ (v1237 : Value).ownBlock) (.slice Ao17 t1229.length co17) t1229) ∧ Aside0 (Kd.V (Kd.int .i64) 3 w' w.heap.size (fun k_ => some k_ ≠ (v1237 : Value).ownBlock) (.slice Ao18 t1233.length co18) t1233) ∧ Aside0 (Kd.R (Kd.int .i64) 3 w' w.heap.size (fun _ => True) v1237 x13_2) ∧ Aside0 (Below w.heap.size w w'))
      case atStart => exact ⟨(y1236), (0), sd_, H', ⟨Nat.le_refl _⟩, ⟨by (with_reducible repeat (first | apply Kd.V_alloc | apply Kd.V_drewN | apply Kd.V_drew)); exact Kd.V_mono HO1231.out (fun _ hk => hk.2)⟩, ⟨by (with_reducible repeat (first | apply Kd.V_alloc | apply Kd.V_drewN | apply Kd.V_drew)); exact Kd.V_mono HO1235.out (fun _ hk => hk.2)⟩, ⟨rRa_ HO1238.out⟩, ⟨bw_⟩⟩
      case round =>
       clear H'
       try clear c1
       try clear p2
       try clear c6
       try clear p6
       try clear c7
       try clear c10
       try clear c12
       try clear c13
       try clear c13b0
       try clear c13b1
       try clear c14
       try clear c14b0
       try clear c14b1
       try clear c15
       try clear c16
       try clear p2
       obtain ⟨x13_2, x14_2, rfl, HA, HK2, HO_10, HO_12, HO_13, HB⟩ := hrel
       cases gk with
       |zero => exact absurd HA.out (by simp [torusref02_Times.l0])
       |succ k2 =>
        have H := HA.out
        clear HA
        simp only [torusref02_Times.l0] at H
        by_cases c21 : x14_2 < (t1229.length : Int)
        ·rw [if_pos c21] at H
         have c21b0 : decide (x14_2 < (t1229.length : Int)) = true := decide_eq_true c21
         clear c21
         have H' := Aside0.mk H
         clear H
         go_wp2
         go_loopg [15] k2 (fun kq v15 w' => ∃ (x13_3 : List Int) (x15_3 : Int), v15 = .int .i64 x15_3 ∧ Aside0 (torusref02_Times.l1 kq t1228 t1229 t1232 t1233 x13_3 x14_2 x15_3 = some r) ∧ Aside0 (kq ≤ k2) ∧ Aside0 (Kd.V (Kd.int .i64) 3 w' w.heap.size (fun k_ => some k_ ≠ (v1237 : Value).ownBlock) (.slice Ao17 t1229.length co17) t1229) ∧ Aside0 (Kd.V (Kd.int .i64) 3 w' w.heap.size (fun k_ => some k_ ≠ (v1237 : Value).ownBlock) (.slice Ao18 t1233.length co18) t1233) ∧ Aside0 (Kd.R (Kd.int .i64) 3 w' w.heap.size (fun _ => True) v1237 x13_3) ∧ Aside0 (Below w.heap.size w w'))
         case atStart => exact ⟨(x13_2), (0), sd_, H', ⟨Nat.le_refl _⟩, ⟨rVa_ HO_10.out⟩, ⟨rVa_ HO_12.out⟩, ⟨rRa_ HO_13.out⟩, ⟨bw_⟩⟩
         case round =>
          clear H'
          try clear c1
          try clear c2
          try clear p2
          try clear c6
          try clear p6
          try clear c7
          try clear c10
          try clear c12
          try clear c13
          try clear c13b0
          try clear c13b1
          try clear c14
          try clear c14b0
          try clear c14b1
          try clear c15
          try clear c16
          try clear c21
          try clear c21b0
          try clear p2
          try clear p6
          obtain ⟨x13_3, x15_3, rfl, HA, HK3, HO_10, HO_12, HO_13, HB⟩ := hrel
          cases gk with
          |zero => exact absurd HA.out (by simp [torusref02_Times.l1])
          |succ k3 =>
           have H := HA.out
           clear HA
           simp only [torusref02_Times.l1] at H
           by_cases c22 : x15_3 < (t1233.length : Int)
           ·rw [if_pos c22] at H
            have c22b0 : decide (x15_3 < (t1233.length : Int)) = true := decide_eq_true c22
            clear c22
            obtain ⟨ji23, hji23⟩ : ∃ j_ : Int, (wrap64 (x14_2 + x15_3)) = j_ := ⟨_, rfl⟩
            replace H : (if 0 ≤ (ji23) then (if (ji23) < (x13_3.length : Int) then (if 0 ≤ x14_2 then (if x14_2 < (t1229.length : Int) then (if 0 ≤ x15_3 then (torusref02_Times.l1 k3 t1228 t1229 t1232 t1233 (x13_3.set ((ji23) : Int).toNat (wrap64 ((rd x13_3 (ji23)) + (wrap64 ((rd t1229 x14_2) * (rd t1233 x15_3)))))) x14_2 (wrap64 (x15_3 + 1))) else (none)) else (none)) else (none)) else (none)) else (none)) = some r := by first | (rw [hji23] at H; exact H) | (simp only [hji23] at H ⊢; exact H)
            have hji23w : (IntKind.i64.wrap (x14_2 + x15_3)) = ji23 := (i64_w _).trans hji23
            by_cases c24 : 0 ≤ (ji23)
            ·rw [if_pos c24] at H
             have c24b0 : decide (0 ≤ (ji23)) = true := decide_eq_true c24
             clear c24
             by_cases c25 : (ji23) < (x13_3.length : Int)
             ·rw [if_pos c25] at H
              have c25b0 : decide ((ji23) < (x13_3.length : Int)) = true := decide_eq_true c25
              clear c25
              by_cases c26 : 0 ≤ x14_2
              ·rw [if_pos c26] at H
               have c26b0 : decide (0 ≤ x14_2) = true := decide_eq_true c26
               clear c26
               by_cases c27 : x14_2 < (t1229.length : Int)
               ·rw [if_pos c27] at H
                have c27b0 : decide (x14_2 < (t1229.length : Int)) = true := decide_eq_true c27
                clear c27
                by_cases c28 : 0 ≤ x15_3
                ·rw [if_pos c28] at H
                 have c28b0 : decide (0 ≤ x15_3) = true := decide_eq_true c28
                 clear c28
                 obtain ⟨y1242, hy1242⟩ : ∃ y_ : List Int, y_ = (x13_3.set ((ji23) : Int).toNat (wrap64 ((rd x13_3 (ji23)) + (wrap64 ((rd t1229 x14_2) * (rd t1233 x15_3)))))) := ⟨_, rfl⟩
                 replace H : (torusref02_Times.l1 k3 t1228 t1229 t1232 t1233 y1242 x14_2 (wrap64 (x15_3 + 1))) = some r := by first | (rw [hy1242]; with_reducible exact H) | (have H2_ := (Option.bind_some _ _).symm.trans H; rw [hy1242]; with_reducible exact H2_) | (have H2_ := (Option.bind_some _ _).symm.trans H; with_reducible exact H2_) | with_reducible exact H | (rw [hy1242]; exact H) | exact H
                 have Ny1242 := Aside0.mk hy1242
                 clear hy1242
                 have H' := Aside0.mk H
                 clear H
                 try go_wp2
                 have n0_ := Aside0.mk (Kd.V_drew HO_10.out)
                 have n1_ := Aside0.mk (Kd.V_drew HO_12.out)
                 have n2_ := Aside0.mk (Kd.R_drew HO_13.out)
                 have n3_ := Aside0.mk (below_drew1 HB.out)
                 clear HO_10
                 clear HO_12
                 clear HO_13
                 clear HB
                 have HO_10 := n0_
                 have HO_12 := n1_
                 have HO_13 := n2_
                 have HB := n3_
                 clear n0_ n1_ n2_ n3_
                 obtain ⟨Ao31, co31, eo31⟩ := Kd.R_slice HO_13.out
                 (first | subst eo31 | (injection eo31 with f1_ f2_ f3_; have f4_ := f1_.symm; have f5_ := f3_.symm; clear f1_ f2_ f3_; subst f4_; subst f5_))
                 have p1239 : 0 ≤ ((ji23) : Int) := of_decide_eq_true as_
                 have q1239 : (ji23) < (x13_3.length : Int) := of_decide_eq_true as_
                 obtain ⟨ad1239, e1239, hx1239_0⟩ := Kd.at_int (Kd.R_reads' HO_13.out).2.2 (ji23) p1239 q1239
                 cases e1239
                 replace p1239 := eq_true p1239
                 replace q1239 := eq_true q1239
                 have p1240 : 0 ≤ (x14_2 : Int) := of_decide_eq_true as_
                 have q1240 : x14_2 < (t1229.length : Int) := of_decide_eq_true as_
                 obtain ⟨ad1240, e1240, hx1240_0⟩ := Kd.at_int (Kd.V_reads' HO_10.out).2.2 x14_2 p1240 q1240
                 cases e1240
                 replace p1240 := eq_true p1240
                 replace q1240 := eq_true q1240
                 have p1241 : 0 ≤ (x15_3 : Int) := of_decide_eq_true as_
                 have q1241 : x15_3 < (t1233.length : Int) := of_decide_eq_true as_
                 obtain ⟨ad1241, e1241, hx1241_0⟩ := Kd.at_int (Kd.V_reads' HO_12.out).2.2 x15_3 p1241 q1241
                 cases e1241
                 replace p1241 := eq_true p1241
                 replace q1241 := eq_true q1241
                 have p29 : 0 ≤ ((ji23) : Int) := of_decide_eq_true as_
                 have q29 : ((ji23) : Int) < ((x13_3.length : Int) : Int) := of_decide_eq_true as_
                 obtain ⟨go29, co29, eo29, gb29, gl29, cl29, HG29⟩ := Kd.R_form HO_13.out (by omega)
                 (first | cases eo29 | (injection eo29 with ea_ en_ ec_; (first | subst ea_ | (injection ea_ with ea_; subst ea_)); subst ec_; clear en_))
                 have GB29 := Aside0.mk gb29
                 have GG29 := Aside0.mk HG29
                 clear gb29 gl29 HG29
                 (first | simp only [add_plain] at hx1239_0 | skip)
                 obtain ⟨hx29_0, hf29_0⟩ := Kd.R_celln 0 HO_13.out ((ji23) : Int) p29 q29
                 replace p29 := eq_true p29
                 replace q29 := eq_true q29
                 have HP32 := Kd.R_putn HO_13.out ((ji23) : Int) (wrap64 ((rd x13_3 (ji23)) + (wrap64 ((rd t1229 x14_2) * (rd t1233 x15_3)))))
                 rw [← Ny1242.out] at HP32
                 have HQ32 := Aside0.mk HP32
                 clear HP32
                 refine start_ (n := 22) (S := fun w' => w'.cell? ⟨go29, ((ji23)).toNat, none⟩ = some (.int .i64 (rd x13_3 (ji23))) ∧ w'.cell? (ad1240.add (x14_2).toNat) = some (.int .i64 (rd t1229 x14_2)) ∧ w'.cell? (ad1241.add (x15_3).toNat) = some (.int .i64 (rd t1233 x15_3))) (ds := [21]) #[false, false, false, false, false, false, false, false, false, false, false, false, false, false, false, false, false, false, false, false, false, false] (by kernel_rfl) rfl rfl ⟨hx1239_0, hx1240_0, hx1241_0⟩ (fun hH => ?_); refine with_tabW torusref02_Times.tab14 torusref02_Times.bits14 (fun HT_ HW_ => ?_)
                 generalize wr.drew = w30 at HO_10 HO_12 HO_13 HB GG29 HQ32 hf29_0 hx1239_0 hx1240_0 hx1241_0 hx29_0 hH ⊢
                 refine pq_ 0 (some 64) #[true, false, false, false, false, false, false, false, false, false, false, false, false, false, false, false, false, false, false, false, false, false] HT_.out ?_
                 refine pq_ 1 (some 65) #[true, true, false, false, false, false, false, false, false, false, false, false, false, false, false, false, false, false, false, false, false, false] HT_.out ?_
                 refine pq_ 2 (some 66) #[true, true, true, false, false, false, false, false, false, false, false, false, false, false, false, false, false, false, false, false, false, false] HT_.out ?_
                 refine pq_ 3 (some 67) #[true, true, true, true, false, false, false, false, false, false, false, false, false, false, false, false, false, false, false, false, false, false] HT_.out ?_
                 refine pq_ 4 (some 68) #[true, true, true, true, true, false, false, false, false, false, false, false, false, false, false, false, false, false, false, false, false, false] HT_.out ?_
                 refine pq_ 5 (some 69) #[true, true, true, true, true, true, false, false, false, false, false, false, false, false, false, false, false, false, false, false, false, false] HT_.out ?_
                 refine pq_ 6 (some 70) #[true, true, true, true, true, true, true, false, false, false, false, false, false, false, false, false, false, false, false, false, false, false] HT_.out ?_
                 refine pq_ 7 (some 71) #[true, true, true, true, true, true, true, true, false, false, false, false, false, false, false, false, false, false, false, false, false, false] HT_.out ?_
                 refine pq_ 8 (some 72) #[true, true, true, true, true, true, true, true, true, false, false, false, false, false, false, false, false, false, false, false, false, false] HT_.out ?_
                 refine pq_ 10 (some 74) #[true, true, true, true, true, true, true, true, true, false, true, false, false, false, false, false, false, false, false, false, false, false] HT_.out ?_
                 refine pq_ 11 (some 75) #[true, true, true, true, true, true, true, true, true, false, true, true, false, false, false, false, false, false, false, false, false, false] HT_.out ?_
                 refine pq_ 12 (some 76) #[true, true, true, true, true, true, true, true, true, false, true, true, true, false, false, false, false, false, false, false, false, false] HT_.out ?_
                 refine pq_ 14 (some 78) #[true, true, true, true, true, true, true, true, true, false, true, true, true, false, true, false, false, false, false, false, false, false] HT_.out ?_
                 refine pq_ 15 (some 79) #[true, true, true, true, true, true, true, true, true, false, true, true, true, false, true, true, false, false, false, false, false, false] HT_.out ?_
                 refine pq_ 16 (some 80) #[true, true, true, true, true, true, true, true, true, false, true, true, true, false, true, true, true, false, false, false, false, false] HT_.out ?_
                 refine take_ (i := 9) (N := some 73) (v := ?_) (a' := ?_) #[true, true, true, true, true, true, true, true, true, true, true, true, true, false, true, true, true, false, false, false, false, false] rfl rfl (take_ofW HT_.out HW_.out (by kernel_rfl)) (fun _ _ _ h => h) (Or.inl ⟨by rfl, ?_⟩) hH ?_ ?_
                 rotate_left
                 ·rintro w' ⟨s0, s1, s2⟩
                  go_simp
                  with_reducible rfl
                 rotate_left
                 ·simp only [Act.put, List.setIfInBounds_toArray, List.set_cons_zero, List.set_cons_succ, i64_w, i32_w]
                  rfl
                 refine take_ (i := 13) (N := some 77) (v := ?_) (a' := ?_) #[true, true, true, true, true, true, true, true, true, true, true, true, true, true, true, true, true, false, false, false, false, false] rfl rfl (take_ofW HT_.out HW_.out (by kernel_rfl)) (fun _ _ _ h => h) (Or.inl ⟨by rfl, ?_⟩) hH ?_ ?_
                 rotate_left
                 ·rintro w' ⟨s0, s1, s2⟩
                  go_simp
                  with_reducible rfl
                 rotate_left
                 ·simp only [Act.put, List.setIfInBounds_toArray, List.set_cons_zero, List.set_cons_succ, i64_w, i32_w]
                  rfl
                 refine take_ (i := 17) (N := some 81) (v := ?_) (a' := ?_) #[true, true, true, true, true, true, true, true, true, true, true, true, true, true, true, true, true, true, false, false, false, false] rfl rfl (take_ofW HT_.out HW_.out (by kernel_rfl)) (fun _ _ _ h => h) (Or.inl ⟨by rfl, ?_⟩) hH ?_ ?_
                 rotate_left
                 ·rintro w' ⟨s0, s1, s2⟩
                  go_simp
                  with_reducible rfl
                 rotate_left
                 ·simp only [Act.put, List.setIfInBounds_toArray, List.set_cons_zero, List.set_cons_succ, i64_w, i32_w]
                  rfl
                 refine pq_ 18 (some 82) #[true, true, true, true, true, true, true, true, true, true, true, true, true, true, true, true, true, true, true, false, false, false] HT_.out ?_
                 refine pq_ 19 (some 83) #[true, true, true, true, true, true, true, true, true, true, true, true, true, true, true, true, true, true, true, true, false, false] HT_.out ?_
                 refine pq_ 20 (some 84) #[true, true, true, true, true, true, true, true, true, true, true, true, true, true, true, true, true, true, true, true, true, false] HT_.out ?_
                 refine last_ (i := 21) (N := none) #[true, true, true, true, true, true, true, true, true, true, true, true, true, true, true, true, true, true, true, true, true, true] rfl rfl (one_of HT_.out (by kernel_rfl)) (by decide) (fun K hK => ?_)
                 refine skip_ (w1 := ?_) (by rfl) rfl ?_ ?_
                 rotate_left
                 ·go_simp
                  rfl
                 refine hK.out _ _ ?_
                 clear hK K
                 refine done_ (done_of HT_.out (by kernel_rfl)) ?_
                 try go_wp2
                 go_roundg k3
                 case measure => have := HJ4.out; have := HK2.out; have := HK3.out; omega
                 case rel => exact ⟨(y1242), (wrap64 (x15_3 + 1)), sd_, H', ⟨by have := HJ4.out; have := HK2.out; have := HK3.out; omega⟩, ⟨by (with_reducible repeat (first | apply Kd.V_alloc | apply Kd.V_drewN | apply Kd.V_drew)); exact Kd.V_mono (Kd.V_far (p := ⟨go29, ((ji23) : Int).toNat, none⟩) (Kd.V_mono HO_10.out (fun k_ hk => (⟨hk, fun e_ => hk (by rw [e_]; rfl)⟩ : _ ∧ k_ ≠ go29))) (fun _ hk => hk.2) (.int .i64 (wrap64 ((rd x13_3 (ji23)) + (wrap64 ((rd t1229 x14_2) * (rd t1233 x15_3))))))) (fun _ hk => hk.1)⟩, ⟨by (with_reducible repeat (first | apply Kd.V_alloc | apply Kd.V_drewN | apply Kd.V_drew)); exact Kd.V_mono (Kd.V_far (p := ⟨go29, ((ji23) : Int).toNat, none⟩) (Kd.V_mono HO_12.out (fun k_ hk => (⟨hk, fun e_ => hk (by rw [e_]; rfl)⟩ : _ ∧ k_ ≠ go29))) (fun _ hk => hk.2) (.int .i64 (wrap64 ((rd x13_3 (ji23)) + (wrap64 ((rd t1229 x14_2) * (rd t1233 x15_3))))))) (fun _ hk => hk.1)⟩, ⟨rRa_ HQ32.out⟩, ⟨by repeat (first | (with_reducible first | exact HB.out | apply below_alloc | apply pw_below_drewN | apply below_drew1 | refine below_set ?_ GB29.out) | exact HB.out)⟩⟩
                ·rw [if_neg c28] at H
                 exact absurd H (by simp)
               ·rw [if_neg c27] at H
                exact absurd H (by simp)
              ·rw [if_neg c26] at H
               exact absurd H (by simp)
             ·rw [if_neg c25] at H
              exact absurd H (by simp)
            ·rw [if_neg c24] at H
             exact absurd H (by simp)
           ·rw [if_neg c22] at H
            have c22b0 : decide (x15_3 < (t1233.length : Int)) = false := decide_eq_false c22
            clear c22
            have H' := Aside0.mk H
            clear H
            go_wp2
            go_roundg k3
            case measure => have := HJ4.out; have := HK2.out; have := HK3.out; omega
            case rel => exact ⟨(x13_3), (wrap64 (x14_2 + 1)), sd_, H', ⟨by have := HJ4.out; have := HK2.out; have := HK3.out; omega⟩, ⟨rVa_ HO_10.out⟩, ⟨rVa_ HO_12.out⟩, ⟨rRa_ HO_13.out⟩, ⟨bw_⟩⟩
        ·rw [if_neg c21] at H
         have c21b0 : decide (x14_2 < (t1229.length : Int)) = false := decide_eq_false c21
         clear c21
         have H' := Aside0.mk H
         clear H
         go_wp2
         go_loopg [16] k2 (fun kq v16 w' => ∃ (x13_3 : List Int) (x16_3 : Int), v16 = .int .i64 x16_3 ∧ Aside0 (torusref02_Times.l2 kq t1228 t1232 x13_3 x16_3 = some r) ∧ Aside0 (kq ≤ k2) ∧ Aside0 (Kd.R (Kd.int .i64) 3 w' w.heap.size (fun _ => True) v1237 x13_3) ∧ Aside0 (Below w.heap.size w w'))
         case atStart => exact ⟨(x13_2), (0), sd_, H', ⟨Nat.le_refl _⟩, ⟨rRa_ HO_13.out⟩, ⟨bw_⟩⟩
         case round =>
          clear H'
          try clear c1
          try clear p1
          try clear q1
          try clear hx1
          try clear c2
          try clear p2
          try clear q2
          try clear hx2
          try clear hf2
          try clear c6
          try clear p6
          try clear c7
          try clear c10
          try clear c12
          try clear p12
          try clear q12
          try clear hx12
          try clear c13
          try clear c13b0
          try clear c13b1
          try clear c14
          try clear c14b0
          try clear c14b1
          try clear c15
          try clear c16
          try clear c21
          try clear c21b0
          try clear c22
          try clear c22b0
          try clear c24
          try clear c24b0
          try clear c25
          try clear c25b0
          try clear c26
          try clear c26b0
          try clear c27
          try clear c27b0
          try clear c28
          try clear c28b0
          try clear p29
          try clear q29
          try clear hx29
          try clear hf29
          try clear hx1239_0
          try clear hx1240_0
          try clear hx1241_0
          try clear hx29_0
          try clear p1239
          try clear p1240
          try clear p1241
          try clear p2
          try clear p29
          try clear p6
          try clear q1239
          try clear q1240
          try clear q1241
          try clear q29
          obtain ⟨x13_3, x16_3, rfl, HA, HK3, HO_13, HB⟩ := hrel
          cases gk with
          |zero => exact absurd HA.out (by simp [torusref02_Times.l2])
          |succ k3 =>
           have H := HA.out
           clear HA
           simp only [torusref02_Times.l2] at H
           by_cases c33 : (wrap64 (x16_3 + 1)) < (x13_3.length : Int)
           ·rw [if_pos c33] at H
            have c33b0 : decide ((wrap64 (x16_3 + 1)) < (x13_3.length : Int)) = true := decide_eq_true c33
            clear c33
            obtain ⟨ji34, hji34⟩ : ∃ j_ : Int, (wrap64 (x16_3 + 1)) = j_ := ⟨_, rfl⟩
            replace H : (if 0 ≤ (ji34) then (if 0 ≤ x16_3 then (if x16_3 < (x13_3.length : Int) then ((some (x13_3.set ((ji34) : Int).toNat (wrap64 ((rd x13_3 (ji34)) + (wrap64 (Int.tdiv (rd x13_3 x16_3) 10)))) : List Int)).bind fun y1245 => (torusref02_Times.l2 k3 t1228 t1232 (y1245.set (x16_3 : Int).toNat (Int.tmod (rd y1245 x16_3) 10)) ji34)) else (none)) else (none)) else (none)) = some r := by first | (rw [hji34] at H; exact H) | (simp only [hji34] at H ⊢; exact H)
            (try rw [hji34] at c33b0)
            have hji34w : (IntKind.i64.wrap (x16_3 + 1)) = ji34 := (i64_w _).trans hji34
            by_cases c35 : 0 ≤ (ji34)
            ·rw [if_pos c35] at H
             have c35b0 : decide (0 ≤ (ji34)) = true := decide_eq_true c35
             clear c35
             by_cases c36 : 0 ≤ x16_3
             ·rw [if_pos c36] at H
              have c36b0 : decide (0 ≤ x16_3) = true := decide_eq_true c36
              clear c36
              by_cases c37 : x16_3 < (x13_3.length : Int)
              ·rw [if_pos c37] at H
               have c37b0 : decide (x16_3 < (x13_3.length : Int)) = true := decide_eq_true c37
               clear c37
               obtain ⟨y1245, hy1245⟩ : ∃ y_ : List Int, y_ = (x13_3.set ((ji34) : Int).toNat (wrap64 ((rd x13_3 (ji34)) + (wrap64 (Int.tdiv (rd x13_3 x16_3) 10))))) := ⟨_, rfl⟩
               replace H : (torusref02_Times.l2 k3 t1228 t1232 (y1245.set (x16_3 : Int).toNat (Int.tmod (rd y1245 x16_3) 10)) ji34) = some r := by first | (rw [hy1245]; with_reducible exact H) | (have H2_ := (Option.bind_some _ _).symm.trans H; rw [hy1245]; with_reducible exact H2_) | (have H2_ := (Option.bind_some _ _).symm.trans H; with_reducible exact H2_) | with_reducible exact H | (rw [hy1245]; exact H) | exact H
               have Ny1245 := Aside0.mk hy1245
               clear hy1245
               obtain ⟨y1247, hy1247⟩ : ∃ y_ : List Int, y_ = (y1245.set (x16_3 : Int).toNat (Int.tmod (rd y1245 x16_3) 10)) := ⟨_, rfl⟩
               replace H : (torusref02_Times.l2 k3 t1228 t1232 y1247 ji34) = some r := by first | (rw [hy1247]; with_reducible exact H) | (have H2_ := (Option.bind_some _ _).symm.trans H; rw [hy1247]; with_reducible exact H2_) | (have H2_ := (Option.bind_some _ _).symm.trans H; with_reducible exact H2_) | with_reducible exact H | (rw [hy1247]; exact H) | exact H
               have Ny1247 := Aside0.mk hy1247
               clear hy1247
               have H' := Aside0.mk H
               clear H
               obtain ⟨Ao40, co40, eo40⟩ := Kd.R_slice HO_13.out
               subst eo40
               try go_wp2
               have n0_ := Aside0.mk (Kd.R_drew HO_13.out)
               have n1_ := Aside0.mk (below_drew1 HB.out)
               clear HO_13
               clear HB
               have HO_13 := n0_
               have HB := n1_
               clear n0_ n1_
               have p1243 : 0 ≤ ((ji34) : Int) := of_decide_eq_true as_
               have q1243 : (ji34) < (x13_3.length : Int) := of_decide_eq_true as_
               obtain ⟨ad1243, e1243, hx1243_0⟩ := Kd.at_int (Kd.R_reads' HO_13.out).2.2 (ji34) p1243 q1243
               cases e1243
               replace p1243 := eq_true p1243
               replace q1243 := eq_true q1243
               have p1244 : 0 ≤ (x16_3 : Int) := of_decide_eq_true as_
               have q1244 : x16_3 < (x13_3.length : Int) := of_decide_eq_true as_
               obtain ⟨ad1244, e1244, hx1244_0⟩ := Kd.at_int (Kd.R_reads' HO_13.out).2.2 x16_3 p1244 q1244
               obtain rfl : ad1243 = ad1244 := (by injection e1244)
               replace p1244 := eq_true p1244
               replace q1244 := eq_true q1244
               have p38 : 0 ≤ ((ji34) : Int) := of_decide_eq_true as_
               have q38 : ((ji34) : Int) < ((x13_3.length : Int) : Int) := of_decide_eq_true as_
               obtain ⟨go38, co38, eo38, gb38, gl38, cl38, HG38⟩ := Kd.R_form HO_13.out (by omega)
               (first | cases eo38 | (injection eo38 with ea_ en_ ec_; (first | subst ea_ | (injection ea_ with ea_; subst ea_)); subst ec_; clear en_))
               have GB38 := Aside0.mk gb38
               have GG38 := Aside0.mk HG38
               clear gb38 gl38 HG38
               (first | simp only [add_plain] at hx1243_0 | skip)
               (first | simp only [add_plain] at hx1244_0 | skip)
               obtain ⟨hx38_0, hf38_0⟩ := Kd.R_celln 0 HO_13.out ((ji34) : Int) p38 q38
               replace p38 := eq_true p38
               replace q38 := eq_true q38
               have HP42 := Kd.R_putn HO_13.out ((ji34) : Int) (wrap64 ((rd x13_3 (ji34)) + (wrap64 (Int.tdiv (rd x13_3 x16_3) 10))))
               rw [← Ny1245.out] at HP42
               have HQ42 := Aside0.mk HP42
               clear HP42
               refine start_ (n := 16) (S := fun w' => w'.cell? ⟨go38, ((ji34)).toNat, none⟩ = some (.int .i64 (rd x13_3 (ji34))) ∧ w'.cell? ⟨go38, (x16_3).toNat, none⟩ = some (.int .i64 (rd x13_3 x16_3))) (ds := [15]) #[false, false, false, false, false, false, false, false, false, false, false, false, false, false, false, false] (by kernel_rfl) rfl rfl ⟨hx1243_0, hx1244_0⟩ (fun hH => ?_); refine with_tabW torusref02_Times.tab18 torusref02_Times.bits18 (fun HT_ HW_ => ?_)
               generalize wr.drew = w41 at HO_13 HB GG38 HQ42 hf38_0 hx1243_0 hx1244_0 hx38_0 hH ⊢
               refine pq_ 0 (some 92) #[true, false, false, false, false, false, false, false, false, false, false, false, false, false, false, false] HT_.out ?_
               refine pq_ 1 (some 93) #[true, true, false, false, false, false, false, false, false, false, false, false, false, false, false, false] HT_.out ?_
               refine pq_ 2 (some 94) #[true, true, true, false, false, false, false, false, false, false, false, false, false, false, false, false] HT_.out ?_
               refine pq_ 3 (some 95) #[true, true, true, true, false, false, false, false, false, false, false, false, false, false, false, false] HT_.out ?_
               refine pq_ 4 (some 96) #[true, true, true, true, true, false, false, false, false, false, false, false, false, false, false, false] HT_.out ?_
               refine pq_ 5 (some 97) #[true, true, true, true, true, true, false, false, false, false, false, false, false, false, false, false] HT_.out ?_
               refine pq_ 6 (some 98) #[true, true, true, true, true, true, true, false, false, false, false, false, false, false, false, false] HT_.out ?_
               refine pq_ 8 (some 100) #[true, true, true, true, true, true, true, false, true, false, false, false, false, false, false, false] HT_.out ?_
               refine pq_ 9 (some 101) #[true, true, true, true, true, true, true, false, true, true, false, false, false, false, false, false] HT_.out ?_
               refine pq_ 10 (some 102) #[true, true, true, true, true, true, true, false, true, true, true, false, false, false, false, false] HT_.out ?_
               refine take_ (i := 7) (N := some 99) (v := ?_) (a' := ?_) #[true, true, true, true, true, true, true, true, true, true, true, false, false, false, false, false] rfl rfl (take_ofW HT_.out HW_.out (by kernel_rfl)) (fun _ _ _ h => h) (Or.inl ⟨by rfl, ?_⟩) hH ?_ ?_
               rotate_left
               ·rintro w' ⟨s0, s1⟩
                go_simp
                with_reducible rfl
               rotate_left
               ·simp only [Act.put, List.setIfInBounds_toArray, List.set_cons_zero, List.set_cons_succ, i64_w, i32_w]
                rfl
               refine take_ (i := 11) (N := some 103) (v := ?_) (a' := ?_) #[true, true, true, true, true, true, true, true, true, true, true, true, false, false, false, false] rfl rfl (take_ofW HT_.out HW_.out (by kernel_rfl)) (fun _ _ _ h => h) (Or.inl ⟨by rfl, ?_⟩) hH ?_ ?_
               rotate_left
               ·rintro w' ⟨s0, s1⟩
                go_simp
                with_reducible rfl
               rotate_left
               ·simp only [Act.put, List.setIfInBounds_toArray, List.set_cons_zero, List.set_cons_succ, i64_w, i32_w]
                rfl
               refine pq_ 12 (some 104) #[true, true, true, true, true, true, true, true, true, true, true, true, true, false, false, false] HT_.out ?_
               refine pq_ 13 (some 105) #[true, true, true, true, true, true, true, true, true, true, true, true, true, true, false, false] HT_.out ?_
               refine pq_ 14 (some 106) #[true, true, true, true, true, true, true, true, true, true, true, true, true, true, true, false] HT_.out ?_
               refine last_ (i := 15) (N := none) #[true, true, true, true, true, true, true, true, true, true, true, true, true, true, true, true] rfl rfl (one_of HT_.out (by kernel_rfl)) (by decide) (fun K hK => ?_)
               refine skip_ (w1 := ?_) (by rfl) rfl ?_ ?_
               rotate_left
               ·go_simp
                rfl
               refine hK.out _ _ ?_
               clear hK K
               refine done_ (done_of HT_.out (by kernel_rfl)) ?_
               have n0_ : Aside0 (Kd.R (Kd.int .i64) 3 (w41.setCell ⟨go38, ((ji34) : Int).toNat, none⟩ (.int .i64 (wrap64 ((rd x13_3 (ji34)) + (wrap64 (Int.tdiv (rd x13_3 x16_3) 10)))))) w.heap.size (fun _ => True) (.slice (some ⟨go38, 0, none⟩) x13_3.length co40) y1245) := ⟨rRa_ HQ42.out⟩
               have n1_ : Aside0 (Below w.heap.size w (w41.setCell ⟨go38, ((ji34) : Int).toNat, none⟩ (.int .i64 (wrap64 ((rd x13_3 (ji34)) + (wrap64 (Int.tdiv (rd x13_3 x16_3) 10))))))) := ⟨by repeat (first | (with_reducible first | exact HB.out | apply below_alloc | apply pw_below_drewN | apply below_drew1 | refine below_set ?_ GB38.out) | exact HB.out)⟩
               (try clear HO_13)
               (try clear HB)
               generalize (w41.setCell ⟨go38, ((ji34) : Int).toNat, none⟩ (.int .i64 (wrap64 ((rd x13_3 (ji34)) + (wrap64 (Int.tdiv (rd x13_3 x16_3) 10)))))) = w43 at n0_ n1_ ⊢
               have HO_13 := n0_
               have HB := n1_
               clear n0_ n1_
               have p1246 : 0 ≤ (x16_3 : Int) := of_decide_eq_true as_
               have q1246 : x16_3 < (y1245.length : Int) := (by have h_ : (x16_3 : Int) < ((x13_3.length : Int) : Int) := of_decide_eq_true as_; first | (have e_ := (Kd.R_reads' HO_13.out).1; omega) | simpa only [Ny1245.out, List.length_set] using h_)
               have ql1246 : ((x16_3 : Int) < ((x13_3.length : Int) : Int)) = True := eq_true (of_decide_eq_true as_)
               obtain ⟨ad1246, e1246, hx1246_0⟩ := Kd.at_int (Kd.R_reads' HO_13.out).2.2 x16_3 p1246 q1246
               obtain rfl : (⟨go38, 0, none⟩ : Addr) = ad1246 := (by injection e1246)
               (first | simp only [add_plain] at hx1246_0 | simp only [add_at] at hx1246_0 | simp only [Addr.add, Nat.zero_add] at hx1246_0 | skip)
               replace p1246 := eq_true p1246
               replace q1246 := eq_true q1246
               have p39 : 0 ≤ (x16_3 : Int) := of_decide_eq_true as_
               have q39 : (x16_3 : Int) < ((x13_3.length : Int) : Int) := of_decide_eq_true as_
               obtain ⟨hx39_0, hf39_0⟩ := Kd.R_celln 0 HO_13.out (x16_3 : Int) p39 q39
               replace p39 := eq_true p39
               replace q39 := eq_true q39
               obtain ⟨hy44_, hz44_⟩ := Kd.R_celln 0 HO_13.out (x16_3 : Int) (of_decide_eq_true as_) (of_decide_eq_true as_)
               have HP44 := Kd.R_putg HO_13.out (x16_3 : Int) (Int.tmod (rd y1245 x16_3) 10)
               try go_wp2_with (first | ((with_reducible refine gate_store (t := 3) (p := 114) rfl ?_); refine store_event (t := 3) (p := 114) (v := ?vo_w45) (w1 := (w43.setCell ⟨go38, (x16_3 : Int).toNat, none⟩ (.int .i64 (Int.tmod (rd y1245 x16_3) 10)))) ?hg ?ho ?hn ?hr ?_; (case ho => rfl); (case hg => rfl); (case hn => rfl); (case hr => first | (go_simp; done) | (go_simp; rfl)); intro w45 hw; have hg : w43.grownBy w45 (some go38) := (by rw [hw]; exact HP44.2); have hp_ : Kd.R (Kd.int .i64) 3 w45 w.heap.size (fun _ => True) (.slice (some ⟨go38, 0, none⟩) x13_3.length co40) y1247 := (by rw [hw, Ny1247.out]; exact HP44.1); clear HP44; have n0_ := Aside0.mk (hp_); have n1_ := Aside0.mk ((by rw [hw]; exact below_set (HB.out) GB38.out : Below w.heap.size w w45)); clear HO_13; clear HB; have HO_13 := n0_; have HB := n1_; clear n0_ n1_; clear hg hw hp_))
               go_roundg k3
               case measure => have := HJ4.out; have := HK2.out; have := HK3.out; omega
               case rel => exact ⟨(y1247), (ji34), (by first | rfl | (simp; done) | (simp only [← hji34] <;> (first | rfl | simp)) | (simp [*]; done)), H', ⟨by have := HJ4.out; have := HK2.out; have := HK3.out; omega⟩, ⟨rRa_ HO_13.out⟩, ⟨bw_⟩⟩
              ·rw [if_neg c37] at H
               exact absurd H (by simp)
             ·rw [if_neg c36] at H
              exact absurd H (by simp)
            ·rw [if_neg c35] at H
             exact absurd H (by simp)
           ·rw [if_neg c33] at H
            have c33b0 : decide ((wrap64 (x16_3 + 1)) < (x13_3.length : Int)) = false := decide_eq_false c33
            clear c33
            replace H := Option.bind_eq_some_iff.mp H
            obtain ⟨t1248, A460, H⟩ := H
            have A46 := Aside0.mk A460
            clear A460
            obtain rfl := Option.some.inj H
            obtain ⟨Ao47, co47, eo47⟩ := Kd.R_slice HO_13.out
            subst eo47
            go_wp2_with (first | ((with_reducible refine gate_callee (f := 157) rfl ?_); refine goesL_ (some 119) rfl rfl Tryz.func157 (by kernel_rfl) rfl #[.bool (t1228 != t1232), .slice Ao47 x13_3.length co47] rfl ag_ ?_; (with_reducible refine (torusref02_text.calls k3 (t1228 != t1232) _ _ x13_3 t1248 _ ?side1 ?side2 A46.out).mono ?_); (case side1 => repeat (first | exact (Kd.R_reads' HO_13.out).2.2 | (with_reducible refine Kd.C_alloc ?_ _) | (with_reducible refine Kd.C_drewN ?_ _) | (with_reducible refine Kd.C_drew ?_))); (case side2 => exact (Kd.R_reads' HO_13.out).2.1); rintro e w48 ⟨rfl, hb⟩; refine ⟨_, rfl, ?_⟩; have n0_ := Aside0.mk (Kd.R_below (rRa_ HO_13.out) hb); have n1_ := Aside0.mk (below_step bw_ hb); clear HO_13; clear HB; have HO_13 := n0_; have HB := n1_; clear n0_ n1_; (try clear hb); (try clear hb2); (try clear hk); (try clear hi)))
            go_ret
            exact ⟨by first | rfl | (simp [errW_none, errW_some] <;> rfl) | (simp only [← hji12]; first | rfl | (simp [errW_none, errW_some] <;> rfl)) | (simp [*, errW_none, errW_some] <;> rfl), bw_⟩
     ·rw [if_neg c14] at H
      exact absurd H (by simp)
    ·rw [if_neg c13] at H
     exact absurd H (by simp)
attribute [local go_sem] max2_int min2_int max_two min_two max_three min_three max_four min_four
set_option linter.unusedVariables false
set_option linter.unusedSimpArgs false
def torusref03_split.l0 : Nat → ByteArray → Int → Option (ByteArray × ByteArray × Bool)
 |0, _, _ => none
 |k + 1, x0, x5 => if x5 < (x0.size : Int) then (if 0 ≤ x5 then (if (bt x0 x5) = 47 then (if x5 ≤ (x0.size : Int) then (if 0 ≤ (wrap64 (x5 + 1)) then (if (wrap64 (x5 + 1)) ≤ (x0.size : Int) then (some (x0.extract 0 (x5 : Int).toNat, x0.extract ((wrap64 (x5 + 1)) : Int).toNat x0.size, true)) else (none)) else (none)) else (none)) else (torusref03_split.l0 k x0 (wrap64 (x5 + 1)))) else (none)) else (some (x0, (⟨#[49]⟩ : ByteArray), false))
def torusref03_split.f (k : Nat) (a0 : ByteArray) : Option (ByteArray × ByteArray × Bool) := torusref03_split.l0 k a0 0
set_option maxHeartbeats 8000000 in
set_option maxRecDepth 100000 in
theorem torusref03_split.calls (k : Nat) (a0 : ByteArray) (r1 : ByteArray) (r2 : ByteArray) (r3 : Bool) (w : World) (h : torusref03_split.f k a0 = some (r1, r2, r3)) :
  Calls Tryz.prog 127 #[.string a0] w fun e w' => e = .returned (.tuple #[.string r1, .string r2, .bool r3]) ∧ Drawn0 w w' := by
 have H : (torusref03_split.l0 k a0 0) = some (r1, r2, r3) := h
 clear h
 have H' := Aside0.mk H
 clear H
 go_enter Tryz.func127, Tryz.ntmps127
 go_wp2
 repeat (go_quiet (fail); try go_wp2)
 go_loopg [5] k (fun kq v5 w' => ∃ (x5_1 : Int), v5 = .int .i64 x5_1 ∧ Aside0 (torusref03_split.l0 kq a0 x5_1 = some (r1, r2, r3)) ∧ Aside0 (kq ≤ k) ∧ Drawn0 w w')
 case atStart => exact ⟨(0), sd_, H', ⟨Nat.le_refl _⟩, dr_⟩
 case round =>
  clear H'
  try clear c1
  obtain ⟨x5_1, rfl, HA, HK1, ⟨m1, rfl⟩⟩ := hrel
  cases gk with
  |zero => exact absurd HA.out (by simp [torusref03_split.l0])
  |succ k1 =>
   have H := HA.out
   clear HA
   simp only [torusref03_split.l0] at H
   by_cases c2 : x5_1 < (a0.size : Int)
   ·rw [if_pos c2] at H
    have c2b0 : decide (x5_1 < (a0.size : Int)) = true := decide_eq_true c2
    clear c2
    by_cases c3 : 0 ≤ x5_1
    ·rw [if_pos c3] at H
     have c3b0 : decide (0 ≤ x5_1) = true := decide_eq_true c3
     clear c3
     by_cases c5 : (bt a0 x5_1) = 47
     ·rw [if_pos c5] at H
      have c5b0 : ((bt a0 x5_1) == 47) = true := beq_iff_eq.mpr c5
      have c5b1 : ((bt a0 x5_1) != 47) = false := bne_eq_false_iff_eq.mpr c5
      clear c5
      have c6b0 := eq_true (of_decide_eq_true as_ : 0 ≤ x5_1)
      by_cases c7 : x5_1 ≤ (a0.size : Int)
      ·rw [if_pos c7] at H
       have c7b0 := eq_true c7
       have c7b1 : decide (x5_1 ≤ (a0.size : Int)) = true := decide_eq_true c7
       clear c7
       obtain ⟨ji8, hji8⟩ : ∃ j_ : Int, (wrap64 (x5_1 + 1)) = j_ := ⟨_, rfl⟩
       replace H : (if 0 ≤ (ji8) then (if (ji8) ≤ (a0.size : Int) then (some (a0.extract 0 (x5_1 : Int).toNat, a0.extract ((ji8) : Int).toNat a0.size, true)) else (none)) else (none)) = some (r1, r2, r3) := by first | (rw [hji8] at H; exact H) | (simp only [hji8] at H ⊢; exact H)
       have hji8w : (IntKind.i64.wrap (x5_1 + 1)) = ji8 := (i64_w _).trans hji8
       by_cases c9 : 0 ≤ (ji8)
       ·rw [if_pos c9] at H
        have c9b0 := eq_true c9
        have c9b1 : decide (0 ≤ (ji8)) = true := decide_eq_true c9
        clear c9
        by_cases c10 : (ji8) ≤ (a0.size : Int)
        ·rw [if_pos c10] at H
         have c10b0 := eq_true c10
         have c10b1 : decide ((ji8) ≤ (a0.size : Int)) = true := decide_eq_true c10
         clear c10
         simp only [Option.some.injEq, Prod.mk.injEq] at H
         obtain ⟨rfl, rfl, rfl⟩ := H
         have p4 : 0 ≤ (x5_1 : Int) := of_decide_eq_true as_
         have q4 : x5_1 < (a0.size : Int) := of_decide_eq_true as_
         have hx4 := bt_at a0 x5_1
         replace p4 := eq_true p4
         replace q4 := eq_true q4
         go_wp2
         repeat (go_quiet (fail); try go_wp2)
         go_ret3
         exact ⟨by first | rfl | (simp; done) | (simp only [← hji8] <;> (first | rfl | simp)) | (simp [*]; done), dr_⟩
        ·rw [if_neg c10] at H
         exact absurd H (by simp)
       ·rw [if_neg c9] at H
        exact absurd H (by simp)
      ·rw [if_neg c7] at H
       exact absurd H (by simp)
     ·rw [if_neg c5] at H
      have c5b0 : ((bt a0 x5_1) == 47) = false := beq_eq_false_iff_ne.mpr c5
      have c5b1 : ((bt a0 x5_1) != 47) = true := bne_iff_ne.mpr c5
      have H' := Aside0.mk H
      clear H
      have p4 : 0 ≤ (x5_1 : Int) := of_decide_eq_true as_
      have q4 : x5_1 < (a0.size : Int) := of_decide_eq_true as_
      have hx4 := bt_at a0 x5_1
      replace p4 := eq_true p4
      replace q4 := eq_true q4
      go_wp2
      repeat (go_quiet (fail); try go_wp2)
      go_roundg k1
      case measure => have := HK1.out; omega
      case rel => exact ⟨(wrap64 (x5_1 + 1)), sd_, H', ⟨by have := HK1.out; omega⟩, dr_⟩
    ·rw [if_neg c3] at H
     exact absurd H (by simp)
   ·rw [if_neg c2] at H
    have c2b0 : decide (x5_1 < (a0.size : Int)) = false := decide_eq_false c2
    clear c2
    simp only [Option.some.injEq, Prod.mk.injEq] at H
    obtain ⟨rfl, rfl, rfl⟩ := H
    go_wp2
    repeat (go_quiet (fail); try go_wp2)
    go_ret3
    exact ⟨sd_, dr_⟩
attribute [local go_sem] max2_int min2_int max_two min_two max_three min_three max_four min_four
set_option linter.unusedVariables false
set_option linter.unusedSimpArgs false
mutual
def torusref03_Compare.j0 : Nat → ByteArray → ByteArray → Bool → Option (Int)
 |0, _, _, _ => none
 |k + 1, x0, x1, x16 => if x16 = true then (some 0) else (if x0.toList = ([105, 110, 102] : List UInt8) then (some 1) else (if x1.toList = ([105, 110, 102] : List UInt8) then (some (-1)) else ((torusref03_split.f k x0).bind fun bt1249 => ((torusref03_split.f k x1).bind fun bt1252 => (if bt1249.2.1.toList = ([49] : List UInt8) then (torusref03_Compare.j1 k bt1249.1 bt1249.2.1 bt1252.1 bt1252.2.1 (bt1252.2.1.toList == ([49] : List UInt8))) else (torusref03_Compare.j1 k bt1249.1 bt1249.2.1 bt1252.1 bt1252.2.1 false))))))
def torusref03_Compare.j1 : Nat → ByteArray → ByteArray → ByteArray → ByteArray → Bool → Option (Int)
 |0, _, _, _, _, _ => none
 |k + 1, x5, x6, x8, x9, x38 => if x38 = true then ((torusref02_Compare.f k x5 x8).bind fun t1255 => (some t1255)) else ((torusref02_Times.f k x5 x9).bind fun t1256 => ((torusref02_Times.f k x8 x6).bind fun t1257 => ((torusref02_Compare.f k t1256 t1257).bind fun t1258 => (some t1258))))
end
def torusref03_Compare.f (k : Nat) (a0 : ByteArray) (a1 : ByteArray) : Option (Int) := if a0.toList = ([105, 110, 102] : List UInt8) then (torusref03_Compare.j0 k a0 a1 (a1.toList == ([105, 110, 102] : List UInt8))) else (torusref03_Compare.j0 k a0 a1 false)
set_option maxHeartbeats 8000000 in
set_option maxRecDepth 100000 in
theorem torusref03_Compare.calls (k : Nat) (a0 : ByteArray) (a1 : ByteArray) (r : Int) (w : World) (h : torusref03_Compare.f k a0 a1 = some r) :
  Calls Tryz.prog 41 #[.string a0, .string a1] w fun e w' => e = .returned (.int .i64 r) ∧ Below w.heap.size w w' := by
 have HB := Aside0.mk (Below.refl w.heap.size w)
 have H : (if a0.toList = ([105, 110, 102] : List UInt8) then (torusref03_Compare.j0 k a0 a1 (a1.toList == ([105, 110, 102] : List UInt8))) else (torusref03_Compare.j0 k a0 a1 false)) = some r := h
 clear h
 have HC3 := Aside0.mk H
 clear H
 go_enter Tryz.func41, Tryz.ntmps41
 go_upto_region 1 with (fail)
 go_cut [16] (fun v16 wc => ∃ (kq : Nat) (x16_2 : Bool), v16 = .bool x16_2 ∧ Aside0 (torusref03_Compare.j0 kq a0 a1 x16_2 = some r) ∧ Aside0 (kq ≤ k) ∧ Aside0 (Below w.heap.size w wc))
 case first =>
  have H := HC3.out
  clear HC3
  by_cases c4 : a0.toList = ([105, 110, 102] : List UInt8)
  ·rw [if_pos c4] at H
   have c4b0 : (a0.toList == ([105, 110, 102] : List UInt8)) = true := beq_iff_eq.mpr c4
   have c4b1 : (a0.toList != ([105, 110, 102] : List UInt8)) = false := bne_eq_false_iff_eq.mpr c4
   clear c4
   (first | rw [c4b0] | (simp only [i64_w, i32_w]; rw [c4b0]) | skip)
   have H' := Aside0.mk H
   clear H
   go_wp2
   go_meet
   case rel => exact ⟨_, ((a1.toList == ([105, 110, 102] : List UInt8))), sd_, H', ⟨by first | omega | exact Nat.le_refl _⟩, ⟨bw_⟩⟩
  ·rw [if_neg c4] at H
   have c4b0 : (a0.toList == ([105, 110, 102] : List UInt8)) = false := beq_eq_false_iff_ne.mpr c4
   have c4b1 : (a0.toList != ([105, 110, 102] : List UInt8)) = true := bne_iff_ne.mpr c4
   (first | rw [c4b0] | (simp only [i64_w, i32_w]; rw [c4b0]) | skip)
   have H' := Aside0.mk H
   clear H
   go_wp2
   go_meet
   case rel => exact ⟨_, (false), sd_, H', ⟨by first | omega | exact Nat.le_refl _⟩, ⟨bw_⟩⟩
 case rest =>
  clear HC3
  try clear p2
  try clear c4
  try clear c4b0
  try clear c4b1
  obtain ⟨kq, x16_2, rfl, HA, HJ2, HB⟩ := hcut
  cases kq with
  |zero => exact absurd HA.out (by simp [torusref03_Compare.j0])
  |succ kj2 =>
   have H := HA.out
   clear HA
   simp only [torusref03_Compare.j0] at H
   by_cases c5 : x16_2 = true
   ·subst c5
    rw [if_pos rfl] at H
    obtain rfl := Option.some.inj H
    go_wp2
    go_ret
    exact ⟨by first | rfl | (simp [errW_none, errW_some] <;> rfl) | (simp [*, errW_none, errW_some] <;> rfl), bw_⟩
   ·replace c5 := Bool.eq_false_iff.mpr c5
    subst c5
    rw [if_neg (show ¬ (false = true) by decide)] at H
    by_cases c6 : a0.toList = ([105, 110, 102] : List UInt8)
    ·rw [if_pos c6] at H
     have c6b0 : (a0.toList == ([105, 110, 102] : List UInt8)) = true := beq_iff_eq.mpr c6
     have c6b1 : (a0.toList != ([105, 110, 102] : List UInt8)) = false := bne_eq_false_iff_eq.mpr c6
     clear c6
     obtain rfl := Option.some.inj H
     go_wp2
     go_ret
     exact ⟨by first | rfl | (simp [errW_none, errW_some] <;> rfl) | (simp [*, errW_none, errW_some] <;> rfl), bw_⟩
    ·rw [if_neg c6] at H
     have c6b0 : (a0.toList == ([105, 110, 102] : List UInt8)) = false := beq_eq_false_iff_ne.mpr c6
     have c6b1 : (a0.toList != ([105, 110, 102] : List UInt8)) = true := bne_iff_ne.mpr c6
     by_cases c7 : a1.toList = ([105, 110, 102] : List UInt8)
     ·rw [if_pos c7] at H
      have c7b0 : (a1.toList == ([105, 110, 102] : List UInt8)) = true := beq_iff_eq.mpr c7
      have c7b1 : (a1.toList != ([105, 110, 102] : List UInt8)) = false := bne_eq_false_iff_eq.mpr c7
      clear c7
      obtain rfl := Option.some.inj H
      go_wp2
      go_ret
      exact ⟨by first | rfl | (simp [errW_none, errW_some] <;> rfl) | (simp [*, errW_none, errW_some] <;> rfl), bw_⟩
     ·rw [if_neg c7] at H
      have c7b0 : (a1.toList == ([105, 110, 102] : List UInt8)) = false := beq_eq_false_iff_ne.mpr c7
      have c7b1 : (a1.toList != ([105, 110, 102] : List UInt8)) = true := bne_iff_ne.mpr c7
      replace H := Option.bind_eq_some_iff.mp H
      obtain ⟨⟨t1249, t1250, t1251⟩, A80, H⟩ := H
      dsimp only at H
      have A8 := Aside0.mk A80
      clear A80
      replace H := Option.bind_eq_some_iff.mp H
      obtain ⟨⟨t1252, t1253, t1254⟩, A90, H⟩ := H
      dsimp only at H
      have A9 := Aside0.mk A90
      clear A90
      have HC10 := Aside0.mk H
      clear H
      go_upto_region 9 with (first | ((with_reducible refine gate_callee (f := 127) rfl ?_); refine goesL_ (some 23) rfl rfl Tryz.func127 (by kernel_rfl) rfl #[.string a0] rfl ag_ ?_; (with_reducible refine (torusref03_split.calls kj2 a0 t1249 t1250 t1251 _ A8.out).mono ?_); rintro e w' ⟨rfl, ⟨nd, rfl⟩⟩; refine ⟨_, rfl, ?_⟩) | ((with_reducible refine gate_callee (f := 127) rfl ?_); refine goesL_ (some 29) rfl rfl Tryz.func127 (by kernel_rfl) rfl #[.string a1] rfl ag_ ?_; (with_reducible refine (torusref03_split.calls kj2 a1 t1252 t1253 t1254 _ A9.out).mono ?_); rintro e w' ⟨rfl, ⟨nd, rfl⟩⟩; refine ⟨_, rfl, ?_⟩))
      (try simp only [Act.put, List.setIfInBounds_toArray, List.set_cons_zero, List.set_cons_succ])
      go_cut [38] (fun v38 wc => ∃ (kq : Nat) (x38_9 : Bool), v38 = .bool x38_9 ∧ Aside0 (torusref03_Compare.j1 kq t1249 t1250 t1252 t1253 x38_9 = some r) ∧ Aside0 (kq ≤ kj2) ∧ Aside0 (Below w.heap.size w wc))
      case first =>
       have H := HC10.out
       clear HC10
       by_cases c11 : t1250.toList = ([49] : List UInt8)
       ·rw [if_pos c11] at H
        have c11b0 : (t1250.toList == ([49] : List UInt8)) = true := beq_iff_eq.mpr c11
        have c11b1 : (t1250.toList != ([49] : List UInt8)) = false := bne_eq_false_iff_eq.mpr c11
        clear c11
        (first | rw [c11b0] | (simp only [i64_w, i32_w]; rw [c11b0]) | skip)
        have H' := Aside0.mk H
        clear H
        go_wp2
        go_meet
        case rel => exact ⟨_, ((t1253.toList == ([49] : List UInt8))), sd_, H', ⟨by have := HJ2.out; first | omega | exact Nat.le_refl _⟩, ⟨bw_⟩⟩
       ·rw [if_neg c11] at H
        have c11b0 : (t1250.toList == ([49] : List UInt8)) = false := beq_eq_false_iff_ne.mpr c11
        have c11b1 : (t1250.toList != ([49] : List UInt8)) = true := bne_iff_ne.mpr c11
        (first | rw [c11b0] | (simp only [i64_w, i32_w]; rw [c11b0]) | skip)
        have H' := Aside0.mk H
        clear H
        go_wp2
        go_meet
        case rel => exact ⟨_, (false), sd_, H', ⟨by have := HJ2.out; first | omega | exact Nat.le_refl _⟩, ⟨bw_⟩⟩
      case rest =>
       clear HC10
       try clear c1
       try clear p2
       try clear c4
       try clear c4b0
       try clear c4b1
       try clear c5
       try clear c6
       try clear c6b0
       try clear c6b1
       try clear c7
       try clear c7b0
       try clear c7b1
       try clear c11
       try clear c11b0
       try clear c11b1
       try clear p2
       obtain ⟨kq, x38_9, rfl, HA, HJ9, HB⟩ := hcut
       cases kq with
       |zero => exact absurd HA.out (by simp [torusref03_Compare.j1])
       |succ kj9 =>
        have H := HA.out
        clear HA
        simp only [torusref03_Compare.j1] at H
        by_cases c12 : x38_9 = true
        ·subst c12
         rw [if_pos rfl] at H
         replace H := Option.bind_eq_some_iff.mp H
         obtain ⟨t1255, A130, H⟩ := H
         have A13 := Aside0.mk A130
         clear A130
         obtain rfl := Option.some.inj H
         go_wp2_with (first | ((with_reducible refine gate_callee (f := 128) rfl ?_); refine goesL_ (some 41) rfl rfl Tryz.func128 (by kernel_rfl) rfl #[.string t1249, .string t1252] rfl ag_ ?_; (with_reducible refine (torusref02_Compare.calls kj9 t1249 t1252 t1255 _ A13.out).mono ?_); rintro e w14 ⟨rfl, hb⟩; refine ⟨_, rfl, ?_⟩; have n0_ := Aside0.mk (below_step bw_ hb); clear HB; have HB := n0_; clear n0_; (try clear hb); (try clear hb2); (try clear hk); (try clear hi)))
         go_ret
         exact ⟨by first | rfl | (simp [errW_none, errW_some] <;> rfl) | (simp [*, errW_none, errW_some] <;> rfl), bw_⟩
        ·replace c12 := Bool.eq_false_iff.mpr c12
         subst c12
         rw [if_neg (show ¬ (false = true) by decide)] at H
         replace H := Option.bind_eq_some_iff.mp H
         obtain ⟨t1256, A150, H⟩ := H
         have A15 := Aside0.mk A150
         clear A150
         replace H := Option.bind_eq_some_iff.mp H
         obtain ⟨t1257, A160, H⟩ := H
         have A16 := Aside0.mk A160
         clear A160
         replace H := Option.bind_eq_some_iff.mp H
         obtain ⟨t1258, A170, H⟩ := H
         have A17 := Aside0.mk A170
         clear A170
         obtain rfl := Option.some.inj H
         go_wp2_with (first | ((with_reducible refine gate_callee (f := 129) rfl ?_); refine goesL_ (some 44) rfl rfl Tryz.func129 (by kernel_rfl) rfl #[.string t1249, .string t1253] rfl ag_ ?_; (with_reducible refine (torusref02_Times.calls kj9 t1249 t1253 t1256 _ A15.out).mono ?_); rintro e w18 ⟨rfl, hb⟩; refine ⟨_, rfl, ?_⟩; have n0_ := Aside0.mk (below_step bw_ hb); clear HB; have HB := n0_; clear n0_; (try clear hb); (try clear hb2); (try clear hk); (try clear hi)) | ((with_reducible refine gate_callee (f := 129) rfl ?_); refine goesL_ (some 47) rfl rfl Tryz.func129 (by kernel_rfl) rfl #[.string t1252, .string t1250] rfl ag_ ?_; (with_reducible refine (torusref02_Times.calls kj9 t1252 t1250 t1257 _ A16.out).mono ?_); rintro e w19 ⟨rfl, hb⟩; refine ⟨_, rfl, ?_⟩; have n0_ := Aside0.mk (below_step bw_ hb); clear HB; have HB := n0_; clear n0_; (try clear hb); (try clear hb2); (try clear hk); (try clear hi)) | ((with_reducible refine gate_callee (f := 128) rfl ?_); refine goesL_ (some 48) rfl rfl Tryz.func128 (by kernel_rfl) rfl #[.string t1256, .string t1257] rfl ag_ ?_; (with_reducible refine (torusref02_Compare.calls kj9 t1256 t1257 t1258 _ A17.out).mono ?_); rintro e w20 ⟨rfl, hb⟩; refine ⟨_, rfl, ?_⟩; have n0_ := Aside0.mk (below_step bw_ hb); clear HB; have HB := n0_; clear n0_; (try clear hb); (try clear hb2); (try clear hk); (try clear hi)))
         go_ret
         exact ⟨by first | rfl | (simp [errW_none, errW_some] <;> rfl) | (simp [*, errW_none, errW_some] <;> rfl), bw_⟩
attribute [local go_sem] max2_int min2_int max_two min_two max_three min_three max_four min_four
set_option linter.unusedVariables false
set_option linter.unusedSimpArgs false
def torusref03_Least.f (k : Nat) (a0 : ByteArray) (a1 : ByteArray) : Option (ByteArray) := (torusref03_Compare.f k a1 a0).bind fun t1497 => (if t1497 < 0 then (some a1) else (some a0))
set_option maxHeartbeats 8000000 in
set_option maxRecDepth 100000 in
theorem torusref03_Least.calls (k : Nat) (a0 : ByteArray) (a1 : ByteArray) (r : ByteArray) (w : World) (h : torusref03_Least.f k a0 a1 = some r) :
  Calls Tryz.prog 38 #[.string a0, .string a1] w fun e w' => e = .returned (.string r) ∧ Below w.heap.size w w' := by
 have HB := Aside0.mk (Below.refl w.heap.size w)
 have H : ((torusref03_Compare.f k a1 a0).bind fun t1497 => (if t1497 < 0 then (some a1) else (some a0))) = some r := h
 clear h
 replace H := Option.bind_eq_some_iff.mp H
 obtain ⟨t1497, A30, H⟩ := H
 have A3 := Aside0.mk A30
 clear A30
 by_cases c4 : t1497 < 0
 ·rw [if_pos c4] at H
  have c4b0 : decide (t1497 < 0) = true := decide_eq_true c4
  clear c4
  obtain rfl := Option.some.inj H
  go_enter Tryz.func38, Tryz.ntmps38
  go_wp2_with (first | ((with_reducible refine gate_callee (f := 41) rfl ?_); refine goesL_ (some 7) rfl rfl Tryz.func41 (by kernel_rfl) rfl #[.string a1, .string a0] rfl ag_ ?_; (with_reducible refine (torusref03_Compare.calls k a1 a0 t1497 _ A3.out).mono ?_); rintro e w5 ⟨rfl, hb⟩; refine ⟨_, rfl, ?_⟩; have n0_ := Aside0.mk (below_step bw_ hb); clear HB; have HB := n0_; clear n0_; (try clear hb); (try clear hb2); (try clear hk); (try clear hi)))
  go_ret
  exact ⟨by first | rfl | (simp [errW_none, errW_some] <;> rfl) | (simp [*, errW_none, errW_some] <;> rfl), bw_⟩
 ·rw [if_neg c4] at H
  have c4b0 : decide (t1497 < 0) = false := decide_eq_false c4
  clear c4
  obtain rfl := Option.some.inj H
  go_enter Tryz.func38, Tryz.ntmps38
  go_wp2_with (first | ((with_reducible refine gate_callee (f := 41) rfl ?_); refine goesL_ (some 7) rfl rfl Tryz.func41 (by kernel_rfl) rfl #[.string a1, .string a0] rfl ag_ ?_; (with_reducible refine (torusref03_Compare.calls k a1 a0 t1497 _ A3.out).mono ?_); rintro e w6 ⟨rfl, hb⟩; refine ⟨_, rfl, ?_⟩; have n0_ := Aside0.mk (below_step bw_ hb); clear HB; have HB := n0_; clear n0_; (try clear hb); (try clear hb2); (try clear hk); (try clear hi)))
  go_ret
  exact ⟨by first | rfl | (simp [errW_none, errW_some] <;> rfl) | (simp [*, errW_none, errW_some] <;> rfl), bw_⟩
attribute [local go_sem] max2_int min2_int max_two min_two max_three min_three max_four min_four
set_option linter.unusedVariables false
set_option linter.unusedSimpArgs false
def torusref03_Greatest.f (k : Nat) (a0 : ByteArray) (a1 : ByteArray) : Option (ByteArray) := (torusref03_Compare.f k a0 a1).bind fun t1498 => (if t1498 < 0 then (some a1) else (some a0))
set_option maxHeartbeats 8000000 in
set_option maxRecDepth 100000 in
theorem torusref03_Greatest.calls (k : Nat) (a0 : ByteArray) (a1 : ByteArray) (r : ByteArray) (w : World) (h : torusref03_Greatest.f k a0 a1 = some r) :
  Calls Tryz.prog 39 #[.string a0, .string a1] w fun e w' => e = .returned (.string r) ∧ Below w.heap.size w w' := by
 have HB := Aside0.mk (Below.refl w.heap.size w)
 have H : ((torusref03_Compare.f k a0 a1).bind fun t1498 => (if t1498 < 0 then (some a1) else (some a0))) = some r := h
 clear h
 replace H := Option.bind_eq_some_iff.mp H
 obtain ⟨t1498, A30, H⟩ := H
 have A3 := Aside0.mk A30
 clear A30
 by_cases c4 : t1498 < 0
 ·rw [if_pos c4] at H
  have c4b0 : decide (t1498 < 0) = true := decide_eq_true c4
  clear c4
  obtain rfl := Option.some.inj H
  go_enter Tryz.func39, Tryz.ntmps39
  go_wp2_with (first | ((with_reducible refine gate_callee (f := 41) rfl ?_); refine goesL_ (some 7) rfl rfl Tryz.func41 (by kernel_rfl) rfl #[.string a0, .string a1] rfl ag_ ?_; (with_reducible refine (torusref03_Compare.calls k a0 a1 t1498 _ A3.out).mono ?_); rintro e w5 ⟨rfl, hb⟩; refine ⟨_, rfl, ?_⟩; have n0_ := Aside0.mk (below_step bw_ hb); clear HB; have HB := n0_; clear n0_; (try clear hb); (try clear hb2); (try clear hk); (try clear hi)))
  go_ret
  exact ⟨by first | rfl | (simp [errW_none, errW_some] <;> rfl) | (simp [*, errW_none, errW_some] <;> rfl), bw_⟩
 ·rw [if_neg c4] at H
  have c4b0 : decide (t1498 < 0) = false := decide_eq_false c4
  clear c4
  obtain rfl := Option.some.inj H
  go_enter Tryz.func39, Tryz.ntmps39
  go_wp2_with (first | ((with_reducible refine gate_callee (f := 41) rfl ?_); refine goesL_ (some 7) rfl rfl Tryz.func41 (by kernel_rfl) rfl #[.string a0, .string a1] rfl ag_ ?_; (with_reducible refine (torusref03_Compare.calls k a0 a1 t1498 _ A3.out).mono ?_); rintro e w6 ⟨rfl, hb⟩; refine ⟨_, rfl, ?_⟩; have n0_ := Aside0.mk (below_step bw_ hb); clear HB; have HB := n0_; clear n0_; (try clear hb); (try clear hb2); (try clear hk); (try clear hi)))
  go_ret
  exact ⟨by first | rfl | (simp [errW_none, errW_some] <;> rfl) | (simp [*, errW_none, errW_some] <;> rfl), bw_⟩
theorem alg1 (A p r T q s : Int) : A + p * r * T + p * q * (r * s) = A + p * r * (T + q * s) := by grind
theorem ten_val_set : ∀ (l : List Int) (i : Nat) (y : Int), i < l.length → Ten.val (l.set i y) = Ten.val l + 10 ^ i * (y - rd l (i : Int))
 |[], i, y, h => by simp at h
 |x :: l, 0, y, h => by
  rw [List.set_cons_zero, Ten.val, Ten.val]
  simp [rd]
  omega
 |x :: l, i + 1, y, h => by
  rw [List.set_cons_succ, Ten.val, Ten.val, ten_val_set l i y (by simpa using h), Int.pow_succ]
  have e : rd (x :: l) ((i + 1 : Nat) : Int) = rd l (i : Int) := by simp [rd]
  rw [e]
  grind
def Lo (l : List Int) (b : Int) : Prop := ∀ i : Nat, i < l.length → 0 ≤ rd l (i : Int) ∧ rd l (i : Int) ≤ b
theorem Lo.set {l : List Int} {b y : Int} {i : Nat} (h : Lo l b) (hi : i < l.length) (h0 : 0 ≤ y) (h1 : y ≤ b) : Lo (l.set i y) b := fun j hj => by
 rw [List.length_set] at hj
 rw [rd_set y hi]
 split
 ·exact ⟨h0, h1⟩
 ·exact h j hj
theorem Lo.mono {l : List Int} {b c : Int} (h : Lo l b) (hb : b ≤ c) : Lo l c := fun i hi => ⟨(h i hi).1, by have := (h i hi).2; omega⟩
theorem rd_rep (n : Nat) (i : Nat) : rd (List.replicate n 0) (i : Int) = 0 := by
 simp only [rd, Int.toNat_natCast, List.getD_eq_getElem?_getD, List.getElem?_replicate]
 split <;> rfl
theorem ten_take_snoc (l : List Int) (i : Nat) (h : i < l.length) : Ten.val (l.take (i + 1)) = Ten.val (l.take i) + 10 ^ i * rd l (i : Int) := by
 rw [take_snoc l i h, Ten.val_append, List.length_take, Nat.min_eq_left (by omega)]
 simp [Ten.val]
theorem lo_val_ge : ∀ (l : List Int), (∀ x ∈ l, 0 ≤ x) → 0 ≤ Ten.val l
 |[], _ => by simp [Ten.val]
 |x :: l, h => by
  have := lo_val_ge l (fun y hy => h y (List.mem_cons_of_mem _ hy))
  have := h x List.mem_cons_self
  rw [Ten.val]
  omega
theorem Lo.mem {l : List Int} {b : Int} (h : Lo l b) : ∀ x ∈ l, 0 ≤ x ∧ x ≤ b := fun x hx => by
 obtain ⟨i, hi, rfl⟩ := List.mem_iff_getElem.1 hx
 have := h i hi
 have e : rd l (i : Int) = l[i] := by simp [rd, hi]
 rwa [e] at this
section
variable {s1 s2 : Bool} {x y : List Int} {R : ByteArray} {B : Int}
theorem times_l2 {V : Int} (hB : 0 ≤ B ∧ B ≤ 1000000000000000000) : ∀ (m i : Nat) (o : List Int), i + 1 + m = o.length → o.length ≤ 1000000000 → Lo o (2 * B) → (∀ j : Nat, i < j → j < o.length → rd o (j : Int) ≤ B) → (∀ j : Nat, j < i → rd o (j : Int) < 10) → Ten.val o = V → V < 10 ^ (o.length - 1) → 0 ≤ V →
  Ev (fun k => torusref02_Times.l2 k s1 s2 o (i : Int)) (TX (sgnd (s1 != s2) V))
 |0, i, o, hi, hm, hlo, hB2, h10, hv, hV, hV0 => by
  refine ev_succ ?_
  have e1 : wrap64 ((i : Int) + 1) = (i : Int) + 1 := wrap_id (by omega) (by omega)
  simp only [torusref02_Times.l2, e1, show ¬ ((i : Int) + 1 < (o.length : Int)) by omega, if_false]
  have top : rd o (i : Int) = 0 := by
   have h1 := ten_take_snoc o i (by omega)
   rw [show i + 1 = o.length by omega, List.take_length, hv] at h1
   have h2 := lo_val_ge (o.take i) (fun x hx => (hlo.mem x (List.take_subset _ _ hx)).1)
   rw [show o.length - 1 = i by omega] at hV
   have h3 := (hlo i (by omega)).1
   refine Int.le_antisymm (Int.le_of_not_gt fun h => ?_) h3
   have := Int.mul_le_mul_of_nonneg_left (show (1 : Int) ≤ rd o (i : Int) by omega) (Int.le_of_lt (Ten.pow_pos i))
   omega
  have hl : Ten.Lim o := fun x hx => by
   obtain ⟨j, hj, rfl⟩ := List.mem_iff_getElem.1 hx
   have e : rd o (j : Int) = o[j] := by simp [rd, hj]
   rw [← e]
   have h1 := (hlo j hj).1
   by_cases c : j < i
   ·exact ⟨h1, h10 j c⟩
   ·have : j = i := by omega
    subst this
    omega
  have := text_ev (s1 != s2) hl (by omega)
  rw [hv] at this
  exact ev_some this
 |m + 1, i, o, hi, hm, hlo, hB2, h10, hv, hV, hV0 => by
  refine ev_succ ?_
  have e1 : wrap64 ((i : Int) + 1) = ((i + 1 : Nat) : Int) := by rw [wrap_id (by omega) (by omega)]; omega
  have p1 : ((i + 1 : Nat) : Int) < (o.length : Int) := by omega
  have p2 : (0 : Int) ≤ ((i + 1 : Nat) : Int) := by omega
  have p3 : (0 : Int) ≤ (i : Int) := by omega
  have p4 : (i : Int) < (o.length : Int) := by omega
  have hr := hlo i (by omega)
  have hr1 := hlo (i + 1) (by omega)
  have hb1 := hB2 (i + 1) (by omega) (by omega)
  obtain ⟨c, hc⟩ : ∃ c, rd o (i : Int) = c := ⟨_, rfl⟩
  obtain ⟨d, hd⟩ : ∃ d, rd o ((i + 1 : Nat) : Int) = d := ⟨_, rfl⟩
  rw [hc] at hr
  rw [hd] at hr1 hb1
  have e2 : wrap64 (Int.tdiv c 10) = c / 10 := by rw [Int.tdiv_eq_ediv_of_nonneg (by omega), wrap_id (by omega) (by omega)]
  have e3 : wrap64 (d + c / 10) = d + c / 10 := wrap_id (by omega) (by omega)
  have e4 : rd (o.set (i + 1) (d + c / 10)) (i : Int) = c := by rw [rd_set _ (by omega), if_neg (by omega), hc]
  simp only [torusref02_Times.l2, e1, p1, p2, p3, p4, if_true, Int.toNat_natCast, hc, hd, e2, e3, Option.bind_some, e4]
  rw [Int.tmod_eq_emod_of_nonneg (by omega)]
  have hl1 : (o.set (i + 1) (d + c / 10)).length = o.length := List.length_set
  have v1 := ten_val_set o (i + 1) (d + c / 10) (by omega)
  have v2 := ten_val_set (o.set (i + 1) (d + c / 10)) i (c % 10) (by omega)
  rw [e4, v1, hd, hv] at v2
  refine times_l2 hB m (i + 1) _ (by rw [List.length_set, List.length_set]; omega) (by rw [List.length_set, List.length_set]; exact hm) ((hlo.set (by omega) (by omega) (by omega)).set (by omega) (by omega) (by omega)) ?_ ?_ ?_ (by rw [List.length_set, List.length_set]; exact hV) hV0
  ·intro j hj hj2
   rw [List.length_set, List.length_set] at hj2
   rw [rd_set _ (by omega), if_neg (by omega), rd_set _ (by omega), if_neg (by omega)]
   exact hB2 j (by omega) hj2
  ·intro j hj
   rw [rd_set _ (by omega)]
   split
   ·omega
   ·rw [rd_set _ (by omega), if_neg (by omega)]
    exact h10 j (by omega)
  ·rw [v2, Int.pow_succ]
   have : c = c % 10 + 10 * (c / 10) := by omega
   generalize c / 10 = q at *
   generalize c % 10 = r at *
   subst this
   grind
theorem times_l1 (hx : Ten.Lim x) (hy : Ten.Lim y) (hxm : x.length ≤ 100000000) (hym : y.length ≤ 100000000) {i : Nat} (hi : i < x.length)
  (hk : ∀ o : List Int, o.length = x.length + y.length + 1 → Lo o (81 * ((i : Int) * y.length + y.length)) → Ten.val o = Ten.val (x.take (i + 1)) * Ten.val y → Ev (fun k => torusref02_Times.l0 k s1 x s2 y o ((i + 1 : Nat) : Int)) R) :
  ∀ (m j : Nat) (o : List Int), j + m = y.length → o.length = x.length + y.length + 1 → Lo o (81 * ((i : Int) * y.length + j)) → Ten.val o = Ten.val (x.take i) * Ten.val y + 10 ^ i * rd x (i : Int) * Ten.val (y.take j) →
   Ev (fun k => torusref02_Times.l1 k s1 x s2 y o (i : Int) (j : Int)) R
 |0, j, o, hj, hol, hlo, hv => by
  refine ev_succ ?_
  obtain rfl : j = y.length := by omega
  have e1 : wrap64 ((i : Int) + 1) = ((i + 1 : Nat) : Int) := by rw [wrap_id (by omega) (by omega)]; omega
  simp only [torusref02_Times.l1, show ¬ ((y.length : Int) < (y.length : Int)) by omega, if_false, e1]
  refine hk o hol hlo ?_
  rw [hv, List.take_length, ten_take_snoc x i hi, Int.add_mul]
 |m + 1, j, o, hj, hol, hlo, hv => by
  refine ev_succ ?_
  have HV := Aside0.mk hv
  have HK := Aside0.mk hk
  clear hv hk
  have p1 : (j : Int) < (y.length : Int) := by omega
  have p2 : (0 : Int) ≤ ((i + j : Nat) : Int) := by omega
  have p3 : ((i + j : Nat) : Int) < (o.length : Int) := by omega
  have p4 : (0 : Int) ≤ (i : Int) := by omega
  have p5 : (i : Int) < (x.length : Int) := by omega
  have p6 : (0 : Int) ≤ (j : Int) := by omega
  have rx := hx.rd i hi
  have ry := hy.rd j (by omega)
  have hr := hlo (i + j) (by omega)
  have hij : 0 ≤ (i : Int) * y.length ∧ (i : Int) * y.length ≤ 100000000 * 100000000 := ⟨Int.mul_nonneg (by omega) (by omega), Int.mul_le_mul (by omega) (by omega) (by omega) (by omega)⟩
  have hp : 0 ≤ rd x (i : Int) * rd y (j : Int) ∧ rd x (i : Int) * rd y (j : Int) ≤ 9 * 9 := ⟨Int.mul_nonneg rx.1 ry.1, Int.mul_le_mul (by omega) (by omega) ry.1 (by omega)⟩
  have e1 : wrap64 ((i : Int) + (j : Int)) = ((i + j : Nat) : Int) := by rw [wrap_id (by omega) (by omega)]; omega
  have e2 : wrap64 ((j : Int) + 1) = ((j + 1 : Nat) : Int) := by rw [wrap_id (by omega) (by omega)]; omega
  simp only [torusref02_Times.l1, e1, e2, p1, p2, p3, p4, p5, p6, if_true, Int.toNat_natCast]
  have hv2 := ten_take_snoc y j (by omega)
  obtain ⟨P, hP⟩ : ∃ P, rd x (i : Int) * rd y (j : Int) = P := ⟨_, rfl⟩
  rw [hP] at hp ⊢
  obtain ⟨I, hI⟩ : ∃ I, (i : Int) * (y.length : Int) = I := ⟨_, rfl⟩
  rw [hI] at hlo hr hij
  rw [wrap_id (a := P) (by omega) (by omega), wrap_id (by omega) (by omega)]
  refine times_l1 hx hy hxm hym hi HK.out m (j + 1) _ (by omega) (by rw [List.length_set]; exact hol) ?_ ?_
  ·rw [hI]
   exact (hlo.mono (by omega)).set (by omega) (by omega) (by omega)
  ·rw [ten_val_set _ _ _ (by omega), HV.out, hv2]
   have e3 : rd o ((i + j : Nat) : Int) + P - rd o ((i + j : Nat) : Int) = P := by omega
   rw [e3, ← hP, Int.pow_add]
   exact alg1 _ _ _ _ _ _
theorem times_l0 (hx : Ten.Lim x) (hy : Ten.Lim y) (hxm : x.length ≤ 100000000) (hym : y.length ≤ 100000000) : ∀ (m i : Nat) (o : List Int), i + m = x.length → o.length = x.length + y.length + 1 → Lo o (81 * ((i : Int) * y.length)) → Ten.val o = Ten.val (x.take i) * Ten.val y →
  Ev (fun k => torusref02_Times.l0 k s1 x s2 y o (i : Int)) (TX (sgnd (s1 != s2) (Ten.val x * Ten.val y)))
 |0, i, o, hi, hol, hlo, hv => by
  refine ev_succ ?_
  obtain rfl : i = x.length := by omega
  simp only [torusref02_Times.l0, show ¬ ((x.length : Int) < (x.length : Int)) by omega, if_false]
  rw [List.take_length] at hv
  have hij : 0 ≤ (x.length : Int) * y.length ∧ (x.length : Int) * y.length ≤ 100000000 * 100000000 := ⟨Int.mul_nonneg (by omega) (by omega), Int.mul_le_mul (by omega) (by omega) (by omega) (by omega)⟩
  have n1 := Ten.val_nonneg x hx
  have n2 := Ten.val_nonneg y hy
  have l1 := Ten.val_lt x hx
  have l2 := Ten.val_lt y hy
  have hlt : Ten.val x * Ten.val y < 10 ^ (o.length - 1) := by
   rw [show o.length - 1 = x.length + y.length by omega, Int.pow_add]
   have h1 := Int.mul_le_mul_of_nonneg_right (Int.le_of_lt l1) n2
   have h2 := Int.mul_lt_mul_of_pos_left l2 (Ten.pow_pos x.length)
   omega
  generalize (x.length : Int) * (y.length : Int) = I at *
  exact times_l2 (B := 81 * I) ⟨by omega, by omega⟩ (o.length - 1) 0 o (by omega) (by omega) (hlo.mono (by omega)) (fun j _ hj => (hlo j hj).2) (fun j hj => absurd hj (by omega)) hv hlt (Int.mul_nonneg n1 n2)
 |m + 1, i, o, hi, hol, hlo, hv => by
  refine ev_succ ?_
  simp only [torusref02_Times.l0, show ((i : Int) < (x.length : Int)) by omega, if_true]
  exact times_l1 hx hy hxm hym (by omega) (fun o' h1 h2 h3 => times_l0 hx hy hxm hym m (i + 1) o' (by omega) h1 (by
   have e : ((i + 1 : Nat) : Int) * (y.length : Int) = (i : Int) * y.length + y.length := by rw [Int.natCast_add, Int.add_mul]; omega
   rw [e]; exact h2) h3) y.length 0 o (by omega) hol (by simpa using hlo) (by rw [hv]; simp [Ten.val])
end
def Stn (z : Int) : Prop := nd z.natAbs ≤ 100000000
theorem Stn.sd {z : Int} (h : Stn z) : Sd z := by unfold Stn at h; unfold Sd; omega
theorem Times_ev {x y : Int} (hx : Stn x) (hy : Stn y) : Ev (fun k => torusref02_Times.f k (TX x) (TX y)) (TX (x * y)) := by
 have key : Ev (fun k => torusref02_Times.j0 k (TX x) (TX y) (shortN x).1 (shortN y).1 (if (shortN x).2 = true then (shortN y).2 else false)) (TX (x * y)) := by
  refine ev_succ ?_
  simp only [torusref02_Times.j0]
  by_cases c : x.natAbs < 1000000000 ∧ y.natAbs < 1000000000
  ·have e1 : shortN x = (x, true) := if_pos c.1
   have e2 : shortN y = (y, true) := if_pos c.2
   simp only [e1, e2, if_true]
   have hp : (x * y).natAbs < 1000000000 * 1000000000 := by
    rw [Int.natAbs_mul]
    exact Nat.mul_lt_mul'' c.1 c.2
   rw [wrap_id (by omega) (by omega)]
   exact ev_some (Number_ev (by omega) (by omega))
  ·have e : (if (shortN x).2 = true then (shortN y).2 else false) = false := by
    unfold shortN
    by_cases c1 : x.natAbs < 1000000000
    ·rw [if_pos c1, if_neg (fun h => c ⟨c1, h⟩)]
     rfl
    ·rw [if_neg c1]
     rfl
   simp only [e, Bool.false_eq_true, if_false]
   refine (ev_bind (digits_TX hx.sd.sz)).2 ((ev_bind (digits_TX hy.sd.sz)).2 ?_)
   have cx := Ten.dg_can x.natAbs
   have cy := Ten.dg_can y.natAbs
   have lx : (Ten.dg x.natAbs).length ≤ 100000000 := hx
   have ly : (Ten.dg y.natAbs).length ≤ 100000000 := hy
   have vx := val_dg10 x
   have vy := val_dg10 y
   obtain ⟨X, hX⟩ : ∃ X, Ten.dg x.natAbs = X := ⟨_, rfl⟩
   obtain ⟨Y, hY⟩ : ∃ Y, Ten.dg y.natAbs = Y := ⟨_, rfl⟩
   rw [hX] at cx lx vx ⊢
   rw [hY] at cy ly vy ⊢
   have e1 : wrap64 (wrap64 ((X.length : Int) + (Y.length : Int)) + 1) = ((X.length + Y.length + 1 : Nat) : Int) := by rw [wrap_id (a := (X.length : Int) + (Y.length : Int)) (by omega) (by omega), wrap_id (by omega) (by omega)]; omega
   simp only [e1, Int.toNat_natCast, show (0 : Int) ≤ ((X.length + Y.length + 1 : Nat) : Int) by omega, show X.length + Y.length + 1 ≤ 35184372088832 by omega, if_true]
   have := times_l0 (s1 := decide (x < 0)) (s2 := decide (y < 0)) cx.1 cy.1 lx ly X.length 0 (List.replicate (X.length + Y.length + 1) 0) (by omega) (by simp) (fun i hi => by rw [rd_rep]; omega) (by rw [Ten.val_zeros]; simp [Ten.val])
   rw [vx, vy] at this
   have e2 : sgnd (decide (x < 0) != decide (y < 0)) ((x.natAbs : Int) * y.natAbs) = x * y := by
    unfold sgnd
    by_cases c1 : x < 0 <;> by_cases c2 : y < 0 <;> simp only [c1, c2, decide_true, decide_false, bne_self_eq_false, Bool.false_eq_true, if_false, Bool.true_bne, Bool.not_false, Bool.false_bne, if_true]
    ·rw [show (x.natAbs : Int) = -x by omega, show (y.natAbs : Int) = -y by omega, Int.neg_mul_neg]
    ·rw [show (x.natAbs : Int) = -x by omega, show (y.natAbs : Int) = y by omega, Int.neg_mul, Int.neg_neg]
    ·rw [show (x.natAbs : Int) = x by omega, show (y.natAbs : Int) = -y by omega, Int.mul_neg, Int.neg_neg]
    ·rw [show (x.natAbs : Int) = x by omega, show (y.natAbs : Int) = y by omega]
   rw [e2] at this
   exact this
 unfold torusref02_Times.f
 refine (ev_bind (Short_ev hx.sd.sz)).2 ((ev_bind (Short_ev hy.sd.sz)).2 ?_)
 by_cases c : (shortN x).2 = true
 ·simp only [c, if_true] at key ⊢
  exact key
 ·simp only [c, if_false] at key ⊢
  exact key
theorem split_hit {s : ByteArray} {a b : List Int} (h : bytesOf s = a ++ 47 :: b) (ha : (47 : Int) ∉ a) (hm : s.size ≤ 9000000000000) : ∀ (m i : Nat), i + m = a.length → Ev (fun k => torusref03_split.l0 k s (i : Int)) (B a, B b, true)
 |0, i, hi => by
  refine ev_succ ?_
  have hs : s.size = a.length + (b.length + 1) := by rw [← bytesOf_size, h, List.length_append, List.length_cons]
  have hb : bt s (i : Int) = 47 := by
   rw [← rd_bytesOf, h]
   have := rd_app a (47 :: b) 0
   rw [Nat.add_zero, ← show i = a.length by omega] at this
   rw [this]
   rfl
  have e1 : wrap64 ((i : Int) + 1) = ((i + 1 : Nat) : Int) := by rw [wrap_id (by omega) (by omega)]; omega
  simp only [torusref03_split.l0, e1, hb, show ((i : Int) < (s.size : Int)) by omega, show (0 : Int) ≤ (i : Int) by omega, show ((i : Int) ≤ (s.size : Int)) by omega, show (0 : Int) ≤ ((i + 1 : Nat) : Int) by omega, show (((i + 1 : Nat) : Int) ≤ (s.size : Int)) by omega, if_true, Int.toNat_natCast]
  have x1 : s.extract 0 i = B a := bytesOf_inj (by
   rw [bytesOf_extract, h, show i = a.length by omega, List.drop_zero, List.take_left', bytesOf_B]
   ·intro x hx
    exact bys_of s x (by rw [h]; exact List.mem_append_left _ hx)
   ·rfl)
  have x2 : s.extract (i + 1) s.size = B b := bytesOf_inj (by
   rw [bytesOf_extract, ← bytesOf_size, List.take_length, h, show i + 1 = a.length + 1 by omega, bytesOf_B]
   ·rw [List.drop_append, List.drop_eq_nil_of_le (by omega)]
    simp
   ·intro x hx
    exact bys_of s x (by rw [h]; exact List.mem_append_right _ (List.mem_cons_of_mem _ hx)))
  rw [x1, x2]
  exact Ev.now _
 |m + 1, i, hi => by
  refine ev_succ ?_
  have hs : s.size = a.length + (b.length + 1) := by rw [← bytesOf_size, h, List.length_append, List.length_cons]
  have hb : bt s (i : Int) ≠ 47 := by
   rw [← rd_bytesOf, h]
   intro e
   have e2 : rd (a ++ 47 :: b) (i : Int) = a[i]'(by omega) := by simp [rd, List.getElem?_append, show i < a.length by omega]
   rw [e2] at e
   exact ha (e ▸ List.getElem_mem _)
  have e1 : wrap64 ((i : Int) + 1) = ((i + 1 : Nat) : Int) := by rw [wrap_id (by omega) (by omega)]; omega
  simp only [torusref03_split.l0, e1, hb, show ((i : Int) < (s.size : Int)) by omega, show (0 : Int) ≤ (i : Int) by omega, if_true, if_false]
  exact split_hit h ha hm m (i + 1) (by omega)
theorem split_miss {s : ByteArray} (h : (47 : Int) ∉ bytesOf s) (hm : s.size ≤ 9000000000000) : ∀ (m i : Nat), i + m = s.size → Ev (fun k => torusref03_split.l0 k s (i : Int)) (s, ⟨#[49]⟩, false)
 |0, i, hi => by
  refine ev_succ ?_
  simp only [torusref03_split.l0, show ¬ ((i : Int) < (s.size : Int)) by omega, if_false]
  exact Ev.now _
 |m + 1, i, hi => by
  refine ev_succ ?_
  have hb : bt s (i : Int) ≠ 47 := by
   rw [← rd_bytesOf]
   intro e
   have hl : i < (bytesOf s).length := by rw [bytesOf_size]; omega
   have e2 : rd (bytesOf s) (i : Int) = (bytesOf s)[i] := by simp [rd, hl]
   rw [e2] at e
   exact h (e ▸ List.getElem_mem _)
  have e1 : wrap64 ((i : Int) + 1) = ((i + 1 : Nat) : Int) := by rw [wrap_id (by omega) (by omega)]; omega
  simp only [torusref03_split.l0, e1, hb, show ((i : Int) < (s.size : Int)) by omega, show (0 : Int) ≤ (i : Int) by omega, if_true, if_false]
  exact split_miss h hm m (i + 1) (by omega)
def Stq (q : Rat) : Prop := Stn q.num ∧ Stn (q.den : Int)
theorem rt_size9 {q : Rat} (h : Stq q) : (RT q).size ≤ 9000000000000 := by
 have h1 := h.1
 have h2 := h.2
 unfold Stn at h1 h2
 have l1 := rtx_len_ q.num
 have l2 := rtx_len_ (q.den : Int)
 rw [← bytesOf_size, bytesOf_RT]
 unfold rtx
 split
 ·omega
 ·rw [List.length_append, List.length_cons]
  omega
theorem split_RT {q : Rat} (h : Stq q) : Ev (fun k => torusref03_split.f k (RT q)) (TX q.num, TX q.den, decide (q.den ≠ 1)) := by
 have hm := rt_size9 h
 unfold torusref03_split.f
 by_cases hd : q.den = 1
 ·have := split_miss (s := RT q) (by rw [bytesOf_RT]; unfold rtx; rw [if_pos hd]; exact tx_slash _) hm (RT q).size 0 (by omega)
  rw [show decide (q.den ≠ 1) = false from decide_eq_false (by omega), hd]
  rw [RT_one hd] at this ⊢
  rw [show TX ((1 : Nat) : Int) = ⟨#[49]⟩ from TX_one]
  exact this
 ·have hb : bytesOf (RT q) = tx q.num ++ 47 :: tx q.den := by rw [bytesOf_RT]; unfold rtx; rw [if_neg hd]
  have := split_hit hb (tx_slash _) hm (tx q.num).length 0 (by omega)
  rw [show decide (q.den ≠ 1) = true from decide_eq_true hd]
  exact this
theorem RT_inf (q : Rat) : ¬ (RT q).toList = ([105, 110, 102] : List UInt8) := fun e => by
 have h : ([105, 110, 102] : List UInt8) = infS.toList := by rw [ByteArray.toList_eq]; rfl
 rw [h, bl_iff] at e
 have h1 := rat?_rtx q
 rw [← bytesOf_RT, e] at h1
 have h2 : rat? (bytesOf infS) = none := by decide +kernel
 rw [h2] at h1
 cases h1
theorem nd_mul {x y : Int} {a b : Nat} (hx : nd x.natAbs ≤ a) (hy : nd y.natAbs ≤ b) : nd (x * y).natAbs ≤ a + b := by
 refine (nd_le _ _).2 ?_
 rw [Int.natAbs_mul, Nat.pow_add]
 exact Nat.mul_lt_mul'' ((nd_le _ _).1 hx) ((nd_le _ _).1 hy)
theorem Compare03_ev {x y : Rat} (hx : Stq x) (hy : Stq y) : Ev (fun k => torusref03_Compare.f k (RT x) (RT y)) (scmp x y) := by
 have key : ∀ b, b = (decide (x.den = 1) && decide (y.den = 1)) → Ev (fun k => torusref03_Compare.j1 k (TX x.num) (TX x.den) (TX y.num) (TX y.den) b) (scmp x y) := fun b hb => by
  refine ev_succ ?_
  simp only [torusref03_Compare.j1]
  cases b with
  |true =>
   simp only [if_true]
   have := Compare_ev hx.1.sd.sz hy.1.sd.sz
   have hb' := hb.symm
   rw [Bool.and_eq_true, decide_eq_true_eq, decide_eq_true_eq] at hb'
   have e : (x.num - y.num).sign = scmp x y := by
    unfold scmp sgnI
    rw [hb'.1, hb'.2]
    simp
   rw [e] at this
   exact ev_some this
  |false =>
   simp only [Bool.false_eq_true, if_false]
   refine (ev_bind (Times_ev hx.1 hy.2)).2 ((ev_bind (Times_ev hy.1 hx.2)).2 ?_)
   exact ev_some (Compare_ev (sz_of (by have := nd_mul hx.1 hy.2; omega)) (sz_of (by have := nd_mul hy.1 hx.2; omega)))
 unfold torusref03_Compare.f
 simp only [RT_inf, if_false]
 refine ev_succ ?_
 simp only [torusref03_Compare.j0, Bool.false_eq_true, RT_inf, if_false]
 refine (ev_bind (split_RT hx)).2 ((ev_bind (split_RT hy)).2 ?_)
 have t49 : ∀ n : Nat, (TX (n : Int)).toList = ([49] : List UInt8) ↔ n = 1 := fun n => by rw [toList49]; omega
 by_cases c : x.den = 1
 ·simp only [(t49 x.den).2 c, if_true]
  refine key _ ?_
  rw [decide_eq_true c, Bool.true_and]
  by_cases d : y.den = 1
  ·rw [decide_eq_true d]
   exact beq_iff_eq.2 ((t49 y.den).2 d)
  ·rw [decide_eq_false d]
   exact beq_eq_false_iff_ne.2 (fun h => d ((t49 y.den).1 h))
 ·simp only [show ¬ (TX (x.den : Int)).toList = ([49] : List UInt8) from fun h => c ((t49 x.den).1 h), if_false]
  refine key _ ?_
  rw [decide_eq_false c, Bool.false_and]
theorem Least_ev {x y : Rat} (hx : Stq x) (hy : Stq y) : Ev (fun k => torusref03_Least.f k (RT x) (RT y)) (RT (if y < x then y else x)) := by
 unfold torusref03_Least.f
 refine (ev_bind (Compare03_ev hy hx)).2 ?_
 simp only [scmp_lt]
 by_cases c : y < x
 ·simp only [c, if_true]
  exact Ev.now _
 ·simp only [c, if_false]
  exact Ev.now _
theorem Greatest_ev {x y : Rat} (hx : Stq x) (hy : Stq y) : Ev (fun k => torusref03_Greatest.f k (RT x) (RT y)) (RT (if x < y then y else x)) := by
 unfold torusref03_Greatest.f
 refine (ev_bind (Compare03_ev hx hy)).2 ?_
 simp only [scmp_lt]
 by_cases c : x < y
 ·simp only [c, if_true]
  exact Ev.now _
 ·simp only [c, if_false]
  exact Ev.now _
theorem Lq.stq {q : Rat} {k : Nat} (h : Lq q k) (hk : k ≤ 100000000) : Stq q := by
 have h1 := (nd_le k _).2 h.1
 have h2 := (nd_le k _).2 h.2
 exact ⟨by unfold Stn; omega, by unfold Stn; rw [Int.natAbs_natCast]; omega⟩
section
variable {x y : Rat}
theorem least_rt {z : Rat} (hx : Stq x) (hy : Stq y) (hz : (if y < x then y else x) = z) (W : World) : Calls Tryz.prog 38 #[.string (RT x), .string (RT y)] W fun e w' => Below W.heap.size W w' ∧ e = .returned (.string (RT z)) := by
 obtain ⟨k, hk⟩ := (Least_ev hx hy).rounds
 refine (torusref03_Least.calls k _ _ _ W hk).mono ?_
 rintro e w' ⟨rfl, hb⟩
 exact ⟨hb, by rw [hz]⟩
theorem greatest_rt {z : Rat} (hx : Stq x) (hy : Stq y) (hz : (if x < y then y else x) = z) (W : World) : Calls Tryz.prog 39 #[.string (RT x), .string (RT y)] W fun e w' => Below W.heap.size W w' ∧ e = .returned (.string (RT z)) := by
 obtain ⟨k, hk⟩ := (Greatest_ev hx hy).rounds
 refine (torusref03_Greatest.calls k _ _ _ W hk).mono ?_
 rintro e w' ⟨rfl, hb⟩
 exact ⟨hb, by rw [hz]⟩
theorem compare_rt {o : Int} (hx : Stq x) (hy : Stq y) (ho : scmp x y = o) (W : World) : Calls Tryz.prog 41 #[.string (RT x), .string (RT y)] W fun e w' => Below W.heap.size W w' ∧ e = .returned (.int .i64 o) := by
 obtain ⟨k, hk⟩ := (Compare03_ev hx hy).rounds
 refine (torusref03_Compare.calls k _ _ _ W hk).mono ?_
 rintro e w' ⟨rfl, hb⟩
 exact ⟨hb, by rw [ho]⟩
end
def smpB (x y : Rat) : Bool := decide (sgnI ((x.den : Int) - y.den) < 0) || (sgnI ((x.den : Int) - y.den) == 0 && (decide (sgnI ((x.num.natAbs : Int) - y.num.natAbs) < 0) || (sgnI ((x.num.natAbs : Int) - y.num.natAbs) == 0 && decide (sgnI y.num < sgnI x.num))))
theorem smpB_no {r s : Rat} (h1 : s.den ≤ r.den) (h2 : s.num.natAbs ≤ r.num.natAbs) (h3 : r.num.natAbs = s.num.natAbs → ¬ sgnI s.num < sgnI r.num) : smpB r s = false := by
 unfold smpB
 have a1 : ¬ sgnI ((r.den : Int) - s.den) < 0 := fun h => by have := (sgnI_neg _).1 h; omega
 have a2 : ¬ sgnI ((r.num.natAbs : Int) - s.num.natAbs) < 0 := fun h => by have := (sgnI_neg _).1 h; omega
 rw [decide_eq_false a1, decide_eq_false a2, Bool.false_or, Bool.false_or]
 by_cases c : r.num.natAbs = s.num.natAbs
 ·rw [decide_eq_false (h3 c), Bool.and_false, Bool.and_false]
 ·have : (sgnI ((r.num.natAbs : Int) - s.num.natAbs) == 0) = false := beq_eq_false_iff_ne.2 fun h => c (by have := (sgnI_zero _).1 h; omega)
  rw [this, Bool.false_and, Bool.and_false]
theorem iv_TX {z : Int} (h : Lg z = false) : iv (TX z) = some z := by
 unfold iv
 rw [bytesOf_TX, int?_tx, Option.bind_some, if_neg (by rw [h]; decide)]
theorem Lg_abs (z : Int) : Lg (z.natAbs : Int) = Lg z := by
 unfold Lg
 rw [Int.natAbs_natCast]
theorem lgq_parts {q : Rat} (h : lgq q = false) : Lg q.num = false ∧ Lg (q.den : Int) = false := Bool.or_eq_false_iff.1 h
theorem tx_size9 {z : Int} (h : Lg z = false) : (TX z).size ≤ 9000000000000 := by
 have h1 : nd z.natAbs ≤ 1000 := by
  have := of_decide_eq_false h
  omega
 have := rtx_len_ z
 rw [TX_size]
 omega
section
variable {x y : Rat}
theorem den_rt (hx : lgq x = false) {r : ByteArray} (hr : TX x.den = r) (W : World) : Calls Tryz.prog 28 #[.string (RT x)] W fun e w' => Below W.heap.size W w' ∧ e = .returned (.string r) := by
 have := rden_calls W (RT x) (rt_size hx)
 rw [rv_RT hx] at this
 simp only [Option.elim, hr] at this
 exact this
theorem num_rt (hx : lgq x = false) (W : World) : Calls Tryz.prog 54 #[.string (RT x)] W fun e w' => Below W.heap.size W w' ∧ e = .returned (.string (TX x.num)) := by
 have := rnum_calls W (RT x) (rt_size hx)
 rw [rv_RT hx] at this
 exact this
theorem simpler_rt (hx : lgq x = false) (hy : lgq y = false) {b : Bool} (hb : smpB x y = b) (W : World) : Calls Tryz.prog 40 #[.string (RT x), .string (RT y)] W fun e w' => Below W.heap.size W w' ∧ e = .returned (.bool b) := by
 have px := lgq_parts hx
 have py := lgq_parts hy
 have ax : Lg (x.num.natAbs : Int) = false := by rw [Lg_abs]; exact px.1
 have ay : Lg (y.num.natAbs : Int) = false := by rw [Lg_abs]; exact py.1
 have := simpler_walk (x := RT x) (y := RT y) (dx := TX x.den) (dy := TX y.den) (nx := TX x.num) (ny := TX y.num) (ax := TX x.num.natAbs) (ay := TX y.num.natAbs) (d := sgnI ((x.den : Int) - y.den)) (n := sgnI ((x.num.natAbs : Int) - y.num.natAbs)) (g := sgnI x.num) (h := sgnI y.num)
  (De := fun u r => ∀ W : World, Calls Tryz.prog 28 #[.string u] W fun e w' => Below W.heap.size W w' ∧ e = .returned (.string r))
  (Nu := fun u r => ∀ W : World, Calls Tryz.prog 54 #[.string u] W fun e w' => Below W.heap.size W w' ∧ e = .returned (.string r))
  (Ab := fun u r => ∀ W : World, Calls Tryz.prog 76 #[.string u] W fun e w' => Below W.heap.size W w' ∧ e = .returned (.string r))
  (Cw := fun u v r => ∀ W : World, Calls Tryz.prog 126 #[.string u, .string v] W fun e w' => Below W.heap.size W w' ∧ e = .returned (.int .i64 r))
  (Sg := fun u r => ∀ W : World, Calls Tryz.prog 31 #[.string u] W fun e w' => Below W.heap.size W w' ∧ e = .returned (.int .i64 r))
  (fun W u r h => h W) (fun W u r h => h W) (fun W u r h => h W) (fun W u v r h => h W) (fun W u r h => h W)
  ⟨den_rt hx rfl, den_rt hy rfl, num_rt hx, num_rt hy, fun W => wabs_calls W (iv_TX px.1) (tx_size9 px.1), fun W => wabs_calls W (iv_TX py.1) (tx_size9 py.1),
   fun W => wcmp_calls W (iv_TX px.2) (iv_TX py.2) (tx_size9 px.2) (tx_size9 py.2), fun W => wcmp_calls W (iv_TX ax) (iv_TX ay) (tx_size9 ax) (tx_size9 ay)⟩ (sign_rt hx rfl) (sign_rt hy rfl) W
 rw [← hb]
 exact this
end
theorem num_pos_iff (q : Rat) : 0 < q.num ↔ 0 < q := by
 have := Rat.lt_iff 0 q
 simp at this
 exact this.symm
theorem num_neg_iff (q : Rat) : q.num < 0 ↔ q < 0 := by
 have := Rat.lt_iff q 0
 simp at this
 exact this.symm
def sim (lo hi : Rat) : Rat := if 0 < lo.num then simQ lo (some hi) else if hi.num < 0 then -simQ (-hi) (some (-lo)) else 0
theorem simpS_RT {lo hi : Rat} (hl : lgq lo = false) (hh : lgq hi = false) (hle : lo ≤ hi) : simpS (RT lo) (RT hi) = (RT (sim lo hi), 0) := by
 unfold simpS sim
 rw [ends_ss hl hh]
 simp only []
 rw [if_neg (by grind)]
 by_cases a : 0 < lo.num
 ·rw [if_pos a, if_pos a]
 ·rw [if_neg a, if_neg a]
  by_cases b : hi.num < 0
  ·rw [if_pos b, if_pos b]
  ·rw [if_neg b, if_neg b, RT_0]
theorem sim_in {lo hi : Rat} (hle : lo ≤ hi) : lo ≤ sim lo hi ∧ sim lo hi ≤ hi := by
 unfold sim
 by_cases a : 0 < lo.num
 ·rw [if_pos a]
  have := (simQ_some ((num_pos_iff lo).1 a) hle).1
  exact ⟨this.1, this.2 _ rfl⟩
 ·rw [if_neg a]
  by_cases b : hi.num < 0
  ·rw [if_pos b]
   have h0 : hi < 0 := (num_neg_iff hi).1 b
   have := (simQ_some (a := -hi) (b := -lo) (by grind) (by grind)).1
   have h1 := this.1
   have h2 := this.2 _ rfl
   grind
  ·rw [if_neg b]
   have h1 : ¬ 0 < lo := fun h => a ((num_pos_iff lo).2 h)
   have h2 : ¬ hi < 0 := fun h => b ((num_neg_iff hi).2 h)
   grind
theorem sim_min {lo hi r : Rat} (hle : lo ≤ hi) (h1 : lo ≤ r) (h2 : r ≤ hi) : (sim lo hi).den ≤ r.den ∧ (sim lo hi).num.natAbs ≤ r.num.natAbs ∧ (r.num.natAbs = (sim lo hi).num.natAbs → ¬ sgnI (sim lo hi).num < sgnI r.num) := by
 have hin := sim_in hle
 unfold sim at hin ⊢
 by_cases a : 0 < lo.num
 ·rw [if_pos a] at hin ⊢
  have l0 := (num_pos_iff lo).1 a
  have := (simQ_some l0 hle).2 r ⟨h1, fun x hx => by cases hx; exact h2⟩
  refine ⟨this.1, this.2, fun _ => ?_⟩
  have p1 : 0 < r := by grind
  have p2 : 0 < simQ lo (some hi) := by grind
  rw [rat_sgn, rat_sgn, if_neg (by grind), if_pos p2, if_neg (by grind), if_pos p1]
  omega
 ·rw [if_neg a] at hin ⊢
  by_cases b : hi.num < 0
  ·rw [if_pos b] at hin ⊢
   have h0 : hi < 0 := (num_neg_iff hi).1 b
   have := (simQ_some (a := -hi) (b := -lo) (by grind) (by grind)).2 (-r) ⟨by grind, fun x hx => by cases hx; grind⟩
   rw [Rat.neg_den, Rat.neg_num, Int.natAbs_neg] at this
   refine ⟨by rw [Rat.neg_den]; exact this.1, by rw [Rat.neg_num, Int.natAbs_neg]; exact this.2, fun _ => ?_⟩
   have p1 : r < 0 := by grind
   have p2 : -simQ (-hi) (some (-lo)) < 0 := by grind
   rw [rat_sgn, rat_sgn, if_pos p2, if_pos p1]
   omega
  ·rw [if_neg b]
   have := r.den_nz
   refine ⟨by show 1 ≤ _; omega, by show 0 ≤ _; omega, fun h => ?_⟩
   have e : r.num = 0 := by
    have : (0 : Rat).num.natAbs = 0 := rfl
    omega
   rw [e]
   show ¬ sgnI 0 < sgnI 0
   omega
theorem sim_neg {lo hi : Rat} (hle : lo ≤ hi) : sim (-hi) (-lo) = -sim lo hi := by
 unfold sim
 rw [Rat.neg_num, Rat.neg_num, Rat.neg_neg, Rat.neg_neg]
 have hln := num_pos_iff lo
 have hhn := num_neg_iff hi
 by_cases a : 0 < lo.num
 ·have b : ¬ hi.num < 0 := fun h => by have h1 := hln.1 a; have h2 := hhn.1 h; grind
  rw [if_pos a, if_neg (by omega), if_pos (by omega)]
 ·rw [if_neg a]
  by_cases b : hi.num < 0
  ·rw [if_pos b, if_pos (by omega), Rat.neg_neg]
  ·rw [if_neg b, if_neg (by omega), if_neg (by omega)]
   grind
def simU (lo : Rat) : Rat := if 0 < lo.num then simQ lo none else 0
theorem simpS_inf {lo : Rat} (hl : lgq lo = false) : simpS (RT lo) ⟨#[105, 110, 102]⟩ = (RT (simU lo), 0) := by
 unfold simpS simU ends2
 rw [ev_RT hl, ev_inf]
 simp only []
 by_cases a : 0 < lo.num
 ·rw [if_pos a, if_pos a]
 ·rw [if_neg a, if_neg a, RT_0]
theorem simU_den (lo : Rat) : (simU lo).den = 1 := by
 unfold simU
 split
 ·unfold simQ
  rw [show lo.den + (none : Option Rat).elim 1 Rat.den = lo.den + 1 from rfl, simF]
  split
  ·exact (rint_den _).2
  ·exact (rint_den _).2
 ·rfl
theorem simU_ge (lo : Rat) : lo ≤ simU lo := by
 unfold simU
 by_cases a : 0 < lo.num
 ·rw [if_pos a]
  exact (simQ_none ((num_pos_iff lo).1 a)).1.1
 ·rw [if_neg a]
  have h1 : ¬ 0 < lo := fun h => a ((num_pos_iff lo).2 h)
  grind
theorem simU_lq {lo : Rat} {k : Nat} (h : Lq lo (k + 1)) : Lq (simU lo) (k + 1) := by
 unfold simU
 by_cases a : 0 < lo.num
 ·rw [if_pos a]
  have := (simQ_none ((num_pos_iff lo).1 a)).2 lo ⟨Rat.le_refl, fun x hx => by cases hx⟩
  exact ⟨Nat.lt_of_le_of_lt this.2 h.1, Nat.lt_of_le_of_lt this.1 h.2⟩
 ·rw [if_neg a]
  exact lq_zero k
theorem sim_rt {a b c : Rat} (ha : lgq a = false) (hb : lgq b = false) (hle : a ≤ b) (hc : sim a b = c) (W : World) : Calls Tryz.prog 27 #[.string (RT a), .string (RT b)] W fun e w' => Below W.heap.size W w' ∧ e = .returned (.tuple #[.string (RT c), .int .i64 0]) := by
 have := simpe_calls W (RT a) (RT b) (rt_size ha) (rt_size hb)
 rwa [simpS_RT ha hb hle, hc] at this
theorem simi_rt {a : Rat} (ha : lgq a = false) (W : World) : Calls Tryz.prog 27 #[.string (RT a), .string ⟨#[105, 110, 102]⟩] W fun e w' => Below W.heap.size W w' ∧ e = .returned (.tuple #[.string (RT (simU a)), .int .i64 0]) := by
 have := simpe_calls W (RT a) ⟨#[105, 110, 102]⟩ (rt_size ha) (by decide)
 rwa [simpS_inf ha] at this
theorem splst_calls {A0 A1 B0 B1 C0 C1 : ByteArray} (hA0 : A0.size ≤ 9223372036854775807) (hA1 : A1.size ≤ 9223372036854775807) (hB0 : B0.size ≤ 9223372036854775807) (hB1 : B1.size ≤ 9223372036854775807) (hC0 : C0.size ≤ 9223372036854775807) (hC1 : C1.size ≤ 9223372036854775807) (W : World) :
  Calls Tryz.prog 8 #[.agg #[.string A0, .string A1], .agg #[.string B0, .string B1], .agg #[.string C0, .string C1]] W fun e w' => Below W.heap.size W w' ∧ e = .returned (.bool true) := by
 obtain ⟨x, hx, cx⟩ := fit_calls W hA0 hA1 (m := 30) (by decide) (by decide)
 obtain ⟨y, hy, cy⟩ := fit_calls W hB0 hB1 (m := 30) (by decide) (by decide)
 obtain ⟨z, hz, cz⟩ := fit_calls W hC0 hC1 (m := 30) (by decide) (by decide)
 obtain ⟨lo, hlo⟩ : ∃ lo, (if y < x then y else x) = lo := ⟨_, rfl⟩
 obtain ⟨hi, hhi⟩ : ∃ hi, (if x < y then y else x) = hi := ⟨_, rfl⟩
 have ql : Lq lo 30 := by rw [← hlo]; split; exact hy; exact hx
 have qh : Lq hi 30 := by rw [← hhi]; split; exact hy; exact hx
 have hle : lo ≤ hi := by rw [← hlo, ← hhi]; grind
 have hin := sim_in hle
 have qs : Lq (sim lo hi) 30 := by
  have := sim_min hle Rat.le_refl hle
  exact ⟨Nat.lt_of_le_of_lt this.2.1 ql.1, Nat.lt_of_le_of_lt this.1 ql.2⟩
 have no : ∀ r, lo ≤ r → r ≤ hi → smpB r (sim lo hi) = false := fun r h1 h2 => by
  have := sim_min hle h1 h2
  exact smpB_no this.1 this.2.1 this.2.2
 have ll := ql.lg (by decide)
 have lh := qh.lg (by decide)
 have ls := qs.lg (by decide)
 have lz := hz.lg (by decide)
 have lu := (simU_lq ql).lg (by decide)
 have lnl := (lq_neg ql).lg (by decide)
 have lnh := (lq_neg qh).lg (by decide)
 refine splst_walk (Ft := fun u v r => ∀ W : World, Calls Tryz.prog 18 #[.string u, .string v, .int .i64 30] W fun e w' => Below W.heap.size W w' ∧ e = .returned (.string r))
   (Ls := fun u v r => ∀ W : World, Calls Tryz.prog 38 #[.string u, .string v] W fun e w' => Below W.heap.size W w' ∧ e = .returned (.string r))
   (Gr := fun u v r => ∀ W : World, Calls Tryz.prog 39 #[.string u, .string v] W fun e w' => Below W.heap.size W w' ∧ e = .returned (.string r))
   (Si := fun u v r => ∀ W : World, Calls Tryz.prog 27 #[.string u, .string v] W fun e w' => Below W.heap.size W w' ∧ e = .returned (.tuple #[.string r, .int .i64 0]))
   (Cp := fun u v r => ∀ W : World, Calls Tryz.prog 29 #[.string u, .string v] W fun e w' => Below W.heap.size W w' ∧ e = .returned (.int .i64 r))
   (Co := fun u v r => ∀ W : World, Calls Tryz.prog 41 #[.string u, .string v] W fun e w' => Below W.heap.size W w' ∧ e = .returned (.int .i64 r))
   (Sp := fun u v r => ∀ W : World, Calls Tryz.prog 40 #[.string u, .string v] W fun e w' => Below W.heap.size W w' ∧ e = .returned (.bool r))
   (Ng := fun u r => ∀ W : World, Calls Tryz.prog 24 #[.string u] W fun e w' => Below W.heap.size W w' ∧ e = .returned (.string r))
   (De := fun u r => ∀ W : World, Calls Tryz.prog 28 #[.string u] W fun e w' => Below W.heap.size W w' ∧ e = .returned (.string r))
   (lo := RT lo) (hi := RT hi) (s := RT (sim lo hi)) (nlo := RT (-lo)) (nhi := RT (-hi)) (ns := RT (-sim lo hi)) (u := RT (simU lo)) (c1 := scmp (sim lo hi) lo) (c2 := scmp (sim lo hi) hi) (c3 := scmp (simU lo) lo) (p := scmp lo z) (q := scmp z hi) (r := smpB z (sim lo hi))
   (fun W u v r h => h W) (fun W u v r h => h W) (fun W u v r h => h W) (fun W u v r h => h W) (fun W u v r h => h W) (fun W u v r h => h W) (fun W u v r h => h W) (fun W u r h => h W) (fun W u r h => h W)
   cx cy cz
   ⟨least_rt (hx.stq (by decide)) (hy.stq (by decide)) hlo, greatest_rt (hx.stq (by decide)) (hy.stq (by decide)) hhi, sim_rt ll lh hle rfl, sim_rt lnh lnl (by grind) (sim_neg hle), simi_rt ll, cmp_rt ls ll rfl, cmp_rt ls lh rfl, cmp_rt lu ll rfl,
    compare_rt (ql.stq (by decide)) (hz.stq (by decide)) rfl, compare_rt (hz.stq (by decide)) (qh.stq (by decide)) rfl, simpler_rt ll ls (no lo Rat.le_refl hle), simpler_rt lh ls (no hi hle Rat.le_refl), simpler_rt lz ls rfl, neg_rt lh, neg_rt ll, neg_rt ls, den_rt lu (by rw [simU_den]; exact TX_one)⟩
   (fun h => by have := (scmp_lt _ _).1 h; grind) (fun h => absurd ((scmp_le (sim lo hi) hi).2 hin.2) (by omega)) ?_ (fun h1 h2 => no z ((scmp_le _ _).1 h1) ((scmp_le _ _).1 h2)) W
 have := simU_ge lo
 refine Int.le_of_not_gt fun h => ?_
 have := (scmp_lt _ _).1 h
 grind
end Go.Proofs.YtfmcgammhfdfnaaGreatDoor.PRatio

