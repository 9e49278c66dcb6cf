/- Go functions as plain Lean functions, each with a proof that the Go code computes just that, and facts on them; conditions: those that each theorem states. -/
import Derived.Test.YticckanjfdcpaaaDoorQSortsMatch3
namespace Go.Proofs.YticckanjfdcpaaaDoor.PSimplex
open Go.RowKit Go.Proofs.YticckanjfdcpaaaDoorW.PrintWords Go.Proofs.YticckanjfdcpaaaDoorW.PrintLast Go.Proofs.YticckanjfdcpaaaDoorW.PrintMore
attribute [local go_sem] max2_int min2_int max_two min_two max_three min_three max_four min_four   -- for this text's walks alone
set_option linter.unusedVariables false
set_option linter.unusedSimpArgs false

/-! ### toruslaw07_SimplexSortsMatch: function 4 -/
def toruslaw07_SimplexSortsMatch.f (k : Nat) (l0 : List Int) : Option (Bool) := if (l0.length : Int) > 200 then ((toruslaw07_awake.f k).bind fun t314 => (some t314)) else ((some (([] : List Int) : List Int)).bind fun y315 => (if y315.length + l0.length < 17592186044416 then ((some (y315 ++ l0 : List Int)).bind fun y318 => ((simplex_Sort.f k y318).bind fun bt321 => ((torusref07_Sort.f k l0).bind fun bt326 => ((torusref07_Cmp.f k bt321.1 bt326.1).bind fun t331 => (if t331 = 0 then (if bt321.2.1 = bt326.2.1 then (if bt321.2.2 = bt326.2.2 then ((torusref07_Cmp.f k y318 l0).bind fun t332 => (if t332 = 0 then ((toruslaw07_awake.f k).bind fun t333 => (some t333)) else (none))) else (none)) else (none)) else (none)))))) else (none)))
theorem toruslaw07_SimplexSortsMatch.mono : ∀ a0 k, LeO (toruslaw07_SimplexSortsMatch.f k a0) (toruslaw07_SimplexSortsMatch.f (k + 1) a0) := by
  intro a0 k
  unfold toruslaw07_SimplexSortsMatch.f
  repeat' first
      | (with_reducible exact simplex_Sort.mono _ _)
      | (with_reducible exact toruslaw07_awake.mono _)
      | (with_reducible exact torusref07_Cmp.mono _ _ _)
      | (with_reducible exact torusref07_Sort.mono _ _)
      | (with_reducible exact LeO.refl _)
      | (with_reducible exact LeO.none _)
      | (with_reducible refine LeO.ite ?_ ?_)
      | (with_reducible refine LeO.bind ?_ (fun _ => ?_))
      | exact simplex_Sort.mono _ _
      | exact toruslaw07_awake.mono _
      | exact torusref07_Cmp.mono _ _ _
      | exact torusref07_Sort.mono _ _
      | exact LeO.none _
      | refine LeO.ite ?_ ?_
      | refine LeO.bind ?_ (fun _ => ?_)
set_option maxHeartbeats 8000000 in
set_option maxRecDepth 100000 in
theorem toruslaw07_SimplexSortsMatch.calls (k : Nat) (A0 : Option Addr) (c0 : Nat) (l0 : List Int) (r : Bool) (w : World) (hr0 : Kd.C (Kd.int .i64) w A0 l0.length l0) (hc0 : l0.length ≤ c0) (hg : Aside0 (Glob w)) (hrt : Aside0 (r = true)) (h : toruslaw07_SimplexSortsMatch.f k l0 = some r) :
    Calls Tryd.prog 4 #[.slice A0 l0.length c0] w fun e w' => e = .returned (.bool r) ∧ Below w.heap.size w w' := by
  have HR0 := Aside0.mk hr0
  have HC0 := Aside0.mk hc0
  clear hr0 hc0
  have HB := Aside0.mk (Below.refl w.heap.size w)
  have H : (if (l0.length : Int) > 200 then ((toruslaw07_awake.f k).bind fun t314 => (some t314)) else ((some (([] : List Int) : List Int)).bind fun y315 => (if y315.length + l0.length < 17592186044416 then ((some (y315 ++ l0 : List Int)).bind fun y318 => ((simplex_Sort.f k y318).bind fun bt321 => ((torusref07_Sort.f k l0).bind fun bt326 => ((torusref07_Cmp.f k bt321.1 bt326.1).bind fun t331 => (if t331 = 0 then (if bt321.2.1 = bt326.2.1 then (if bt321.2.2 = bt326.2.2 then ((torusref07_Cmp.f k y318 l0).bind fun t332 => (if t332 = 0 then ((toruslaw07_awake.f k).bind fun t333 => (some t333)) else (none))) else (none)) else (none)) else (none)))))) else (none)))) = some r := h
  clear h
  by_cases c2 : (l0.length : Int) > 200
  · rw [if_pos c2] at H
    have c2b0 : decide (200 < (l0.length : Int)) = true := decide_eq_true c2
    have c2b1 : decide (200 < l0.length) = true := decide_eq_true (by omega)
    clear c2
    replace H := Option.bind_eq_some_iff.mp H
    obtain ⟨t314, A30, H⟩ := H
    replace H : (some t314) = some r := H
    have A3 := Aside0.mk A30
    clear A30
    first
    | with_reducible exact absurd ((Option.some.inj H).trans hrt.out) Bool.false_ne_true
    | skip
      obtain rfl := Option.some.inj H
      go_enter Tryd.func4, Tryd.ntmps4
      go_wp2_with (first | ((with_reducible refine gate_callee (f := 12) rfl ?_); refine goesL_ (some 13) rfl rfl Tryd.func12 (by kernel_rfl) rfl #[] rfl (by (try simp only [List.map_toArray, List.map_cons, List.map_nil]); first | done | rfl | (simp only [List.length_drop, List.length_take]; rfl)) ?_; (with_reducible refine (toruslaw07_awake.calls k  t314 _ ?side1 A3.out).mono ?_); (case side1 => first | exact hg | exact ⟨Glob.below hg.out (by repeat (first | (with_reducible first | exact HB.out | apply below_alloc | apply pw_below_drewN | apply below_drew1) | exact HB.out))⟩); rintro e w4 ⟨rfl, hb⟩; refine ⟨_, rfl, ?_⟩; have n0_ := Aside0.mk (below_step (by repeat (first | (with_reducible first | exact HB.out | apply below_alloc | apply pw_below_drewN | apply below_drew1) | exact HB.out)) hb); clear HB; have HB := n0_; clear n0_; (try clear hb); (try clear hb2); (try clear hk); (try clear hi)))
      go_ret
      exact ⟨by first | rfl | (simp [errW_none, errW_some] <;> rfl) | (simp [*, errW_none, errW_some] <;> rfl), by repeat (first | (with_reducible first | exact HB.out | apply below_alloc | apply pw_below_drewN | apply below_drew1) | exact HB.out)⟩
  · rw [if_neg c2] at H
    have c2b0 : decide (200 < (l0.length : Int)) = false := decide_eq_false c2
    have c2b1 : decide (200 < l0.length) = false := decide_eq_false (by omega)
    clear c2
    obtain ⟨y315, hy315⟩ : ∃ y_ : List Int, y_ = (([] : List Int)) := ⟨_, rfl⟩
    replace H : (if y315.length + l0.length < 17592186044416 then ((some (y315 ++ l0 : List Int)).bind fun y318 => ((simplex_Sort.f k y318).bind fun bt321 => ((torusref07_Sort.f k l0).bind fun bt326 => ((torusref07_Cmp.f k bt321.1 bt326.1).bind fun t331 => (if t331 = 0 then (if bt321.2.1 = bt326.2.1 then (if bt321.2.2 = bt326.2.2 then ((torusref07_Cmp.f k y318 l0).bind fun t332 => (if t332 = 0 then ((toruslaw07_awake.f k).bind fun t333 => (some t333)) else (none))) else (none)) else (none)) else (none)))))) else (none)) = some r := by first | (rw [hy315]; with_reducible exact H) | (have H2_ := (Option.bind_some _ _).symm.trans H; rw [hy315]; with_reducible exact H2_) | (have H2_ := (Option.bind_some _ _).symm.trans H; with_reducible exact H2_) | with_reducible exact H | (rw [hy315]; exact H) | exact H
    have Ny315 := Aside0.mk hy315
    clear hy315
    by_cases c5 : y315.length + l0.length < 17592186044416
    · rw [if_pos c5] at H
      have LMc5 := Aside0.mk c5
      clear c5
      obtain ⟨y318, hy318⟩ : ∃ y_ : List Int, y_ = (y315 ++ l0) := ⟨_, rfl⟩
      replace H : ((simplex_Sort.f k y318).bind fun bt321 => ((torusref07_Sort.f k l0).bind fun bt326 => ((torusref07_Cmp.f k bt321.1 bt326.1).bind fun t331 => (if t331 = 0 then (if bt321.2.1 = bt326.2.1 then (if bt321.2.2 = bt326.2.2 then ((torusref07_Cmp.f k y318 l0).bind fun t332 => (if t332 = 0 then ((toruslaw07_awake.f k).bind fun t333 => (some t333)) else (none))) else (none)) else (none)) else (none))))) = some r := by first | (rw [hy318]; with_reducible exact H) | (have H2_ := (Option.bind_some _ _).symm.trans H; rw [hy318]; with_reducible exact H2_) | (have H2_ := (Option.bind_some _ _).symm.trans H; with_reducible exact H2_) | with_reducible exact H | (rw [hy318]; exact H) | exact H
      have Ny318 := Aside0.mk hy318
      clear hy318
      replace H := Option.bind_eq_some_iff.mp H
      obtain ⟨⟨t321, t322, t323⟩, A60, H⟩ := H
      replace H : ((torusref07_Sort.f k l0).bind fun bt326 => ((torusref07_Cmp.f k t321 bt326.1).bind fun t331 => (if t331 = 0 then (if t322 = bt326.2.1 then (if t323 = bt326.2.2 then ((torusref07_Cmp.f k y318 l0).bind fun t332 => (if t332 = 0 then ((toruslaw07_awake.f k).bind fun t333 => (some t333)) else (none))) else (none)) else (none)) else (none)))) = some r := H
      have A6 := Aside0.mk A60
      clear A60
      replace H := Option.bind_eq_some_iff.mp H
      obtain ⟨⟨t326, t327, t328⟩, A70, H⟩ := H
      replace H : ((torusref07_Cmp.f k t321 t326).bind fun t331 => (if t331 = 0 then (if t322 = t327 then (if t323 = t328 then ((torusref07_Cmp.f k y318 l0).bind fun t332 => (if t332 = 0 then ((toruslaw07_awake.f k).bind fun t333 => (some t333)) else (none))) else (none)) else (none)) else (none))) = some r := H
      have A7 := Aside0.mk A70
      clear A70
      replace H := Option.bind_eq_some_iff.mp H
      obtain ⟨t331, A80, H⟩ := H
      replace H : (if t331 = 0 then (if t322 = t327 then (if t323 = t328 then ((torusref07_Cmp.f k y318 l0).bind fun t332 => (if t332 = 0 then ((toruslaw07_awake.f k).bind fun t333 => (some t333)) else (none))) else (none)) else (none)) else (none)) = some r := H
      have A8 := Aside0.mk A80
      clear A80
      by_cases c9 : t331 = 0
      · rw [if_pos c9] at H
        have c9b0 : (t331 == 0) = true := beq_iff_eq.mpr c9
        have c9b1 : (t331 != 0) = false := bne_eq_false_iff_eq.mpr c9
        clear c9
        by_cases c10 : t322 = t327
        · rw [if_pos c10] at H
          have c10b0 : (t322 == t327) = true := beq_iff_eq.mpr c10
          have c10b1 : (t322 != t327) = false := bne_eq_false_iff_eq.mpr c10
          clear c10
          by_cases c11 : t323 = t328
          · rw [if_pos c11] at H
            have c11b0 : (t323 == t328) = true := beq_iff_eq.mpr c11
            have c11b1 : (t323 != t328) = false := bne_eq_false_iff_eq.mpr c11
            clear c11
            replace H := Option.bind_eq_some_iff.mp H
            obtain ⟨t332, A120, H⟩ := H
            replace H : (if t332 = 0 then ((toruslaw07_awake.f k).bind fun t333 => (some t333)) else (none)) = some r := H
            have A12 := Aside0.mk A120
            clear A120
            by_cases c13 : t332 = 0
            · rw [if_pos c13] at H
              have c13b0 : (t332 == 0) = true := beq_iff_eq.mpr c13
              have c13b1 : (t332 != 0) = false := bne_eq_false_iff_eq.mpr c13
              clear c13
              replace H := Option.bind_eq_some_iff.mp H
              obtain ⟨t333, A140, H⟩ := H
              replace H : (some t333) = some r := H
              have A14 := Aside0.mk A140
              clear A140
              first
              | with_reducible exact absurd ((Option.some.inj H).trans hrt.out) Bool.false_ne_true
              | skip
                obtain rfl := Option.some.inj H
                go_enter Tryd.func4, Tryd.ntmps4
                go_wp2_with (first | ((with_reducible refine gate_dst (N := 14) rfl ?_); refine Kd.R_lit (Kd.int .i64) _ 3 ?hg (N := 14) ?hd (xs := ([] : List Int)) (inner := []) (ok := fun _ => True) (okp := fun _ => True) ?hr ?hp (fun _ hk => hk) trivial (Below.refl _ _) (Nat.le_refl _) (by simp) ?_; (case hd => rfl); (case hg => rfl); (case hr => first | (go_simp; done) | (go_simp; rfl)); (case hp => exact (Reps.none _ _)); intro v316 w15 ho16 hb hg_ hnew_; clear hg_ hnew_; (first | rw [← Ny315.out] at ho16 | (simp only [Int.reduceToNat] at ho16; rw [← Ny315.out] at ho16)); have n0_ := Aside0.mk (Kd.R_lower ho16 (below_size (by repeat (first | (with_reducible first | exact HB.out | apply below_alloc | apply pw_below_drewN | apply below_drew1) | exact HB.out)))); have n1_ := Aside0.mk (below_step (by repeat (first | (with_reducible first | exact HB.out | apply below_alloc | apply pw_below_drewN | apply below_drew1) | exact HB.out)) hb); clear HB; have HO317 := n0_; have HB := n1_; clear n0_ n1_; clear hb ho16) | ((with_reducible refine gate_builtin (b := .append) (xs := #[.tmp 14, .tmp 15]) rfl ?_); at_builtin; refine Kd.R_append_rows (Kd.int .i64) (w0 := w) w.heap.size rfl (.tmp 14) (.tmp 15) 22 3 (.int .i64 0) 8 rfl Tryd.underlying22 info3 rfl (by decide) (by omega) v316 y315 l0 _ _ _ (fun _ => True) (fun _ => False) rfl rfl ?aO ?aR (fun _ _ h => h) (fun _ h => h.elim) ?aF ?aB ?aS ?aL ?_; (case aR => repeat (first | exact (Kd.C_below HR0.out HB.out) | (with_reducible refine Kd.C_alloc ?_ _) | (with_reducible refine Kd.C_drewN ?_ _) | (with_reducible refine Kd.C_drew ?_))); (case aB => exact (by repeat (first | (with_reducible first | exact HB.out | apply below_alloc | apply pw_below_drewN | apply below_drew1) | exact HB.out))); (case aF => exact (fun _ _ => trivial)); (case aO => exact (by (with_reducible repeat (first | apply Kd.R_alloc | apply Kd.R_drewN | apply Kd.R_drew)); exact HO317.out)); (case aS => exact (below_size (by repeat (first | (with_reducible first | exact HB.out | apply below_alloc | apply pw_below_drewN | apply below_drew1) | exact HB.out)))); (case aL => have := LMc5.out; omega); intro v319 w17 ho hb hg hat; rw [← Ny318.out] at ho; have n0_ := Aside0.mk (hb); have n1_ := Aside0.mk (ho); clear HB; clear HO317; have HB := n0_; have HO320 := n1_; clear n0_ n1_; clear ho hb hg hat; obtain ⟨Ao18, co18, eo18⟩ := Kd.R_slice HO320.out; subst eo18) | ((with_reducible refine gate_callee (f := 18) rfl ?_); refine goesL_ (some 19) rfl rfl Tryd.func18 (by kernel_rfl) rfl #[.slice Ao18 y318.length co18] rfl (by (try simp only [List.map_toArray, List.map_cons, List.map_nil]); first | done | rfl | (simp only [List.length_drop, List.length_take]; rfl)) ?_; (with_reducible refine (simplex_Sort.calls k _ _ y318 t321 t322 t323 _ ?side1 ?side2 A6.out).mono ?_); (case side1 => repeat (first | exact (Kd.R_reads' HO320.out).2.2 | (with_reducible refine Kd.C_alloc ?_ _) | (with_reducible refine Kd.C_drewN ?_ _) | (with_reducible refine Kd.C_drew ?_))); (case side2 => exact (Kd.R_reads' HO320.out).2.1); rintro e w19 ⟨v324, rfl, ho0, hb⟩; refine ⟨_, rfl, ?_⟩; have n0_ := Aside0.mk (Kd.R_elder' (by (with_reducible repeat (first | apply Kd.R_alloc | apply Kd.R_drewN | apply Kd.R_drew)); exact HO320.out) (Kd.R_base ho0) hb); have n1_ := Aside0.mk (Kd.R_lower (Kd.R_new' ho0 (Kd.R_lt (by (with_reducible repeat (first | apply Kd.R_alloc | apply Kd.R_drewN | apply Kd.R_drew)); exact HO320.out))) (below_size (by repeat (first | (with_reducible first | exact HB.out | apply below_alloc | apply pw_below_drewN | apply below_drew1) | exact HB.out)))); have n2_ := Aside0.mk (below_step (by repeat (first | (with_reducible first | exact HB.out | apply below_alloc | apply pw_below_drewN | apply below_drew1) | exact HB.out)) hb); clear HO320; clear HB; have HO320 := n0_; have HO325 := n1_; have HB := n2_; clear n0_ n1_ n2_; (try clear hb); (try clear hb2); (try clear hk); (try clear hi); (try clear ho0)) | ((with_reducible refine gate_callee (f := 19) rfl ?_); refine goesL_ (some 25) rfl rfl Tryd.func19 (by kernel_rfl) rfl #[.slice A0 l0.length c0] rfl (by (try simp only [List.map_toArray, List.map_cons, List.map_nil]); first | done | rfl | (simp only [List.length_drop, List.length_take]; rfl)) ?_; (with_reducible refine (torusref07_Sort.calls k _ _ l0 t326 t327 t328 _ ?side1 ?side2 A7.out).mono ?_); (case side1 => repeat (first | exact (Kd.C_below HR0.out HB.out) | (with_reducible refine Kd.C_alloc ?_ _) | (with_reducible refine Kd.C_drewN ?_ _) | (with_reducible refine Kd.C_drew ?_))); (case side2 => exact HC0.out); rintro e w20 ⟨v329, rfl, ho0, hb⟩; refine ⟨_, rfl, ?_⟩; have n0_ := Aside0.mk (Kd.R_elder' (by (with_reducible repeat (first | apply Kd.R_alloc | apply Kd.R_drewN | apply Kd.R_drew)); exact HO320.out) (Kd.R_base ho0) hb); have n1_ := Aside0.mk (Kd.R_elder' (by (with_reducible repeat (first | apply Kd.R_alloc | apply Kd.R_drewN | apply Kd.R_drew)); exact HO325.out) (Kd.R_base ho0) hb); have n2_ := Aside0.mk (Kd.R_lower (Kd.R_new' (Kd.R_new' ho0 (Kd.R_lt (by (with_reducible repeat (first | apply Kd.R_alloc | apply Kd.R_drewN | apply Kd.R_drew)); exact HO320.out))) (Kd.R_lt (by (with_reducible repeat (first | apply Kd.R_alloc | apply Kd.R_drewN | apply Kd.R_drew)); exact HO325.out))) (below_size (by repeat (first | (with_reducible first | exact HB.out | apply below_alloc | apply pw_below_drewN | apply below_drew1) | exact HB.out)))); have n3_ := Aside0.mk (below_step (by repeat (first | (with_reducible first | exact HB.out | apply below_alloc | apply pw_below_drewN | apply below_drew1) | exact HB.out)) hb); clear HO320; clear HO325; clear HB; have HO320 := n0_; have HO325 := n1_; have HO330 := n2_; have HB := n3_; clear n0_ n1_ n2_ n3_; (try clear hb); (try clear hb2); (try clear hk); (try clear hi); (try clear ho0); obtain ⟨Ao21, co21, eo21⟩ := Kd.R_slice HO325.out; subst eo21; obtain ⟨Ao22, co22, eo22⟩ := Kd.R_slice HO330.out; subst eo22) | ((with_reducible refine gate_callee (f := 17) rfl ?_); refine goesL_ (some 31) rfl rfl Tryd.func17 (by kernel_rfl) rfl #[.slice Ao21 t321.length co21, .slice Ao22 t326.length co22] rfl (by (try simp only [List.map_toArray, List.map_cons, List.map_nil]); first | done | rfl | (simp only [List.length_drop, List.length_take]; rfl)) ?_; (with_reducible refine (torusref07_Cmp.calls k _ _ t321 _ _ t326 t331 _ ?side1 ?side2 ?side3 ?side4 A8.out).mono ?_); (case side1 => repeat (first | exact (Kd.R_reads' HO325.out).2.2 | (with_reducible refine Kd.C_alloc ?_ _) | (with_reducible refine Kd.C_drewN ?_ _) | (with_reducible refine Kd.C_drew ?_))); (case side2 => exact (Kd.R_reads' HO325.out).2.1); (case side3 => repeat (first | exact (Kd.R_reads' HO330.out).2.2 | (with_reducible refine Kd.C_alloc ?_ _) | (with_reducible refine Kd.C_drewN ?_ _) | (with_reducible refine Kd.C_drew ?_))); (case side4 => exact (Kd.R_reads' HO330.out).2.1); rintro e w' ⟨rfl, ⟨nd, rfl⟩⟩; refine ⟨_, rfl, ?_⟩) | (go_at_call 17; (with_reducible refine (torusref07_Cmp.calls k _ _ y318 _ _ l0 t332 _ ?side1 ?side2 ?side3 ?side4 A12.out).mono ?_); (case side1 => repeat (first | exact (Kd.R_reads' HO320.out).2.2 | (with_reducible refine Kd.C_alloc ?_ _) | (with_reducible refine Kd.C_drewN ?_ _) | (with_reducible refine Kd.C_drew ?_))); (case side2 => exact (Kd.R_reads' HO320.out).2.1); (case side3 => repeat (first | exact (Kd.C_below HR0.out (by repeat (first | (with_reducible first | exact HB.out | apply below_alloc | apply pw_below_drewN | apply below_drew1) | exact HB.out))) | (with_reducible refine Kd.C_alloc ?_ _) | (with_reducible refine Kd.C_drewN ?_ _) | (with_reducible refine Kd.C_drew ?_))); (case side4 => exact HC0.out); rintro e w' ⟨rfl, ⟨nd, rfl⟩⟩) | (go_at_call 12; (with_reducible refine (toruslaw07_awake.calls k  t333 _ ?side1 A14.out).mono ?_); (case side1 => first | exact hg | exact ⟨Glob.below hg.out (by repeat (first | (with_reducible first | exact HB.out | apply below_alloc | apply pw_below_drewN | apply below_drew1) | exact HB.out))⟩); rintro e w23 ⟨rfl, hb⟩; have n0_ := Aside0.mk (Kd.R_below (by (with_reducible repeat (first | apply Kd.R_alloc | apply Kd.R_drewN | apply Kd.R_drew)); exact HO320.out) hb); have n1_ := Aside0.mk (Kd.R_below (by (with_reducible repeat (first | apply Kd.R_alloc | apply Kd.R_drewN | apply Kd.R_drew)); exact HO325.out) hb); have n2_ := Aside0.mk (Kd.R_below (by (with_reducible repeat (first | apply Kd.R_alloc | apply Kd.R_drewN | apply Kd.R_drew)); exact HO330.out) hb); have n3_ := Aside0.mk (below_step (by repeat (first | (with_reducible first | exact HB.out | apply below_alloc | apply pw_below_drewN | apply below_drew1) | exact HB.out)) hb); clear HO320; clear HO325; clear HO330; clear HB; have HO320 := n0_; have HO325 := n1_; have HO330 := n2_; have HB := n3_; clear n0_ n1_ n2_ n3_; (try clear hb); (try clear hb2); (try clear hk); (try clear hi)))
                go_ret
                exact ⟨by first | rfl | (simp [errW_none, errW_some] <;> rfl) | (simp [*, errW_none, errW_some] <;> rfl), by repeat (first | (with_reducible first | exact HB.out | apply below_alloc | apply pw_below_drewN | apply below_drew1) | exact HB.out)⟩
            · rw [if_neg c13] at H
              exact absurd H (by simp)
          · rw [if_neg c11] at H
            exact absurd H (by simp)
        · rw [if_neg c10] at H
          exact absurd H (by simp)
      · rw [if_neg c9] at H
        exact absurd H (by simp)
    · rw [if_neg c5] at H
      exact absurd H (by simp)

/-- THE ONE PURE STATEMENT of toruslaw07_SimplexSortsMatch: yours. -/
def toruslaw07_SimplexSortsMatch.Pure : Prop := ∀ (l0 : List Int), l0.length ≤ maxLen → l0.length * 8 ≤ 140737488351232 → (∀ x ∈ l0, (Lit.int .i64 x).wf = true) → ∃ k, toruslaw07_SimplexSortsMatch.f k l0 = some true
theorem toruslaw07_SimplexSortsMatch.walk (P : toruslaw07_SimplexSortsMatch.Pure) (a0 : Option Addr) (len0 cap0 : Nat) (z0 : List Int) (w : World) (hg : Aside0 (Glob w)) (w0 : (a0 = none ∧ len0 = 0 ∧ cap0 = 0 ∧ z0 = []) ∨ ∃ x, a0 = some x ∧ len0 ≤ cap0 ∧ cap0 ≤ maxLen ∧ z0.length = cap0 ∧ (∀ i, i < z0.length → w.cell? (x.add i) = some (.int .i64 (z0.getD i 0))) ∧ ∀ n ∈ z0, (Lit.int .i64 n).wf = true) (y0 : len0 * 8 ≤ 140737488351232) :
    Calls Tryd.prog 4 #[.slice a0 len0 cap0] w fun e w' => e = .returned (.bool true) ∧ Below w.heap.size w w' := by
  obtain ⟨l0, rfl, hr0, hm0, hw0, hc0⟩ := ReadsInt.ofRowC w0
  obtain ⟨k, h⟩ := P l0 hm0 y0 hw0
  refine (toruslaw07_SimplexSortsMatch.calls k _ _ l0 true w (Kd.C_of_reads (d := (0 : Int)) (h1 := fun _ => rfl) hr0) hc0 hg ⟨rfl⟩ h).mono ?_
  rintro e w' ⟨rfl, hd⟩
  exact ⟨rfl, hd⟩

end Go.Proofs.YticckanjfdcpaaaDoor.PSimplex
namespace Go.Proofs.YticckanjfdcpaaaDoor.PSimplex
open Go.RowKit Go.Proofs.YticckanjfdcpaaaDoorW.PrintWords Go.Proofs.YticckanjfdcpaaaDoorW.PrintLast Go.Proofs.YticckanjfdcpaaaDoorW.PrintMore
set_option linter.unusedVariables false
set_option linter.unusedSimpArgs false
set_option maxRecDepth 100000
theorem awake_now : toruslaw07_awake.f 100 = some true := by decide +kernel
theorem wrap_id {a : Int} (h0 : -9223372036854775808 ≤ a) (h1 : a ≤ 9223372036854775807) : wrap64 a = a := by unfold wrap64; omega
theorem ev_bind {α β : Type} {g : Nat → Option α} {f : Nat → α → Option β} {a : α} {r : β} (h : Ev g a) : Ev (fun n => (g n).bind (f n)) r ↔ Ev (fun n => f n a) r := by
  refine ⟨fun hb => ?_, fun hf => Ev.bind h hf⟩
  obtain ⟨K, h⟩ := h
  obtain ⟨K', hb⟩ := hb
  refine ⟨max K K', fun n hn => ?_⟩
  have h2 : (g n).bind (f n) = some r := hb n (by omega)
  rw [h n (by omega)] at h2
  exact h2
theorem ev_succ {α : Type} {g : Nat → Option α} {r : α} (h : Ev (fun k => g (k + 1)) r) : Ev g r := Ev.step (fun _ => rfl) h
theorem awake_ev : Ev (fun k => toruslaw07_awake.f k) true := Ev.of toruslaw07_awake.mono (k := 100) awake_now

/-! ### The order -/
/-- The first difference of two lists. -/
def lex : List Int → List Int → Int
  | x :: xs, y :: ys => if x < y then -1 else if y < x then 1 else lex xs ys
  | _, _ => 0
/-- Lists by length, then by the first difference. -/
def cm (a b : List Int) : Int := if a.length < b.length then -1 else if b.length < a.length then 1 else lex a b
theorem lex_cons (x y : Int) (xs ys : List Int) : lex (x :: xs) (y :: ys) = if x < y then -1 else if y < x then 1 else lex xs ys := rfl
theorem lex_self : ∀ a, lex a a = 0
  | [] => rfl
  | x :: xs => by simp [lex, lex_self xs]
theorem lex_swap : ∀ a b, lex b a = -lex a b
  | [], [] => rfl
  | [], _ :: _ => rfl
  | _ :: _, [] => rfl
  | x :: xs, y :: ys => by
    have := lex_swap xs ys
    unfold lex
    split <;> split <;> (try split) <;> omega
theorem lex_range : ∀ a b, lex a b = -1 ∨ lex a b = 0 ∨ lex a b = 1
  | [], [] => by simp [lex]
  | [], _ :: _ => by simp [lex]
  | _ :: _, [] => by simp [lex]
  | x :: xs, y :: ys => by
    have := lex_range xs ys
    unfold lex
    split
    · simp
    · split
      · simp
      · exact this
theorem lex_eq : ∀ a b, a.length = b.length → lex a b = 0 → a = b
  | [], [], _, _ => rfl
  | x :: xs, y :: ys, h, e => by
    unfold lex at e
    split at e
    · simp at e
    · split at e
      · simp at e
      · rw [lex_eq xs ys (by simpa using h) e]
        congr 1
        omega
theorem lex_le : ∀ a b c, a.length = b.length → b.length = c.length → lex a b ≤ 0 → lex b c ≤ 0 → lex a c ≤ 0
  | [], [], [], _, _, _, _ => by simp [lex]
  | x :: xs, y :: ys, z :: zs, h, h', e, e' => by
    have ih := lex_le xs ys zs (by simpa using h) (by simpa using h')
    unfold lex at e e' ⊢
    split at e <;> split at e' <;> split <;> (try split) <;> (try split at e) <;> (try split at e') <;> first | omega | (exact ih e e') | skip
theorem cm_self (a : List Int) : cm a a = 0 := by simp [cm, lex_self]
theorem cm_swap (a b : List Int) : cm b a = -cm a b := by
  have := lex_swap a b
  unfold cm
  split <;> split <;> omega
theorem cm_range (a b : List Int) : cm a b = -1 ∨ cm a b = 0 ∨ cm a b = 1 := by
  have := lex_range a b
  unfold cm
  split
  · simp
  · split
    · simp
    · exact this
theorem cm_eq (a b : List Int) (h : cm a b = 0) : a = b := by
  unfold cm at h
  split at h
  · simp at h
  · split at h
    · simp at h
    · exact lex_eq a b (by omega) h
theorem cm_le (a b c : List Int) (h : cm a b ≤ 0) (h' : cm b c ≤ 0) : cm a c ≤ 0 := by
  have := lex_le a b c
  unfold cm at h h' ⊢
  split at h <;> split at h' <;> (try split at h) <;> (try split at h') <;> split <;> (try split) <;> first | omega | (exact this (by omega) (by omega) h h')

theorem drop_cons (a : List Int) (i : Nat) (h : i < a.length) : a.drop i = rd a (i : Int) :: a.drop (i + 1) := by
  rw [List.drop_eq_getElem_cons h]
  simp [rd, h]
theorem rcmp_l (a b : List Int) (he : a.length = b.length) (hl : a.length ≤ 9223372036854775806) : ∀ (m i k : Nat), m = a.length - i → m < k → i ≤ a.length →
    torusref07_Cmp.l0 k a b (i : Int) = some (lex (a.drop i) (b.drop i))
  | 0, i, k + 1, hm, hk, hi => by
    have e : ¬ ((i : Int) < (a.length : Int)) := by omega
    unfold torusref07_Cmp.l0
    rw [if_neg e, List.drop_of_length_le (by omega), List.drop_of_length_le (by omega)]
    rfl
  | m + 1, i, k + 1, hm, hk, hi => by
    have ih := rcmp_l a b he hl m (i + 1) k (by omega) (by omega) (by omega)
    have w : wrap64 ((i : Int) + 1) = ((i + 1 : Nat) : Int) := by rw [wrap_id (by omega) (by omega)]; omega
    unfold torusref07_Cmp.l0
    rw [if_pos (by omega), if_pos (by omega), if_pos (by omega), drop_cons a i (by omega), drop_cons b i (by omega), w, ih, lex_cons]
    by_cases c : rd a (i : Int) < rd b (i : Int)
    · rw [if_pos c, if_pos c]
    · rw [if_neg c, if_neg c]
      by_cases c' : rd b (i : Int) < rd a (i : Int)
      · rw [if_pos c', if_pos c']
      · rw [if_neg c', if_neg c']
theorem rcmp_ev (a b : List Int) (hl : a.length ≤ 9223372036854775806) : Ev (fun k => torusref07_Cmp.f k a b) (cm a b) := by
  refine Ev.of (torusref07_Cmp.mono a b) (k := a.length + 1) ?_
  unfold torusref07_Cmp.f cm
  by_cases c : (a.length : Int) = (b.length : Int)
  · rw [if_pos c, if_neg (by omega), if_neg (by omega)]
    simpa using rcmp_l a b (by omega) hl a.length 0 (a.length + 1) (by omega) (by omega) (by omega)
  · rw [if_neg c]
    by_cases c' : (a.length : Int) < (b.length : Int)
    · rw [if_pos c', if_pos (by omega)]
    · rw [if_neg c', if_neg (by omega), if_pos (by omega)]
theorem ccmp (a b : Int) : cmp_Compare_int.f a b = some (if a < b then -1 else if b < a then 1 else 0) := by
  have h : ∀ x : Int, cmp_isNaN_int.f x = some false := fun x => by simp [cmp_isNaN_int.f]
  unfold cmp_Compare_int.f
  rw [h, h]
  simp only [Option.bind_some]
  rw [if_neg (by simp), if_neg (by simp)]
  split
  · rfl
  · split <;> rfl
theorem scmp_l (a b : List Int) (he : a.length = b.length) (hl : a.length ≤ 9223372036854775806) : ∀ (m i k : Nat), m = a.length - i → m < k → i ≤ a.length →
    api_Simplex_int_45.l0 k a b a (a.length : Int) (i : Int) = some (lex (a.drop i) (b.drop i))
  | 0, i, k + 1, hm, hk, hi => by
    unfold api_Simplex_int_45.l0
    rw [if_neg (by omega), if_neg (by omega), List.drop_of_length_le (by omega), List.drop_of_length_le (by omega)]
    rfl
  | m + 1, i, k + 1, hm, hk, hi => by
    have ih := scmp_l a b he hl m (i + 1) k (by omega) (by omega) (by omega)
    have w : wrap64 ((i : Int) + 1) = ((i + 1 : Nat) : Int) := by rw [wrap_id (by omega) (by omega)]; omega
    unfold api_Simplex_int_45.l0
    rw [if_pos (by omega), if_pos (by omega), if_pos (by omega), if_neg (by omega), if_pos (by omega), ccmp, drop_cons a i (by omega), drop_cons b i (by omega), w, ih, lex_cons]
    simp only [Option.bind_some]
    by_cases c : rd a (i : Int) < rd b (i : Int)
    · rw [if_pos c, if_pos c]; rfl
    · rw [if_neg c, if_neg c]
      by_cases c' : rd b (i : Int) < rd a (i : Int)
      · rw [if_pos c', if_pos c']; rfl
      · rw [if_neg c', if_neg c', if_pos rfl]
theorem scmp_ev (a b : List Int) (hl : a.length ≤ 9223372036854775806) : Ev (fun k => simplex_Cmp.f k a b) (cm a b) := by
  refine Ev.of (simplex_Cmp.mono a b) (k := a.length + 1) ?_
  unfold simplex_Cmp.f cm
  rw [ccmp]
  simp only [Option.bind_some]
  by_cases c : (a.length : Int) < (b.length : Int)
  · rw [if_pos c, if_neg (by decide), if_pos (by omega)]
  · rw [if_neg c]
    by_cases c' : (b.length : Int) < (a.length : Int)
    · rw [if_pos c', if_neg (by decide), if_neg (by omega), if_pos (by omega)]
    · rw [if_neg c', if_pos rfl, if_neg (by omega), if_neg (by omega)]
      unfold api_Simplex_int_45.f
      have := scmp_l a b (by omega) hl a.length 0 (a.length + 1) (by omega) (by omega) (by omega)
      simp only [List.drop_zero] at this
      rw [show ((0 : Nat) : Int) = 0 from rfl] at this
      rw [this]
      rfl

theorem law_long {α : Type} {g : Nat → Option α} {f : Nat → α → Option Bool} {a : α} (h : Ev g a) (hf : Ev (fun n => f n a) true) : Ev (fun n => (g n).bind (f n)) true := (ev_bind h).mpr hf
end Go.Proofs.YticckanjfdcpaaaDoor.PSimplex
namespace Go.Proofs.YticckanjfdcpaaaDoor.PSimplex
open Go.RowKit Go.Proofs.YticckanjfdcpaaaDoorW.PrintWords Go.Proofs.YticckanjfdcpaaaDoorW.PrintLast Go.Proofs.YticckanjfdcpaaaDoorW.PrintMore
set_option linter.unusedVariables false
set_option linter.unusedSimpArgs false

def bad (v : Int) : Bool := decide (v < 0) || decide (v ≥ 64)
def asc : List Int → Bool
  | x :: y :: t => decide (x < y) && asc (y :: t)
  | _ => true
def ck (l : List Int) : Int := if l.length = 0 then 1 else if l.length > 5 then 3 else if l.any bad = true then 1 else if asc l = true then 0 else 6
theorem wrap_nat (i : Nat) (h : i ≤ 1000000) : wrap64 ((i : Int) + 1) = ((i + 1 : Nat) : Int) := by rw [wrap_id (by omega) (by omega)]; omega
theorem bad_if (v : Int) : (decide (v < 0) || decide (v ≥ 64)) = bad v := rfl
theorem vert_l (l : List Int) (hl : l.length ≤ 1000) : ∀ (m i : Nat), m = l.length - i → i ≤ l.length →
    Ev (fun k => (vert_ix.l0 k l (l.length : Int) (i : Int)).bind fun t => if t ≥ 0 then some (1 : Int) else some 0) (if (l.drop i).any bad = true then 1 else 0)
  | 0, i, hm, hi => by
    rw [List.drop_of_length_le (by omega)]
    refine ev_succ ?_
    simp only [vert_ix.l0, if_neg (show ¬ ((i : Int) < (l.length : Int)) by omega), Option.bind_some]
    exact Ev.now _
  | m + 1, i, hm, hi => by
    have ih := vert_l l hl m (i + 1) (by omega) (by omega)
    rw [drop_cons l i (by omega)]
    refine ev_succ ?_
    simp only [vert_ix.l0, if_pos (show ((i : Int) < (l.length : Int)) by omega), if_pos (show (0 : Int) ≤ (i : Int) by omega), bad_if, wrap_nat i (by omega)]
    cases hb : bad (rd l (i : Int)) with
    | true =>
      simp only [if_true, Option.bind_some, if_pos (show (i : Int) ≥ 0 by omega), List.any_cons, hb, Bool.true_or]
      exact Ev.now _
    | false =>
      simp only [Bool.false_eq_true, if_false, List.any_cons, hb, Bool.false_or]
      exact ih
theorem asc_cons (l : List Int) (i : Nat) (h : i + 1 < l.length) : asc (l.drop i) = (decide (rd l (i : Int) < rd l ((i + 1 : Nat) : Int)) && asc (l.drop (i + 1))) := by
  rw [drop_cons l i (by omega), drop_cons l (i + 1) h]
  rfl
theorem asc_end (l : List Int) (i : Nat) (h : l.length ≤ i + 1) : asc (l.drop i) = true := by
  by_cases h2 : i < l.length
  · rw [drop_cons l i h2, List.drop_of_length_le (by omega)]
    rfl
  · rw [List.drop_of_length_le (by omega)]
    rfl
theorem rd_drop1 (l : List Int) (i : Nat) : rd (l.drop 1) (i : Int) = rd l ((i + 1 : Nat) : Int) := by
  simp [rd, List.getElem?_drop, Nat.add_comm]
theorem scheck_l (l : List Int) (hl : l.length ≤ 1000) (h1 : 1 ≤ l.length) : ∀ (m i : Nat), m = l.length - 1 - i → i ≤ l.length - 1 →
    Ev (fun k => simplex_Check.l0 k l (l.drop 1) ((l.drop 1).length : Int) (i : Int)) (if asc (l.drop i) = true then 0 else 6)
  | 0, i, hm, hi => by
    have hd : (l.drop 1).length = l.length - 1 := List.length_drop
    rw [asc_end l i (by omega)]
    refine ev_succ ?_
    simp only [simplex_Check.l0, if_neg (show ¬ ((i : Int) < ((l.drop 1).length : Int)) by omega)]
    exact Ev.now _
  | m + 1, i, hm, hi => by
    have hd : (l.drop 1).length = l.length - 1 := List.length_drop
    have ih := scheck_l l hl h1 m (i + 1) (by omega) (by omega)
    rw [asc_cons l i (by omega)]
    refine ev_succ ?_
    simp only [simplex_Check.l0, if_pos (show ((i : Int) < ((l.drop 1).length : Int)) by omega), if_pos (show (0 : Int) ≤ (i : Int) by omega), if_pos (show ((i : Int) < (l.length : Int)) by omega), wrap_nat i (by omega), rd_drop1]
    by_cases c : rd l ((i + 1 : Nat) : Int) ≤ rd l (i : Int)
    · simp only [if_pos c, decide_eq_false (show ¬ (rd l (i : Int) < rd l ((i + 1 : Nat) : Int)) by omega), Bool.false_and, Bool.false_eq_true, if_false]
      exact Ev.now _
    · simp only [if_neg c, decide_eq_true (show (rd l (i : Int) < rd l ((i + 1 : Nat) : Int)) by omega), Bool.true_and]
      exact ih
theorem svert_ev (l : List Int) : Ev (fun k => simplex_vertices.f k l) (if l.length = 0 then 1 else if l.length > 5 then 3 else if l.any bad = true then 1 else 0) := by
  by_cases c : l.length = 0
  · simp only [simplex_vertices.f, if_pos c, if_pos (show (l.length : Int) = 0 by omega)]
    exact Ev.now _
  · by_cases c' : l.length > 5
    · simp only [simplex_vertices.f, if_neg c, if_pos c', if_neg (show ¬ ((l.length : Int) = 0) by omega), if_pos (show (l.length : Int) > 5 by omega)]
      exact Ev.now _
    · simp only [simplex_vertices.f, if_neg c, if_neg c', if_neg (show ¬ ((l.length : Int) = 0) by omega), if_neg (show ¬ ((l.length : Int) > 5) by omega)]
      simpa using vert_l l (by omega) l.length 0 (by omega) (by omega)
theorem scheck_ev (l : List Int) : Ev (fun k => simplex_Check.f k l) (ck l) := by
  unfold simplex_Check.f ck
  refine (ev_bind (svert_ev l)).mpr ?_
  by_cases c : l.length = 0
  · simp only [if_pos c]
    exact Ev.now _
  · by_cases c' : l.length > 5
    · simp only [if_neg c, if_pos c']
      exact Ev.now _
    · simp only [if_neg c, if_neg c']
      cases hb : l.any bad with
      | true => exact Ev.now _
      | false =>
        simp only [Bool.false_eq_true, if_false, if_true, if_pos (show 1 ≤ (l.length : Int) by omega)]
        simpa using scheck_l l (by omega) (by omega) (l.length - 1) 0 (by omega) (by omega)
theorem rcheck_l1 (l : List Int) (hl : l.length ≤ 1000) : ∀ (m i : Nat), m = l.length - 1 - i → Ev (fun k => torusref07_Check.l1 k l ((i + 1 : Nat) : Int)) (if asc (l.drop i) = true then 0 else 6)
  | 0, i, hm => by
    rw [asc_end l i (by omega)]
    refine ev_succ ?_
    simp only [torusref07_Check.l1, if_neg (show ¬ (((i + 1 : Nat) : Int) < (l.length : Int)) by omega)]
    exact Ev.now _
  | m + 1, i, hm => by
    have ih := rcheck_l1 l hl m (i + 1) (by omega)
    have hw : wrap64 (((i + 1 : Nat) : Int) - 1) = (i : Int) := by rw [wrap_id (by omega) (by omega)]; omega
    rw [asc_cons l i (by omega)]
    refine ev_succ ?_
    simp only [torusref07_Check.l1, if_pos (show (((i + 1 : Nat) : Int) < (l.length : Int)) by omega), if_pos (show (0 : Int) ≤ ((i + 1 : Nat) : Int) by omega), hw, if_pos (show (0 : Int) ≤ (i : Int) by omega), if_pos (show ((i : Int) < (l.length : Int)) by omega), wrap_nat (i + 1) (by omega)]
    by_cases c : rd l ((i + 1 : Nat) : Int) ≤ rd l (i : Int)
    · simp only [if_pos c, decide_eq_false (show ¬ (rd l (i : Int) < rd l ((i + 1 : Nat) : Int)) by omega), Bool.false_and, Bool.false_eq_true, if_false]
      exact Ev.now _
    · simp only [if_neg c, decide_eq_true (show (rd l (i : Int) < rd l ((i + 1 : Nat) : Int)) by omega), Bool.true_and]
      exact ih
theorem rcheck_l0 (l : List Int) (hl : l.length ≤ 1000) : ∀ (m i : Nat), m = l.length - i → i ≤ l.length → Ev (fun k => torusref07_Check.l0 k l (i : Int)) (if (l.drop i).any bad = true then 1 else if asc l = true then 0 else 6)
  | 0, i, hm, hi => by
    rw [List.drop_of_length_le (by omega)]
    refine ev_succ ?_
    simp only [torusref07_Check.l0, if_neg (show ¬ ((i : Int) < (l.length : Int)) by omega), List.any_nil, Bool.false_eq_true, if_false]
    simpa using rcheck_l1 l hl (l.length - 1) 0 (by omega)
  | m + 1, i, hm, hi => by
    have ih := rcheck_l0 l hl m (i + 1) (by omega) (by omega)
    rw [drop_cons l i (by omega)]
    refine ev_succ ?_
    simp only [torusref07_Check.l0, if_pos (show ((i : Int) < (l.length : Int)) by omega), if_pos (show (0 : Int) ≤ (i : Int) by omega), wrap_nat i (by omega), List.any_cons]
    by_cases c : rd l (i : Int) < 0
    · have hb : bad (rd l (i : Int)) = true := by simp [bad, c]
      simp only [if_pos c, hb, Bool.true_or, if_true]
      exact Ev.now _
    · by_cases c' : rd l (i : Int) ≥ 64
      · have hb : bad (rd l (i : Int)) = true := by simp [bad, c']
        simp only [if_neg c, if_pos c', hb, Bool.true_or, if_true]
        exact Ev.now _
      · have hb : bad (rd l (i : Int)) = false := by simp [bad]; omega
        simp only [if_neg c, if_neg c', hb, Bool.false_or]
        exact ih
theorem rcheck_ev (l : List Int) : Ev (fun k => torusref07_Check.f k l) (ck l) := by
  unfold torusref07_Check.f ck
  by_cases c : l.length = 0
  · simp only [if_pos c, if_pos (show (l.length : Int) = 0 by omega)]
    exact Ev.now _
  · by_cases c' : l.length > 5
    · simp only [if_neg c, if_pos c', if_neg (show ¬ ((l.length : Int) = 0) by omega), if_pos (show (l.length : Int) > 5 by omega)]
      exact Ev.now _
    · simp only [if_neg c, if_neg c', if_neg (show ¬ ((l.length : Int) = 0) by omega), if_neg (show ¬ ((l.length : Int) > 5) by omega)]
      simpa using rcheck_l0 l (by omega) l.length 0 (by omega) (by omega)
theorem ck_ok {l : List Int} (h : ck l = 0) : 1 ≤ l.length ∧ l.length ≤ 5 ∧ l.any bad = false ∧ asc l = true := by
  unfold ck at h
  split at h
  · simp at h
  · split at h
    · simp at h
    · split at h
      · simp at h
      · rename_i c1 c2 c3
        split at h
        · rename_i c4
          exact ⟨by omega, by omega, by simpa using c3, c4⟩
        · simp at h
theorem ck_of {l : List Int} (h1 : 1 ≤ l.length) (h2 : l.length ≤ 5) (h3 : l.any bad = false) (h4 : asc l = true) : ck l = 0 := by
  unfold ck
  rw [if_neg (by omega), if_neg (by omega), h3, h4]
  rfl
end Go.Proofs.YticckanjfdcpaaaDoor.PSimplex
namespace Go.Proofs.YticckanjfdcpaaaDoor.PSimplex
open Go.RowKit Go.Proofs.YticckanjfdcpaaaDoorW.PrintWords Go.Proofs.YticckanjfdcpaaaDoorW.PrintLast Go.Proofs.YticckanjfdcpaaaDoorW.PrintMore
set_option linter.unusedVariables false
set_option linter.unusedSimpArgs false

/-- An element is moved down a list that is told from its end on. -/
def insR : List Int → Int → List Int
  | [], x => [x]
  | a :: R, x => if x < a then a :: insR R x else x :: a :: R
def insN : List Int → Int → Nat
  | [], _ => 0
  | a :: R, x => if x < a then insN R x + 1 else 0
def srt : List Int → List Int → List Int
  | R, [] => R.reverse
  | R, x :: B => srt (insR R x) B
def swp : List Int → List Int → Nat
  | _, [] => 0
  | R, x :: B => insN R x + swp (insR R x) B
theorem insR_len : ∀ R x, (insR R x).length = R.length + 1
  | [], x => rfl
  | a :: R, x => by
    unfold insR
    split
    · simp [insR_len R x]
    · simp
theorem rd_mid (L : List Int) (x : Int) (B : List Int) : rd (L ++ x :: B) (L.length : Int) = x := by simp [rd]
theorem set_mid (L : List Int) (x y : Int) (B : List Int) : (L ++ x :: B).set L.length y = L ++ y :: B := by
  rw [List.set_append_right _ _ (Nat.le_refl _)]
  simp
theorem less_at (a b : Int) : cmp_Less_int.f a b = some (decide (a < b)) := by simp [cmp_Less_int.f, cmp_isNaN_int.f]
theorem two_set (R : List Int) (a x : Int) (B : List Int) : ((R.reverse ++ a :: x :: B).set (R.length + 1) a).set R.length x = R.reverse ++ x :: a :: B := by
  have h1 := set_mid (R.reverse ++ [a]) x a B
  have h2 := set_mid R.reverse a x (a :: B)
  simp only [List.append_assoc, List.singleton_append, List.length_append, List.length_reverse, List.length_cons, List.length_nil] at h1 h2
  simp only [Nat.zero_add] at h1
  rw [h1, h2]
theorem two_set' (R : List Int) (a x : Int) (B : List Int) : ((R.reverse ++ a :: x :: B).set R.length x).set (R.length + 1) a = R.reverse ++ x :: a :: B := by
  have h1 := set_mid (R.reverse ++ [x]) x a B
  have h2 := set_mid R.reverse a x (x :: B)
  simp only [List.append_assoc, List.singleton_append, List.length_append, List.length_reverse, List.length_cons, List.length_nil] at h1 h2
  simp only [Nat.zero_add] at h1
  rw [h2, h1]
theorem rd_lo (R : List Int) (a x : Int) (B : List Int) : rd (R.reverse ++ a :: x :: B) (R.length : Int) = a := by
  have := rd_mid R.reverse a (x :: B)
  simpa using this
theorem rd_hi (R : List Int) (a x : Int) (B : List Int) : rd (R.reverse ++ a :: x :: B) ((R.length + 1 : Nat) : Int) = x := by
  have := rd_mid (R.reverse ++ [a]) x B
  simpa using this

theorem ins_l1 (n i : Int) (r : List Int) : ∀ (R : List Int) (x : Int) (B : List Int), R.length + B.length ≤ 100000 → Ev (fun k => slices_insertionSortOrdered_int.l0 k ((insR R x).reverse ++ B) 0 n (wrap64 (i + 1))) r →
    Ev (fun k => slices_insertionSortOrdered_int.l1 k (R.reverse ++ x :: B) 0 n i (R.length : Int)) r
  | [], x, B, hl, h => by
    refine ev_succ ?_
    simp only [slices_insertionSortOrdered_int.l1, List.length_nil, if_neg (show ¬ (((0 : Nat) : Int) > 0) by omega)]
    simpa [insR] using h
  | a :: R, x, B, hl, h => by
    have e : ((a :: R).reverse ++ x :: B) = R.reverse ++ a :: x :: B := by simp
    have hlen : ((R.reverse ++ a :: x :: B).length : Int) = (R.length : Int) + 2 + (B.length : Int) := by simp; omega
    have hw : wrap64 (((R.length + 1 : Nat) : Int) - 1) = (R.length : Int) := by rw [wrap_id (by simp at hl; omega) (by simp at hl; omega)]; omega
    refine ev_succ ?_
    rw [e]
    simp only [slices_insertionSortOrdered_int.l1, List.length_cons, if_pos (show ((R.length + 1 : Nat) : Int) > 0 by omega), if_pos (show (0 : Int) ≤ ((R.length + 1 : Nat) : Int) by omega), hw, hlen, if_pos (show ((R.length + 1 : Nat) : Int) < (R.length : Int) + 2 + (B.length : Int) by omega),
      if_pos (show (0 : Int) ≤ (R.length : Int) by omega), if_pos (show (R.length : Int) < (R.length : Int) + 2 + (B.length : Int) by omega), rd_lo, rd_hi, less_at, Option.bind_some]
    by_cases c : x < a
    · simp only [decide_eq_true c, if_true, Int.toNat_natCast, two_set]
      refine ins_l1 n i r R x (a :: B) (by simp at hl ⊢; omega) ?_
      simpa [insR, c] using h
    · simp only [decide_eq_false c, Bool.false_eq_true, if_false]
      simpa [insR, c] using h
theorem ins_l0 : ∀ (B R : List Int), R.length + B.length ≤ 100000 → Ev (fun k => slices_insertionSortOrdered_int.l0 k (R.reverse ++ B) 0 ((R.length + B.length : Nat) : Int) (R.length : Int)) (srt R B)
  | [], R, hl => by
    refine ev_succ ?_
    simp only [slices_insertionSortOrdered_int.l0, List.length_nil, Nat.add_zero, if_neg (show ¬ ((R.length : Int) < (R.length : Int)) by omega), List.append_nil, srt]
    exact Ev.now _
  | x :: B, R, hl => by
    have ih := ins_l0 B (insR R x) (by rw [insR_len]; simp at hl; omega)
    rw [insR_len] at ih
    have hw : wrap64 ((R.length : Int) + 1) = ((R.length + 1 : Nat) : Int) := wrap_nat _ (by simp at hl; omega)
    refine ev_succ ?_
    simp only [slices_insertionSortOrdered_int.l0, List.length_cons, if_pos (show (R.length : Int) < ((R.length + (B.length + 1) : Nat) : Int) by omega), srt]
    refine ins_l1 _ _ _ R x B (by simp at hl; omega) ?_
    rw [hw, show R.length + (B.length + 1) = R.length + 1 + B.length by omega]
    exact ih
theorem ins_ev (l : List Int) (hl : l.length ≤ 100000) : Ev (fun k => slices_insertionSortOrdered_int.f k l 0 (l.length : Int)) (srt [] l) := by
  cases l with
  | nil =>
    refine Ev.of (slices_insertionSortOrdered_int.mono _ _ _) (k := 1) ?_
    decide +kernel
  | cons x B =>
    have := ins_l0 B [x] (by simp at hl ⊢; omega)
    unfold slices_insertionSortOrdered_int.f
    have hw : wrap64 (0 + 1) = 1 := by decide +kernel
    rw [hw]
    simpa [srt, insR, Nat.add_comm] using this
theorem sort42_ev (l : List Int) (hl : l.length ≤ 12) : Ev (fun k => api_Simplex_int_42.f k l) (srt [] l) := by
  unfold api_Simplex_int_42.f
  simp only [if_pos (show (l.length : Int) ≤ 12 by omega)]
  exact ins_ev l (by omega)

theorem rins_l1 (i : Int) (r : List Int × Int) : ∀ (R : List Int) (x : Int) (B : List Int) (p : Nat), R.length + B.length ≤ 100000 → Ev (fun k => torusref07_Sorted.l0 k ((insR R x).reverse ++ B) (((p + insN R x) % 2 : Nat) : Int) (wrap64 (i + 1))) r →
    Ev (fun k => torusref07_Sorted.l1 k (R.reverse ++ x :: B) ((p % 2 : Nat) : Int) i (R.length : Int)) r
  | [], x, B, p, hl, h => by
    refine ev_succ ?_
    simp only [torusref07_Sorted.l1, List.length_nil, if_neg (show ¬ (((0 : Nat) : Int) > 0) by omega)]
    simpa [insR, insN] using h
  | a :: R, x, B, p, hl, h => by
    have e : ((a :: R).reverse ++ x :: B) = R.reverse ++ a :: x :: B := by simp
    have hlen : ((R.reverse ++ a :: x :: B).length : Int) = (R.length : Int) + 2 + (B.length : Int) := by simp; omega
    have hw : wrap64 (((R.length + 1 : Nat) : Int) - 1) = (R.length : Int) := by rw [wrap_id (by simp at hl; omega) (by simp at hl; omega)]; omega
    have hp : wrap64 (1 - ((p % 2 : Nat) : Int)) = (((p + 1) % 2 : Nat) : Int) := by rw [wrap_id (by omega) (by omega)]; omega
    refine ev_succ ?_
    rw [e]
    simp only [torusref07_Sorted.l1, List.length_cons, if_pos (show ((R.length + 1 : Nat) : Int) > 0 by omega), if_pos (show (0 : Int) ≤ ((R.length + 1 : Nat) : Int) by omega), hw, hlen, if_pos (show ((R.length + 1 : Nat) : Int) < (R.length : Int) + 2 + (B.length : Int) by omega),
      if_pos (show (0 : Int) ≤ (R.length : Int) by omega), if_pos (show (R.length : Int) < (R.length : Int) + 2 + (B.length : Int) by omega), rd_lo, rd_hi]
    by_cases c : x < a
    · simp only [if_pos (show a > x from c), Int.toNat_natCast, two_set', hp]
      refine rins_l1 i r R x (a :: B) (p + 1) (by simp at hl ⊢; omega) ?_
      have e2 : p + 1 + insN R x = p + (insN R x + 1) := by omega
      rw [e2]
      simpa [insR, insN, c] using h
    · simp only [if_neg (show ¬ (a > x) from c)]
      simpa [insR, insN, c] using h
theorem rins_l0 : ∀ (B R : List Int) (p : Nat), R.length + B.length ≤ 100000 → Ev (fun k => torusref07_Sorted.l0 k (R.reverse ++ B) ((p % 2 : Nat) : Int) (R.length : Int)) (srt R B, (((p + swp R B) % 2 : Nat) : Int))
  | [], R, p, hl => by
    refine ev_succ ?_
    simp only [torusref07_Sorted.l0, List.append_nil, List.length_reverse, if_neg (show ¬ ((R.length : Int) < (R.length : Int)) by omega), srt, swp, Nat.add_zero]
    exact Ev.now _
  | x :: B, R, p, hl => by
    have ih := rins_l0 B (insR R x) (p + insN R x) (by rw [insR_len]; simp at hl; omega)
    rw [insR_len] at ih
    have hw : wrap64 ((R.length : Int) + 1) = ((R.length + 1 : Nat) : Int) := wrap_nat _ (by simp at hl; omega)
    have hlen : ((R.reverse ++ x :: B).length : Int) = (R.length : Int) + 1 + (B.length : Int) := by simp; omega
    refine ev_succ ?_
    simp only [torusref07_Sorted.l0, hlen, if_pos (show (R.length : Int) < (R.length : Int) + 1 + (B.length : Int) by omega), srt, swp]
    refine rins_l1 _ _ R x B p (by simp at hl; omega) ?_
    rw [hw, ← Nat.add_assoc]
    exact ih
theorem rsorted_ev (l : List Int) (hl : l.length ≤ 100000) : Ev (fun k => torusref07_Sorted.f k l) (srt [] l, ((swp [] l % 2 : Nat) : Int)) := by
  unfold torusref07_Sorted.f
  simp only [Option.bind_some, List.nil_append, List.length_nil, if_pos (show 0 + l.length < 17592186044416 by omega)]
  have := rins_l0 l [] 0 (by simpa using hl)
  simpa using this

/-! ### The sign -/
def sg (n : Nat) : Int := if n % 2 = 0 then 1 else -1
theorem sg_neg (n : Nat) : wrap64 (-(sg n)) = sg (n + 1) := by
  unfold sg
  by_cases c : n % 2 = 0
  · rw [if_pos c, if_neg (by omega)]; decide +kernel
  · rw [if_neg c, if_pos (by omega)]; decide +kernel
def cnt (P : List Int) (x : Int) : Nat := P.countP (fun a => decide (x < a))
def invs : List Int → List Int → Nat
  | _, [] => 0
  | R, x :: B => cnt R x + invs (x :: R) B
theorem cnt_cons (a : Int) (P : List Int) (x : Int) : cnt (a :: P) x = cnt P x + if x < a then 1 else 0 := by simp [cnt, List.countP_cons]
theorem cnt_rev (P : List Int) (x : Int) : cnt P.reverse x = cnt P x := by simp [cnt]
theorem sgn_l1 (l s : List Int) (len : Int) (x : Int) (r : List Int × Int × Int) : ∀ (P2 P1 B : List Int) (n : Nat), l = (P1 ++ P2) ++ x :: B → l.length ≤ 100000 →
    Ev (fun k => simplex_Sort.l0 k l s (sg (n + cnt P2 x)) len (wrap64 (((P1 ++ P2).length : Int) + 1))) r →
    Ev (fun k => simplex_Sort.l1 k l s (sg n) ((P1 ++ P2).length : Int) len ((P1 ++ P2).length : Int) ((P1 ++ P2).length : Int) (P1.length : Int)) r
  | [], P1, B, n, hl, hlen, h => by
    refine ev_succ ?_
    simp only [simplex_Sort.l1, List.append_nil, if_neg (show ¬ ((P1.length : Int) < (P1.length : Int)) by omega)]
    simpa [cnt] using h
  | a :: P2, P1, B, n, hl, hlen, h => by
    have e1 : P1 ++ a :: P2 = (P1 ++ [a]) ++ P2 := by simp
    have hx : rd l ((P1 ++ a :: P2).length : Int) = x := by rw [hl]; exact rd_mid _ _ _
    have ha : rd l (P1.length : Int) = a := by
      rw [hl, List.append_assoc]
      exact rd_mid P1 a (P2 ++ x :: B)
    have hl2 : (l.length : Int) = ((P1 ++ a :: P2).length : Int) + 1 + (B.length : Int) := by rw [hl]; simp; omega
    have hl3 : ((P1 ++ a :: P2).length : Int) = (P1.length : Int) + 1 + (P2.length : Int) := by simp; omega
    have hw : wrap64 ((P1.length : Int) + 1) = ((P1 ++ [a]).length : Int) := by rw [wrap_nat _ (by omega)]; simp
    refine ev_succ ?_
    simp only [simplex_Sort.l1, if_pos (show (P1.length : Int) < ((P1 ++ a :: P2).length : Int) by omega), if_pos (show (0 : Int) ≤ (P1.length : Int) by omega), if_pos (show (P1.length : Int) < (l.length : Int) by omega),
      if_pos (show (0 : Int) ≤ ((P1 ++ a :: P2).length : Int) by omega), if_pos (show ((P1 ++ a :: P2).length : Int) < (l.length : Int) by omega), hx, ha, hw]
    by_cases c : a > x
    · simp only [if_pos c, sg_neg]
      have := sgn_l1 l s len x r P2 (P1 ++ [a]) B (n + 1) (by rw [hl, e1]) hlen (by
        rw [← e1, show n + 1 + cnt P2 x = n + cnt (a :: P2) x by rw [cnt_cons, if_pos c]; omega]
        exact h)
      rw [← e1] at this
      exact this
    · simp only [if_neg c]
      have := sgn_l1 l s len x r P2 (P1 ++ [a]) B n (by rw [hl, e1]) hlen (by
        rw [← e1, show n + cnt P2 x = n + cnt (a :: P2) x by rw [cnt_cons, if_neg c]; omega]
        exact h)
      rw [← e1] at this
      exact this
/-- What "Sort" answers once the vertices are right. -/
def sorted3 (l : List Int) : List Int × Int × Int := if ck (srt [] l) = 0 then (srt [] l, sg (invs [] l), 0) else ([], 0, 5)
theorem sgn_l0 (l s : List Int) (hs : s.length ≤ 12) (hlen : l.length ≤ 100000) : ∀ (B P : List Int) (n : Nat), l = P ++ B →
    Ev (fun k => simplex_Sort.l0 k l s (sg n) (l.length : Int) (P.length : Int)) (if ck (srt [] s) = 0 then (srt [] s, sg (n + invs P.reverse B), 0) else ([], 0, 5))
  | [], P, n, hl => by
    have e : l.length = P.length := by rw [hl]; simp
    refine ev_succ ?_
    simp only [simplex_Sort.l0, e, if_neg (show ¬ ((P.length : Int) < (P.length : Int)) by omega), invs, Nat.add_zero]
    refine (ev_bind (sort42_ev s hs)).mpr ?_
    refine (ev_bind (scheck_ev _)).mpr ?_
    by_cases c : ck (srt [] s) = 0
    · simp only [if_pos c]; exact Ev.now _
    · simp only [if_neg c]; exact Ev.now _
  | x :: B, P, n, hl => by
    have e : (l.length : Int) = (P.length : Int) + 1 + (B.length : Int) := by rw [hl]; simp; omega
    have ih := sgn_l0 l s hs hlen B (P ++ [x]) (n + cnt P x) (by rw [hl]; simp)
    refine ev_succ ?_
    simp only [simplex_Sort.l0, if_pos (show (P.length : Int) < (l.length : Int) by omega)]
    have := sgn_l1 l s (l.length : Int) x _ P [] B n (by rw [hl]; simp) hlen (by
      have hw : wrap64 (((([] : List Int) ++ P).length : Int) + 1) = ((P ++ [x]).length : Int) := by rw [List.nil_append, wrap_nat _ (by omega)]; simp
      rw [hw]
      exact ih)
    have e2 : n + cnt P x + invs (P ++ [x]).reverse B = n + invs P.reverse (x :: B) := by
      simp only [invs, cnt_rev, List.reverse_append, List.reverse_cons, List.reverse_nil, List.nil_append, List.singleton_append]
      omega
    rw [e2] at this
    simpa using this
/-- What "Sort" answers. -/
def so (l : List Int) : List Int × Int × Int := if l.length = 0 then ([], 0, 1) else if l.length > 5 then ([], 0, 3) else if l.any bad = true then ([], 0, 1) else sorted3 l
theorem ssort_ev (l : List Int) : Ev (fun k => simplex_Sort.f k l) (so l) := by
  unfold simplex_Sort.f so
  refine (ev_bind (svert_ev l)).mpr ?_
  by_cases c : l.length = 0
  · simp only [if_pos c]; exact Ev.now _
  · by_cases c' : l.length > 5
    · simp only [if_neg c, if_pos c']; exact Ev.now _
    · simp only [if_neg c, if_neg c']
      cases hb : l.any bad with
      | true => exact Ev.now _
      | false =>
        simp only [Bool.false_eq_true, if_false, if_true, api_Simplex_int_41.f, if_pos (show l.length < 17592186044416 by omega), Option.bind_some]
        have := sgn_l0 l l (by omega) (by omega) l [] 0 rfl
        simpa [sg, sorted3] using this

/-! ### The exchanges are the inversions -/
def desc : List Int → Prop
  | [] => True
  | a :: R => (∀ b ∈ R, b ≤ a) ∧ desc R
theorem insR_mem : ∀ R x b, b ∈ insR R x → b = x ∨ b ∈ R
  | [], x, b, h => by simp [insR] at h; exact .inl h
  | a :: R, x, b, h => by
    unfold insR at h
    split at h
    · rcases List.mem_cons.1 h with h | h
      · exact .inr (by simp [h])
      · rcases insR_mem R x b h with h | h
        · exact .inl h
        · exact .inr (by simp [h])
    · rcases List.mem_cons.1 h with h | h
      · exact .inl h
      · exact .inr h
theorem insR_desc : ∀ R x, desc R → desc (insR R x)
  | [], x, _ => by simp [insR, desc]
  | a :: R, x, h => by
    unfold insR
    by_cases c : x < a
    · rw [if_pos c]
      refine ⟨fun b hb => ?_, insR_desc R x h.2⟩
      rcases insR_mem R x b hb with h1 | h1
      · omega
      · exact h.1 b h1
    · rw [if_neg c]
      refine ⟨fun b hb => ?_, h⟩
      rcases List.mem_cons.1 hb with h1 | h1
      · omega
      · have := h.1 b h1; omega
theorem insR_cnt : ∀ R x y, cnt (insR R x) y = cnt (x :: R) y
  | [], x, y => rfl
  | a :: R, x, y => by
    unfold insR
    split
    · rw [cnt_cons, insR_cnt R x y, cnt_cons, cnt_cons, cnt_cons]; omega
    · rfl
theorem insN_cnt : ∀ R x, desc R → insN R x = cnt R x
  | [], x, _ => rfl
  | a :: R, x, h => by
    unfold insN
    rw [cnt_cons]
    by_cases c : x < a
    · rw [if_pos c, if_pos c, insN_cnt R x h.2]
    · rw [if_neg c, if_neg c]
      have : cnt R x = 0 := by
        unfold cnt
        rw [List.countP_eq_zero]
        intro b hb
        have := h.1 b hb
        simp
        omega
      omega
theorem swp_invs : ∀ (B S R : List Int), desc S → (∀ y, cnt S y = cnt R y) → swp S B = invs R B
  | [], S, R, _, _ => rfl
  | x :: B, S, R, hd, hc => by
    simp only [swp, invs]
    rw [insN_cnt S x hd, hc x, swp_invs B (insR S x) (x :: R) (insR_desc S x hd) (fun y => by rw [insR_cnt, cnt_cons, cnt_cons, hc y])]
theorem rsort_l0 (l : List Int) (hl : l.length ≤ 5) : ∀ (m i : Nat), m = l.length - i → i ≤ l.length → Ev (fun k => torusref07_Sort.l0 k l (i : Int)) (if (l.drop i).any bad = true then ([], 0, 1) else sorted3 l)
  | 0, i, hm, hi => by
    rw [List.drop_of_length_le (by omega)]
    refine ev_succ ?_
    simp only [torusref07_Sort.l0, if_neg (show ¬ ((i : Int) < (l.length : Int)) by omega), List.any_nil, Bool.false_eq_true, if_false]
    refine (ev_bind (rsorted_ev l (by omega))).mpr ?_
    refine (ev_bind (rcheck_ev _)).mpr ?_
    unfold sorted3
    by_cases c : ck (srt [] l) = 0
    · simp only [if_pos c, swp_invs l [] [] trivial (fun _ => rfl)]
      have e : wrap64 (1 - wrap64 (2 * ((invs [] l % 2 : Nat) : Int))) = sg (invs [] l) := by
        rw [wrap_id (a := 2 * ((invs [] l % 2 : Nat) : Int)) (by omega) (by omega), wrap_id (by omega) (by omega)]
        unfold sg
        split <;> omega
      rw [e]
      exact Ev.now _
    · simp only [if_neg c]
      exact Ev.now _
  | m + 1, i, hm, hi => by
    have ih := rsort_l0 l hl m (i + 1) (by omega) (by omega)
    rw [drop_cons l i (by omega)]
    refine ev_succ ?_
    simp only [torusref07_Sort.l0, if_pos (show ((i : Int) < (l.length : Int)) by omega), if_pos (show (0 : Int) ≤ (i : Int) by omega), wrap_nat i (by omega), List.any_cons]
    by_cases c : rd l (i : Int) < 0
    · have hb : bad (rd l (i : Int)) = true := by simp [bad, c]
      simp only [if_pos c, hb, Bool.true_or, if_true]
      exact Ev.now _
    · by_cases c' : rd l (i : Int) ≥ 64
      · have hb : bad (rd l (i : Int)) = true := by simp [bad, c']
        simp only [if_neg c, if_pos c', hb, Bool.true_or, if_true]
        exact Ev.now _
      · have hb : bad (rd l (i : Int)) = false := by simp [bad]; omega
        simp only [if_neg c, if_neg c', hb, Bool.false_or]
        exact ih
theorem rsort_ev (l : List Int) : Ev (fun k => torusref07_Sort.f k l) (so l) := by
  unfold torusref07_Sort.f so
  by_cases c : l.length = 0
  · simp only [if_pos c, if_pos (show (l.length : Int) = 0 by omega)]
    exact Ev.now _
  · by_cases c' : l.length > 5
    · simp only [if_neg c, if_pos c', if_neg (show ¬ ((l.length : Int) = 0) by omega), if_pos (show (l.length : Int) > 5 by omega)]
      exact Ev.now _
    · simp only [if_neg c, if_neg c', if_neg (show ¬ ((l.length : Int) = 0) by omega), if_neg (show ¬ ((l.length : Int) > 5) by omega)]
      simpa using rsort_l0 l (by omega) l.length 0 (by omega) (by omega)
theorem srt_len : ∀ (B R : List Int), (srt R B).length = R.length + B.length
  | [], R => by simp [srt]
  | x :: B, R => by rw [srt, srt_len B, insR_len]; simp; omega
theorem so_len (l : List Int) : (so l).1.length ≤ 5 := by
  unfold so sorted3
  split
  · simp
  · split
    · simp
    · split
      · simp
      · split
        · simp [srt_len]; omega
        · simp
end Go.Proofs.YticckanjfdcpaaaDoor.PSimplex
namespace Go.Proofs.YticckanjfdcpaaaDoor.Pure
open Go.RowKit Go.Proofs.YticckanjfdcpaaaDoor.PSimplex Go.Proofs.YticckanjfdcpaaaDoorW.PrintWords Go.Proofs.YticckanjfdcpaaaDoorW.PrintLast
set_option linter.unusedVariables false
set_option linter.unusedSimpArgs false

theorem SimplexSortsMatch : toruslaw07_SimplexSortsMatch.Pure := by
  intro l _ _ _
  apply Ev.rounds
  unfold toruslaw07_SimplexSortsMatch.f
  by_cases c : (l.length : Int) > 200
  · simp only [if_pos c]
    exact law_long awake_ev (Ev.now _)
  · simp only [if_neg c, Option.bind_some, List.nil_append, List.length_nil, if_pos (show 0 + l.length < 17592186044416 by omega)]
    refine law_long (ssort_ev l) ?_
    refine law_long (rsort_ev l) ?_
    refine law_long (rcmp_ev _ _ (by have := so_len l; omega)) ?_
    simp only [if_pos (cm_self (so l).1), if_true]
    refine law_long (rcmp_ev _ _ (by omega)) ?_
    simp only [if_pos (cm_self l), if_true]
    exact law_long awake_ev (Ev.now _)
end Go.Proofs.YticckanjfdcpaaaDoor.Pure
