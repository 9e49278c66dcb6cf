/- Each Go function named below, as a plain Lean function, with a proof that the Go code computes just that; conditions: those that each theorem states. Written by a program of this session (wip/xprint, over the print of the kit). -/
import Derived.Test.YtikbgcpcbhoblaaPModpx0
import Derived.Test.YtikbgcpcbhoblaaPModpx1
import Derived.Test.YtikbgcpcbhoblaaPModpx2
import Derived.Test.YtikbgcpcbhoblaaPModpx3
namespace Go.Proofs.Ytikbgcpcbhoblaa.PModp
open Go.RowKit Go.Proofs.YtikbgcpcbhoblaaW.PrintWords Go.Proofs.YtikbgcpcbhoblaaW.PrintLast Go.Proofs.YtikbgcpcbhoblaaW.PrintMore
attribute [local go_sem] max2_int min2_int max_two min_two max_three min_three max_four min_four   -- for this text's walks alone
set_option linter.unusedVariables false
set_option linter.unusedSimpArgs false

/-! ### toruslaw01_ModpPowers: function 4 -/
def toruslaw01_ModpPowers.f (k : Nat) (a0 : Int) (a1 : Int) (a2 : Int) (a3 : Int) : Option (Bool) := (torusref01_Field.f k a0).bind fun t186 => ((modp_Mod.f k t186 a1).bind fun t187 => (if t187 = 0 then ((modp_Pow.f k t186 a1 0).bind fun bt188 => ((modp_Pow.f k t186 a1 (wrap64 (1 + (wrap64 ((Int.tmod (wrap64 (a2)) 1000001) * (Int.tmod (wrap64 (a2)) 1000001)))))).bind fun bt190 => ((modp_Pow.f k t186 a1 (wrap64 ((-1) - (wrap64 ((Int.tmod (wrap64 (a2)) 1000001) * (Int.tmod (wrap64 (a2)) 1000001)))))).bind fun bt192 => ((toruslaw01_is.f bt188.1 bt188.2 1).bind fun t194 => (if t194 = true then ((toruslaw01_is.f bt190.1 bt190.2 0).bind fun t195 => (if t195 = true then (if bt192.2 = 9 then ((toruslaw01_awake.f k).bind fun t196 => (some t196)) else (some false)) else (some false))) else (some false)))))) else ((toruslaw01_power.f k t186 a1 (wrap64 ((Int.tmod (wrap64 (a2)) 1000001) + (Int.tmod (wrap64 (a3)) 1000001)))).bind fun t197 => ((toruslaw01_power.f k t186 a1 (Int.tmod (wrap64 (a2)) 1000001)).bind fun t198 => ((toruslaw01_power.f k t186 a1 (Int.tmod (wrap64 (a3)) 1000001)).bind fun t199 => ((toruslaw01_product.f k t186 t198 t199).bind fun t200 => (if t197 = t200 then ((toruslaw01_power.f k t186 a1 (wrap64 (t186 - 1))).bind fun t201 => (if t201 = 1 then ((toruslaw01_power.f k t186 a1 (Int.tmod (wrap64 (a2)) 1000001)).bind fun t202 => ((torusref01_Bring.f (Int.tmod (wrap64 (a2)) 1000001) (wrap64 (t186 - 1))).bind fun t203 => ((toruslaw01_power.f k t186 a1 t203).bind fun t204 => (if t202 = t204 then ((toruslaw01_power.f k t186 a1 1).bind fun t205 => ((modp_Mod.f k t186 a1).bind fun t206 => (if t205 = t206 then ((toruslaw01_awake.f k).bind fun t207 => (some t207)) else (some false)))) else (some false))))) else (some false))) else (some false))))))))
theorem toruslaw01_ModpPowers.mono : ∀ a0 a1 a2 a3 k, LeO (toruslaw01_ModpPowers.f k a0 a1 a2 a3) (toruslaw01_ModpPowers.f (k + 1) a0 a1 a2 a3) := by
  intro a0 a1 a2 a3 k
  unfold toruslaw01_ModpPowers.f
  repeat' first
      | (with_reducible exact modp_Mod.mono _ _ _)
      | (with_reducible exact modp_Pow.mono _ _ _ _)
      | (with_reducible exact toruslaw01_awake.mono _)
      | (with_reducible exact toruslaw01_power.mono _ _ _ _)
      | (with_reducible exact toruslaw01_product.mono _ _ _ _)
      | (with_reducible exact torusref01_Field.mono _ _)
      | (with_reducible exact LeO.refl _)
      | (with_reducible exact LeO.none _)
      | (with_reducible refine LeO.ite ?_ ?_)
      | (with_reducible refine LeO.bind ?_ (fun _ => ?_))
      | exact modp_Mod.mono _ _ _
      | exact modp_Pow.mono _ _ _ _
      | exact toruslaw01_awake.mono _
      | exact toruslaw01_power.mono _ _ _ _
      | exact toruslaw01_product.mono _ _ _ _
      | exact torusref01_Field.mono _ _
      | exact LeO.none _
      | refine LeO.ite ?_ ?_
      | refine LeO.bind ?_ (fun _ => ?_)
set_option maxHeartbeats 8000000 in
set_option maxRecDepth 100000 in
theorem toruslaw01_ModpPowers.calls (k : Nat) (a0 : Int) (a1 : Int) (a2 : Int) (a3 : Int) (r : Bool) (w : World) (hrt : Aside0 (r = true)) (h : toruslaw01_ModpPowers.f k a0 a1 a2 a3 = some r) :
    Calls Try.prog 4 #[.int .i64 a0, .int .i64 a1, .int .i32 a2, .int .i32 a3] w fun e w' => e = .returned (.bool r) ∧ Below w.heap.size w w' := by
  have HB := Aside0.mk (Below.refl w.heap.size w)
  have H : ((torusref01_Field.f k a0).bind fun t186 => ((modp_Mod.f k t186 a1).bind fun t187 => (if t187 = 0 then ((modp_Pow.f k t186 a1 0).bind fun bt188 => ((modp_Pow.f k t186 a1 (wrap64 (1 + (wrap64 ((Int.tmod (wrap64 (a2)) 1000001) * (Int.tmod (wrap64 (a2)) 1000001)))))).bind fun bt190 => ((modp_Pow.f k t186 a1 (wrap64 ((-1) - (wrap64 ((Int.tmod (wrap64 (a2)) 1000001) * (Int.tmod (wrap64 (a2)) 1000001)))))).bind fun bt192 => ((toruslaw01_is.f bt188.1 bt188.2 1).bind fun t194 => (if t194 = true then ((toruslaw01_is.f bt190.1 bt190.2 0).bind fun t195 => (if t195 = true then (if bt192.2 = 9 then ((toruslaw01_awake.f k).bind fun t196 => (some t196)) else (some false)) else (some false))) else (some false)))))) else ((toruslaw01_power.f k t186 a1 (wrap64 ((Int.tmod (wrap64 (a2)) 1000001) + (Int.tmod (wrap64 (a3)) 1000001)))).bind fun t197 => ((toruslaw01_power.f k t186 a1 (Int.tmod (wrap64 (a2)) 1000001)).bind fun t198 => ((toruslaw01_power.f k t186 a1 (Int.tmod (wrap64 (a3)) 1000001)).bind fun t199 => ((toruslaw01_product.f k t186 t198 t199).bind fun t200 => (if t197 = t200 then ((toruslaw01_power.f k t186 a1 (wrap64 (t186 - 1))).bind fun t201 => (if t201 = 1 then ((toruslaw01_power.f k t186 a1 (Int.tmod (wrap64 (a2)) 1000001)).bind fun t202 => ((torusref01_Bring.f (Int.tmod (wrap64 (a2)) 1000001) (wrap64 (t186 - 1))).bind fun t203 => ((toruslaw01_power.f k t186 a1 t203).bind fun t204 => (if t202 = t204 then ((toruslaw01_power.f k t186 a1 1).bind fun t205 => ((modp_Mod.f k t186 a1).bind fun t206 => (if t205 = t206 then ((toruslaw01_awake.f k).bind fun t207 => (some t207)) else (some false)))) else (some false))))) else (some false))) else (some false))))))))) = some r := h
  clear h
  replace H := Option.bind_eq_some_iff.mp H
  obtain ⟨t186, A50, H⟩ := H
  replace H : ((modp_Mod.f k t186 a1).bind fun t187 => (if t187 = 0 then ((modp_Pow.f k t186 a1 0).bind fun bt188 => ((modp_Pow.f k t186 a1 (wrap64 (1 + (wrap64 ((Int.tmod (wrap64 (a2)) 1000001) * (Int.tmod (wrap64 (a2)) 1000001)))))).bind fun bt190 => ((modp_Pow.f k t186 a1 (wrap64 ((-1) - (wrap64 ((Int.tmod (wrap64 (a2)) 1000001) * (Int.tmod (wrap64 (a2)) 1000001)))))).bind fun bt192 => ((toruslaw01_is.f bt188.1 bt188.2 1).bind fun t194 => (if t194 = true then ((toruslaw01_is.f bt190.1 bt190.2 0).bind fun t195 => (if t195 = true then (if bt192.2 = 9 then ((toruslaw01_awake.f k).bind fun t196 => (some t196)) else (some false)) else (some false))) else (some false)))))) else ((toruslaw01_power.f k t186 a1 (wrap64 ((Int.tmod (wrap64 (a2)) 1000001) + (Int.tmod (wrap64 (a3)) 1000001)))).bind fun t197 => ((toruslaw01_power.f k t186 a1 (Int.tmod (wrap64 (a2)) 1000001)).bind fun t198 => ((toruslaw01_power.f k t186 a1 (Int.tmod (wrap64 (a3)) 1000001)).bind fun t199 => ((toruslaw01_product.f k t186 t198 t199).bind fun t200 => (if t197 = t200 then ((toruslaw01_power.f k t186 a1 (wrap64 (t186 - 1))).bind fun t201 => (if t201 = 1 then ((toruslaw01_power.f k t186 a1 (Int.tmod (wrap64 (a2)) 1000001)).bind fun t202 => ((torusref01_Bring.f (Int.tmod (wrap64 (a2)) 1000001) (wrap64 (t186 - 1))).bind fun t203 => ((toruslaw01_power.f k t186 a1 t203).bind fun t204 => (if t202 = t204 then ((toruslaw01_power.f k t186 a1 1).bind fun t205 => ((modp_Mod.f k t186 a1).bind fun t206 => (if t205 = t206 then ((toruslaw01_awake.f k).bind fun t207 => (some t207)) else (some false)))) else (some false))))) else (some false))) else (some false)))))))) = some r := H
  have A5 := Aside0.mk A50
  clear A50
  replace H := Option.bind_eq_some_iff.mp H
  obtain ⟨t187, A60, H⟩ := H
  replace H : (if t187 = 0 then ((modp_Pow.f k t186 a1 0).bind fun bt188 => ((modp_Pow.f k t186 a1 (wrap64 (1 + (wrap64 ((Int.tmod (wrap64 (a2)) 1000001) * (Int.tmod (wrap64 (a2)) 1000001)))))).bind fun bt190 => ((modp_Pow.f k t186 a1 (wrap64 ((-1) - (wrap64 ((Int.tmod (wrap64 (a2)) 1000001) * (Int.tmod (wrap64 (a2)) 1000001)))))).bind fun bt192 => ((toruslaw01_is.f bt188.1 bt188.2 1).bind fun t194 => (if t194 = true then ((toruslaw01_is.f bt190.1 bt190.2 0).bind fun t195 => (if t195 = true then (if bt192.2 = 9 then ((toruslaw01_awake.f k).bind fun t196 => (some t196)) else (some false)) else (some false))) else (some false)))))) else ((toruslaw01_power.f k t186 a1 (wrap64 ((Int.tmod (wrap64 (a2)) 1000001) + (Int.tmod (wrap64 (a3)) 1000001)))).bind fun t197 => ((toruslaw01_power.f k t186 a1 (Int.tmod (wrap64 (a2)) 1000001)).bind fun t198 => ((toruslaw01_power.f k t186 a1 (Int.tmod (wrap64 (a3)) 1000001)).bind fun t199 => ((toruslaw01_product.f k t186 t198 t199).bind fun t200 => (if t197 = t200 then ((toruslaw01_power.f k t186 a1 (wrap64 (t186 - 1))).bind fun t201 => (if t201 = 1 then ((toruslaw01_power.f k t186 a1 (Int.tmod (wrap64 (a2)) 1000001)).bind fun t202 => ((torusref01_Bring.f (Int.tmod (wrap64 (a2)) 1000001) (wrap64 (t186 - 1))).bind fun t203 => ((toruslaw01_power.f k t186 a1 t203).bind fun t204 => (if t202 = t204 then ((toruslaw01_power.f k t186 a1 1).bind fun t205 => ((modp_Mod.f k t186 a1).bind fun t206 => (if t205 = t206 then ((toruslaw01_awake.f k).bind fun t207 => (some t207)) else (some false)))) else (some false))))) else (some false))) else (some false))))))) = some r := H
  have A6 := Aside0.mk A60
  clear A60
  by_cases c7 : t187 = 0
  · rw [if_pos c7] at H
    have c7b0 : (t187 == 0) = true := beq_iff_eq.mpr c7
    have c7b1 : (t187 != 0) = false := bne_eq_false_iff_eq.mpr c7
    clear c7
    replace H := Option.bind_eq_some_iff.mp H
    obtain ⟨⟨t188, t189⟩, A80, H⟩ := H
    replace H : ((modp_Pow.f k t186 a1 (wrap64 (1 + (wrap64 ((Int.tmod (wrap64 (a2)) 1000001) * (Int.tmod (wrap64 (a2)) 1000001)))))).bind fun bt190 => ((modp_Pow.f k t186 a1 (wrap64 ((-1) - (wrap64 ((Int.tmod (wrap64 (a2)) 1000001) * (Int.tmod (wrap64 (a2)) 1000001)))))).bind fun bt192 => ((toruslaw01_is.f t188 t189 1).bind fun t194 => (if t194 = true then ((toruslaw01_is.f bt190.1 bt190.2 0).bind fun t195 => (if t195 = true then (if bt192.2 = 9 then ((toruslaw01_awake.f k).bind fun t196 => (some t196)) else (some false)) else (some false))) else (some false))))) = some r := H
    have A8 := Aside0.mk A80
    clear A80
    replace H := Option.bind_eq_some_iff.mp H
    obtain ⟨⟨t190, t191⟩, A90, H⟩ := H
    replace H : ((modp_Pow.f k t186 a1 (wrap64 ((-1) - (wrap64 ((Int.tmod (wrap64 (a2)) 1000001) * (Int.tmod (wrap64 (a2)) 1000001)))))).bind fun bt192 => ((toruslaw01_is.f t188 t189 1).bind fun t194 => (if t194 = true then ((toruslaw01_is.f t190 t191 0).bind fun t195 => (if t195 = true then (if bt192.2 = 9 then ((toruslaw01_awake.f k).bind fun t196 => (some t196)) else (some false)) else (some false))) else (some false)))) = some r := H
    have A9 := Aside0.mk A90
    clear A90
    replace H := Option.bind_eq_some_iff.mp H
    obtain ⟨⟨t192, t193⟩, A100, H⟩ := H
    replace H : ((toruslaw01_is.f t188 t189 1).bind fun t194 => (if t194 = true then ((toruslaw01_is.f t190 t191 0).bind fun t195 => (if t195 = true then (if t193 = 9 then ((toruslaw01_awake.f k).bind fun t196 => (some t196)) else (some false)) else (some false))) else (some false))) = some r := H
    have A10 := Aside0.mk A100
    clear A100
    replace H := Option.bind_eq_some_iff.mp H
    obtain ⟨t194, A110, H⟩ := H
    replace H : (if t194 = true then ((toruslaw01_is.f t190 t191 0).bind fun t195 => (if t195 = true then (if t193 = 9 then ((toruslaw01_awake.f k).bind fun t196 => (some t196)) else (some false)) else (some false))) else (some false)) = some r := H
    have A11 := Aside0.mk A110
    clear A110
    by_cases c12 : t194 = true
    · subst c12
      have H1 : ((toruslaw01_is.f t190 t191 0).bind fun t195 => (if t195 = true then (if t193 = 9 then ((toruslaw01_awake.f k).bind fun t196 => (some t196)) else (some false)) else (some false))) = some r := by rw [if_pos rfl] at H; exact H
      clear H
      have H := H1
      clear H1
      replace H := Option.bind_eq_some_iff.mp H
      obtain ⟨t195, A130, H⟩ := H
      replace H : (if t195 = true then (if t193 = 9 then ((toruslaw01_awake.f k).bind fun t196 => (some t196)) else (some false)) else (some false)) = some r := H
      have A13 := Aside0.mk A130
      clear A130
      by_cases c14 : t195 = true
      · subst c14
        have H1 : (if t193 = 9 then ((toruslaw01_awake.f k).bind fun t196 => (some t196)) else (some false)) = some r := by rw [if_pos rfl] at H; exact H
        clear H
        have H := H1
        clear H1
        by_cases c15 : t193 = 9
        · rw [if_pos c15] at H
          have c15b0 : (t193 == 9) = true := beq_iff_eq.mpr c15
          have c15b1 : (t193 != 9) = false := bne_eq_false_iff_eq.mpr c15
          clear c15
          replace H := Option.bind_eq_some_iff.mp H
          obtain ⟨t196, A160, H⟩ := H
          replace H : (some t196) = some r := H
          have A16 := Aside0.mk A160
          clear A160
          first
          | with_reducible exact absurd ((Option.some.inj H).trans hrt.out) Bool.false_ne_true
          | skip
            obtain rfl := Option.some.inj H
            go_enter Try.func4, Try.ntmps4
            go_wp2_with (first | ((with_reducible refine gate_callee (f := 16) rfl ?_); refine goesL_ (some 19) rfl rfl Try.func16 (by kernel_rfl) rfl #[.int .i64 a0] rfl (by (try simp only [List.map_toArray, List.map_cons, List.map_nil]); first | done | rfl | (simp only [List.length_drop, List.length_take]; rfl)) ?_; (with_reducible refine (torusref01_Field.calls k a0 t186 _ A5.out).mono ?_); rintro e w17 ⟨rfl, hb⟩; refine ⟨_, rfl, ?_⟩; have n0_ := Aside0.mk (below_step (by repeat (first | (with_reducible first | exact HB.out | apply below_alloc | apply pw_below_drewN | apply below_drew1) | exact HB.out)) hb); clear HB; have HB := n0_; clear n0_; (try clear hb); (try clear hb2); (try clear hk); (try clear hi)) | ((with_reducible refine gate_callee (f := 17) rfl ?_); refine goesL_ (some 28) rfl rfl Try.func17 (by kernel_rfl) rfl #[.int .i64 t186, .int .i64 a1] rfl (by (try simp only [List.map_toArray, List.map_cons, List.map_nil]); first | done | rfl | (simp only [List.length_drop, List.length_take]; rfl)) ?_; (with_reducible refine (modp_Mod.calls k t186 a1 t187 _ A6.out).mono ?_); rintro e w' ⟨rfl, ⟨nd, rfl⟩⟩; refine ⟨_, rfl, ?_⟩) | ((with_reducible refine gate_callee (f := 18) rfl ?_); refine goesL_ (some 33) rfl rfl Try.func18 (by kernel_rfl) rfl #[.int .i64 t186, .int .i64 a1, .int .i64 0] rfl (by (try simp only [List.map_toArray, List.map_cons, List.map_nil]); first | done | rfl | (simp only [List.length_drop, List.length_take]; rfl)) ?_; (with_reducible refine (modp_Pow.calls k t186 a1 0 t188 t189 _ A8.out).mono ?_); rintro e w' ⟨rfl, ⟨nd, rfl⟩⟩; refine ⟨_, rfl, ?_⟩) | ((with_reducible refine gate_callee (f := 18) rfl ?_); refine goesL_ (some 43) rfl rfl Try.func18 (by kernel_rfl) rfl #[.int .i64 t186, .int .i64 a1, .int .i64 (wrap64 (1 + (wrap64 ((Int.tmod (wrap64 (a2)) 1000001) * (Int.tmod (wrap64 (a2)) 1000001)))))] rfl (by (try simp only [List.map_toArray, List.map_cons, List.map_nil]); first | done | rfl | (simp only [List.length_drop, List.length_take]; rfl)) ?_; (with_reducible refine (modp_Pow.calls k t186 a1 (wrap64 (1 + (wrap64 ((Int.tmod (wrap64 (a2)) 1000001) * (Int.tmod (wrap64 (a2)) 1000001))))) t190 t191 _ A9.out).mono ?_); rintro e w' ⟨rfl, ⟨nd, rfl⟩⟩; refine ⟨_, rfl, ?_⟩) | ((with_reducible refine gate_callee (f := 18) rfl ?_); refine goesL_ (some 53) rfl rfl Try.func18 (by kernel_rfl) rfl #[.int .i64 t186, .int .i64 a1, .int .i64 (wrap64 ((-1) - (wrap64 ((Int.tmod (wrap64 (a2)) 1000001) * (Int.tmod (wrap64 (a2)) 1000001)))))] rfl (by (try simp only [List.map_toArray, List.map_cons, List.map_nil]); first | done | rfl | (simp only [List.length_drop, List.length_take]; rfl)) ?_; (with_reducible refine (modp_Pow.calls k t186 a1 (wrap64 ((-1) - (wrap64 ((Int.tmod (wrap64 (a2)) 1000001) * (Int.tmod (wrap64 (a2)) 1000001))))) t192 t193 _ A10.out).mono ?_); rintro e w' ⟨rfl, ⟨nd, rfl⟩⟩; refine ⟨_, rfl, ?_⟩) | ((with_reducible refine gate_callee (f := 19) rfl ?_); refine goesL_ (some 58) rfl rfl Try.func19 (by kernel_rfl) rfl #[.int .i64 t188, .int .i64 t189, .int .i64 1] rfl (by (try simp only [List.map_toArray, List.map_cons, List.map_nil]); first | done | rfl | (simp only [List.length_drop, List.length_take]; rfl)) ?_; (with_reducible refine (toruslaw01_is.calls t188 t189 1 true _ A11.out).mono ?_); rintro e w' ⟨rfl, ⟨nd, rfl⟩⟩; refine ⟨_, rfl, ?_⟩) | (go_at_call 19; (with_reducible refine (toruslaw01_is.calls t190 t191 0 true _ A13.out).mono ?_); rintro e w' ⟨rfl, ⟨nd, rfl⟩⟩) | (go_at_call 15; (with_reducible refine (toruslaw01_awake.calls k  t196 _ A16.out).mono ?_); rintro e w' ⟨rfl, ⟨nd, rfl⟩⟩))
            go_ret
            exact ⟨by first | rfl | (simp [errW_none, errW_some] <;> rfl) | (simp [*, errW_none, errW_some] <;> rfl), by repeat (first | (with_reducible first | exact HB.out | apply below_alloc | apply pw_below_drewN | apply below_drew1) | exact HB.out)⟩
        · rw [if_neg c15] at H
          have c15b0 : (t193 == 9) = false := beq_eq_false_iff_ne.mpr c15
          have c15b1 : (t193 != 9) = true := bne_iff_ne.mpr c15
          first
          | with_reducible exact absurd ((Option.some.inj H).trans hrt.out) Bool.false_ne_true
          | skip
            obtain rfl := Option.some.inj H
            go_enter Try.func4, Try.ntmps4
            go_wp2_with (first | ((with_reducible refine gate_callee (f := 16) rfl ?_); refine goesL_ (some 19) rfl rfl Try.func16 (by kernel_rfl) rfl #[.int .i64 a0] rfl (by (try simp only [List.map_toArray, List.map_cons, List.map_nil]); first | done | rfl | (simp only [List.length_drop, List.length_take]; rfl)) ?_; (with_reducible refine (torusref01_Field.calls k a0 t186 _ A5.out).mono ?_); rintro e w18 ⟨rfl, hb⟩; refine ⟨_, rfl, ?_⟩; have n0_ := Aside0.mk (below_step (by repeat (first | (with_reducible first | exact HB.out | apply below_alloc | apply pw_below_drewN | apply below_drew1) | exact HB.out)) hb); clear HB; have HB := n0_; clear n0_; (try clear hb); (try clear hb2); (try clear hk); (try clear hi)) | ((with_reducible refine gate_callee (f := 17) rfl ?_); refine goesL_ (some 28) rfl rfl Try.func17 (by kernel_rfl) rfl #[.int .i64 t186, .int .i64 a1] rfl (by (try simp only [List.map_toArray, List.map_cons, List.map_nil]); first | done | rfl | (simp only [List.length_drop, List.length_take]; rfl)) ?_; (with_reducible refine (modp_Mod.calls k t186 a1 t187 _ A6.out).mono ?_); rintro e w' ⟨rfl, ⟨nd, rfl⟩⟩; refine ⟨_, rfl, ?_⟩) | ((with_reducible refine gate_callee (f := 18) rfl ?_); refine goesL_ (some 33) rfl rfl Try.func18 (by kernel_rfl) rfl #[.int .i64 t186, .int .i64 a1, .int .i64 0] rfl (by (try simp only [List.map_toArray, List.map_cons, List.map_nil]); first | done | rfl | (simp only [List.length_drop, List.length_take]; rfl)) ?_; (with_reducible refine (modp_Pow.calls k t186 a1 0 t188 t189 _ A8.out).mono ?_); rintro e w' ⟨rfl, ⟨nd, rfl⟩⟩; refine ⟨_, rfl, ?_⟩) | ((with_reducible refine gate_callee (f := 18) rfl ?_); refine goesL_ (some 43) rfl rfl Try.func18 (by kernel_rfl) rfl #[.int .i64 t186, .int .i64 a1, .int .i64 (wrap64 (1 + (wrap64 ((Int.tmod (wrap64 (a2)) 1000001) * (Int.tmod (wrap64 (a2)) 1000001)))))] rfl (by (try simp only [List.map_toArray, List.map_cons, List.map_nil]); first | done | rfl | (simp only [List.length_drop, List.length_take]; rfl)) ?_; (with_reducible refine (modp_Pow.calls k t186 a1 (wrap64 (1 + (wrap64 ((Int.tmod (wrap64 (a2)) 1000001) * (Int.tmod (wrap64 (a2)) 1000001))))) t190 t191 _ A9.out).mono ?_); rintro e w' ⟨rfl, ⟨nd, rfl⟩⟩; refine ⟨_, rfl, ?_⟩) | ((with_reducible refine gate_callee (f := 18) rfl ?_); refine goesL_ (some 53) rfl rfl Try.func18 (by kernel_rfl) rfl #[.int .i64 t186, .int .i64 a1, .int .i64 (wrap64 ((-1) - (wrap64 ((Int.tmod (wrap64 (a2)) 1000001) * (Int.tmod (wrap64 (a2)) 1000001)))))] rfl (by (try simp only [List.map_toArray, List.map_cons, List.map_nil]); first | done | rfl | (simp only [List.length_drop, List.length_take]; rfl)) ?_; (with_reducible refine (modp_Pow.calls k t186 a1 (wrap64 ((-1) - (wrap64 ((Int.tmod (wrap64 (a2)) 1000001) * (Int.tmod (wrap64 (a2)) 1000001))))) t192 t193 _ A10.out).mono ?_); rintro e w' ⟨rfl, ⟨nd, rfl⟩⟩; refine ⟨_, rfl, ?_⟩) | ((with_reducible refine gate_callee (f := 19) rfl ?_); refine goesL_ (some 58) rfl rfl Try.func19 (by kernel_rfl) rfl #[.int .i64 t188, .int .i64 t189, .int .i64 1] rfl (by (try simp only [List.map_toArray, List.map_cons, List.map_nil]); first | done | rfl | (simp only [List.length_drop, List.length_take]; rfl)) ?_; (with_reducible refine (toruslaw01_is.calls t188 t189 1 true _ A11.out).mono ?_); rintro e w' ⟨rfl, ⟨nd, rfl⟩⟩; refine ⟨_, rfl, ?_⟩) | (go_at_call 19; (with_reducible refine (toruslaw01_is.calls t190 t191 0 true _ A13.out).mono ?_); rintro e w' ⟨rfl, ⟨nd, rfl⟩⟩))
            go_ret
            exact ⟨by first | rfl | (simp [errW_none, errW_some] <;> rfl) | (simp [*, errW_none, errW_some] <;> rfl), by repeat (first | (with_reducible first | exact HB.out | apply below_alloc | apply pw_below_drewN | apply below_drew1) | exact HB.out)⟩
      · replace c14 := Bool.eq_false_iff.mpr c14
        subst c14
        have H1 : (some false) = some r := by rw [if_neg (show ¬ (false = true) by decide)] at H; exact H
        clear H
        have H := H1
        clear H1
        first
        | with_reducible exact absurd ((Option.some.inj H).trans hrt.out) Bool.false_ne_true
        | skip
          obtain rfl := Option.some.inj H
          go_enter Try.func4, Try.ntmps4
          go_wp2_with (first | ((with_reducible refine gate_callee (f := 16) rfl ?_); refine goesL_ (some 19) rfl rfl Try.func16 (by kernel_rfl) rfl #[.int .i64 a0] rfl (by (try simp only [List.map_toArray, List.map_cons, List.map_nil]); first | done | rfl | (simp only [List.length_drop, List.length_take]; rfl)) ?_; (with_reducible refine (torusref01_Field.calls k a0 t186 _ A5.out).mono ?_); rintro e w19 ⟨rfl, hb⟩; refine ⟨_, rfl, ?_⟩; have n0_ := Aside0.mk (below_step (by repeat (first | (with_reducible first | exact HB.out | apply below_alloc | apply pw_below_drewN | apply below_drew1) | exact HB.out)) hb); clear HB; have HB := n0_; clear n0_; (try clear hb); (try clear hb2); (try clear hk); (try clear hi)) | ((with_reducible refine gate_callee (f := 17) rfl ?_); refine goesL_ (some 28) rfl rfl Try.func17 (by kernel_rfl) rfl #[.int .i64 t186, .int .i64 a1] rfl (by (try simp only [List.map_toArray, List.map_cons, List.map_nil]); first | done | rfl | (simp only [List.length_drop, List.length_take]; rfl)) ?_; (with_reducible refine (modp_Mod.calls k t186 a1 t187 _ A6.out).mono ?_); rintro e w' ⟨rfl, ⟨nd, rfl⟩⟩; refine ⟨_, rfl, ?_⟩) | ((with_reducible refine gate_callee (f := 18) rfl ?_); refine goesL_ (some 33) rfl rfl Try.func18 (by kernel_rfl) rfl #[.int .i64 t186, .int .i64 a1, .int .i64 0] rfl (by (try simp only [List.map_toArray, List.map_cons, List.map_nil]); first | done | rfl | (simp only [List.length_drop, List.length_take]; rfl)) ?_; (with_reducible refine (modp_Pow.calls k t186 a1 0 t188 t189 _ A8.out).mono ?_); rintro e w' ⟨rfl, ⟨nd, rfl⟩⟩; refine ⟨_, rfl, ?_⟩) | ((with_reducible refine gate_callee (f := 18) rfl ?_); refine goesL_ (some 43) rfl rfl Try.func18 (by kernel_rfl) rfl #[.int .i64 t186, .int .i64 a1, .int .i64 (wrap64 (1 + (wrap64 ((Int.tmod (wrap64 (a2)) 1000001) * (Int.tmod (wrap64 (a2)) 1000001)))))] rfl (by (try simp only [List.map_toArray, List.map_cons, List.map_nil]); first | done | rfl | (simp only [List.length_drop, List.length_take]; rfl)) ?_; (with_reducible refine (modp_Pow.calls k t186 a1 (wrap64 (1 + (wrap64 ((Int.tmod (wrap64 (a2)) 1000001) * (Int.tmod (wrap64 (a2)) 1000001))))) t190 t191 _ A9.out).mono ?_); rintro e w' ⟨rfl, ⟨nd, rfl⟩⟩; refine ⟨_, rfl, ?_⟩) | ((with_reducible refine gate_callee (f := 18) rfl ?_); refine goesL_ (some 53) rfl rfl Try.func18 (by kernel_rfl) rfl #[.int .i64 t186, .int .i64 a1, .int .i64 (wrap64 ((-1) - (wrap64 ((Int.tmod (wrap64 (a2)) 1000001) * (Int.tmod (wrap64 (a2)) 1000001)))))] rfl (by (try simp only [List.map_toArray, List.map_cons, List.map_nil]); first | done | rfl | (simp only [List.length_drop, List.length_take]; rfl)) ?_; (with_reducible refine (modp_Pow.calls k t186 a1 (wrap64 ((-1) - (wrap64 ((Int.tmod (wrap64 (a2)) 1000001) * (Int.tmod (wrap64 (a2)) 1000001))))) t192 t193 _ A10.out).mono ?_); rintro e w' ⟨rfl, ⟨nd, rfl⟩⟩; refine ⟨_, rfl, ?_⟩) | ((with_reducible refine gate_callee (f := 19) rfl ?_); refine goesL_ (some 58) rfl rfl Try.func19 (by kernel_rfl) rfl #[.int .i64 t188, .int .i64 t189, .int .i64 1] rfl (by (try simp only [List.map_toArray, List.map_cons, List.map_nil]); first | done | rfl | (simp only [List.length_drop, List.length_take]; rfl)) ?_; (with_reducible refine (toruslaw01_is.calls t188 t189 1 true _ A11.out).mono ?_); rintro e w' ⟨rfl, ⟨nd, rfl⟩⟩; refine ⟨_, rfl, ?_⟩) | (go_at_call 19; (with_reducible refine (toruslaw01_is.calls t190 t191 0 false _ A13.out).mono ?_); rintro e w' ⟨rfl, ⟨nd, rfl⟩⟩))
          go_ret
          exact ⟨by first | rfl | (simp [errW_none, errW_some] <;> rfl) | (simp [*, errW_none, errW_some] <;> rfl), by repeat (first | (with_reducible first | exact HB.out | apply below_alloc | apply pw_below_drewN | apply below_drew1) | exact HB.out)⟩
    · replace c12 := Bool.eq_false_iff.mpr c12
      subst c12
      have H1 : (some false) = some r := by rw [if_neg (show ¬ (false = true) by decide)] at H; exact H
      clear H
      have H := H1
      clear H1
      first
      | with_reducible exact absurd ((Option.some.inj H).trans hrt.out) Bool.false_ne_true
      | skip
        obtain rfl := Option.some.inj H
        go_enter Try.func4, Try.ntmps4
        go_wp2_with (first | ((with_reducible refine gate_callee (f := 16) rfl ?_); refine goesL_ (some 19) rfl rfl Try.func16 (by kernel_rfl) rfl #[.int .i64 a0] rfl (by (try simp only [List.map_toArray, List.map_cons, List.map_nil]); first | done | rfl | (simp only [List.length_drop, List.length_take]; rfl)) ?_; (with_reducible refine (torusref01_Field.calls k a0 t186 _ A5.out).mono ?_); rintro e w20 ⟨rfl, hb⟩; refine ⟨_, rfl, ?_⟩; have n0_ := Aside0.mk (below_step (by repeat (first | (with_reducible first | exact HB.out | apply below_alloc | apply pw_below_drewN | apply below_drew1) | exact HB.out)) hb); clear HB; have HB := n0_; clear n0_; (try clear hb); (try clear hb2); (try clear hk); (try clear hi)) | ((with_reducible refine gate_callee (f := 17) rfl ?_); refine goesL_ (some 28) rfl rfl Try.func17 (by kernel_rfl) rfl #[.int .i64 t186, .int .i64 a1] rfl (by (try simp only [List.map_toArray, List.map_cons, List.map_nil]); first | done | rfl | (simp only [List.length_drop, List.length_take]; rfl)) ?_; (with_reducible refine (modp_Mod.calls k t186 a1 t187 _ A6.out).mono ?_); rintro e w' ⟨rfl, ⟨nd, rfl⟩⟩; refine ⟨_, rfl, ?_⟩) | ((with_reducible refine gate_callee (f := 18) rfl ?_); refine goesL_ (some 33) rfl rfl Try.func18 (by kernel_rfl) rfl #[.int .i64 t186, .int .i64 a1, .int .i64 0] rfl (by (try simp only [List.map_toArray, List.map_cons, List.map_nil]); first | done | rfl | (simp only [List.length_drop, List.length_take]; rfl)) ?_; (with_reducible refine (modp_Pow.calls k t186 a1 0 t188 t189 _ A8.out).mono ?_); rintro e w' ⟨rfl, ⟨nd, rfl⟩⟩; refine ⟨_, rfl, ?_⟩) | ((with_reducible refine gate_callee (f := 18) rfl ?_); refine goesL_ (some 43) rfl rfl Try.func18 (by kernel_rfl) rfl #[.int .i64 t186, .int .i64 a1, .int .i64 (wrap64 (1 + (wrap64 ((Int.tmod (wrap64 (a2)) 1000001) * (Int.tmod (wrap64 (a2)) 1000001)))))] rfl (by (try simp only [List.map_toArray, List.map_cons, List.map_nil]); first | done | rfl | (simp only [List.length_drop, List.length_take]; rfl)) ?_; (with_reducible refine (modp_Pow.calls k t186 a1 (wrap64 (1 + (wrap64 ((Int.tmod (wrap64 (a2)) 1000001) * (Int.tmod (wrap64 (a2)) 1000001))))) t190 t191 _ A9.out).mono ?_); rintro e w' ⟨rfl, ⟨nd, rfl⟩⟩; refine ⟨_, rfl, ?_⟩) | ((with_reducible refine gate_callee (f := 18) rfl ?_); refine goesL_ (some 53) rfl rfl Try.func18 (by kernel_rfl) rfl #[.int .i64 t186, .int .i64 a1, .int .i64 (wrap64 ((-1) - (wrap64 ((Int.tmod (wrap64 (a2)) 1000001) * (Int.tmod (wrap64 (a2)) 1000001)))))] rfl (by (try simp only [List.map_toArray, List.map_cons, List.map_nil]); first | done | rfl | (simp only [List.length_drop, List.length_take]; rfl)) ?_; (with_reducible refine (modp_Pow.calls k t186 a1 (wrap64 ((-1) - (wrap64 ((Int.tmod (wrap64 (a2)) 1000001) * (Int.tmod (wrap64 (a2)) 1000001))))) t192 t193 _ A10.out).mono ?_); rintro e w' ⟨rfl, ⟨nd, rfl⟩⟩; refine ⟨_, rfl, ?_⟩) | ((with_reducible refine gate_callee (f := 19) rfl ?_); refine goesL_ (some 58) rfl rfl Try.func19 (by kernel_rfl) rfl #[.int .i64 t188, .int .i64 t189, .int .i64 1] rfl (by (try simp only [List.map_toArray, List.map_cons, List.map_nil]); first | done | rfl | (simp only [List.length_drop, List.length_take]; rfl)) ?_; (with_reducible refine (toruslaw01_is.calls t188 t189 1 false _ A11.out).mono ?_); rintro e w' ⟨rfl, ⟨nd, rfl⟩⟩; refine ⟨_, rfl, ?_⟩))
        go_ret
        exact ⟨by first | rfl | (simp [errW_none, errW_some] <;> rfl) | (simp [*, errW_none, errW_some] <;> rfl), by repeat (first | (with_reducible first | exact HB.out | apply below_alloc | apply pw_below_drewN | apply below_drew1) | exact HB.out)⟩
  · rw [if_neg c7] at H
    have c7b0 : (t187 == 0) = false := beq_eq_false_iff_ne.mpr c7
    have c7b1 : (t187 != 0) = true := bne_iff_ne.mpr c7
    replace H := Option.bind_eq_some_iff.mp H
    obtain ⟨t197, A210, H⟩ := H
    replace H : ((toruslaw01_power.f k t186 a1 (Int.tmod (wrap64 (a2)) 1000001)).bind fun t198 => ((toruslaw01_power.f k t186 a1 (Int.tmod (wrap64 (a3)) 1000001)).bind fun t199 => ((toruslaw01_product.f k t186 t198 t199).bind fun t200 => (if t197 = t200 then ((toruslaw01_power.f k t186 a1 (wrap64 (t186 - 1))).bind fun t201 => (if t201 = 1 then ((toruslaw01_power.f k t186 a1 (Int.tmod (wrap64 (a2)) 1000001)).bind fun t202 => ((torusref01_Bring.f (Int.tmod (wrap64 (a2)) 1000001) (wrap64 (t186 - 1))).bind fun t203 => ((toruslaw01_power.f k t186 a1 t203).bind fun t204 => (if t202 = t204 then ((toruslaw01_power.f k t186 a1 1).bind fun t205 => ((modp_Mod.f k t186 a1).bind fun t206 => (if t205 = t206 then ((toruslaw01_awake.f k).bind fun t207 => (some t207)) else (some false)))) else (some false))))) else (some false))) else (some false))))) = some r := H
    have A21 := Aside0.mk A210
    clear A210
    replace H := Option.bind_eq_some_iff.mp H
    obtain ⟨t198, A220, H⟩ := H
    replace H : ((toruslaw01_power.f k t186 a1 (Int.tmod (wrap64 (a3)) 1000001)).bind fun t199 => ((toruslaw01_product.f k t186 t198 t199).bind fun t200 => (if t197 = t200 then ((toruslaw01_power.f k t186 a1 (wrap64 (t186 - 1))).bind fun t201 => (if t201 = 1 then ((toruslaw01_power.f k t186 a1 (Int.tmod (wrap64 (a2)) 1000001)).bind fun t202 => ((torusref01_Bring.f (Int.tmod (wrap64 (a2)) 1000001) (wrap64 (t186 - 1))).bind fun t203 => ((toruslaw01_power.f k t186 a1 t203).bind fun t204 => (if t202 = t204 then ((toruslaw01_power.f k t186 a1 1).bind fun t205 => ((modp_Mod.f k t186 a1).bind fun t206 => (if t205 = t206 then ((toruslaw01_awake.f k).bind fun t207 => (some t207)) else (some false)))) else (some false))))) else (some false))) else (some false)))) = some r := H
    have A22 := Aside0.mk A220
    clear A220
    replace H := Option.bind_eq_some_iff.mp H
    obtain ⟨t199, A230, H⟩ := H
    replace H : ((toruslaw01_product.f k t186 t198 t199).bind fun t200 => (if t197 = t200 then ((toruslaw01_power.f k t186 a1 (wrap64 (t186 - 1))).bind fun t201 => (if t201 = 1 then ((toruslaw01_power.f k t186 a1 (Int.tmod (wrap64 (a2)) 1000001)).bind fun t202 => ((torusref01_Bring.f (Int.tmod (wrap64 (a2)) 1000001) (wrap64 (t186 - 1))).bind fun t203 => ((toruslaw01_power.f k t186 a1 t203).bind fun t204 => (if t202 = t204 then ((toruslaw01_power.f k t186 a1 1).bind fun t205 => ((modp_Mod.f k t186 a1).bind fun t206 => (if t205 = t206 then ((toruslaw01_awake.f k).bind fun t207 => (some t207)) else (some false)))) else (some false))))) else (some false))) else (some false))) = some r := H
    have A23 := Aside0.mk A230
    clear A230
    replace H := Option.bind_eq_some_iff.mp H
    obtain ⟨t200, A240, H⟩ := H
    replace H : (if t197 = t200 then ((toruslaw01_power.f k t186 a1 (wrap64 (t186 - 1))).bind fun t201 => (if t201 = 1 then ((toruslaw01_power.f k t186 a1 (Int.tmod (wrap64 (a2)) 1000001)).bind fun t202 => ((torusref01_Bring.f (Int.tmod (wrap64 (a2)) 1000001) (wrap64 (t186 - 1))).bind fun t203 => ((toruslaw01_power.f k t186 a1 t203).bind fun t204 => (if t202 = t204 then ((toruslaw01_power.f k t186 a1 1).bind fun t205 => ((modp_Mod.f k t186 a1).bind fun t206 => (if t205 = t206 then ((toruslaw01_awake.f k).bind fun t207 => (some t207)) else (some false)))) else (some false))))) else (some false))) else (some false)) = some r := H
    have A24 := Aside0.mk A240
    clear A240
    by_cases c25 : t197 = t200
    · rw [if_pos c25] at H
      have c25b0 : (t197 == t200) = true := beq_iff_eq.mpr c25
      have c25b1 : (t197 != t200) = false := bne_eq_false_iff_eq.mpr c25
      clear c25
      replace H := Option.bind_eq_some_iff.mp H
      obtain ⟨t201, A260, H⟩ := H
      replace H : (if t201 = 1 then ((toruslaw01_power.f k t186 a1 (Int.tmod (wrap64 (a2)) 1000001)).bind fun t202 => ((torusref01_Bring.f (Int.tmod (wrap64 (a2)) 1000001) (wrap64 (t186 - 1))).bind fun t203 => ((toruslaw01_power.f k t186 a1 t203).bind fun t204 => (if t202 = t204 then ((toruslaw01_power.f k t186 a1 1).bind fun t205 => ((modp_Mod.f k t186 a1).bind fun t206 => (if t205 = t206 then ((toruslaw01_awake.f k).bind fun t207 => (some t207)) else (some false)))) else (some false))))) else (some false)) = some r := H
      have A26 := Aside0.mk A260
      clear A260
      by_cases c27 : t201 = 1
      · rw [if_pos c27] at H
        have c27b0 : (t201 == 1) = true := beq_iff_eq.mpr c27
        have c27b1 : (t201 != 1) = false := bne_eq_false_iff_eq.mpr c27
        clear c27
        replace H := Option.bind_eq_some_iff.mp H
        obtain ⟨t202, A280, H⟩ := H
        replace H : ((torusref01_Bring.f (Int.tmod (wrap64 (a2)) 1000001) (wrap64 (t186 - 1))).bind fun t203 => ((toruslaw01_power.f k t186 a1 t203).bind fun t204 => (if t202 = t204 then ((toruslaw01_power.f k t186 a1 1).bind fun t205 => ((modp_Mod.f k t186 a1).bind fun t206 => (if t205 = t206 then ((toruslaw01_awake.f k).bind fun t207 => (some t207)) else (some false)))) else (some false)))) = some r := H
        have A28 := Aside0.mk A280
        clear A280
        replace H := Option.bind_eq_some_iff.mp H
        obtain ⟨t203, A290, H⟩ := H
        replace H : ((toruslaw01_power.f k t186 a1 t203).bind fun t204 => (if t202 = t204 then ((toruslaw01_power.f k t186 a1 1).bind fun t205 => ((modp_Mod.f k t186 a1).bind fun t206 => (if t205 = t206 then ((toruslaw01_awake.f k).bind fun t207 => (some t207)) else (some false)))) else (some false))) = some r := H
        have A29 := Aside0.mk A290
        clear A290
        replace H := Option.bind_eq_some_iff.mp H
        obtain ⟨t204, A300, H⟩ := H
        replace H : (if t202 = t204 then ((toruslaw01_power.f k t186 a1 1).bind fun t205 => ((modp_Mod.f k t186 a1).bind fun t206 => (if t205 = t206 then ((toruslaw01_awake.f k).bind fun t207 => (some t207)) else (some false)))) else (some false)) = some r := H
        have A30 := Aside0.mk A300
        clear A300
        by_cases c31 : t202 = t204
        · rw [if_pos c31] at H
          have c31b0 : (t202 == t204) = true := beq_iff_eq.mpr c31
          have c31b1 : (t202 != t204) = false := bne_eq_false_iff_eq.mpr c31
          clear c31
          replace H := Option.bind_eq_some_iff.mp H
          obtain ⟨t205, A320, H⟩ := H
          replace H : ((modp_Mod.f k t186 a1).bind fun t206 => (if t205 = t206 then ((toruslaw01_awake.f k).bind fun t207 => (some t207)) else (some false))) = some r := H
          have A32 := Aside0.mk A320
          clear A320
          replace H := Option.bind_eq_some_iff.mp H
          obtain ⟨t206, A330, H⟩ := H
          replace H : (if t205 = t206 then ((toruslaw01_awake.f k).bind fun t207 => (some t207)) else (some false)) = some r := H
          have A33 := Aside0.mk A330
          clear A330
          by_cases c34 : t205 = t206
          · rw [if_pos c34] at H
            have c34b0 : (t205 == t206) = true := beq_iff_eq.mpr c34
            have c34b1 : (t205 != t206) = false := bne_eq_false_iff_eq.mpr c34
            clear c34
            replace H := Option.bind_eq_some_iff.mp H
            obtain ⟨t207, A350, H⟩ := H
            replace H : (some t207) = some r := H
            have A35 := Aside0.mk A350
            clear A350
            first
            | with_reducible exact absurd ((Option.some.inj H).trans hrt.out) Bool.false_ne_true
            | skip
              obtain rfl := Option.some.inj H
              go_enter Try.func4, Try.ntmps4
              have EA28_t202 : t198 = t202 := Option.some.inj (A22.out.symm.trans A28.out)
              subst EA28_t202
              have EA33_t206 : t187 = t206 := Option.some.inj (A6.out.symm.trans A33.out)
              subst EA33_t206
              go_wp2_with (first | ((with_reducible refine gate_callee (f := 16) rfl ?_); refine goesL_ (some 19) rfl rfl Try.func16 (by kernel_rfl) rfl #[.int .i64 a0] rfl (by (try simp only [List.map_toArray, List.map_cons, List.map_nil]); first | done | rfl | (simp only [List.length_drop, List.length_take]; rfl)) ?_; (with_reducible refine (torusref01_Field.calls k a0 t186 _ A5.out).mono ?_); rintro e w36 ⟨rfl, hb⟩; refine ⟨_, rfl, ?_⟩; have n0_ := Aside0.mk (below_step (by repeat (first | (with_reducible first | exact HB.out | apply below_alloc | apply pw_below_drewN | apply below_drew1) | exact HB.out)) hb); clear HB; have HB := n0_; clear n0_; (try clear hb); (try clear hb2); (try clear hk); (try clear hi)) | ((with_reducible refine gate_callee (f := 17) rfl ?_); refine goesL_ (some 28) rfl rfl Try.func17 (by kernel_rfl) rfl #[.int .i64 t186, .int .i64 a1] rfl (by (try simp only [List.map_toArray, List.map_cons, List.map_nil]); first | done | rfl | (simp only [List.length_drop, List.length_take]; rfl)) ?_; (with_reducible refine (modp_Mod.calls k t186 a1 t187 _ A6.out).mono ?_); rintro e w' ⟨rfl, ⟨nd, rfl⟩⟩; refine ⟨_, rfl, ?_⟩) | ((with_reducible refine gate_callee (f := 20) rfl ?_); refine goesL_ (some 76) rfl rfl Try.func20 (by kernel_rfl) rfl #[.int .i64 t186, .int .i64 a1, .int .i64 (wrap64 ((Int.tmod (wrap64 (a2)) 1000001) + (Int.tmod (wrap64 (a3)) 1000001)))] rfl (by (try simp only [List.map_toArray, List.map_cons, List.map_nil]); first | done | rfl | (simp only [List.length_drop, List.length_take]; rfl)) ?_; (with_reducible refine (toruslaw01_power.calls k t186 a1 (wrap64 ((Int.tmod (wrap64 (a2)) 1000001) + (Int.tmod (wrap64 (a3)) 1000001))) t197 _ A21.out).mono ?_); rintro e w' ⟨rfl, ⟨nd, rfl⟩⟩; refine ⟨_, rfl, ?_⟩) | ((with_reducible refine gate_callee (f := 20) rfl ?_); refine goesL_ (some 81) rfl rfl Try.func20 (by kernel_rfl) rfl #[.int .i64 t186, .int .i64 a1, .int .i64 (Int.tmod (wrap64 (a2)) 1000001)] rfl (by (try simp only [List.map_toArray, List.map_cons, List.map_nil]); first | done | rfl | (simp only [List.length_drop, List.length_take]; rfl)) ?_; (with_reducible refine (toruslaw01_power.calls k t186 a1 (Int.tmod (wrap64 (a2)) 1000001) t198 _ A22.out).mono ?_); rintro e w' ⟨rfl, ⟨nd, rfl⟩⟩; refine ⟨_, rfl, ?_⟩) | ((with_reducible refine gate_callee (f := 20) rfl ?_); refine goesL_ (some 85) rfl rfl Try.func20 (by kernel_rfl) rfl #[.int .i64 t186, .int .i64 a1, .int .i64 (Int.tmod (wrap64 (a3)) 1000001)] rfl (by (try simp only [List.map_toArray, List.map_cons, List.map_nil]); first | done | rfl | (simp only [List.length_drop, List.length_take]; rfl)) ?_; (with_reducible refine (toruslaw01_power.calls k t186 a1 (Int.tmod (wrap64 (a3)) 1000001) t199 _ A23.out).mono ?_); rintro e w' ⟨rfl, ⟨nd, rfl⟩⟩; refine ⟨_, rfl, ?_⟩) | ((with_reducible refine gate_callee (f := 21) rfl ?_); refine goesL_ (some 86) rfl rfl Try.func21 (by kernel_rfl) rfl #[.int .i64 t186, .int .i64 t198, .int .i64 t199] rfl (by (try simp only [List.map_toArray, List.map_cons, List.map_nil]); first | done | rfl | (simp only [List.length_drop, List.length_take]; rfl)) ?_; (with_reducible refine (toruslaw01_product.calls k t186 t198 t199 t200 _ A24.out).mono ?_); rintro e w' ⟨rfl, ⟨nd, rfl⟩⟩; refine ⟨_, rfl, ?_⟩) | (go_at_call 20; (with_reducible refine (toruslaw01_power.calls k t186 a1 (wrap64 (t186 - 1)) t201 _ A26.out).mono ?_); rintro e w' ⟨rfl, ⟨nd, rfl⟩⟩) | (go_at_call 20; (with_reducible refine (toruslaw01_power.calls k t186 a1 (Int.tmod (wrap64 (a2)) 1000001) t198 _ A28.out).mono ?_); rintro e w' ⟨rfl, ⟨nd, rfl⟩⟩) | (go_at_call 22; (with_reducible refine (torusref01_Bring.calls (Int.tmod (wrap64 (a2)) 1000001) (wrap64 (t186 - 1)) t203 _ A29.out).mono ?_); rintro e w' ⟨rfl, ⟨nd, rfl⟩⟩) | (go_at_call 20; (with_reducible refine (toruslaw01_power.calls k t186 a1 t203 t204 _ A30.out).mono ?_); rintro e w' ⟨rfl, ⟨nd, rfl⟩⟩) | (go_at_call 20; (with_reducible refine (toruslaw01_power.calls k t186 a1 1 t205 _ A32.out).mono ?_); rintro e w' ⟨rfl, ⟨nd, rfl⟩⟩) | (go_at_call 17; (with_reducible refine (modp_Mod.calls k t186 a1 t187 _ A33.out).mono ?_); rintro e w' ⟨rfl, ⟨nd, rfl⟩⟩) | (go_at_call 15; (with_reducible refine (toruslaw01_awake.calls k  t207 _ A35.out).mono ?_); rintro e w' ⟨rfl, ⟨nd, rfl⟩⟩))
              go_ret
              exact ⟨by first | rfl | (simp [errW_none, errW_some] <;> rfl) | (simp [*, errW_none, errW_some] <;> rfl), by repeat (first | (with_reducible first | exact HB.out | apply below_alloc | apply pw_below_drewN | apply below_drew1) | exact HB.out)⟩
          · rw [if_neg c34] at H
            have c34b0 : (t205 == t206) = false := beq_eq_false_iff_ne.mpr c34
            have c34b1 : (t205 != t206) = true := bne_iff_ne.mpr c34
            first
            | with_reducible exact absurd ((Option.some.inj H).trans hrt.out) Bool.false_ne_true
            | skip
              obtain rfl := Option.some.inj H
              go_enter Try.func4, Try.ntmps4
              have EA28_t202 : t198 = t202 := Option.some.inj (A22.out.symm.trans A28.out)
              subst EA28_t202
              have EA33_t206 : t187 = t206 := Option.some.inj (A6.out.symm.trans A33.out)
              subst EA33_t206
              go_wp2_with (first | ((with_reducible refine gate_callee (f := 16) rfl ?_); refine goesL_ (some 19) rfl rfl Try.func16 (by kernel_rfl) rfl #[.int .i64 a0] rfl (by (try simp only [List.map_toArray, List.map_cons, List.map_nil]); first | done | rfl | (simp only [List.length_drop, List.length_take]; rfl)) ?_; (with_reducible refine (torusref01_Field.calls k a0 t186 _ A5.out).mono ?_); rintro e w37 ⟨rfl, hb⟩; refine ⟨_, rfl, ?_⟩; have n0_ := Aside0.mk (below_step (by repeat (first | (with_reducible first | exact HB.out | apply below_alloc | apply pw_below_drewN | apply below_drew1) | exact HB.out)) hb); clear HB; have HB := n0_; clear n0_; (try clear hb); (try clear hb2); (try clear hk); (try clear hi)) | ((with_reducible refine gate_callee (f := 17) rfl ?_); refine goesL_ (some 28) rfl rfl Try.func17 (by kernel_rfl) rfl #[.int .i64 t186, .int .i64 a1] rfl (by (try simp only [List.map_toArray, List.map_cons, List.map_nil]); first | done | rfl | (simp only [List.length_drop, List.length_take]; rfl)) ?_; (with_reducible refine (modp_Mod.calls k t186 a1 t187 _ A6.out).mono ?_); rintro e w' ⟨rfl, ⟨nd, rfl⟩⟩; refine ⟨_, rfl, ?_⟩) | ((with_reducible refine gate_callee (f := 20) rfl ?_); refine goesL_ (some 76) rfl rfl Try.func20 (by kernel_rfl) rfl #[.int .i64 t186, .int .i64 a1, .int .i64 (wrap64 ((Int.tmod (wrap64 (a2)) 1000001) + (Int.tmod (wrap64 (a3)) 1000001)))] rfl (by (try simp only [List.map_toArray, List.map_cons, List.map_nil]); first | done | rfl | (simp only [List.length_drop, List.length_take]; rfl)) ?_; (with_reducible refine (toruslaw01_power.calls k t186 a1 (wrap64 ((Int.tmod (wrap64 (a2)) 1000001) + (Int.tmod (wrap64 (a3)) 1000001))) t197 _ A21.out).mono ?_); rintro e w' ⟨rfl, ⟨nd, rfl⟩⟩; refine ⟨_, rfl, ?_⟩) | ((with_reducible refine gate_callee (f := 20) rfl ?_); refine goesL_ (some 81) rfl rfl Try.func20 (by kernel_rfl) rfl #[.int .i64 t186, .int .i64 a1, .int .i64 (Int.tmod (wrap64 (a2)) 1000001)] rfl (by (try simp only [List.map_toArray, List.map_cons, List.map_nil]); first | done | rfl | (simp only [List.length_drop, List.length_take]; rfl)) ?_; (with_reducible refine (toruslaw01_power.calls k t186 a1 (Int.tmod (wrap64 (a2)) 1000001) t198 _ A22.out).mono ?_); rintro e w' ⟨rfl, ⟨nd, rfl⟩⟩; refine ⟨_, rfl, ?_⟩) | ((with_reducible refine gate_callee (f := 20) rfl ?_); refine goesL_ (some 85) rfl rfl Try.func20 (by kernel_rfl) rfl #[.int .i64 t186, .int .i64 a1, .int .i64 (Int.tmod (wrap64 (a3)) 1000001)] rfl (by (try simp only [List.map_toArray, List.map_cons, List.map_nil]); first | done | rfl | (simp only [List.length_drop, List.length_take]; rfl)) ?_; (with_reducible refine (toruslaw01_power.calls k t186 a1 (Int.tmod (wrap64 (a3)) 1000001) t199 _ A23.out).mono ?_); rintro e w' ⟨rfl, ⟨nd, rfl⟩⟩; refine ⟨_, rfl, ?_⟩) | ((with_reducible refine gate_callee (f := 21) rfl ?_); refine goesL_ (some 86) rfl rfl Try.func21 (by kernel_rfl) rfl #[.int .i64 t186, .int .i64 t198, .int .i64 t199] rfl (by (try simp only [List.map_toArray, List.map_cons, List.map_nil]); first | done | rfl | (simp only [List.length_drop, List.length_take]; rfl)) ?_; (with_reducible refine (toruslaw01_product.calls k t186 t198 t199 t200 _ A24.out).mono ?_); rintro e w' ⟨rfl, ⟨nd, rfl⟩⟩; refine ⟨_, rfl, ?_⟩) | (go_at_call 20; (with_reducible refine (toruslaw01_power.calls k t186 a1 (wrap64 (t186 - 1)) t201 _ A26.out).mono ?_); rintro e w' ⟨rfl, ⟨nd, rfl⟩⟩) | (go_at_call 20; (with_reducible refine (toruslaw01_power.calls k t186 a1 (Int.tmod (wrap64 (a2)) 1000001) t198 _ A28.out).mono ?_); rintro e w' ⟨rfl, ⟨nd, rfl⟩⟩) | (go_at_call 22; (with_reducible refine (torusref01_Bring.calls (Int.tmod (wrap64 (a2)) 1000001) (wrap64 (t186 - 1)) t203 _ A29.out).mono ?_); rintro e w' ⟨rfl, ⟨nd, rfl⟩⟩) | (go_at_call 20; (with_reducible refine (toruslaw01_power.calls k t186 a1 t203 t204 _ A30.out).mono ?_); rintro e w' ⟨rfl, ⟨nd, rfl⟩⟩) | (go_at_call 20; (with_reducible refine (toruslaw01_power.calls k t186 a1 1 t205 _ A32.out).mono ?_); rintro e w' ⟨rfl, ⟨nd, rfl⟩⟩) | (go_at_call 17; (with_reducible refine (modp_Mod.calls k t186 a1 t187 _ A33.out).mono ?_); rintro e w' ⟨rfl, ⟨nd, rfl⟩⟩))
              go_ret
              exact ⟨by first | rfl | (simp [errW_none, errW_some] <;> rfl) | (simp [*, errW_none, errW_some] <;> rfl), by repeat (first | (with_reducible first | exact HB.out | apply below_alloc | apply pw_below_drewN | apply below_drew1) | exact HB.out)⟩
        · rw [if_neg c31] at H
          have c31b0 : (t202 == t204) = false := beq_eq_false_iff_ne.mpr c31
          have c31b1 : (t202 != t204) = true := bne_iff_ne.mpr c31
          first
          | with_reducible exact absurd ((Option.some.inj H).trans hrt.out) Bool.false_ne_true
          | skip
            obtain rfl := Option.some.inj H
            go_enter Try.func4, Try.ntmps4
            have EA28_t202 : t198 = t202 := Option.some.inj (A22.out.symm.trans A28.out)
            subst EA28_t202
            go_wp2_with (first | ((with_reducible refine gate_callee (f := 16) rfl ?_); refine goesL_ (some 19) rfl rfl Try.func16 (by kernel_rfl) rfl #[.int .i64 a0] rfl (by (try simp only [List.map_toArray, List.map_cons, List.map_nil]); first | done | rfl | (simp only [List.length_drop, List.length_take]; rfl)) ?_; (with_reducible refine (torusref01_Field.calls k a0 t186 _ A5.out).mono ?_); rintro e w38 ⟨rfl, hb⟩; refine ⟨_, rfl, ?_⟩; have n0_ := Aside0.mk (below_step (by repeat (first | (with_reducible first | exact HB.out | apply below_alloc | apply pw_below_drewN | apply below_drew1) | exact HB.out)) hb); clear HB; have HB := n0_; clear n0_; (try clear hb); (try clear hb2); (try clear hk); (try clear hi)) | ((with_reducible refine gate_callee (f := 17) rfl ?_); refine goesL_ (some 28) rfl rfl Try.func17 (by kernel_rfl) rfl #[.int .i64 t186, .int .i64 a1] rfl (by (try simp only [List.map_toArray, List.map_cons, List.map_nil]); first | done | rfl | (simp only [List.length_drop, List.length_take]; rfl)) ?_; (with_reducible refine (modp_Mod.calls k t186 a1 t187 _ A6.out).mono ?_); rintro e w' ⟨rfl, ⟨nd, rfl⟩⟩; refine ⟨_, rfl, ?_⟩) | ((with_reducible refine gate_callee (f := 20) rfl ?_); refine goesL_ (some 76) rfl rfl Try.func20 (by kernel_rfl) rfl #[.int .i64 t186, .int .i64 a1, .int .i64 (wrap64 ((Int.tmod (wrap64 (a2)) 1000001) + (Int.tmod (wrap64 (a3)) 1000001)))] rfl (by (try simp only [List.map_toArray, List.map_cons, List.map_nil]); first | done | rfl | (simp only [List.length_drop, List.length_take]; rfl)) ?_; (with_reducible refine (toruslaw01_power.calls k t186 a1 (wrap64 ((Int.tmod (wrap64 (a2)) 1000001) + (Int.tmod (wrap64 (a3)) 1000001))) t197 _ A21.out).mono ?_); rintro e w' ⟨rfl, ⟨nd, rfl⟩⟩; refine ⟨_, rfl, ?_⟩) | ((with_reducible refine gate_callee (f := 20) rfl ?_); refine goesL_ (some 81) rfl rfl Try.func20 (by kernel_rfl) rfl #[.int .i64 t186, .int .i64 a1, .int .i64 (Int.tmod (wrap64 (a2)) 1000001)] rfl (by (try simp only [List.map_toArray, List.map_cons, List.map_nil]); first | done | rfl | (simp only [List.length_drop, List.length_take]; rfl)) ?_; (with_reducible refine (toruslaw01_power.calls k t186 a1 (Int.tmod (wrap64 (a2)) 1000001) t198 _ A22.out).mono ?_); rintro e w' ⟨rfl, ⟨nd, rfl⟩⟩; refine ⟨_, rfl, ?_⟩) | ((with_reducible refine gate_callee (f := 20) rfl ?_); refine goesL_ (some 85) rfl rfl Try.func20 (by kernel_rfl) rfl #[.int .i64 t186, .int .i64 a1, .int .i64 (Int.tmod (wrap64 (a3)) 1000001)] rfl (by (try simp only [List.map_toArray, List.map_cons, List.map_nil]); first | done | rfl | (simp only [List.length_drop, List.length_take]; rfl)) ?_; (with_reducible refine (toruslaw01_power.calls k t186 a1 (Int.tmod (wrap64 (a3)) 1000001) t199 _ A23.out).mono ?_); rintro e w' ⟨rfl, ⟨nd, rfl⟩⟩; refine ⟨_, rfl, ?_⟩) | ((with_reducible refine gate_callee (f := 21) rfl ?_); refine goesL_ (some 86) rfl rfl Try.func21 (by kernel_rfl) rfl #[.int .i64 t186, .int .i64 t198, .int .i64 t199] rfl (by (try simp only [List.map_toArray, List.map_cons, List.map_nil]); first | done | rfl | (simp only [List.length_drop, List.length_take]; rfl)) ?_; (with_reducible refine (toruslaw01_product.calls k t186 t198 t199 t200 _ A24.out).mono ?_); rintro e w' ⟨rfl, ⟨nd, rfl⟩⟩; refine ⟨_, rfl, ?_⟩) | (go_at_call 20; (with_reducible refine (toruslaw01_power.calls k t186 a1 (wrap64 (t186 - 1)) t201 _ A26.out).mono ?_); rintro e w' ⟨rfl, ⟨nd, rfl⟩⟩) | (go_at_call 20; (with_reducible refine (toruslaw01_power.calls k t186 a1 (Int.tmod (wrap64 (a2)) 1000001) t198 _ A28.out).mono ?_); rintro e w' ⟨rfl, ⟨nd, rfl⟩⟩) | (go_at_call 22; (with_reducible refine (torusref01_Bring.calls (Int.tmod (wrap64 (a2)) 1000001) (wrap64 (t186 - 1)) t203 _ A29.out).mono ?_); rintro e w' ⟨rfl, ⟨nd, rfl⟩⟩) | (go_at_call 20; (with_reducible refine (toruslaw01_power.calls k t186 a1 t203 t204 _ A30.out).mono ?_); rintro e w' ⟨rfl, ⟨nd, rfl⟩⟩))
            go_ret
            exact ⟨by first | rfl | (simp [errW_none, errW_some] <;> rfl) | (simp [*, errW_none, errW_some] <;> rfl), by repeat (first | (with_reducible first | exact HB.out | apply below_alloc | apply pw_below_drewN | apply below_drew1) | exact HB.out)⟩
      · rw [if_neg c27] at H
        have c27b0 : (t201 == 1) = false := beq_eq_false_iff_ne.mpr c27
        have c27b1 : (t201 != 1) = true := bne_iff_ne.mpr c27
        first
        | with_reducible exact absurd ((Option.some.inj H).trans hrt.out) Bool.false_ne_true
        | skip
          obtain rfl := Option.some.inj H
          go_enter Try.func4, Try.ntmps4
          go_wp2_with (first | ((with_reducible refine gate_callee (f := 16) rfl ?_); refine goesL_ (some 19) rfl rfl Try.func16 (by kernel_rfl) rfl #[.int .i64 a0] rfl (by (try simp only [List.map_toArray, List.map_cons, List.map_nil]); first | done | rfl | (simp only [List.length_drop, List.length_take]; rfl)) ?_; (with_reducible refine (torusref01_Field.calls k a0 t186 _ A5.out).mono ?_); rintro e w39 ⟨rfl, hb⟩; refine ⟨_, rfl, ?_⟩; have n0_ := Aside0.mk (below_step (by repeat (first | (with_reducible first | exact HB.out | apply below_alloc | apply pw_below_drewN | apply below_drew1) | exact HB.out)) hb); clear HB; have HB := n0_; clear n0_; (try clear hb); (try clear hb2); (try clear hk); (try clear hi)) | ((with_reducible refine gate_callee (f := 17) rfl ?_); refine goesL_ (some 28) rfl rfl Try.func17 (by kernel_rfl) rfl #[.int .i64 t186, .int .i64 a1] rfl (by (try simp only [List.map_toArray, List.map_cons, List.map_nil]); first | done | rfl | (simp only [List.length_drop, List.length_take]; rfl)) ?_; (with_reducible refine (modp_Mod.calls k t186 a1 t187 _ A6.out).mono ?_); rintro e w' ⟨rfl, ⟨nd, rfl⟩⟩; refine ⟨_, rfl, ?_⟩) | ((with_reducible refine gate_callee (f := 20) rfl ?_); refine goesL_ (some 76) rfl rfl Try.func20 (by kernel_rfl) rfl #[.int .i64 t186, .int .i64 a1, .int .i64 (wrap64 ((Int.tmod (wrap64 (a2)) 1000001) + (Int.tmod (wrap64 (a3)) 1000001)))] rfl (by (try simp only [List.map_toArray, List.map_cons, List.map_nil]); first | done | rfl | (simp only [List.length_drop, List.length_take]; rfl)) ?_; (with_reducible refine (toruslaw01_power.calls k t186 a1 (wrap64 ((Int.tmod (wrap64 (a2)) 1000001) + (Int.tmod (wrap64 (a3)) 1000001))) t197 _ A21.out).mono ?_); rintro e w' ⟨rfl, ⟨nd, rfl⟩⟩; refine ⟨_, rfl, ?_⟩) | ((with_reducible refine gate_callee (f := 20) rfl ?_); refine goesL_ (some 81) rfl rfl Try.func20 (by kernel_rfl) rfl #[.int .i64 t186, .int .i64 a1, .int .i64 (Int.tmod (wrap64 (a2)) 1000001)] rfl (by (try simp only [List.map_toArray, List.map_cons, List.map_nil]); first | done | rfl | (simp only [List.length_drop, List.length_take]; rfl)) ?_; (with_reducible refine (toruslaw01_power.calls k t186 a1 (Int.tmod (wrap64 (a2)) 1000001) t198 _ A22.out).mono ?_); rintro e w' ⟨rfl, ⟨nd, rfl⟩⟩; refine ⟨_, rfl, ?_⟩) | ((with_reducible refine gate_callee (f := 20) rfl ?_); refine goesL_ (some 85) rfl rfl Try.func20 (by kernel_rfl) rfl #[.int .i64 t186, .int .i64 a1, .int .i64 (Int.tmod (wrap64 (a3)) 1000001)] rfl (by (try simp only [List.map_toArray, List.map_cons, List.map_nil]); first | done | rfl | (simp only [List.length_drop, List.length_take]; rfl)) ?_; (with_reducible refine (toruslaw01_power.calls k t186 a1 (Int.tmod (wrap64 (a3)) 1000001) t199 _ A23.out).mono ?_); rintro e w' ⟨rfl, ⟨nd, rfl⟩⟩; refine ⟨_, rfl, ?_⟩) | ((with_reducible refine gate_callee (f := 21) rfl ?_); refine goesL_ (some 86) rfl rfl Try.func21 (by kernel_rfl) rfl #[.int .i64 t186, .int .i64 t198, .int .i64 t199] rfl (by (try simp only [List.map_toArray, List.map_cons, List.map_nil]); first | done | rfl | (simp only [List.length_drop, List.length_take]; rfl)) ?_; (with_reducible refine (toruslaw01_product.calls k t186 t198 t199 t200 _ A24.out).mono ?_); rintro e w' ⟨rfl, ⟨nd, rfl⟩⟩; refine ⟨_, rfl, ?_⟩) | (go_at_call 20; (with_reducible refine (toruslaw01_power.calls k t186 a1 (wrap64 (t186 - 1)) t201 _ A26.out).mono ?_); rintro e w' ⟨rfl, ⟨nd, rfl⟩⟩))
          go_ret
          exact ⟨by first | rfl | (simp [errW_none, errW_some] <;> rfl) | (simp [*, errW_none, errW_some] <;> rfl), by repeat (first | (with_reducible first | exact HB.out | apply below_alloc | apply pw_below_drewN | apply below_drew1) | exact HB.out)⟩
    · rw [if_neg c25] at H
      have c25b0 : (t197 == t200) = false := beq_eq_false_iff_ne.mpr c25
      have c25b1 : (t197 != t200) = true := bne_iff_ne.mpr c25
      first
      | with_reducible exact absurd ((Option.some.inj H).trans hrt.out) Bool.false_ne_true
      | skip
        obtain rfl := Option.some.inj H
        go_enter Try.func4, Try.ntmps4
        go_wp2_with (first | ((with_reducible refine gate_callee (f := 16) rfl ?_); refine goesL_ (some 19) rfl rfl Try.func16 (by kernel_rfl) rfl #[.int .i64 a0] rfl (by (try simp only [List.map_toArray, List.map_cons, List.map_nil]); first | done | rfl | (simp only [List.length_drop, List.length_take]; rfl)) ?_; (with_reducible refine (torusref01_Field.calls k a0 t186 _ A5.out).mono ?_); rintro e w40 ⟨rfl, hb⟩; refine ⟨_, rfl, ?_⟩; have n0_ := Aside0.mk (below_step (by repeat (first | (with_reducible first | exact HB.out | apply below_alloc | apply pw_below_drewN | apply below_drew1) | exact HB.out)) hb); clear HB; have HB := n0_; clear n0_; (try clear hb); (try clear hb2); (try clear hk); (try clear hi)) | ((with_reducible refine gate_callee (f := 17) rfl ?_); refine goesL_ (some 28) rfl rfl Try.func17 (by kernel_rfl) rfl #[.int .i64 t186, .int .i64 a1] rfl (by (try simp only [List.map_toArray, List.map_cons, List.map_nil]); first | done | rfl | (simp only [List.length_drop, List.length_take]; rfl)) ?_; (with_reducible refine (modp_Mod.calls k t186 a1 t187 _ A6.out).mono ?_); rintro e w' ⟨rfl, ⟨nd, rfl⟩⟩; refine ⟨_, rfl, ?_⟩) | ((with_reducible refine gate_callee (f := 20) rfl ?_); refine goesL_ (some 76) rfl rfl Try.func20 (by kernel_rfl) rfl #[.int .i64 t186, .int .i64 a1, .int .i64 (wrap64 ((Int.tmod (wrap64 (a2)) 1000001) + (Int.tmod (wrap64 (a3)) 1000001)))] rfl (by (try simp only [List.map_toArray, List.map_cons, List.map_nil]); first | done | rfl | (simp only [List.length_drop, List.length_take]; rfl)) ?_; (with_reducible refine (toruslaw01_power.calls k t186 a1 (wrap64 ((Int.tmod (wrap64 (a2)) 1000001) + (Int.tmod (wrap64 (a3)) 1000001))) t197 _ A21.out).mono ?_); rintro e w' ⟨rfl, ⟨nd, rfl⟩⟩; refine ⟨_, rfl, ?_⟩) | ((with_reducible refine gate_callee (f := 20) rfl ?_); refine goesL_ (some 81) rfl rfl Try.func20 (by kernel_rfl) rfl #[.int .i64 t186, .int .i64 a1, .int .i64 (Int.tmod (wrap64 (a2)) 1000001)] rfl (by (try simp only [List.map_toArray, List.map_cons, List.map_nil]); first | done | rfl | (simp only [List.length_drop, List.length_take]; rfl)) ?_; (with_reducible refine (toruslaw01_power.calls k t186 a1 (Int.tmod (wrap64 (a2)) 1000001) t198 _ A22.out).mono ?_); rintro e w' ⟨rfl, ⟨nd, rfl⟩⟩; refine ⟨_, rfl, ?_⟩) | ((with_reducible refine gate_callee (f := 20) rfl ?_); refine goesL_ (some 85) rfl rfl Try.func20 (by kernel_rfl) rfl #[.int .i64 t186, .int .i64 a1, .int .i64 (Int.tmod (wrap64 (a3)) 1000001)] rfl (by (try simp only [List.map_toArray, List.map_cons, List.map_nil]); first | done | rfl | (simp only [List.length_drop, List.length_take]; rfl)) ?_; (with_reducible refine (toruslaw01_power.calls k t186 a1 (Int.tmod (wrap64 (a3)) 1000001) t199 _ A23.out).mono ?_); rintro e w' ⟨rfl, ⟨nd, rfl⟩⟩; refine ⟨_, rfl, ?_⟩) | ((with_reducible refine gate_callee (f := 21) rfl ?_); refine goesL_ (some 86) rfl rfl Try.func21 (by kernel_rfl) rfl #[.int .i64 t186, .int .i64 t198, .int .i64 t199] rfl (by (try simp only [List.map_toArray, List.map_cons, List.map_nil]); first | done | rfl | (simp only [List.length_drop, List.length_take]; rfl)) ?_; (with_reducible refine (toruslaw01_product.calls k t186 t198 t199 t200 _ A24.out).mono ?_); rintro e w' ⟨rfl, ⟨nd, rfl⟩⟩; refine ⟨_, rfl, ?_⟩))
        go_ret
        exact ⟨by first | rfl | (simp [errW_none, errW_some] <;> rfl) | (simp [*, errW_none, errW_some] <;> rfl), by repeat (first | (with_reducible first | exact HB.out | apply below_alloc | apply pw_below_drewN | apply below_drew1) | exact HB.out)⟩

/-- THE ONE PURE STATEMENT of toruslaw01_ModpPowers: yours. -/
def toruslaw01_ModpPowers.Pure : Prop := ∀ (a0 : Int) (a1 : Int) (a2 : Int) (a3 : Int), (Lit.int .i64 a0).wf = true → (Lit.int .i64 a1).wf = true → (Lit.int .i32 a2).wf = true → (Lit.int .i32 a3).wf = true → ∃ k, toruslaw01_ModpPowers.f k a0 a1 a2 a3 = some true
theorem toruslaw01_ModpPowers.walk (P : toruslaw01_ModpPowers.Pure) (a0 : Int) (a1 : Int) (a2 : Int) (a3 : Int) (w : World) (w0 : (Lit.int .i64 a0).wf = true) (w1 : (Lit.int .i64 a1).wf = true) (w2 : (Lit.int .i32 a2).wf = true) (w3 : (Lit.int .i32 a3).wf = true) :
    Calls Try.prog 4 #[.int .i64 a0, .int .i64 a1, .int .i32 a2, .int .i32 a3] w fun e w' => e = .returned (.bool true) ∧ Below w.heap.size w w' := by
  obtain ⟨k, h⟩ := P a0 a1 a2 a3 w0 w1 w2 w3
  refine (toruslaw01_ModpPowers.calls k a0 a1 a2 a3 true w ⟨rfl⟩ h).mono ?_
  rintro e w' ⟨rfl, hd⟩
  exact ⟨rfl, hd⟩

/-! ### toruslaw01_ModpSquares: function 5 -/
def toruslaw01_ModpSquares.f (k : Nat) (a0 : Int) (a1 : Int) : Option (Bool) := (torusref01_Field.f k a0).bind fun t208 => ((modp_Root.f k t208 a1).bind fun bt209 => (if bt209.2 = 0 then ((toruslaw01_product.f k t208 bt209.1 bt209.1).bind fun t211 => ((modp_Mod.f k t208 a1).bind fun t212 => (if t211 = t212 then (if bt209.1 ≥ 0 then ((modp_Mod.f k t208 (wrap64 (-bt209.1))).bind fun t213 => (if bt209.1 ≤ t213 then ((toruslaw01_awake.f k).bind fun t214 => (some t214)) else (some false))) else (some false)) else (some false)))) else (if bt209.2 = 4 then (if bt209.1 = 0 then (if t208 > 2 then ((modp_Mod.f k t208 a1).bind fun t215 => (if t215 = 0 then (some false) else ((toruslaw01_power.f k t208 a1 (wrap64 (Int.tdiv (wrap64 (t208 - 1)) 2))).bind fun t216 => (if t216 = (wrap64 (t208 - 1)) then ((toruslaw01_awake.f k).bind fun t217 => (some t217)) else (some false))))) else (some false)) else (some false)) else (some false))))
theorem toruslaw01_ModpSquares.mono : ∀ a0 a1 k, LeO (toruslaw01_ModpSquares.f k a0 a1) (toruslaw01_ModpSquares.f (k + 1) a0 a1) := by
  intro a0 a1 k
  unfold toruslaw01_ModpSquares.f
  repeat' first
      | (with_reducible exact modp_Mod.mono _ _ _)
      | (with_reducible exact modp_Root.mono _ _ _)
      | (with_reducible exact toruslaw01_awake.mono _)
      | (with_reducible exact toruslaw01_power.mono _ _ _ _)
      | (with_reducible exact toruslaw01_product.mono _ _ _ _)
      | (with_reducible exact torusref01_Field.mono _ _)
      | (with_reducible exact LeO.refl _)
      | (with_reducible exact LeO.none _)
      | (with_reducible refine LeO.ite ?_ ?_)
      | (with_reducible refine LeO.bind ?_ (fun _ => ?_))
      | exact modp_Mod.mono _ _ _
      | exact modp_Root.mono _ _ _
      | exact toruslaw01_awake.mono _
      | exact toruslaw01_power.mono _ _ _ _
      | exact toruslaw01_product.mono _ _ _ _
      | exact torusref01_Field.mono _ _
      | exact LeO.none _
      | refine LeO.ite ?_ ?_
      | refine LeO.bind ?_ (fun _ => ?_)
set_option maxHeartbeats 8000000 in
set_option maxRecDepth 100000 in
theorem toruslaw01_ModpSquares.calls (k : Nat) (a0 : Int) (a1 : Int) (r : Bool) (w : World) (hrt : Aside0 (r = true)) (h : toruslaw01_ModpSquares.f k a0 a1 = some r) :
    Calls Try.prog 5 #[.int .i64 a0, .int .i64 a1] w fun e w' => e = .returned (.bool r) ∧ Below w.heap.size w w' := by
  have HB := Aside0.mk (Below.refl w.heap.size w)
  have H : ((torusref01_Field.f k a0).bind fun t208 => ((modp_Root.f k t208 a1).bind fun bt209 => (if bt209.2 = 0 then ((toruslaw01_product.f k t208 bt209.1 bt209.1).bind fun t211 => ((modp_Mod.f k t208 a1).bind fun t212 => (if t211 = t212 then (if bt209.1 ≥ 0 then ((modp_Mod.f k t208 (wrap64 (-bt209.1))).bind fun t213 => (if bt209.1 ≤ t213 then ((toruslaw01_awake.f k).bind fun t214 => (some t214)) else (some false))) else (some false)) else (some false)))) else (if bt209.2 = 4 then (if bt209.1 = 0 then (if t208 > 2 then ((modp_Mod.f k t208 a1).bind fun t215 => (if t215 = 0 then (some false) else ((toruslaw01_power.f k t208 a1 (wrap64 (Int.tdiv (wrap64 (t208 - 1)) 2))).bind fun t216 => (if t216 = (wrap64 (t208 - 1)) then ((toruslaw01_awake.f k).bind fun t217 => (some t217)) else (some false))))) else (some false)) else (some false)) else (some false))))) = some r := h
  clear h
  replace H := Option.bind_eq_some_iff.mp H
  obtain ⟨t208, A30, H⟩ := H
  replace H : ((modp_Root.f k t208 a1).bind fun bt209 => (if bt209.2 = 0 then ((toruslaw01_product.f k t208 bt209.1 bt209.1).bind fun t211 => ((modp_Mod.f k t208 a1).bind fun t212 => (if t211 = t212 then (if bt209.1 ≥ 0 then ((modp_Mod.f k t208 (wrap64 (-bt209.1))).bind fun t213 => (if bt209.1 ≤ t213 then ((toruslaw01_awake.f k).bind fun t214 => (some t214)) else (some false))) else (some false)) else (some false)))) else (if bt209.2 = 4 then (if bt209.1 = 0 then (if t208 > 2 then ((modp_Mod.f k t208 a1).bind fun t215 => (if t215 = 0 then (some false) else ((toruslaw01_power.f k t208 a1 (wrap64 (Int.tdiv (wrap64 (t208 - 1)) 2))).bind fun t216 => (if t216 = (wrap64 (t208 - 1)) then ((toruslaw01_awake.f k).bind fun t217 => (some t217)) else (some false))))) else (some false)) else (some false)) else (some false)))) = some r := H
  have A3 := Aside0.mk A30
  clear A30
  replace H := Option.bind_eq_some_iff.mp H
  obtain ⟨⟨t209, t210⟩, A40, H⟩ := H
  replace H : (if t210 = 0 then ((toruslaw01_product.f k t208 t209 t209).bind fun t211 => ((modp_Mod.f k t208 a1).bind fun t212 => (if t211 = t212 then (if t209 ≥ 0 then ((modp_Mod.f k t208 (wrap64 (-t209))).bind fun t213 => (if t209 ≤ t213 then ((toruslaw01_awake.f k).bind fun t214 => (some t214)) else (some false))) else (some false)) else (some false)))) else (if t210 = 4 then (if t209 = 0 then (if t208 > 2 then ((modp_Mod.f k t208 a1).bind fun t215 => (if t215 = 0 then (some false) else ((toruslaw01_power.f k t208 a1 (wrap64 (Int.tdiv (wrap64 (t208 - 1)) 2))).bind fun t216 => (if t216 = (wrap64 (t208 - 1)) then ((toruslaw01_awake.f k).bind fun t217 => (some t217)) else (some false))))) else (some false)) else (some false)) else (some false))) = some r := H
  have A4 := Aside0.mk A40
  clear A40
  by_cases c5 : t210 = 0
  · rw [if_pos c5] at H
    have c5b0 : (t210 == 0) = true := beq_iff_eq.mpr c5
    have c5b1 : (t210 != 0) = false := bne_eq_false_iff_eq.mpr c5
    clear c5
    replace H := Option.bind_eq_some_iff.mp H
    obtain ⟨t211, A60, H⟩ := H
    replace H : ((modp_Mod.f k t208 a1).bind fun t212 => (if t211 = t212 then (if t209 ≥ 0 then ((modp_Mod.f k t208 (wrap64 (-t209))).bind fun t213 => (if t209 ≤ t213 then ((toruslaw01_awake.f k).bind fun t214 => (some t214)) else (some false))) else (some false)) else (some false))) = some r := H
    have A6 := Aside0.mk A60
    clear A60
    replace H := Option.bind_eq_some_iff.mp H
    obtain ⟨t212, A70, H⟩ := H
    replace H : (if t211 = t212 then (if t209 ≥ 0 then ((modp_Mod.f k t208 (wrap64 (-t209))).bind fun t213 => (if t209 ≤ t213 then ((toruslaw01_awake.f k).bind fun t214 => (some t214)) else (some false))) else (some false)) else (some false)) = some r := H
    have A7 := Aside0.mk A70
    clear A70
    by_cases c8 : t211 = t212
    · rw [if_pos c8] at H
      have c8b0 : (t211 == t212) = true := beq_iff_eq.mpr c8
      have c8b1 : (t211 != t212) = false := bne_eq_false_iff_eq.mpr c8
      clear c8
      by_cases c9 : t209 ≥ 0
      · rw [if_pos c9] at H
        have c9b0 : decide (0 ≤ t209) = true := decide_eq_true c9
        clear c9
        replace H := Option.bind_eq_some_iff.mp H
        obtain ⟨t213, A100, H⟩ := H
        replace H : (if t209 ≤ t213 then ((toruslaw01_awake.f k).bind fun t214 => (some t214)) else (some false)) = some r := H
        have A10 := Aside0.mk A100
        clear A100
        by_cases c11 : t209 ≤ t213
        · rw [if_pos c11] at H
          have c11b0 : decide (t209 ≤ t213) = true := decide_eq_true c11
          clear c11
          replace H := Option.bind_eq_some_iff.mp H
          obtain ⟨t214, A120, H⟩ := H
          replace H : (some t214) = some r := H
          have A12 := Aside0.mk A120
          clear A120
          first
          | with_reducible exact absurd ((Option.some.inj H).trans hrt.out) Bool.false_ne_true
          | skip
            obtain rfl := Option.some.inj H
            go_enter Try.func5, Try.ntmps5
            go_wp2_with (first | ((with_reducible refine gate_callee (f := 16) rfl ?_); refine goesL_ (some 9) rfl rfl Try.func16 (by kernel_rfl) rfl #[.int .i64 a0] rfl (by (try simp only [List.map_toArray, List.map_cons, List.map_nil]); first | done | rfl | (simp only [List.length_drop, List.length_take]; rfl)) ?_; (with_reducible refine (torusref01_Field.calls k a0 t208 _ A3.out).mono ?_); rintro e w13 ⟨rfl, hb⟩; refine ⟨_, rfl, ?_⟩; have n0_ := Aside0.mk (below_step (by repeat (first | (with_reducible first | exact HB.out | apply below_alloc | apply pw_below_drewN | apply below_drew1) | exact HB.out)) hb); clear HB; have HB := n0_; clear n0_; (try clear hb); (try clear hb2); (try clear hk); (try clear hi)) | ((with_reducible refine gate_callee (f := 23) rfl ?_); refine goesL_ (some 13) rfl rfl Try.func23 (by kernel_rfl) rfl #[.int .i64 t208, .int .i64 a1] rfl (by (try simp only [List.map_toArray, List.map_cons, List.map_nil]); first | done | rfl | (simp only [List.length_drop, List.length_take]; rfl)) ?_; (with_reducible refine (modp_Root.calls k t208 a1 t209 t210 _ A4.out).mono ?_); rintro e w' ⟨rfl, ⟨nd, rfl⟩⟩; refine ⟨_, rfl, ?_⟩) | ((with_reducible refine gate_callee (f := 21) rfl ?_); refine goesL_ (some 21) rfl rfl Try.func21 (by kernel_rfl) rfl #[.int .i64 t208, .int .i64 t209, .int .i64 t209] rfl (by (try simp only [List.map_toArray, List.map_cons, List.map_nil]); first | done | rfl | (simp only [List.length_drop, List.length_take]; rfl)) ?_; (with_reducible refine (toruslaw01_product.calls k t208 t209 t209 t211 _ A6.out).mono ?_); rintro e w' ⟨rfl, ⟨nd, rfl⟩⟩; refine ⟨_, rfl, ?_⟩) | ((with_reducible refine gate_callee (f := 17) rfl ?_); refine goesL_ (some 24) rfl rfl Try.func17 (by kernel_rfl) rfl #[.int .i64 t208, .int .i64 a1] rfl (by (try simp only [List.map_toArray, List.map_cons, List.map_nil]); first | done | rfl | (simp only [List.length_drop, List.length_take]; rfl)) ?_; (with_reducible refine (modp_Mod.calls k t208 a1 t212 _ A7.out).mono ?_); rintro e w' ⟨rfl, ⟨nd, rfl⟩⟩; refine ⟨_, rfl, ?_⟩) | (go_at_call 17; (with_reducible refine (modp_Mod.calls k t208 (wrap64 (-t209)) t213 _ A10.out).mono ?_); rintro e w' ⟨rfl, ⟨nd, rfl⟩⟩) | (go_at_call 15; (with_reducible refine (toruslaw01_awake.calls k  t214 _ A12.out).mono ?_); rintro e w' ⟨rfl, ⟨nd, rfl⟩⟩))
            go_ret
            exact ⟨by first | rfl | (simp [errW_none, errW_some] <;> rfl) | (simp [*, errW_none, errW_some] <;> rfl), by repeat (first | (with_reducible first | exact HB.out | apply below_alloc | apply pw_below_drewN | apply below_drew1) | exact HB.out)⟩
        · rw [if_neg c11] at H
          have c11b0 : decide (t209 ≤ t213) = false := decide_eq_false c11
          clear c11
          first
          | with_reducible exact absurd ((Option.some.inj H).trans hrt.out) Bool.false_ne_true
          | skip
            obtain rfl := Option.some.inj H
            go_enter Try.func5, Try.ntmps5
            go_wp2_with (first | ((with_reducible refine gate_callee (f := 16) rfl ?_); refine goesL_ (some 9) rfl rfl Try.func16 (by kernel_rfl) rfl #[.int .i64 a0] rfl (by (try simp only [List.map_toArray, List.map_cons, List.map_nil]); first | done | rfl | (simp only [List.length_drop, List.length_take]; rfl)) ?_; (with_reducible refine (torusref01_Field.calls k a0 t208 _ A3.out).mono ?_); rintro e w14 ⟨rfl, hb⟩; refine ⟨_, rfl, ?_⟩; have n0_ := Aside0.mk (below_step (by repeat (first | (with_reducible first | exact HB.out | apply below_alloc | apply pw_below_drewN | apply below_drew1) | exact HB.out)) hb); clear HB; have HB := n0_; clear n0_; (try clear hb); (try clear hb2); (try clear hk); (try clear hi)) | ((with_reducible refine gate_callee (f := 23) rfl ?_); refine goesL_ (some 13) rfl rfl Try.func23 (by kernel_rfl) rfl #[.int .i64 t208, .int .i64 a1] rfl (by (try simp only [List.map_toArray, List.map_cons, List.map_nil]); first | done | rfl | (simp only [List.length_drop, List.length_take]; rfl)) ?_; (with_reducible refine (modp_Root.calls k t208 a1 t209 t210 _ A4.out).mono ?_); rintro e w' ⟨rfl, ⟨nd, rfl⟩⟩; refine ⟨_, rfl, ?_⟩) | ((with_reducible refine gate_callee (f := 21) rfl ?_); refine goesL_ (some 21) rfl rfl Try.func21 (by kernel_rfl) rfl #[.int .i64 t208, .int .i64 t209, .int .i64 t209] rfl (by (try simp only [List.map_toArray, List.map_cons, List.map_nil]); first | done | rfl | (simp only [List.length_drop, List.length_take]; rfl)) ?_; (with_reducible refine (toruslaw01_product.calls k t208 t209 t209 t211 _ A6.out).mono ?_); rintro e w' ⟨rfl, ⟨nd, rfl⟩⟩; refine ⟨_, rfl, ?_⟩) | ((with_reducible refine gate_callee (f := 17) rfl ?_); refine goesL_ (some 24) rfl rfl Try.func17 (by kernel_rfl) rfl #[.int .i64 t208, .int .i64 a1] rfl (by (try simp only [List.map_toArray, List.map_cons, List.map_nil]); first | done | rfl | (simp only [List.length_drop, List.length_take]; rfl)) ?_; (with_reducible refine (modp_Mod.calls k t208 a1 t212 _ A7.out).mono ?_); rintro e w' ⟨rfl, ⟨nd, rfl⟩⟩; refine ⟨_, rfl, ?_⟩) | (go_at_call 17; (with_reducible refine (modp_Mod.calls k t208 (wrap64 (-t209)) t213 _ A10.out).mono ?_); rintro e w' ⟨rfl, ⟨nd, rfl⟩⟩))
            go_ret
            exact ⟨by first | rfl | (simp [errW_none, errW_some] <;> rfl) | (simp [*, errW_none, errW_some] <;> rfl), by repeat (first | (with_reducible first | exact HB.out | apply below_alloc | apply pw_below_drewN | apply below_drew1) | exact HB.out)⟩
      · rw [if_neg c9] at H
        have c9b0 : decide (0 ≤ t209) = false := decide_eq_false c9
        clear c9
        first
        | with_reducible exact absurd ((Option.some.inj H).trans hrt.out) Bool.false_ne_true
        | skip
          obtain rfl := Option.some.inj H
          go_enter Try.func5, Try.ntmps5
          go_wp2_with (first | ((with_reducible refine gate_callee (f := 16) rfl ?_); refine goesL_ (some 9) rfl rfl Try.func16 (by kernel_rfl) rfl #[.int .i64 a0] rfl (by (try simp only [List.map_toArray, List.map_cons, List.map_nil]); first | done | rfl | (simp only [List.length_drop, List.length_take]; rfl)) ?_; (with_reducible refine (torusref01_Field.calls k a0 t208 _ A3.out).mono ?_); rintro e w15 ⟨rfl, hb⟩; refine ⟨_, rfl, ?_⟩; have n0_ := Aside0.mk (below_step (by repeat (first | (with_reducible first | exact HB.out | apply below_alloc | apply pw_below_drewN | apply below_drew1) | exact HB.out)) hb); clear HB; have HB := n0_; clear n0_; (try clear hb); (try clear hb2); (try clear hk); (try clear hi)) | ((with_reducible refine gate_callee (f := 23) rfl ?_); refine goesL_ (some 13) rfl rfl Try.func23 (by kernel_rfl) rfl #[.int .i64 t208, .int .i64 a1] rfl (by (try simp only [List.map_toArray, List.map_cons, List.map_nil]); first | done | rfl | (simp only [List.length_drop, List.length_take]; rfl)) ?_; (with_reducible refine (modp_Root.calls k t208 a1 t209 t210 _ A4.out).mono ?_); rintro e w' ⟨rfl, ⟨nd, rfl⟩⟩; refine ⟨_, rfl, ?_⟩) | ((with_reducible refine gate_callee (f := 21) rfl ?_); refine goesL_ (some 21) rfl rfl Try.func21 (by kernel_rfl) rfl #[.int .i64 t208, .int .i64 t209, .int .i64 t209] rfl (by (try simp only [List.map_toArray, List.map_cons, List.map_nil]); first | done | rfl | (simp only [List.length_drop, List.length_take]; rfl)) ?_; (with_reducible refine (toruslaw01_product.calls k t208 t209 t209 t211 _ A6.out).mono ?_); rintro e w' ⟨rfl, ⟨nd, rfl⟩⟩; refine ⟨_, rfl, ?_⟩) | ((with_reducible refine gate_callee (f := 17) rfl ?_); refine goesL_ (some 24) rfl rfl Try.func17 (by kernel_rfl) rfl #[.int .i64 t208, .int .i64 a1] rfl (by (try simp only [List.map_toArray, List.map_cons, List.map_nil]); first | done | rfl | (simp only [List.length_drop, List.length_take]; rfl)) ?_; (with_reducible refine (modp_Mod.calls k t208 a1 t212 _ A7.out).mono ?_); rintro e w' ⟨rfl, ⟨nd, rfl⟩⟩; refine ⟨_, rfl, ?_⟩))
          go_ret
          exact ⟨by first | rfl | (simp [errW_none, errW_some] <;> rfl) | (simp [*, errW_none, errW_some] <;> rfl), by repeat (first | (with_reducible first | exact HB.out | apply below_alloc | apply pw_below_drewN | apply below_drew1) | exact HB.out)⟩
    · rw [if_neg c8] at H
      have c8b0 : (t211 == t212) = false := beq_eq_false_iff_ne.mpr c8
      have c8b1 : (t211 != t212) = true := bne_iff_ne.mpr c8
      first
      | with_reducible exact absurd ((Option.some.inj H).trans hrt.out) Bool.false_ne_true
      | skip
        obtain rfl := Option.some.inj H
        go_enter Try.func5, Try.ntmps5
        go_wp2_with (first | ((with_reducible refine gate_callee (f := 16) rfl ?_); refine goesL_ (some 9) rfl rfl Try.func16 (by kernel_rfl) rfl #[.int .i64 a0] rfl (by (try simp only [List.map_toArray, List.map_cons, List.map_nil]); first | done | rfl | (simp only [List.length_drop, List.length_take]; rfl)) ?_; (with_reducible refine (torusref01_Field.calls k a0 t208 _ A3.out).mono ?_); rintro e w16 ⟨rfl, hb⟩; refine ⟨_, rfl, ?_⟩; have n0_ := Aside0.mk (below_step (by repeat (first | (with_reducible first | exact HB.out | apply below_alloc | apply pw_below_drewN | apply below_drew1) | exact HB.out)) hb); clear HB; have HB := n0_; clear n0_; (try clear hb); (try clear hb2); (try clear hk); (try clear hi)) | ((with_reducible refine gate_callee (f := 23) rfl ?_); refine goesL_ (some 13) rfl rfl Try.func23 (by kernel_rfl) rfl #[.int .i64 t208, .int .i64 a1] rfl (by (try simp only [List.map_toArray, List.map_cons, List.map_nil]); first | done | rfl | (simp only [List.length_drop, List.length_take]; rfl)) ?_; (with_reducible refine (modp_Root.calls k t208 a1 t209 t210 _ A4.out).mono ?_); rintro e w' ⟨rfl, ⟨nd, rfl⟩⟩; refine ⟨_, rfl, ?_⟩) | ((with_reducible refine gate_callee (f := 21) rfl ?_); refine goesL_ (some 21) rfl rfl Try.func21 (by kernel_rfl) rfl #[.int .i64 t208, .int .i64 t209, .int .i64 t209] rfl (by (try simp only [List.map_toArray, List.map_cons, List.map_nil]); first | done | rfl | (simp only [List.length_drop, List.length_take]; rfl)) ?_; (with_reducible refine (toruslaw01_product.calls k t208 t209 t209 t211 _ A6.out).mono ?_); rintro e w' ⟨rfl, ⟨nd, rfl⟩⟩; refine ⟨_, rfl, ?_⟩) | ((with_reducible refine gate_callee (f := 17) rfl ?_); refine goesL_ (some 24) rfl rfl Try.func17 (by kernel_rfl) rfl #[.int .i64 t208, .int .i64 a1] rfl (by (try simp only [List.map_toArray, List.map_cons, List.map_nil]); first | done | rfl | (simp only [List.length_drop, List.length_take]; rfl)) ?_; (with_reducible refine (modp_Mod.calls k t208 a1 t212 _ A7.out).mono ?_); rintro e w' ⟨rfl, ⟨nd, rfl⟩⟩; refine ⟨_, rfl, ?_⟩))
        go_ret
        exact ⟨by first | rfl | (simp [errW_none, errW_some] <;> rfl) | (simp [*, errW_none, errW_some] <;> rfl), by repeat (first | (with_reducible first | exact HB.out | apply below_alloc | apply pw_below_drewN | apply below_drew1) | exact HB.out)⟩
  · rw [if_neg c5] at H
    have c5b0 : (t210 == 0) = false := beq_eq_false_iff_ne.mpr c5
    have c5b1 : (t210 != 0) = true := bne_iff_ne.mpr c5
    by_cases c17 : t210 = 4
    · rw [if_pos c17] at H
      have c17b0 : (t210 == 4) = true := beq_iff_eq.mpr c17
      have c17b1 : (t210 != 4) = false := bne_eq_false_iff_eq.mpr c17
      clear c17
      by_cases c18 : t209 = 0
      · rw [if_pos c18] at H
        have c18b0 : (t209 == 0) = true := beq_iff_eq.mpr c18
        have c18b1 : (t209 != 0) = false := bne_eq_false_iff_eq.mpr c18
        clear c18
        by_cases c19 : t208 > 2
        · rw [if_pos c19] at H
          have c19b0 : decide (2 < t208) = true := decide_eq_true c19
          clear c19
          replace H := Option.bind_eq_some_iff.mp H
          obtain ⟨t215, A200, H⟩ := H
          replace H : (if t215 = 0 then (some false) else ((toruslaw01_power.f k t208 a1 (wrap64 (Int.tdiv (wrap64 (t208 - 1)) 2))).bind fun t216 => (if t216 = (wrap64 (t208 - 1)) then ((toruslaw01_awake.f k).bind fun t217 => (some t217)) else (some false)))) = some r := H
          have A20 := Aside0.mk A200
          clear A200
          by_cases c21 : t215 = 0
          · rw [if_pos c21] at H
            have c21b0 : (t215 == 0) = true := beq_iff_eq.mpr c21
            have c21b1 : (t215 != 0) = false := bne_eq_false_iff_eq.mpr c21
            clear c21
            first
            | with_reducible exact absurd ((Option.some.inj H).trans hrt.out) Bool.false_ne_true
            | skip
              obtain rfl := Option.some.inj H
              go_enter Try.func5, Try.ntmps5
              go_wp2_with (first | ((with_reducible refine gate_callee (f := 16) rfl ?_); refine goesL_ (some 9) rfl rfl Try.func16 (by kernel_rfl) rfl #[.int .i64 a0] rfl (by (try simp only [List.map_toArray, List.map_cons, List.map_nil]); first | done | rfl | (simp only [List.length_drop, List.length_take]; rfl)) ?_; (with_reducible refine (torusref01_Field.calls k a0 t208 _ A3.out).mono ?_); rintro e w22 ⟨rfl, hb⟩; refine ⟨_, rfl, ?_⟩; have n0_ := Aside0.mk (below_step (by repeat (first | (with_reducible first | exact HB.out | apply below_alloc | apply pw_below_drewN | apply below_drew1) | exact HB.out)) hb); clear HB; have HB := n0_; clear n0_; (try clear hb); (try clear hb2); (try clear hk); (try clear hi)) | ((with_reducible refine gate_callee (f := 23) rfl ?_); refine goesL_ (some 13) rfl rfl Try.func23 (by kernel_rfl) rfl #[.int .i64 t208, .int .i64 a1] rfl (by (try simp only [List.map_toArray, List.map_cons, List.map_nil]); first | done | rfl | (simp only [List.length_drop, List.length_take]; rfl)) ?_; (with_reducible refine (modp_Root.calls k t208 a1 t209 t210 _ A4.out).mono ?_); rintro e w' ⟨rfl, ⟨nd, rfl⟩⟩; refine ⟨_, rfl, ?_⟩) | (go_at_call 17; (with_reducible refine (modp_Mod.calls k t208 a1 t215 _ A20.out).mono ?_); rintro e w' ⟨rfl, ⟨nd, rfl⟩⟩))
              go_ret
              exact ⟨by first | rfl | (simp [errW_none, errW_some] <;> rfl) | (simp [*, errW_none, errW_some] <;> rfl), by repeat (first | (with_reducible first | exact HB.out | apply below_alloc | apply pw_below_drewN | apply below_drew1) | exact HB.out)⟩
          · rw [if_neg c21] at H
            have c21b0 : (t215 == 0) = false := beq_eq_false_iff_ne.mpr c21
            have c21b1 : (t215 != 0) = true := bne_iff_ne.mpr c21
            replace H := Option.bind_eq_some_iff.mp H
            obtain ⟨t216, A230, H⟩ := H
            replace H : (if t216 = (wrap64 (t208 - 1)) then ((toruslaw01_awake.f k).bind fun t217 => (some t217)) else (some false)) = some r := H
            have A23 := Aside0.mk A230
            clear A230
            by_cases c24 : t216 = (wrap64 (t208 - 1))
            · rw [if_pos c24] at H
              have c24b0 : (t216 == (wrap64 (t208 - 1))) = true := beq_iff_eq.mpr c24
              have c24b1 : (t216 != (wrap64 (t208 - 1))) = false := bne_eq_false_iff_eq.mpr c24
              clear c24
              replace H := Option.bind_eq_some_iff.mp H
              obtain ⟨t217, A250, H⟩ := H
              replace H : (some t217) = some r := H
              have A25 := Aside0.mk A250
              clear A250
              first
              | with_reducible exact absurd ((Option.some.inj H).trans hrt.out) Bool.false_ne_true
              | skip
                obtain rfl := Option.some.inj H
                go_enter Try.func5, Try.ntmps5
                go_wp2_with (first | ((with_reducible refine gate_callee (f := 16) rfl ?_); refine goesL_ (some 9) rfl rfl Try.func16 (by kernel_rfl) rfl #[.int .i64 a0] rfl (by (try simp only [List.map_toArray, List.map_cons, List.map_nil]); first | done | rfl | (simp only [List.length_drop, List.length_take]; rfl)) ?_; (with_reducible refine (torusref01_Field.calls k a0 t208 _ A3.out).mono ?_); rintro e w26 ⟨rfl, hb⟩; refine ⟨_, rfl, ?_⟩; have n0_ := Aside0.mk (below_step (by repeat (first | (with_reducible first | exact HB.out | apply below_alloc | apply pw_below_drewN | apply below_drew1) | exact HB.out)) hb); clear HB; have HB := n0_; clear n0_; (try clear hb); (try clear hb2); (try clear hk); (try clear hi)) | ((with_reducible refine gate_callee (f := 23) rfl ?_); refine goesL_ (some 13) rfl rfl Try.func23 (by kernel_rfl) rfl #[.int .i64 t208, .int .i64 a1] rfl (by (try simp only [List.map_toArray, List.map_cons, List.map_nil]); first | done | rfl | (simp only [List.length_drop, List.length_take]; rfl)) ?_; (with_reducible refine (modp_Root.calls k t208 a1 t209 t210 _ A4.out).mono ?_); rintro e w' ⟨rfl, ⟨nd, rfl⟩⟩; refine ⟨_, rfl, ?_⟩) | (go_at_call 17; (with_reducible refine (modp_Mod.calls k t208 a1 t215 _ A20.out).mono ?_); rintro e w' ⟨rfl, ⟨nd, rfl⟩⟩) | (go_at_call 20; (with_reducible refine (toruslaw01_power.calls k t208 a1 (wrap64 (Int.tdiv (wrap64 (t208 - 1)) 2)) t216 _ A23.out).mono ?_); rintro e w' ⟨rfl, ⟨nd, rfl⟩⟩) | (go_at_call 15; (with_reducible refine (toruslaw01_awake.calls k  t217 _ A25.out).mono ?_); rintro e w' ⟨rfl, ⟨nd, rfl⟩⟩))
                go_ret
                exact ⟨by first | rfl | (simp [errW_none, errW_some] <;> rfl) | (simp [*, errW_none, errW_some] <;> rfl), by repeat (first | (with_reducible first | exact HB.out | apply below_alloc | apply pw_below_drewN | apply below_drew1) | exact HB.out)⟩
            · rw [if_neg c24] at H
              have c24b0 : (t216 == (wrap64 (t208 - 1))) = false := beq_eq_false_iff_ne.mpr c24
              have c24b1 : (t216 != (wrap64 (t208 - 1))) = true := bne_iff_ne.mpr c24
              first
              | with_reducible exact absurd ((Option.some.inj H).trans hrt.out) Bool.false_ne_true
              | skip
                obtain rfl := Option.some.inj H
                go_enter Try.func5, Try.ntmps5
                go_wp2_with (first | ((with_reducible refine gate_callee (f := 16) rfl ?_); refine goesL_ (some 9) rfl rfl Try.func16 (by kernel_rfl) rfl #[.int .i64 a0] rfl (by (try simp only [List.map_toArray, List.map_cons, List.map_nil]); first | done | rfl | (simp only [List.length_drop, List.length_take]; rfl)) ?_; (with_reducible refine (torusref01_Field.calls k a0 t208 _ A3.out).mono ?_); rintro e w27 ⟨rfl, hb⟩; refine ⟨_, rfl, ?_⟩; have n0_ := Aside0.mk (below_step (by repeat (first | (with_reducible first | exact HB.out | apply below_alloc | apply pw_below_drewN | apply below_drew1) | exact HB.out)) hb); clear HB; have HB := n0_; clear n0_; (try clear hb); (try clear hb2); (try clear hk); (try clear hi)) | ((with_reducible refine gate_callee (f := 23) rfl ?_); refine goesL_ (some 13) rfl rfl Try.func23 (by kernel_rfl) rfl #[.int .i64 t208, .int .i64 a1] rfl (by (try simp only [List.map_toArray, List.map_cons, List.map_nil]); first | done | rfl | (simp only [List.length_drop, List.length_take]; rfl)) ?_; (with_reducible refine (modp_Root.calls k t208 a1 t209 t210 _ A4.out).mono ?_); rintro e w' ⟨rfl, ⟨nd, rfl⟩⟩; refine ⟨_, rfl, ?_⟩) | (go_at_call 17; (with_reducible refine (modp_Mod.calls k t208 a1 t215 _ A20.out).mono ?_); rintro e w' ⟨rfl, ⟨nd, rfl⟩⟩) | (go_at_call 20; (with_reducible refine (toruslaw01_power.calls k t208 a1 (wrap64 (Int.tdiv (wrap64 (t208 - 1)) 2)) t216 _ A23.out).mono ?_); rintro e w' ⟨rfl, ⟨nd, rfl⟩⟩))
                go_ret
                exact ⟨by first | rfl | (simp [errW_none, errW_some] <;> rfl) | (simp [*, errW_none, errW_some] <;> rfl), by repeat (first | (with_reducible first | exact HB.out | apply below_alloc | apply pw_below_drewN | apply below_drew1) | exact HB.out)⟩
        · rw [if_neg c19] at H
          have c19b0 : decide (2 < t208) = false := decide_eq_false c19
          clear c19
          first
          | with_reducible exact absurd ((Option.some.inj H).trans hrt.out) Bool.false_ne_true
          | skip
            obtain rfl := Option.some.inj H
            go_enter Try.func5, Try.ntmps5
            go_wp2_with (first | ((with_reducible refine gate_callee (f := 16) rfl ?_); refine goesL_ (some 9) rfl rfl Try.func16 (by kernel_rfl) rfl #[.int .i64 a0] rfl (by (try simp only [List.map_toArray, List.map_cons, List.map_nil]); first | done | rfl | (simp only [List.length_drop, List.length_take]; rfl)) ?_; (with_reducible refine (torusref01_Field.calls k a0 t208 _ A3.out).mono ?_); rintro e w28 ⟨rfl, hb⟩; refine ⟨_, rfl, ?_⟩; have n0_ := Aside0.mk (below_step (by repeat (first | (with_reducible first | exact HB.out | apply below_alloc | apply pw_below_drewN | apply below_drew1) | exact HB.out)) hb); clear HB; have HB := n0_; clear n0_; (try clear hb); (try clear hb2); (try clear hk); (try clear hi)) | ((with_reducible refine gate_callee (f := 23) rfl ?_); refine goesL_ (some 13) rfl rfl Try.func23 (by kernel_rfl) rfl #[.int .i64 t208, .int .i64 a1] rfl (by (try simp only [List.map_toArray, List.map_cons, List.map_nil]); first | done | rfl | (simp only [List.length_drop, List.length_take]; rfl)) ?_; (with_reducible refine (modp_Root.calls k t208 a1 t209 t210 _ A4.out).mono ?_); rintro e w' ⟨rfl, ⟨nd, rfl⟩⟩; refine ⟨_, rfl, ?_⟩))
            go_ret
            exact ⟨by first | rfl | (simp [errW_none, errW_some] <;> rfl) | (simp [*, errW_none, errW_some] <;> rfl), by repeat (first | (with_reducible first | exact HB.out | apply below_alloc | apply pw_below_drewN | apply below_drew1) | exact HB.out)⟩
      · rw [if_neg c18] at H
        have c18b0 : (t209 == 0) = false := beq_eq_false_iff_ne.mpr c18
        have c18b1 : (t209 != 0) = true := bne_iff_ne.mpr c18
        first
        | with_reducible exact absurd ((Option.some.inj H).trans hrt.out) Bool.false_ne_true
        | skip
          obtain rfl := Option.some.inj H
          go_enter Try.func5, Try.ntmps5
          go_wp2_with (first | ((with_reducible refine gate_callee (f := 16) rfl ?_); refine goesL_ (some 9) rfl rfl Try.func16 (by kernel_rfl) rfl #[.int .i64 a0] rfl (by (try simp only [List.map_toArray, List.map_cons, List.map_nil]); first | done | rfl | (simp only [List.length_drop, List.length_take]; rfl)) ?_; (with_reducible refine (torusref01_Field.calls k a0 t208 _ A3.out).mono ?_); rintro e w29 ⟨rfl, hb⟩; refine ⟨_, rfl, ?_⟩; have n0_ := Aside0.mk (below_step (by repeat (first | (with_reducible first | exact HB.out | apply below_alloc | apply pw_below_drewN | apply below_drew1) | exact HB.out)) hb); clear HB; have HB := n0_; clear n0_; (try clear hb); (try clear hb2); (try clear hk); (try clear hi)) | ((with_reducible refine gate_callee (f := 23) rfl ?_); refine goesL_ (some 13) rfl rfl Try.func23 (by kernel_rfl) rfl #[.int .i64 t208, .int .i64 a1] rfl (by (try simp only [List.map_toArray, List.map_cons, List.map_nil]); first | done | rfl | (simp only [List.length_drop, List.length_take]; rfl)) ?_; (with_reducible refine (modp_Root.calls k t208 a1 t209 t210 _ A4.out).mono ?_); rintro e w' ⟨rfl, ⟨nd, rfl⟩⟩; refine ⟨_, rfl, ?_⟩))
          go_ret
          exact ⟨by first | rfl | (simp [errW_none, errW_some] <;> rfl) | (simp [*, errW_none, errW_some] <;> rfl), by repeat (first | (with_reducible first | exact HB.out | apply below_alloc | apply pw_below_drewN | apply below_drew1) | exact HB.out)⟩
    · rw [if_neg c17] at H
      have c17b0 : (t210 == 4) = false := beq_eq_false_iff_ne.mpr c17
      have c17b1 : (t210 != 4) = true := bne_iff_ne.mpr c17
      first
      | with_reducible exact absurd ((Option.some.inj H).trans hrt.out) Bool.false_ne_true
      | skip
        obtain rfl := Option.some.inj H
        go_enter Try.func5, Try.ntmps5
        go_wp2_with (first | ((with_reducible refine gate_callee (f := 16) rfl ?_); refine goesL_ (some 9) rfl rfl Try.func16 (by kernel_rfl) rfl #[.int .i64 a0] rfl (by (try simp only [List.map_toArray, List.map_cons, List.map_nil]); first | done | rfl | (simp only [List.length_drop, List.length_take]; rfl)) ?_; (with_reducible refine (torusref01_Field.calls k a0 t208 _ A3.out).mono ?_); rintro e w30 ⟨rfl, hb⟩; refine ⟨_, rfl, ?_⟩; have n0_ := Aside0.mk (below_step (by repeat (first | (with_reducible first | exact HB.out | apply below_alloc | apply pw_below_drewN | apply below_drew1) | exact HB.out)) hb); clear HB; have HB := n0_; clear n0_; (try clear hb); (try clear hb2); (try clear hk); (try clear hi)) | ((with_reducible refine gate_callee (f := 23) rfl ?_); refine goesL_ (some 13) rfl rfl Try.func23 (by kernel_rfl) rfl #[.int .i64 t208, .int .i64 a1] rfl (by (try simp only [List.map_toArray, List.map_cons, List.map_nil]); first | done | rfl | (simp only [List.length_drop, List.length_take]; rfl)) ?_; (with_reducible refine (modp_Root.calls k t208 a1 t209 t210 _ A4.out).mono ?_); rintro e w' ⟨rfl, ⟨nd, rfl⟩⟩; refine ⟨_, rfl, ?_⟩))
        go_ret
        exact ⟨by first | rfl | (simp [errW_none, errW_some] <;> rfl) | (simp [*, errW_none, errW_some] <;> rfl), by repeat (first | (with_reducible first | exact HB.out | apply below_alloc | apply pw_below_drewN | apply below_drew1) | exact HB.out)⟩

/-- THE ONE PURE STATEMENT of toruslaw01_ModpSquares: yours. -/
def toruslaw01_ModpSquares.Pure : Prop := ∀ (a0 : Int) (a1 : Int), (Lit.int .i64 a0).wf = true → (Lit.int .i64 a1).wf = true → ∃ k, toruslaw01_ModpSquares.f k a0 a1 = some true
theorem toruslaw01_ModpSquares.walk (P : toruslaw01_ModpSquares.Pure) (a0 : Int) (a1 : Int) (w : World) (w0 : (Lit.int .i64 a0).wf = true) (w1 : (Lit.int .i64 a1).wf = true) :
    Calls Try.prog 5 #[.int .i64 a0, .int .i64 a1] w fun e w' => e = .returned (.bool true) ∧ Below w.heap.size w w' := by
  obtain ⟨k, h⟩ := P a0 a1 w0 w1
  refine (toruslaw01_ModpSquares.calls k a0 a1 true w ⟨rfl⟩ h).mono ?_
  rintro e w' ⟨rfl, hd⟩
  exact ⟨rfl, hd⟩

/-! ### toruslaw01_plus: function 24 -/
def toruslaw01_plus.f (k : Nat) (a0 : Int) (a1 : Int) (a2 : Int) : Option (Int) := (modp_Add.f k a0 a1 a2).bind fun bt218 => (if bt218.2 = 0 then (some bt218.1) else (some (-1)))
theorem toruslaw01_plus.mono : ∀ a0 a1 a2 k, LeO (toruslaw01_plus.f k a0 a1 a2) (toruslaw01_plus.f (k + 1) a0 a1 a2) := by
  intro a0 a1 a2 k
  unfold toruslaw01_plus.f
  repeat' first
      | (with_reducible exact modp_Add.mono _ _ _ _)
      | (with_reducible exact LeO.refl _)
      | (with_reducible exact LeO.none _)
      | (with_reducible refine LeO.ite ?_ ?_)
      | (with_reducible refine LeO.bind ?_ (fun _ => ?_))
      | exact modp_Add.mono _ _ _ _
      | exact LeO.none _
      | refine LeO.ite ?_ ?_
      | refine LeO.bind ?_ (fun _ => ?_)
set_option maxHeartbeats 8000000 in
set_option maxRecDepth 100000 in
theorem toruslaw01_plus.calls (k : Nat) (a0 : Int) (a1 : Int) (a2 : Int) (r : Int) (w : World) (h : toruslaw01_plus.f k a0 a1 a2 = some r) :
    Calls Try.prog 24 #[.int .i64 a0, .int .i64 a1, .int .i64 a2] w fun e w' => e = .returned (.int .i64 r) ∧ Drawn0 w w' := by
  have H : ((modp_Add.f k a0 a1 a2).bind fun bt218 => (if bt218.2 = 0 then (some bt218.1) else (some (-1)))) = some r := h
  clear h
  replace H := Option.bind_eq_some_iff.mp H
  obtain ⟨⟨t218, t219⟩, A40, H⟩ := H
  replace H : (if t219 = 0 then (some t218) else (some (-1))) = some r := H
  have A4 := Aside0.mk A40
  clear A40
  by_cases c5 : t219 = 0
  · rw [if_pos c5] at H
    have c5b0 : (t219 == 0) = true := beq_iff_eq.mpr c5
    have c5b1 : (t219 != 0) = false := bne_eq_false_iff_eq.mpr c5
    clear c5
    obtain rfl := Option.some.inj H
    go_enter Try.func24, Try.ntmps24
    go_wp2_with (first | ((with_reducible refine gate_callee (f := 34) rfl ?_); refine goesL_ (some 13) rfl rfl Try.func34 (by kernel_rfl) rfl #[.int .i64 a0, .int .i64 a1, .int .i64 a2] rfl (by (try simp only [List.map_toArray, List.map_cons, List.map_nil]); first | done | rfl | (simp only [List.length_drop, List.length_take]; rfl)) ?_; (with_reducible refine (modp_Add.calls k a0 a1 a2 t218 t219 _ A4.out).mono ?_); rintro e w' ⟨rfl, ⟨nd, rfl⟩⟩; refine ⟨_, rfl, ?_⟩))
    go_ret
    exact ⟨by first | rfl | (simp; done) | (simp [*]; done), by repeat (first | exact Drawn0.refl _ | apply Drawn0.step)⟩
  · rw [if_neg c5] at H
    have c5b0 : (t219 == 0) = false := beq_eq_false_iff_ne.mpr c5
    have c5b1 : (t219 != 0) = true := bne_iff_ne.mpr c5
    obtain rfl := Option.some.inj H
    go_enter Try.func24, Try.ntmps24
    go_wp2_with (first | ((with_reducible refine gate_callee (f := 34) rfl ?_); refine goesL_ (some 13) rfl rfl Try.func34 (by kernel_rfl) rfl #[.int .i64 a0, .int .i64 a1, .int .i64 a2] rfl (by (try simp only [List.map_toArray, List.map_cons, List.map_nil]); first | done | rfl | (simp only [List.length_drop, List.length_take]; rfl)) ?_; (with_reducible refine (modp_Add.calls k a0 a1 a2 t218 t219 _ A4.out).mono ?_); rintro e w' ⟨rfl, ⟨nd, rfl⟩⟩; refine ⟨_, rfl, ?_⟩))
    go_ret
    exact ⟨by first | rfl | (simp; done) | (simp [*]; done), by repeat (first | exact Drawn0.refl _ | apply Drawn0.step)⟩

/-! ### modp_Sub: function 25 -/
def modp_Sub.f (k : Nat) (a0 : Int) (a1 : Int) (a2 : Int) : Option (Int × Int) := (modp_of.f k a0).bind fun bt220 => (if bt220.2 = 0 then ((modp_field_rest.f bt220.1 a1).bind fun t222 => ((modp_field_rest.f bt220.1 a2).bind fun t223 => ((modp_field_rest.f bt220.1 (wrap64 (t222 - t223))).bind fun t224 => (some (t224, 0))))) else (some (0, bt220.2)))
theorem modp_Sub.mono : ∀ a0 a1 a2 k, LeO (modp_Sub.f k a0 a1 a2) (modp_Sub.f (k + 1) a0 a1 a2) := by
  intro a0 a1 a2 k
  unfold modp_Sub.f
  repeat' first
      | (with_reducible exact modp_of.mono _ _)
      | (with_reducible exact LeO.refl _)
      | (with_reducible exact LeO.none _)
      | (with_reducible refine LeO.ite ?_ ?_)
      | (with_reducible refine LeO.bind ?_ (fun _ => ?_))
      | exact modp_of.mono _ _
      | exact LeO.none _
      | refine LeO.ite ?_ ?_
      | refine LeO.bind ?_ (fun _ => ?_)
set_option maxHeartbeats 8000000 in
set_option maxRecDepth 100000 in
theorem modp_Sub.calls (k : Nat) (a0 : Int) (a1 : Int) (a2 : Int) (r1 : Int) (r2 : Int) (w : World) (h : modp_Sub.f k a0 a1 a2 = some (r1, r2)) :
    Calls Try.prog 25 #[.int .i64 a0, .int .i64 a1, .int .i64 a2] w fun e w' => e = .returned (.tuple #[.int .i64 r1, .int .i64 r2]) ∧ Drawn0 w w' := by
  have H : ((modp_of.f k a0).bind fun bt220 => (if bt220.2 = 0 then ((modp_field_rest.f bt220.1 a1).bind fun t222 => ((modp_field_rest.f bt220.1 a2).bind fun t223 => ((modp_field_rest.f bt220.1 (wrap64 (t222 - t223))).bind fun t224 => (some (t224, 0))))) else (some (0, bt220.2)))) = some (r1, r2) := h
  clear h
  replace H := Option.bind_eq_some_iff.mp H
  obtain ⟨⟨t220, t221⟩, A40, H⟩ := H
  replace H : (if t221 = 0 then ((modp_field_rest.f t220 a1).bind fun t222 => ((modp_field_rest.f t220 a2).bind fun t223 => ((modp_field_rest.f t220 (wrap64 (t222 - t223))).bind fun t224 => (some (t224, 0))))) else (some (0, t221))) = some (r1, r2) := H
  have A4 := Aside0.mk A40
  clear A40
  by_cases c5 : t221 = 0
  · rw [if_pos c5] at H
    have c5b0 : (t221 == 0) = true := beq_iff_eq.mpr c5
    have c5b1 : (t221 != 0) = false := bne_eq_false_iff_eq.mpr c5
    clear c5
    replace H := Option.bind_eq_some_iff.mp H
    obtain ⟨t222, A60, H⟩ := H
    replace H : ((modp_field_rest.f t220 a2).bind fun t223 => ((modp_field_rest.f t220 (wrap64 (t222 - t223))).bind fun t224 => (some (t224, 0)))) = some (r1, r2) := H
    have A6 := Aside0.mk A60
    clear A60
    replace H := Option.bind_eq_some_iff.mp H
    obtain ⟨t223, A70, H⟩ := H
    replace H : ((modp_field_rest.f t220 (wrap64 (t222 - t223))).bind fun t224 => (some (t224, 0))) = some (r1, r2) := H
    have A7 := Aside0.mk A70
    clear A70
    replace H := Option.bind_eq_some_iff.mp H
    obtain ⟨t224, A80, H⟩ := H
    replace H : (some (t224, 0)) = some (r1, r2) := H
    have A8 := Aside0.mk A80
    clear A80
    simp only [Option.some.injEq, Prod.mk.injEq] at H
    obtain ⟨rfl, rfl⟩ := H
    go_enter Try.func25, Try.ntmps25
    go_wp2_with (first | ((with_reducible refine gate_callee (f := 47) rfl ?_); refine goesL_ (some 12) rfl rfl Try.func47 (by kernel_rfl) rfl #[.int .i64 a0] rfl (by (try simp only [List.map_toArray, List.map_cons, List.map_nil]); first | done | rfl | (simp only [List.length_drop, List.length_take]; rfl)) ?_; (with_reducible refine (modp_of.calls k a0 t220 t221 _ A4.out).mono ?_); rintro e w' ⟨rfl, ⟨nd, rfl⟩⟩; refine ⟨_, rfl, ?_⟩) | ((with_reducible refine gate_callee (f := 48) rfl ?_); refine goesL_ (some 21) rfl rfl Try.func48 (by kernel_rfl) rfl #[.int .i64 t220, .int .i64 a1] rfl (by (try simp only [List.map_toArray, List.map_cons, List.map_nil]); first | done | rfl | (simp only [List.length_drop, List.length_take]; rfl)) ?_; (with_reducible refine (modp_field_rest.calls t220 a1 t222 _ A6.out).mono ?_); rintro e w' ⟨rfl, ⟨nd, rfl⟩⟩; refine ⟨_, rfl, ?_⟩) | ((with_reducible refine gate_callee (f := 48) rfl ?_); refine goesL_ (some 24) rfl rfl Try.func48 (by kernel_rfl) rfl #[.int .i64 t220, .int .i64 a2] rfl (by (try simp only [List.map_toArray, List.map_cons, List.map_nil]); first | done | rfl | (simp only [List.length_drop, List.length_take]; rfl)) ?_; (with_reducible refine (modp_field_rest.calls t220 a2 t223 _ A7.out).mono ?_); rintro e w' ⟨rfl, ⟨nd, rfl⟩⟩; refine ⟨_, rfl, ?_⟩) | ((with_reducible refine gate_callee (f := 48) rfl ?_); refine goesL_ (some 26) rfl rfl Try.func48 (by kernel_rfl) rfl #[.int .i64 t220, .int .i64 (wrap64 (t222 - t223))] rfl (by (try simp only [List.map_toArray, List.map_cons, List.map_nil]); first | done | rfl | (simp only [List.length_drop, List.length_take]; rfl)) ?_; (with_reducible refine (modp_field_rest.calls t220 (wrap64 (t222 - t223)) t224 _ A8.out).mono ?_); rintro e w' ⟨rfl, ⟨nd, rfl⟩⟩; refine ⟨_, rfl, ?_⟩))
    go_ret2
    exact ⟨by first | rfl | (simp; done) | (simp [*]; done), by repeat (first | exact Drawn0.refl _ | apply Drawn0.step)⟩
  · rw [if_neg c5] at H
    have c5b0 : (t221 == 0) = false := beq_eq_false_iff_ne.mpr c5
    have c5b1 : (t221 != 0) = true := bne_iff_ne.mpr c5
    simp only [Option.some.injEq, Prod.mk.injEq] at H
    obtain ⟨rfl, rfl⟩ := H
    go_enter Try.func25, Try.ntmps25
    go_wp2_with (first | ((with_reducible refine gate_callee (f := 47) rfl ?_); refine goesL_ (some 12) rfl rfl Try.func47 (by kernel_rfl) rfl #[.int .i64 a0] rfl (by (try simp only [List.map_toArray, List.map_cons, List.map_nil]); first | done | rfl | (simp only [List.length_drop, List.length_take]; rfl)) ?_; (with_reducible refine (modp_of.calls k a0 t220 t221 _ A4.out).mono ?_); rintro e w' ⟨rfl, ⟨nd, rfl⟩⟩; refine ⟨_, rfl, ?_⟩))
    go_ret2
    exact ⟨by first | rfl | (simp; done) | (simp [*]; done), by repeat (first | exact Drawn0.refl _ | apply Drawn0.step)⟩

/-! ### modp_Div: function 26 -/
def modp_Div.f (k : Nat) (a0 : Int) (a1 : Int) (a2 : Int) : Option (Int × Int) := (modp_Inv.f k a0 a2).bind fun bt225 => (if bt225.2 = 0 then ((modp_Mul.f k a0 a1 bt225.1).bind fun bt227 => (some (bt227.1, bt227.2))) else (some (0, bt225.2)))
theorem modp_Div.mono : ∀ a0 a1 a2 k, LeO (modp_Div.f k a0 a1 a2) (modp_Div.f (k + 1) a0 a1 a2) := by
  intro a0 a1 a2 k
  unfold modp_Div.f
  repeat' first
      | (with_reducible exact modp_Inv.mono _ _ _)
      | (with_reducible exact modp_Mul.mono _ _ _ _)
      | (with_reducible exact LeO.refl _)
      | (with_reducible exact LeO.none _)
      | (with_reducible refine LeO.ite ?_ ?_)
      | (with_reducible refine LeO.bind ?_ (fun _ => ?_))
      | exact modp_Inv.mono _ _ _
      | exact modp_Mul.mono _ _ _ _
      | exact LeO.none _
      | refine LeO.ite ?_ ?_
      | refine LeO.bind ?_ (fun _ => ?_)
set_option maxHeartbeats 8000000 in
set_option maxRecDepth 100000 in
theorem modp_Div.calls (k : Nat) (a0 : Int) (a1 : Int) (a2 : Int) (r1 : Int) (r2 : Int) (w : World) (h : modp_Div.f k a0 a1 a2 = some (r1, r2)) :
    Calls Try.prog 26 #[.int .i64 a0, .int .i64 a1, .int .i64 a2] w fun e w' => e = .returned (.tuple #[.int .i64 r1, .int .i64 r2]) ∧ Drawn0 w w' := by
  have H : ((modp_Inv.f k a0 a2).bind fun bt225 => (if bt225.2 = 0 then ((modp_Mul.f k a0 a1 bt225.1).bind fun bt227 => (some (bt227.1, bt227.2))) else (some (0, bt225.2)))) = some (r1, r2) := h
  clear h
  replace H := Option.bind_eq_some_iff.mp H
  obtain ⟨⟨t225, t226⟩, A40, H⟩ := H
  replace H : (if t226 = 0 then ((modp_Mul.f k a0 a1 t225).bind fun bt227 => (some (bt227.1, bt227.2))) else (some (0, t226))) = some (r1, r2) := H
  have A4 := Aside0.mk A40
  clear A40
  by_cases c5 : t226 = 0
  · rw [if_pos c5] at H
    have c5b0 : (t226 == 0) = true := beq_iff_eq.mpr c5
    have c5b1 : (t226 != 0) = false := bne_eq_false_iff_eq.mpr c5
    clear c5
    replace H := Option.bind_eq_some_iff.mp H
    obtain ⟨⟨t227, t228⟩, A60, H⟩ := H
    replace H : (some (t227, t228)) = some (r1, r2) := H
    have A6 := Aside0.mk A60
    clear A60
    simp only [Option.some.injEq, Prod.mk.injEq] at H
    obtain ⟨rfl, rfl⟩ := H
    go_enter Try.func26, Try.ntmps26
    go_wp2_with (first | ((with_reducible refine gate_callee (f := 27) rfl ?_); refine goesL_ (some 13) rfl rfl Try.func27 (by kernel_rfl) rfl #[.int .i64 a0, .int .i64 a2] rfl (by (try simp only [List.map_toArray, List.map_cons, List.map_nil]); first | done | rfl | (simp only [List.length_drop, List.length_take]; rfl)) ?_; (with_reducible refine (modp_Inv.calls k a0 a2 t225 t226 _ A4.out).mono ?_); rintro e w' ⟨rfl, ⟨nd, rfl⟩⟩; refine ⟨_, rfl, ?_⟩) | ((with_reducible refine gate_callee (f := 37) rfl ?_); refine goesL_ (some 22) rfl rfl Try.func37 (by kernel_rfl) rfl #[.int .i64 a0, .int .i64 a1, .int .i64 t225] rfl (by (try simp only [List.map_toArray, List.map_cons, List.map_nil]); first | done | rfl | (simp only [List.length_drop, List.length_take]; rfl)) ?_; (with_reducible refine (modp_Mul.calls k a0 a1 t225 t227 t228 _ A6.out).mono ?_); rintro e w' ⟨rfl, ⟨nd, rfl⟩⟩; refine ⟨_, rfl, ?_⟩))
    go_ret2
    exact ⟨by first | rfl | (simp; done) | (simp [*]; done), by repeat (first | exact Drawn0.refl _ | apply Drawn0.step)⟩
  · rw [if_neg c5] at H
    have c5b0 : (t226 == 0) = false := beq_eq_false_iff_ne.mpr c5
    have c5b1 : (t226 != 0) = true := bne_iff_ne.mpr c5
    simp only [Option.some.injEq, Prod.mk.injEq] at H
    obtain ⟨rfl, rfl⟩ := H
    go_enter Try.func26, Try.ntmps26
    go_wp2_with (first | ((with_reducible refine gate_callee (f := 27) rfl ?_); refine goesL_ (some 13) rfl rfl Try.func27 (by kernel_rfl) rfl #[.int .i64 a0, .int .i64 a2] rfl (by (try simp only [List.map_toArray, List.map_cons, List.map_nil]); first | done | rfl | (simp only [List.length_drop, List.length_take]; rfl)) ?_; (with_reducible refine (modp_Inv.calls k a0 a2 t225 t226 _ A4.out).mono ?_); rintro e w' ⟨rfl, ⟨nd, rfl⟩⟩; refine ⟨_, rfl, ?_⟩))
    go_ret2
    exact ⟨by first | rfl | (simp; done) | (simp [*]; done), by repeat (first | exact Drawn0.refl _ | apply Drawn0.step)⟩

end Go.Proofs.Ytikbgcpcbhoblaa.PModp
