/- Each Go function named below, as a plain Lean function, with a proof that the Go code computes just that; conditions: those that each theorem states. Written by a program of this session (wip/xprint, over the print of the kit). -/
import Derived.Test.YtikbgcpcbhoblaaPModpx0
import Derived.Test.YtikbgcpcbhoblaaPModpx1
import Derived.Test.YtikbgcpcbhoblaaPModpx2
import Derived.Test.YtikbgcpcbhoblaaPModpx3
import Derived.Test.YtikbgcpcbhoblaaPModpx4
import Derived.Test.YtikbgcpcbhoblaaPModpx5
namespace Go.Proofs.Ytikbgcpcbhoblaa.PModp
open Go.RowKit Go.Proofs.YtikbgcpcbhoblaaW.PrintWords Go.Proofs.YtikbgcpcbhoblaaW.PrintLast Go.Proofs.YtikbgcpcbhoblaaW.PrintMore
attribute [local go_sem] max2_int min2_int max_two min_two max_three min_three max_four min_four   -- for this text's walks alone
set_option linter.unusedVariables false
set_option linter.unusedSimpArgs false

/-! ### toruslaw01_ModpResidues: function 7 -/
def toruslaw01_ModpResidues.j0 : Nat → Int → Int → Int → Int → Int → Int → Bool → Option (Bool)
  | 0, _, _, _, _, _, _, _ => none
  | k + 1, x1, x2, x3, x9, x10, x11, x67 => if x67 = true then (some false) else ((modp_Pow.f k x9 x1 x3).bind fun bt276 => ((modp_Pow.f k x9 x10 x3).bind fun bt278 => ((modp_Log.f k x9 x1 x2).bind fun bt280 => ((modp_Log.f k x9 x10 x11).bind fun bt282 => ((modp_Div.f k x9 x1 x2).bind fun bt284 => ((modp_Div.f k x9 x10 x11).bind fun bt286 => (if bt276.1 = bt278.1 then (if bt276.2 = bt278.2 then (if bt280.1 = bt282.1 then (if bt280.2 = bt282.2 then (if bt284.1 = bt286.1 then (if bt284.2 = bt286.2 then ((toruslaw01_awake.f k).bind fun t288 => (some t288)) else (some false)) else (some false)) else (some false)) else (some false)) else (some false)) else (some false))))))))
def toruslaw01_ModpResidues.f (k : Nat) (a0 : Int) (a1 : Int) (a2 : Int) (a3 : Int) : Option (Bool) := (torusref01_Field.f k a0).bind fun t268 => ((modp_Mod.f k t268 a1).bind fun t269 => ((modp_Mod.f k t268 a2).bind fun t270 => (if t269 < 0 then (toruslaw01_ModpResidues.j0 k a1 a2 a3 t268 t269 t270 true) else (if t269 ≥ t268 then (toruslaw01_ModpResidues.j0 k a1 a2 a3 t268 t269 t270 true) else ((modp_Mod.f k t268 t269).bind fun t271 => (if t271 = t269 then ((toruslaw01_plus.f k t268 a1 a2).bind fun t272 => ((toruslaw01_plus.f k t268 t269 t270).bind fun t273 => (if t272 = t273 then ((toruslaw01_product.f k t268 a1 a2).bind fun t274 => ((toruslaw01_product.f k t268 t269 t270).bind fun t275 => (toruslaw01_ModpResidues.j0 k a1 a2 a3 t268 t269 t270 (t274 != t275)))) else (toruslaw01_ModpResidues.j0 k a1 a2 a3 t268 t269 t270 true)))) else (toruslaw01_ModpResidues.j0 k a1 a2 a3 t268 t269 t270 true)))))))
theorem toruslaw01_ModpResidues.mono_l : ∀ k, (∀ y0 y1 y2 y3 y4 y5 y6, LeO (toruslaw01_ModpResidues.j0 k y0 y1 y2 y3 y4 y5 y6) (toruslaw01_ModpResidues.j0 (k + 1) y0 y1 y2 y3 y4 y5 y6))
  | 0 => fun _ _ _ _ _ _ _ r h => by simp [toruslaw01_ModpResidues.j0] at h
  | k + 1 => by
    have ih0 := toruslaw01_ModpResidues.mono_l k
    · intro y0 y1 y2 y3 y4 y5 y6
      unfold toruslaw01_ModpResidues.j0
      repeat' first
      | (with_reducible exact ih0 _ _ _ _ _ _ _)
      | (with_reducible exact modp_Div.mono _ _ _ _)
      | (with_reducible exact modp_Log.mono _ _ _ _)
      | (with_reducible exact modp_Mod.mono _ _ _)
      | (with_reducible exact modp_Pow.mono _ _ _ _)
      | (with_reducible exact toruslaw01_awake.mono _)
      | (with_reducible exact toruslaw01_plus.mono _ _ _ _)
      | (with_reducible exact toruslaw01_product.mono _ _ _ _)
      | (with_reducible exact torusref01_Field.mono _ _)
      | (with_reducible exact LeO.refl _)
      | (with_reducible exact LeO.none _)
      | (with_reducible refine LeO.ite ?_ ?_)
      | (with_reducible refine LeO.bind ?_ (fun _ => ?_))
      | exact ih0 _ _ _ _ _ _ _
      | exact modp_Div.mono _ _ _ _
      | exact modp_Log.mono _ _ _ _
      | exact modp_Mod.mono _ _ _
      | exact modp_Pow.mono _ _ _ _
      | exact toruslaw01_awake.mono _
      | exact toruslaw01_plus.mono _ _ _ _
      | exact toruslaw01_product.mono _ _ _ _
      | exact torusref01_Field.mono _ _
      | exact LeO.none _
      | refine LeO.ite ?_ ?_
      | refine LeO.bind ?_ (fun _ => ?_)
theorem toruslaw01_ModpResidues.mono : ∀ a0 a1 a2 a3 k, LeO (toruslaw01_ModpResidues.f k a0 a1 a2 a3) (toruslaw01_ModpResidues.f (k + 1) a0 a1 a2 a3) := by
  intro a0 a1 a2 a3 k
  have ih0 := toruslaw01_ModpResidues.mono_l k
  unfold toruslaw01_ModpResidues.f
  repeat' first
      | (with_reducible exact ih0 _ _ _ _ _ _ _)
      | (with_reducible exact modp_Div.mono _ _ _ _)
      | (with_reducible exact modp_Log.mono _ _ _ _)
      | (with_reducible exact modp_Mod.mono _ _ _)
      | (with_reducible exact modp_Pow.mono _ _ _ _)
      | (with_reducible exact toruslaw01_awake.mono _)
      | (with_reducible exact toruslaw01_plus.mono _ _ _ _)
      | (with_reducible exact toruslaw01_product.mono _ _ _ _)
      | (with_reducible exact torusref01_Field.mono _ _)
      | (with_reducible exact LeO.refl _)
      | (with_reducible exact LeO.none _)
      | (with_reducible refine LeO.ite ?_ ?_)
      | (with_reducible refine LeO.bind ?_ (fun _ => ?_))
      | exact ih0 _ _ _ _ _ _ _
      | exact modp_Div.mono _ _ _ _
      | exact modp_Log.mono _ _ _ _
      | exact modp_Mod.mono _ _ _
      | exact modp_Pow.mono _ _ _ _
      | exact toruslaw01_awake.mono _
      | exact toruslaw01_plus.mono _ _ _ _
      | exact toruslaw01_product.mono _ _ _ _
      | exact torusref01_Field.mono _ _
      | exact LeO.none _
      | refine LeO.ite ?_ ?_
      | refine LeO.bind ?_ (fun _ => ?_)
theorem toruslaw01_ModpResidues.j0_dead {P_ : Prop} {k_ : Nat} {y0_ : Int} {y1_ : Int} {y2_ : Int} {y3_ : Int} {y4_ : Int} {y5_ : Int} {r : Bool} (hrt : Aside0 (r = true)) (h : toruslaw01_ModpResidues.j0 k_ y0_ y1_ y2_ y3_ y4_ y5_ true = some r) : P_ := by
  have hrt := hrt.out
  cases k_ <;> simp [toruslaw01_ModpResidues.j0, hrt] at h
set_option maxHeartbeats 8000000 in
set_option maxRecDepth 100000 in
theorem toruslaw01_ModpResidues.calls (k : Nat) (a0 : Int) (a1 : Int) (a2 : Int) (a3 : Int) (r : Bool) (w : World) (hrt : Aside0 (r = true)) (h : toruslaw01_ModpResidues.f k a0 a1 a2 a3 = some r) :
    Calls Try.prog 7 #[.int .i64 a0, .int .i64 a1, .int .i64 a2, .int .i64 a3] w fun e w' => e = .returned (.bool r) ∧ Below w.heap.size w w' := by
  have HB := Aside0.mk (Below.refl w.heap.size w)
  have H : ((torusref01_Field.f k a0).bind fun t268 => ((modp_Mod.f k t268 a1).bind fun t269 => ((modp_Mod.f k t268 a2).bind fun t270 => (if t269 < 0 then (toruslaw01_ModpResidues.j0 k a1 a2 a3 t268 t269 t270 true) else (if t269 ≥ t268 then (toruslaw01_ModpResidues.j0 k a1 a2 a3 t268 t269 t270 true) else ((modp_Mod.f k t268 t269).bind fun t271 => (if t271 = t269 then ((toruslaw01_plus.f k t268 a1 a2).bind fun t272 => ((toruslaw01_plus.f k t268 t269 t270).bind fun t273 => (if t272 = t273 then ((toruslaw01_product.f k t268 a1 a2).bind fun t274 => ((toruslaw01_product.f k t268 t269 t270).bind fun t275 => (toruslaw01_ModpResidues.j0 k a1 a2 a3 t268 t269 t270 (t274 != t275)))) else (toruslaw01_ModpResidues.j0 k a1 a2 a3 t268 t269 t270 true)))) else (toruslaw01_ModpResidues.j0 k a1 a2 a3 t268 t269 t270 true)))))))) = some r := h
  clear h
  replace H := Option.bind_eq_some_iff.mp H
  obtain ⟨t268, A50, H⟩ := H
  replace H : ((modp_Mod.f k t268 a1).bind fun t269 => ((modp_Mod.f k t268 a2).bind fun t270 => (if t269 < 0 then (toruslaw01_ModpResidues.j0 k a1 a2 a3 t268 t269 t270 true) else (if t269 ≥ t268 then (toruslaw01_ModpResidues.j0 k a1 a2 a3 t268 t269 t270 true) else ((modp_Mod.f k t268 t269).bind fun t271 => (if t271 = t269 then ((toruslaw01_plus.f k t268 a1 a2).bind fun t272 => ((toruslaw01_plus.f k t268 t269 t270).bind fun t273 => (if t272 = t273 then ((toruslaw01_product.f k t268 a1 a2).bind fun t274 => ((toruslaw01_product.f k t268 t269 t270).bind fun t275 => (toruslaw01_ModpResidues.j0 k a1 a2 a3 t268 t269 t270 (t274 != t275)))) else (toruslaw01_ModpResidues.j0 k a1 a2 a3 t268 t269 t270 true)))) else (toruslaw01_ModpResidues.j0 k a1 a2 a3 t268 t269 t270 true))))))) = some r := H
  have A5 := Aside0.mk A50
  clear A50
  replace H := Option.bind_eq_some_iff.mp H
  obtain ⟨t269, A60, H⟩ := H
  replace H : ((modp_Mod.f k t268 a2).bind fun t270 => (if t269 < 0 then (toruslaw01_ModpResidues.j0 k a1 a2 a3 t268 t269 t270 true) else (if t269 ≥ t268 then (toruslaw01_ModpResidues.j0 k a1 a2 a3 t268 t269 t270 true) else ((modp_Mod.f k t268 t269).bind fun t271 => (if t271 = t269 then ((toruslaw01_plus.f k t268 a1 a2).bind fun t272 => ((toruslaw01_plus.f k t268 t269 t270).bind fun t273 => (if t272 = t273 then ((toruslaw01_product.f k t268 a1 a2).bind fun t274 => ((toruslaw01_product.f k t268 t269 t270).bind fun t275 => (toruslaw01_ModpResidues.j0 k a1 a2 a3 t268 t269 t270 (t274 != t275)))) else (toruslaw01_ModpResidues.j0 k a1 a2 a3 t268 t269 t270 true)))) else (toruslaw01_ModpResidues.j0 k a1 a2 a3 t268 t269 t270 true)))))) = some r := H
  have A6 := Aside0.mk A60
  clear A60
  replace H := Option.bind_eq_some_iff.mp H
  obtain ⟨t270, A70, H⟩ := H
  replace H : (if t269 < 0 then (toruslaw01_ModpResidues.j0 k a1 a2 a3 t268 t269 t270 true) else (if t269 ≥ t268 then (toruslaw01_ModpResidues.j0 k a1 a2 a3 t268 t269 t270 true) else ((modp_Mod.f k t268 t269).bind fun t271 => (if t271 = t269 then ((toruslaw01_plus.f k t268 a1 a2).bind fun t272 => ((toruslaw01_plus.f k t268 t269 t270).bind fun t273 => (if t272 = t273 then ((toruslaw01_product.f k t268 a1 a2).bind fun t274 => ((toruslaw01_product.f k t268 t269 t270).bind fun t275 => (toruslaw01_ModpResidues.j0 k a1 a2 a3 t268 t269 t270 (t274 != t275)))) else (toruslaw01_ModpResidues.j0 k a1 a2 a3 t268 t269 t270 true)))) else (toruslaw01_ModpResidues.j0 k a1 a2 a3 t268 t269 t270 true))))) = some r := H
  have A7 := Aside0.mk A70
  clear A70
  have HC8 := Aside0.mk H
  clear H
  go_enter Try.func7, Try.ntmps7
  go_upto_region 3 with (first | ((with_reducible refine gate_callee (f := 16) rfl ?_); refine goesL_ (some 25) rfl rfl Try.func16 (by kernel_rfl) rfl #[.int .i64 a0] rfl (by (try simp only [List.map_toArray, List.map_cons, List.map_nil]); first | done | rfl | (simp only [List.length_drop, List.length_take]; rfl)) ?_; (with_reducible refine (torusref01_Field.calls k a0 t268 _ A5.out).mono ?_); rintro e w9 ⟨rfl, hb⟩; refine ⟨_, rfl, ?_⟩; have n0_ := Aside0.mk (below_step (by repeat (first | (with_reducible first | exact HB.out | apply below_alloc | apply pw_below_drewN | apply below_drew1) | exact HB.out)) hb); clear HB; have HB := n0_; clear n0_; (try clear hb); (try clear hb2); (try clear hk); (try clear hi)) | ((with_reducible refine gate_callee (f := 17) rfl ?_); refine goesL_ (some 28) rfl rfl Try.func17 (by kernel_rfl) rfl #[.int .i64 t268, .int .i64 a1] rfl (by (try simp only [List.map_toArray, List.map_cons, List.map_nil]); first | done | rfl | (simp only [List.length_drop, List.length_take]; rfl)) ?_; (with_reducible refine (modp_Mod.calls k t268 a1 t269 _ A6.out).mono ?_); rintro e w' ⟨rfl, ⟨nd, rfl⟩⟩; refine ⟨_, rfl, ?_⟩) | ((with_reducible refine gate_callee (f := 17) rfl ?_); refine goesL_ (some 31) rfl rfl Try.func17 (by kernel_rfl) rfl #[.int .i64 t268, .int .i64 a2] rfl (by (try simp only [List.map_toArray, List.map_cons, List.map_nil]); first | done | rfl | (simp only [List.length_drop, List.length_take]; rfl)) ?_; (with_reducible refine (modp_Mod.calls k t268 a2 t270 _ A7.out).mono ?_); rintro e w' ⟨rfl, ⟨nd, rfl⟩⟩; refine ⟨_, rfl, ?_⟩))
  (try simp only [Act.put, List.setIfInBounds_toArray, List.set_cons_zero, List.set_cons_succ])
  go_cut [67] (fun v67 wc => ∃ (kq : Nat) (x67_7 : Bool), v67 = .bool x67_7 ∧ Aside0 (toruslaw01_ModpResidues.j0 kq a1 a2 a3 t268 t269 t270 x67_7 = some r) ∧ Aside0 (kq ≤ k) ∧ Aside0 (Below w.heap.size w wc))
  case first =>
    have H := HC8.out
    clear HC8
    by_cases c10 : t269 < 0
    · rw [if_pos c10] at H
      have c10b0 : decide (t269 < 0) = true := decide_eq_true c10
      clear c10
      (first | rw [c10b0] | (simp only [i64_w, i32_w]; rw [c10b0]) | skip)
      first
      | with_reducible exact toruslaw01_ModpResidues.j0_dead hrt H
      | skip
        have H' := Aside0.mk H
        clear H
        go_wp2
        go_meet
        case rel => exact ⟨_, (true), (by first | rfl | (simp; done) | (simp [*]; done)), H', ⟨by first | omega | exact Nat.le_refl _⟩, ⟨by repeat (first | (with_reducible first | exact HB.out | apply below_alloc | apply pw_below_drewN | apply below_drew1) | exact HB.out)⟩⟩
    · rw [if_neg c10] at H
      have c10b0 : decide (t269 < 0) = false := decide_eq_false c10
      clear c10
      (first | rw [c10b0] | (simp only [i64_w, i32_w]; rw [c10b0]) | skip)
      by_cases c11 : t269 ≥ t268
      · rw [if_pos c11] at H
        have c11b0 : decide (t268 ≤ t269) = true := decide_eq_true c11
        clear c11
        first
        | with_reducible exact toruslaw01_ModpResidues.j0_dead hrt H
        | skip
          have H' := Aside0.mk H
          clear H
          go_wp2
          go_meet
          case rel => exact ⟨_, (true), (by first | rfl | (simp; done) | (simp [*]; done)), H', ⟨by first | omega | exact Nat.le_refl _⟩, ⟨by repeat (first | (with_reducible first | exact HB.out | apply below_alloc | apply pw_below_drewN | apply below_drew1) | exact HB.out)⟩⟩
      · rw [if_neg c11] at H
        have c11b0 : decide (t268 ≤ t269) = false := decide_eq_false c11
        clear c11
        replace H := Option.bind_eq_some_iff.mp H
        obtain ⟨t271, A120, H⟩ := H
        replace H : (if t271 = t269 then ((toruslaw01_plus.f k t268 a1 a2).bind fun t272 => ((toruslaw01_plus.f k t268 t269 t270).bind fun t273 => (if t272 = t273 then ((toruslaw01_product.f k t268 a1 a2).bind fun t274 => ((toruslaw01_product.f k t268 t269 t270).bind fun t275 => (toruslaw01_ModpResidues.j0 k a1 a2 a3 t268 t269 t270 (t274 != t275)))) else (toruslaw01_ModpResidues.j0 k a1 a2 a3 t268 t269 t270 true)))) else (toruslaw01_ModpResidues.j0 k a1 a2 a3 t268 t269 t270 true)) = some r := H
        have A12 := Aside0.mk A120
        clear A120
        by_cases c13 : t271 = t269
        · rw [if_pos c13] at H
          have c13b0 : (t271 == t269) = true := beq_iff_eq.mpr c13
          have c13b1 : (t271 != t269) = false := bne_eq_false_iff_eq.mpr c13
          clear c13
          replace H := Option.bind_eq_some_iff.mp H
          obtain ⟨t272, A140, H⟩ := H
          replace H : ((toruslaw01_plus.f k t268 t269 t270).bind fun t273 => (if t272 = t273 then ((toruslaw01_product.f k t268 a1 a2).bind fun t274 => ((toruslaw01_product.f k t268 t269 t270).bind fun t275 => (toruslaw01_ModpResidues.j0 k a1 a2 a3 t268 t269 t270 (t274 != t275)))) else (toruslaw01_ModpResidues.j0 k a1 a2 a3 t268 t269 t270 true))) = some r := H
          have A14 := Aside0.mk A140
          clear A140
          replace H := Option.bind_eq_some_iff.mp H
          obtain ⟨t273, A150, H⟩ := H
          replace H : (if t272 = t273 then ((toruslaw01_product.f k t268 a1 a2).bind fun t274 => ((toruslaw01_product.f k t268 t269 t270).bind fun t275 => (toruslaw01_ModpResidues.j0 k a1 a2 a3 t268 t269 t270 (t274 != t275)))) else (toruslaw01_ModpResidues.j0 k a1 a2 a3 t268 t269 t270 true)) = some r := H
          have A15 := Aside0.mk A150
          clear A150
          by_cases c16 : t272 = t273
          · rw [if_pos c16] at H
            have c16b0 : (t272 == t273) = true := beq_iff_eq.mpr c16
            have c16b1 : (t272 != t273) = false := bne_eq_false_iff_eq.mpr c16
            clear c16
            replace H := Option.bind_eq_some_iff.mp H
            obtain ⟨t274, A170, H⟩ := H
            replace H : ((toruslaw01_product.f k t268 t269 t270).bind fun t275 => (toruslaw01_ModpResidues.j0 k a1 a2 a3 t268 t269 t270 (t274 != t275))) = some r := H
            have A17 := Aside0.mk A170
            clear A170
            replace H := Option.bind_eq_some_iff.mp H
            obtain ⟨t275, A180, H⟩ := H
            replace H : (toruslaw01_ModpResidues.j0 k a1 a2 a3 t268 t269 t270 (t274 != t275)) = some r := H
            have A18 := Aside0.mk A180
            clear A180
            first
            | with_reducible exact toruslaw01_ModpResidues.j0_dead hrt H
            | skip
              have H' := Aside0.mk H
              clear H
              go_wp2_with (first | (go_at_call 17; (with_reducible refine (modp_Mod.calls k t268 t269 t271 _ A12.out).mono ?_); rintro e w' ⟨rfl, ⟨nd, rfl⟩⟩) | (go_at_call 24; (with_reducible refine (toruslaw01_plus.calls k t268 a1 a2 t272 _ A14.out).mono ?_); rintro e w' ⟨rfl, ⟨nd, rfl⟩⟩) | (go_at_call 24; (with_reducible refine (toruslaw01_plus.calls k t268 t269 t270 t273 _ A15.out).mono ?_); rintro e w' ⟨rfl, ⟨nd, rfl⟩⟩) | (go_at_call 21; (with_reducible refine (toruslaw01_product.calls k t268 a1 a2 t274 _ A17.out).mono ?_); rintro e w' ⟨rfl, ⟨nd, rfl⟩⟩) | (go_at_call 21; (with_reducible refine (toruslaw01_product.calls k t268 t269 t270 t275 _ A18.out).mono ?_); rintro e w' ⟨rfl, ⟨nd, rfl⟩⟩))
              go_meet
              case rel => exact ⟨_, ((t274 != t275)), (by first | rfl | (simp; done) | (simp [*]; done)), H', ⟨by first | omega | exact Nat.le_refl _⟩, ⟨by repeat (first | (with_reducible first | exact HB.out | apply below_alloc | apply pw_below_drewN | apply below_drew1) | exact HB.out)⟩⟩
          · rw [if_neg c16] at H
            have c16b0 : (t272 == t273) = false := beq_eq_false_iff_ne.mpr c16
            have c16b1 : (t272 != t273) = true := bne_iff_ne.mpr c16
            first
            | with_reducible exact toruslaw01_ModpResidues.j0_dead hrt H
            | skip
              have H' := Aside0.mk H
              clear H
              go_wp2_with (first | (go_at_call 17; (with_reducible refine (modp_Mod.calls k t268 t269 t271 _ A12.out).mono ?_); rintro e w' ⟨rfl, ⟨nd, rfl⟩⟩) | (go_at_call 24; (with_reducible refine (toruslaw01_plus.calls k t268 a1 a2 t272 _ A14.out).mono ?_); rintro e w' ⟨rfl, ⟨nd, rfl⟩⟩) | (go_at_call 24; (with_reducible refine (toruslaw01_plus.calls k t268 t269 t270 t273 _ A15.out).mono ?_); rintro e w' ⟨rfl, ⟨nd, rfl⟩⟩))
              go_meet
              case rel => exact ⟨_, (true), (by first | rfl | (simp; done) | (simp [*]; done)), H', ⟨by first | omega | exact Nat.le_refl _⟩, ⟨by repeat (first | (with_reducible first | exact HB.out | apply below_alloc | apply pw_below_drewN | apply below_drew1) | exact HB.out)⟩⟩
        · rw [if_neg c13] at H
          have c13b0 : (t271 == t269) = false := beq_eq_false_iff_ne.mpr c13
          have c13b1 : (t271 != t269) = true := bne_iff_ne.mpr c13
          first
          | with_reducible exact toruslaw01_ModpResidues.j0_dead hrt H
          | skip
            have H' := Aside0.mk H
            clear H
            go_wp2_with (first | (go_at_call 17; (with_reducible refine (modp_Mod.calls k t268 t269 t271 _ A12.out).mono ?_); rintro e w' ⟨rfl, ⟨nd, rfl⟩⟩))
            go_meet
            case rel => exact ⟨_, (true), (by first | rfl | (simp; done) | (simp [*]; done)), H', ⟨by first | omega | exact Nat.le_refl _⟩, ⟨by repeat (first | (with_reducible first | exact HB.out | apply below_alloc | apply pw_below_drewN | apply below_drew1) | exact HB.out)⟩⟩
  case rest =>
    clear HC8
    try clear c1
    try clear p2
    try clear c7
    try clear c10
    try clear c10b0
    try clear c11
    try clear c11b0
    try clear c13
    try clear c13b0
    try clear c13b1
    try clear c16
    try clear c16b0
    try clear c16b1
    try clear c17
    obtain ⟨kq, x67_7, rfl, HA, HJ7, HB⟩ := hcut
    cases kq with
    | zero => exact absurd HA.out (by simp [toruslaw01_ModpResidues.j0])
    | succ kj7 =>
      have H := HA.out
      clear HA
      simp only [toruslaw01_ModpResidues.j0] at H
      by_cases c19 : x67_7 = true
      · subst c19
        have H1 : (some false) = some r := by rw [if_pos rfl] at H; exact H
        clear H
        have H := H1
        clear H1
        first
        | with_reducible exact absurd ((Option.some.inj H).trans hrt.out) Bool.false_ne_true
        | skip
          obtain rfl := Option.some.inj H
          go_wp2
          go_ret
          exact ⟨by first | rfl | (simp [errW_none, errW_some] <;> rfl) | (simp [*, errW_none, errW_some] <;> rfl), by repeat (first | (with_reducible first | exact HB.out | apply below_alloc | apply pw_below_drewN | apply below_drew1) | exact HB.out)⟩
      · replace c19 := Bool.eq_false_iff.mpr c19
        subst c19
        have H1 : ((modp_Pow.f kj7 t268 a1 a3).bind fun bt276 => ((modp_Pow.f kj7 t268 t269 a3).bind fun bt278 => ((modp_Log.f kj7 t268 a1 a2).bind fun bt280 => ((modp_Log.f kj7 t268 t269 t270).bind fun bt282 => ((modp_Div.f kj7 t268 a1 a2).bind fun bt284 => ((modp_Div.f kj7 t268 t269 t270).bind fun bt286 => (if bt276.1 = bt278.1 then (if bt276.2 = bt278.2 then (if bt280.1 = bt282.1 then (if bt280.2 = bt282.2 then (if bt284.1 = bt286.1 then (if bt284.2 = bt286.2 then ((toruslaw01_awake.f kj7).bind fun t288 => (some t288)) else (some false)) else (some false)) else (some false)) else (some false)) else (some false)) else (some false)))))))) = some r := by rw [if_neg (show ¬ (false = true) by decide)] at H; exact H
        clear H
        have H := H1
        clear H1
        replace H := Option.bind_eq_some_iff.mp H
        obtain ⟨⟨t276, t277⟩, A200, H⟩ := H
        replace H : ((modp_Pow.f kj7 t268 t269 a3).bind fun bt278 => ((modp_Log.f kj7 t268 a1 a2).bind fun bt280 => ((modp_Log.f kj7 t268 t269 t270).bind fun bt282 => ((modp_Div.f kj7 t268 a1 a2).bind fun bt284 => ((modp_Div.f kj7 t268 t269 t270).bind fun bt286 => (if t276 = bt278.1 then (if t277 = bt278.2 then (if bt280.1 = bt282.1 then (if bt280.2 = bt282.2 then (if bt284.1 = bt286.1 then (if bt284.2 = bt286.2 then ((toruslaw01_awake.f kj7).bind fun t288 => (some t288)) else (some false)) else (some false)) else (some false)) else (some false)) else (some false)) else (some false))))))) = some r := H
        have A20 := Aside0.mk A200
        clear A200
        replace H := Option.bind_eq_some_iff.mp H
        obtain ⟨⟨t278, t279⟩, A210, H⟩ := H
        replace H : ((modp_Log.f kj7 t268 a1 a2).bind fun bt280 => ((modp_Log.f kj7 t268 t269 t270).bind fun bt282 => ((modp_Div.f kj7 t268 a1 a2).bind fun bt284 => ((modp_Div.f kj7 t268 t269 t270).bind fun bt286 => (if t276 = t278 then (if t277 = t279 then (if bt280.1 = bt282.1 then (if bt280.2 = bt282.2 then (if bt284.1 = bt286.1 then (if bt284.2 = bt286.2 then ((toruslaw01_awake.f kj7).bind fun t288 => (some t288)) else (some false)) else (some false)) else (some false)) else (some false)) else (some false)) else (some false)))))) = some r := H
        have A21 := Aside0.mk A210
        clear A210
        replace H := Option.bind_eq_some_iff.mp H
        obtain ⟨⟨t280, t281⟩, A220, H⟩ := H
        replace H : ((modp_Log.f kj7 t268 t269 t270).bind fun bt282 => ((modp_Div.f kj7 t268 a1 a2).bind fun bt284 => ((modp_Div.f kj7 t268 t269 t270).bind fun bt286 => (if t276 = t278 then (if t277 = t279 then (if t280 = bt282.1 then (if t281 = bt282.2 then (if bt284.1 = bt286.1 then (if bt284.2 = bt286.2 then ((toruslaw01_awake.f kj7).bind fun t288 => (some t288)) else (some false)) else (some false)) else (some false)) else (some false)) else (some false)) else (some false))))) = some r := H
        have A22 := Aside0.mk A220
        clear A220
        replace H := Option.bind_eq_some_iff.mp H
        obtain ⟨⟨t282, t283⟩, A230, H⟩ := H
        replace H : ((modp_Div.f kj7 t268 a1 a2).bind fun bt284 => ((modp_Div.f kj7 t268 t269 t270).bind fun bt286 => (if t276 = t278 then (if t277 = t279 then (if t280 = t282 then (if t281 = t283 then (if bt284.1 = bt286.1 then (if bt284.2 = bt286.2 then ((toruslaw01_awake.f kj7).bind fun t288 => (some t288)) else (some false)) else (some false)) else (some false)) else (some false)) else (some false)) else (some false)))) = some r := H
        have A23 := Aside0.mk A230
        clear A230
        replace H := Option.bind_eq_some_iff.mp H
        obtain ⟨⟨t284, t285⟩, A240, H⟩ := H
        replace H : ((modp_Div.f kj7 t268 t269 t270).bind fun bt286 => (if t276 = t278 then (if t277 = t279 then (if t280 = t282 then (if t281 = t283 then (if t284 = bt286.1 then (if t285 = bt286.2 then ((toruslaw01_awake.f kj7).bind fun t288 => (some t288)) else (some false)) else (some false)) else (some false)) else (some false)) else (some false)) else (some false))) = some r := H
        have A24 := Aside0.mk A240
        clear A240
        replace H := Option.bind_eq_some_iff.mp H
        obtain ⟨⟨t286, t287⟩, A250, H⟩ := H
        replace H : (if t276 = t278 then (if t277 = t279 then (if t280 = t282 then (if t281 = t283 then (if t284 = t286 then (if t285 = t287 then ((toruslaw01_awake.f kj7).bind fun t288 => (some t288)) else (some false)) else (some false)) else (some false)) else (some false)) else (some false)) else (some false)) = some r := H
        have A25 := Aside0.mk A250
        clear A250
        by_cases c26 : t276 = t278
        · rw [if_pos c26] at H
          have c26b0 : (t276 == t278) = true := beq_iff_eq.mpr c26
          have c26b1 : (t276 != t278) = false := bne_eq_false_iff_eq.mpr c26
          clear c26
          by_cases c27 : t277 = t279
          · rw [if_pos c27] at H
            have c27b0 : (t277 == t279) = true := beq_iff_eq.mpr c27
            have c27b1 : (t277 != t279) = false := bne_eq_false_iff_eq.mpr c27
            clear c27
            by_cases c28 : t280 = t282
            · rw [if_pos c28] at H
              have c28b0 : (t280 == t282) = true := beq_iff_eq.mpr c28
              have c28b1 : (t280 != t282) = false := bne_eq_false_iff_eq.mpr c28
              clear c28
              by_cases c29 : t281 = t283
              · rw [if_pos c29] at H
                have c29b0 : (t281 == t283) = true := beq_iff_eq.mpr c29
                have c29b1 : (t281 != t283) = false := bne_eq_false_iff_eq.mpr c29
                clear c29
                by_cases c30 : t284 = t286
                · rw [if_pos c30] at H
                  have c30b0 : (t284 == t286) = true := beq_iff_eq.mpr c30
                  have c30b1 : (t284 != t286) = false := bne_eq_false_iff_eq.mpr c30
                  clear c30
                  by_cases c31 : t285 = t287
                  · rw [if_pos c31] at H
                    have c31b0 : (t285 == t287) = true := beq_iff_eq.mpr c31
                    have c31b1 : (t285 != t287) = false := bne_eq_false_iff_eq.mpr c31
                    clear c31
                    replace H := Option.bind_eq_some_iff.mp H
                    obtain ⟨t288, A320, H⟩ := H
                    replace H : (some t288) = some r := H
                    have A32 := Aside0.mk A320
                    clear A320
                    first
                    | with_reducible exact absurd ((Option.some.inj H).trans hrt.out) Bool.false_ne_true
                    | skip
                      obtain rfl := Option.some.inj H
                      go_wp2_with (first | ((with_reducible refine gate_callee (f := 18) rfl ?_); refine goesL_ (some 72) rfl rfl Try.func18 (by kernel_rfl) rfl #[.int .i64 t268, .int .i64 a1, .int .i64 a3] rfl (by (try simp only [List.map_toArray, List.map_cons, List.map_nil]); first | done | rfl | (simp only [List.length_drop, List.length_take]; rfl)) ?_; (with_reducible refine (modp_Pow.calls kj7 t268 a1 a3 t276 t277 _ A20.out).mono ?_); rintro e w' ⟨rfl, ⟨nd, rfl⟩⟩; refine ⟨_, rfl, ?_⟩) | ((with_reducible refine gate_callee (f := 18) rfl ?_); refine goesL_ (some 79) rfl rfl Try.func18 (by kernel_rfl) rfl #[.int .i64 t268, .int .i64 t269, .int .i64 a3] rfl (by (try simp only [List.map_toArray, List.map_cons, List.map_nil]); first | done | rfl | (simp only [List.length_drop, List.length_take]; rfl)) ?_; (with_reducible refine (modp_Pow.calls kj7 t268 t269 a3 t278 t279 _ A21.out).mono ?_); rintro e w' ⟨rfl, ⟨nd, rfl⟩⟩; refine ⟨_, rfl, ?_⟩) | ((with_reducible refine gate_callee (f := 28) rfl ?_); refine goesL_ (some 86) rfl rfl Try.func28 (by kernel_rfl) rfl #[.int .i64 t268, .int .i64 a1, .int .i64 a2] rfl (by (try simp only [List.map_toArray, List.map_cons, List.map_nil]); first | done | rfl | (simp only [List.length_drop, List.length_take]; rfl)) ?_; (with_reducible refine (modp_Log.calls kj7 t268 a1 a2 t280 t281 _ A22.out).mono ?_); rintro e w' ⟨rfl, ⟨nd, rfl⟩⟩; refine ⟨_, rfl, ?_⟩) | ((with_reducible refine gate_callee (f := 28) rfl ?_); refine goesL_ (some 93) rfl rfl Try.func28 (by kernel_rfl) rfl #[.int .i64 t268, .int .i64 t269, .int .i64 t270] rfl (by (try simp only [List.map_toArray, List.map_cons, List.map_nil]); first | done | rfl | (simp only [List.length_drop, List.length_take]; rfl)) ?_; (with_reducible refine (modp_Log.calls kj7 t268 t269 t270 t282 t283 _ A23.out).mono ?_); rintro e w' ⟨rfl, ⟨nd, rfl⟩⟩; refine ⟨_, rfl, ?_⟩) | ((with_reducible refine gate_callee (f := 26) rfl ?_); refine goesL_ (some 100) rfl rfl Try.func26 (by kernel_rfl) rfl #[.int .i64 t268, .int .i64 a1, .int .i64 a2] rfl (by (try simp only [List.map_toArray, List.map_cons, List.map_nil]); first | done | rfl | (simp only [List.length_drop, List.length_take]; rfl)) ?_; (with_reducible refine (modp_Div.calls kj7 t268 a1 a2 t284 t285 _ A24.out).mono ?_); rintro e w' ⟨rfl, ⟨nd, rfl⟩⟩; refine ⟨_, rfl, ?_⟩) | ((with_reducible refine gate_callee (f := 26) rfl ?_); refine goesL_ (some 107) rfl rfl Try.func26 (by kernel_rfl) rfl #[.int .i64 t268, .int .i64 t269, .int .i64 t270] rfl (by (try simp only [List.map_toArray, List.map_cons, List.map_nil]); first | done | rfl | (simp only [List.length_drop, List.length_take]; rfl)) ?_; (with_reducible refine (modp_Div.calls kj7 t268 t269 t270 t286 t287 _ A25.out).mono ?_); rintro e w' ⟨rfl, ⟨nd, rfl⟩⟩; refine ⟨_, rfl, ?_⟩) | (go_at_call 15; (with_reducible refine (toruslaw01_awake.calls kj7  t288 _ A32.out).mono ?_); rintro e w' ⟨rfl, ⟨nd, rfl⟩⟩))
                      go_ret
                      exact ⟨by first | rfl | (simp [errW_none, errW_some] <;> rfl) | (simp [*, errW_none, errW_some] <;> rfl), by repeat (first | (with_reducible first | exact HB.out | apply below_alloc | apply pw_below_drewN | apply below_drew1) | exact HB.out)⟩
                  · rw [if_neg c31] at H
                    have c31b0 : (t285 == t287) = false := beq_eq_false_iff_ne.mpr c31
                    have c31b1 : (t285 != t287) = true := bne_iff_ne.mpr c31
                    first
                    | with_reducible exact absurd ((Option.some.inj H).trans hrt.out) Bool.false_ne_true
                    | skip
                      obtain rfl := Option.some.inj H
                      go_wp2_with (first | ((with_reducible refine gate_callee (f := 18) rfl ?_); refine goesL_ (some 72) rfl rfl Try.func18 (by kernel_rfl) rfl #[.int .i64 t268, .int .i64 a1, .int .i64 a3] rfl (by (try simp only [List.map_toArray, List.map_cons, List.map_nil]); first | done | rfl | (simp only [List.length_drop, List.length_take]; rfl)) ?_; (with_reducible refine (modp_Pow.calls kj7 t268 a1 a3 t276 t277 _ A20.out).mono ?_); rintro e w' ⟨rfl, ⟨nd, rfl⟩⟩; refine ⟨_, rfl, ?_⟩) | ((with_reducible refine gate_callee (f := 18) rfl ?_); refine goesL_ (some 79) rfl rfl Try.func18 (by kernel_rfl) rfl #[.int .i64 t268, .int .i64 t269, .int .i64 a3] rfl (by (try simp only [List.map_toArray, List.map_cons, List.map_nil]); first | done | rfl | (simp only [List.length_drop, List.length_take]; rfl)) ?_; (with_reducible refine (modp_Pow.calls kj7 t268 t269 a3 t278 t279 _ A21.out).mono ?_); rintro e w' ⟨rfl, ⟨nd, rfl⟩⟩; refine ⟨_, rfl, ?_⟩) | ((with_reducible refine gate_callee (f := 28) rfl ?_); refine goesL_ (some 86) rfl rfl Try.func28 (by kernel_rfl) rfl #[.int .i64 t268, .int .i64 a1, .int .i64 a2] rfl (by (try simp only [List.map_toArray, List.map_cons, List.map_nil]); first | done | rfl | (simp only [List.length_drop, List.length_take]; rfl)) ?_; (with_reducible refine (modp_Log.calls kj7 t268 a1 a2 t280 t281 _ A22.out).mono ?_); rintro e w' ⟨rfl, ⟨nd, rfl⟩⟩; refine ⟨_, rfl, ?_⟩) | ((with_reducible refine gate_callee (f := 28) rfl ?_); refine goesL_ (some 93) rfl rfl Try.func28 (by kernel_rfl) rfl #[.int .i64 t268, .int .i64 t269, .int .i64 t270] rfl (by (try simp only [List.map_toArray, List.map_cons, List.map_nil]); first | done | rfl | (simp only [List.length_drop, List.length_take]; rfl)) ?_; (with_reducible refine (modp_Log.calls kj7 t268 t269 t270 t282 t283 _ A23.out).mono ?_); rintro e w' ⟨rfl, ⟨nd, rfl⟩⟩; refine ⟨_, rfl, ?_⟩) | ((with_reducible refine gate_callee (f := 26) rfl ?_); refine goesL_ (some 100) rfl rfl Try.func26 (by kernel_rfl) rfl #[.int .i64 t268, .int .i64 a1, .int .i64 a2] rfl (by (try simp only [List.map_toArray, List.map_cons, List.map_nil]); first | done | rfl | (simp only [List.length_drop, List.length_take]; rfl)) ?_; (with_reducible refine (modp_Div.calls kj7 t268 a1 a2 t284 t285 _ A24.out).mono ?_); rintro e w' ⟨rfl, ⟨nd, rfl⟩⟩; refine ⟨_, rfl, ?_⟩) | ((with_reducible refine gate_callee (f := 26) rfl ?_); refine goesL_ (some 107) rfl rfl Try.func26 (by kernel_rfl) rfl #[.int .i64 t268, .int .i64 t269, .int .i64 t270] rfl (by (try simp only [List.map_toArray, List.map_cons, List.map_nil]); first | done | rfl | (simp only [List.length_drop, List.length_take]; rfl)) ?_; (with_reducible refine (modp_Div.calls kj7 t268 t269 t270 t286 t287 _ A25.out).mono ?_); rintro e w' ⟨rfl, ⟨nd, rfl⟩⟩; refine ⟨_, rfl, ?_⟩))
                      go_ret
                      exact ⟨by first | rfl | (simp [errW_none, errW_some] <;> rfl) | (simp [*, errW_none, errW_some] <;> rfl), by repeat (first | (with_reducible first | exact HB.out | apply below_alloc | apply pw_below_drewN | apply below_drew1) | exact HB.out)⟩
                · rw [if_neg c30] at H
                  have c30b0 : (t284 == t286) = false := beq_eq_false_iff_ne.mpr c30
                  have c30b1 : (t284 != t286) = true := bne_iff_ne.mpr c30
                  first
                  | with_reducible exact absurd ((Option.some.inj H).trans hrt.out) Bool.false_ne_true
                  | skip
                    obtain rfl := Option.some.inj H
                    go_wp2_with (first | ((with_reducible refine gate_callee (f := 18) rfl ?_); refine goesL_ (some 72) rfl rfl Try.func18 (by kernel_rfl) rfl #[.int .i64 t268, .int .i64 a1, .int .i64 a3] rfl (by (try simp only [List.map_toArray, List.map_cons, List.map_nil]); first | done | rfl | (simp only [List.length_drop, List.length_take]; rfl)) ?_; (with_reducible refine (modp_Pow.calls kj7 t268 a1 a3 t276 t277 _ A20.out).mono ?_); rintro e w' ⟨rfl, ⟨nd, rfl⟩⟩; refine ⟨_, rfl, ?_⟩) | ((with_reducible refine gate_callee (f := 18) rfl ?_); refine goesL_ (some 79) rfl rfl Try.func18 (by kernel_rfl) rfl #[.int .i64 t268, .int .i64 t269, .int .i64 a3] rfl (by (try simp only [List.map_toArray, List.map_cons, List.map_nil]); first | done | rfl | (simp only [List.length_drop, List.length_take]; rfl)) ?_; (with_reducible refine (modp_Pow.calls kj7 t268 t269 a3 t278 t279 _ A21.out).mono ?_); rintro e w' ⟨rfl, ⟨nd, rfl⟩⟩; refine ⟨_, rfl, ?_⟩) | ((with_reducible refine gate_callee (f := 28) rfl ?_); refine goesL_ (some 86) rfl rfl Try.func28 (by kernel_rfl) rfl #[.int .i64 t268, .int .i64 a1, .int .i64 a2] rfl (by (try simp only [List.map_toArray, List.map_cons, List.map_nil]); first | done | rfl | (simp only [List.length_drop, List.length_take]; rfl)) ?_; (with_reducible refine (modp_Log.calls kj7 t268 a1 a2 t280 t281 _ A22.out).mono ?_); rintro e w' ⟨rfl, ⟨nd, rfl⟩⟩; refine ⟨_, rfl, ?_⟩) | ((with_reducible refine gate_callee (f := 28) rfl ?_); refine goesL_ (some 93) rfl rfl Try.func28 (by kernel_rfl) rfl #[.int .i64 t268, .int .i64 t269, .int .i64 t270] rfl (by (try simp only [List.map_toArray, List.map_cons, List.map_nil]); first | done | rfl | (simp only [List.length_drop, List.length_take]; rfl)) ?_; (with_reducible refine (modp_Log.calls kj7 t268 t269 t270 t282 t283 _ A23.out).mono ?_); rintro e w' ⟨rfl, ⟨nd, rfl⟩⟩; refine ⟨_, rfl, ?_⟩) | ((with_reducible refine gate_callee (f := 26) rfl ?_); refine goesL_ (some 100) rfl rfl Try.func26 (by kernel_rfl) rfl #[.int .i64 t268, .int .i64 a1, .int .i64 a2] rfl (by (try simp only [List.map_toArray, List.map_cons, List.map_nil]); first | done | rfl | (simp only [List.length_drop, List.length_take]; rfl)) ?_; (with_reducible refine (modp_Div.calls kj7 t268 a1 a2 t284 t285 _ A24.out).mono ?_); rintro e w' ⟨rfl, ⟨nd, rfl⟩⟩; refine ⟨_, rfl, ?_⟩) | ((with_reducible refine gate_callee (f := 26) rfl ?_); refine goesL_ (some 107) rfl rfl Try.func26 (by kernel_rfl) rfl #[.int .i64 t268, .int .i64 t269, .int .i64 t270] rfl (by (try simp only [List.map_toArray, List.map_cons, List.map_nil]); first | done | rfl | (simp only [List.length_drop, List.length_take]; rfl)) ?_; (with_reducible refine (modp_Div.calls kj7 t268 t269 t270 t286 t287 _ A25.out).mono ?_); rintro e w' ⟨rfl, ⟨nd, rfl⟩⟩; refine ⟨_, rfl, ?_⟩))
                    go_ret
                    exact ⟨by first | rfl | (simp [errW_none, errW_some] <;> rfl) | (simp [*, errW_none, errW_some] <;> rfl), by repeat (first | (with_reducible first | exact HB.out | apply below_alloc | apply pw_below_drewN | apply below_drew1) | exact HB.out)⟩
              · rw [if_neg c29] at H
                have c29b0 : (t281 == t283) = false := beq_eq_false_iff_ne.mpr c29
                have c29b1 : (t281 != t283) = true := bne_iff_ne.mpr c29
                first
                | with_reducible exact absurd ((Option.some.inj H).trans hrt.out) Bool.false_ne_true
                | skip
                  obtain rfl := Option.some.inj H
                  go_wp2_with (first | ((with_reducible refine gate_callee (f := 18) rfl ?_); refine goesL_ (some 72) rfl rfl Try.func18 (by kernel_rfl) rfl #[.int .i64 t268, .int .i64 a1, .int .i64 a3] rfl (by (try simp only [List.map_toArray, List.map_cons, List.map_nil]); first | done | rfl | (simp only [List.length_drop, List.length_take]; rfl)) ?_; (with_reducible refine (modp_Pow.calls kj7 t268 a1 a3 t276 t277 _ A20.out).mono ?_); rintro e w' ⟨rfl, ⟨nd, rfl⟩⟩; refine ⟨_, rfl, ?_⟩) | ((with_reducible refine gate_callee (f := 18) rfl ?_); refine goesL_ (some 79) rfl rfl Try.func18 (by kernel_rfl) rfl #[.int .i64 t268, .int .i64 t269, .int .i64 a3] rfl (by (try simp only [List.map_toArray, List.map_cons, List.map_nil]); first | done | rfl | (simp only [List.length_drop, List.length_take]; rfl)) ?_; (with_reducible refine (modp_Pow.calls kj7 t268 t269 a3 t278 t279 _ A21.out).mono ?_); rintro e w' ⟨rfl, ⟨nd, rfl⟩⟩; refine ⟨_, rfl, ?_⟩) | ((with_reducible refine gate_callee (f := 28) rfl ?_); refine goesL_ (some 86) rfl rfl Try.func28 (by kernel_rfl) rfl #[.int .i64 t268, .int .i64 a1, .int .i64 a2] rfl (by (try simp only [List.map_toArray, List.map_cons, List.map_nil]); first | done | rfl | (simp only [List.length_drop, List.length_take]; rfl)) ?_; (with_reducible refine (modp_Log.calls kj7 t268 a1 a2 t280 t281 _ A22.out).mono ?_); rintro e w' ⟨rfl, ⟨nd, rfl⟩⟩; refine ⟨_, rfl, ?_⟩) | ((with_reducible refine gate_callee (f := 28) rfl ?_); refine goesL_ (some 93) rfl rfl Try.func28 (by kernel_rfl) rfl #[.int .i64 t268, .int .i64 t269, .int .i64 t270] rfl (by (try simp only [List.map_toArray, List.map_cons, List.map_nil]); first | done | rfl | (simp only [List.length_drop, List.length_take]; rfl)) ?_; (with_reducible refine (modp_Log.calls kj7 t268 t269 t270 t282 t283 _ A23.out).mono ?_); rintro e w' ⟨rfl, ⟨nd, rfl⟩⟩; refine ⟨_, rfl, ?_⟩) | ((with_reducible refine gate_callee (f := 26) rfl ?_); refine goesL_ (some 100) rfl rfl Try.func26 (by kernel_rfl) rfl #[.int .i64 t268, .int .i64 a1, .int .i64 a2] rfl (by (try simp only [List.map_toArray, List.map_cons, List.map_nil]); first | done | rfl | (simp only [List.length_drop, List.length_take]; rfl)) ?_; (with_reducible refine (modp_Div.calls kj7 t268 a1 a2 t284 t285 _ A24.out).mono ?_); rintro e w' ⟨rfl, ⟨nd, rfl⟩⟩; refine ⟨_, rfl, ?_⟩) | ((with_reducible refine gate_callee (f := 26) rfl ?_); refine goesL_ (some 107) rfl rfl Try.func26 (by kernel_rfl) rfl #[.int .i64 t268, .int .i64 t269, .int .i64 t270] rfl (by (try simp only [List.map_toArray, List.map_cons, List.map_nil]); first | done | rfl | (simp only [List.length_drop, List.length_take]; rfl)) ?_; (with_reducible refine (modp_Div.calls kj7 t268 t269 t270 t286 t287 _ A25.out).mono ?_); rintro e w' ⟨rfl, ⟨nd, rfl⟩⟩; refine ⟨_, rfl, ?_⟩))
                  go_ret
                  exact ⟨by first | rfl | (simp [errW_none, errW_some] <;> rfl) | (simp [*, errW_none, errW_some] <;> rfl), by repeat (first | (with_reducible first | exact HB.out | apply below_alloc | apply pw_below_drewN | apply below_drew1) | exact HB.out)⟩
            · rw [if_neg c28] at H
              have c28b0 : (t280 == t282) = false := beq_eq_false_iff_ne.mpr c28
              have c28b1 : (t280 != t282) = true := bne_iff_ne.mpr c28
              first
              | with_reducible exact absurd ((Option.some.inj H).trans hrt.out) Bool.false_ne_true
              | skip
                obtain rfl := Option.some.inj H
                go_wp2_with (first | ((with_reducible refine gate_callee (f := 18) rfl ?_); refine goesL_ (some 72) rfl rfl Try.func18 (by kernel_rfl) rfl #[.int .i64 t268, .int .i64 a1, .int .i64 a3] rfl (by (try simp only [List.map_toArray, List.map_cons, List.map_nil]); first | done | rfl | (simp only [List.length_drop, List.length_take]; rfl)) ?_; (with_reducible refine (modp_Pow.calls kj7 t268 a1 a3 t276 t277 _ A20.out).mono ?_); rintro e w' ⟨rfl, ⟨nd, rfl⟩⟩; refine ⟨_, rfl, ?_⟩) | ((with_reducible refine gate_callee (f := 18) rfl ?_); refine goesL_ (some 79) rfl rfl Try.func18 (by kernel_rfl) rfl #[.int .i64 t268, .int .i64 t269, .int .i64 a3] rfl (by (try simp only [List.map_toArray, List.map_cons, List.map_nil]); first | done | rfl | (simp only [List.length_drop, List.length_take]; rfl)) ?_; (with_reducible refine (modp_Pow.calls kj7 t268 t269 a3 t278 t279 _ A21.out).mono ?_); rintro e w' ⟨rfl, ⟨nd, rfl⟩⟩; refine ⟨_, rfl, ?_⟩) | ((with_reducible refine gate_callee (f := 28) rfl ?_); refine goesL_ (some 86) rfl rfl Try.func28 (by kernel_rfl) rfl #[.int .i64 t268, .int .i64 a1, .int .i64 a2] rfl (by (try simp only [List.map_toArray, List.map_cons, List.map_nil]); first | done | rfl | (simp only [List.length_drop, List.length_take]; rfl)) ?_; (with_reducible refine (modp_Log.calls kj7 t268 a1 a2 t280 t281 _ A22.out).mono ?_); rintro e w' ⟨rfl, ⟨nd, rfl⟩⟩; refine ⟨_, rfl, ?_⟩) | ((with_reducible refine gate_callee (f := 28) rfl ?_); refine goesL_ (some 93) rfl rfl Try.func28 (by kernel_rfl) rfl #[.int .i64 t268, .int .i64 t269, .int .i64 t270] rfl (by (try simp only [List.map_toArray, List.map_cons, List.map_nil]); first | done | rfl | (simp only [List.length_drop, List.length_take]; rfl)) ?_; (with_reducible refine (modp_Log.calls kj7 t268 t269 t270 t282 t283 _ A23.out).mono ?_); rintro e w' ⟨rfl, ⟨nd, rfl⟩⟩; refine ⟨_, rfl, ?_⟩) | ((with_reducible refine gate_callee (f := 26) rfl ?_); refine goesL_ (some 100) rfl rfl Try.func26 (by kernel_rfl) rfl #[.int .i64 t268, .int .i64 a1, .int .i64 a2] rfl (by (try simp only [List.map_toArray, List.map_cons, List.map_nil]); first | done | rfl | (simp only [List.length_drop, List.length_take]; rfl)) ?_; (with_reducible refine (modp_Div.calls kj7 t268 a1 a2 t284 t285 _ A24.out).mono ?_); rintro e w' ⟨rfl, ⟨nd, rfl⟩⟩; refine ⟨_, rfl, ?_⟩) | ((with_reducible refine gate_callee (f := 26) rfl ?_); refine goesL_ (some 107) rfl rfl Try.func26 (by kernel_rfl) rfl #[.int .i64 t268, .int .i64 t269, .int .i64 t270] rfl (by (try simp only [List.map_toArray, List.map_cons, List.map_nil]); first | done | rfl | (simp only [List.length_drop, List.length_take]; rfl)) ?_; (with_reducible refine (modp_Div.calls kj7 t268 t269 t270 t286 t287 _ A25.out).mono ?_); rintro e w' ⟨rfl, ⟨nd, rfl⟩⟩; refine ⟨_, rfl, ?_⟩))
                go_ret
                exact ⟨by first | rfl | (simp [errW_none, errW_some] <;> rfl) | (simp [*, errW_none, errW_some] <;> rfl), by repeat (first | (with_reducible first | exact HB.out | apply below_alloc | apply pw_below_drewN | apply below_drew1) | exact HB.out)⟩
          · rw [if_neg c27] at H
            have c27b0 : (t277 == t279) = false := beq_eq_false_iff_ne.mpr c27
            have c27b1 : (t277 != t279) = true := bne_iff_ne.mpr c27
            first
            | with_reducible exact absurd ((Option.some.inj H).trans hrt.out) Bool.false_ne_true
            | skip
              obtain rfl := Option.some.inj H
              go_wp2_with (first | ((with_reducible refine gate_callee (f := 18) rfl ?_); refine goesL_ (some 72) rfl rfl Try.func18 (by kernel_rfl) rfl #[.int .i64 t268, .int .i64 a1, .int .i64 a3] rfl (by (try simp only [List.map_toArray, List.map_cons, List.map_nil]); first | done | rfl | (simp only [List.length_drop, List.length_take]; rfl)) ?_; (with_reducible refine (modp_Pow.calls kj7 t268 a1 a3 t276 t277 _ A20.out).mono ?_); rintro e w' ⟨rfl, ⟨nd, rfl⟩⟩; refine ⟨_, rfl, ?_⟩) | ((with_reducible refine gate_callee (f := 18) rfl ?_); refine goesL_ (some 79) rfl rfl Try.func18 (by kernel_rfl) rfl #[.int .i64 t268, .int .i64 t269, .int .i64 a3] rfl (by (try simp only [List.map_toArray, List.map_cons, List.map_nil]); first | done | rfl | (simp only [List.length_drop, List.length_take]; rfl)) ?_; (with_reducible refine (modp_Pow.calls kj7 t268 t269 a3 t278 t279 _ A21.out).mono ?_); rintro e w' ⟨rfl, ⟨nd, rfl⟩⟩; refine ⟨_, rfl, ?_⟩) | ((with_reducible refine gate_callee (f := 28) rfl ?_); refine goesL_ (some 86) rfl rfl Try.func28 (by kernel_rfl) rfl #[.int .i64 t268, .int .i64 a1, .int .i64 a2] rfl (by (try simp only [List.map_toArray, List.map_cons, List.map_nil]); first | done | rfl | (simp only [List.length_drop, List.length_take]; rfl)) ?_; (with_reducible refine (modp_Log.calls kj7 t268 a1 a2 t280 t281 _ A22.out).mono ?_); rintro e w' ⟨rfl, ⟨nd, rfl⟩⟩; refine ⟨_, rfl, ?_⟩) | ((with_reducible refine gate_callee (f := 28) rfl ?_); refine goesL_ (some 93) rfl rfl Try.func28 (by kernel_rfl) rfl #[.int .i64 t268, .int .i64 t269, .int .i64 t270] rfl (by (try simp only [List.map_toArray, List.map_cons, List.map_nil]); first | done | rfl | (simp only [List.length_drop, List.length_take]; rfl)) ?_; (with_reducible refine (modp_Log.calls kj7 t268 t269 t270 t282 t283 _ A23.out).mono ?_); rintro e w' ⟨rfl, ⟨nd, rfl⟩⟩; refine ⟨_, rfl, ?_⟩) | ((with_reducible refine gate_callee (f := 26) rfl ?_); refine goesL_ (some 100) rfl rfl Try.func26 (by kernel_rfl) rfl #[.int .i64 t268, .int .i64 a1, .int .i64 a2] rfl (by (try simp only [List.map_toArray, List.map_cons, List.map_nil]); first | done | rfl | (simp only [List.length_drop, List.length_take]; rfl)) ?_; (with_reducible refine (modp_Div.calls kj7 t268 a1 a2 t284 t285 _ A24.out).mono ?_); rintro e w' ⟨rfl, ⟨nd, rfl⟩⟩; refine ⟨_, rfl, ?_⟩) | ((with_reducible refine gate_callee (f := 26) rfl ?_); refine goesL_ (some 107) rfl rfl Try.func26 (by kernel_rfl) rfl #[.int .i64 t268, .int .i64 t269, .int .i64 t270] rfl (by (try simp only [List.map_toArray, List.map_cons, List.map_nil]); first | done | rfl | (simp only [List.length_drop, List.length_take]; rfl)) ?_; (with_reducible refine (modp_Div.calls kj7 t268 t269 t270 t286 t287 _ A25.out).mono ?_); rintro e w' ⟨rfl, ⟨nd, rfl⟩⟩; refine ⟨_, rfl, ?_⟩))
              go_ret
              exact ⟨by first | rfl | (simp [errW_none, errW_some] <;> rfl) | (simp [*, errW_none, errW_some] <;> rfl), by repeat (first | (with_reducible first | exact HB.out | apply below_alloc | apply pw_below_drewN | apply below_drew1) | exact HB.out)⟩
        · rw [if_neg c26] at H
          have c26b0 : (t276 == t278) = false := beq_eq_false_iff_ne.mpr c26
          have c26b1 : (t276 != t278) = true := bne_iff_ne.mpr c26
          first
          | with_reducible exact absurd ((Option.some.inj H).trans hrt.out) Bool.false_ne_true
          | skip
            obtain rfl := Option.some.inj H
            go_wp2_with (first | ((with_reducible refine gate_callee (f := 18) rfl ?_); refine goesL_ (some 72) rfl rfl Try.func18 (by kernel_rfl) rfl #[.int .i64 t268, .int .i64 a1, .int .i64 a3] rfl (by (try simp only [List.map_toArray, List.map_cons, List.map_nil]); first | done | rfl | (simp only [List.length_drop, List.length_take]; rfl)) ?_; (with_reducible refine (modp_Pow.calls kj7 t268 a1 a3 t276 t277 _ A20.out).mono ?_); rintro e w' ⟨rfl, ⟨nd, rfl⟩⟩; refine ⟨_, rfl, ?_⟩) | ((with_reducible refine gate_callee (f := 18) rfl ?_); refine goesL_ (some 79) rfl rfl Try.func18 (by kernel_rfl) rfl #[.int .i64 t268, .int .i64 t269, .int .i64 a3] rfl (by (try simp only [List.map_toArray, List.map_cons, List.map_nil]); first | done | rfl | (simp only [List.length_drop, List.length_take]; rfl)) ?_; (with_reducible refine (modp_Pow.calls kj7 t268 t269 a3 t278 t279 _ A21.out).mono ?_); rintro e w' ⟨rfl, ⟨nd, rfl⟩⟩; refine ⟨_, rfl, ?_⟩) | ((with_reducible refine gate_callee (f := 28) rfl ?_); refine goesL_ (some 86) rfl rfl Try.func28 (by kernel_rfl) rfl #[.int .i64 t268, .int .i64 a1, .int .i64 a2] rfl (by (try simp only [List.map_toArray, List.map_cons, List.map_nil]); first | done | rfl | (simp only [List.length_drop, List.length_take]; rfl)) ?_; (with_reducible refine (modp_Log.calls kj7 t268 a1 a2 t280 t281 _ A22.out).mono ?_); rintro e w' ⟨rfl, ⟨nd, rfl⟩⟩; refine ⟨_, rfl, ?_⟩) | ((with_reducible refine gate_callee (f := 28) rfl ?_); refine goesL_ (some 93) rfl rfl Try.func28 (by kernel_rfl) rfl #[.int .i64 t268, .int .i64 t269, .int .i64 t270] rfl (by (try simp only [List.map_toArray, List.map_cons, List.map_nil]); first | done | rfl | (simp only [List.length_drop, List.length_take]; rfl)) ?_; (with_reducible refine (modp_Log.calls kj7 t268 t269 t270 t282 t283 _ A23.out).mono ?_); rintro e w' ⟨rfl, ⟨nd, rfl⟩⟩; refine ⟨_, rfl, ?_⟩) | ((with_reducible refine gate_callee (f := 26) rfl ?_); refine goesL_ (some 100) rfl rfl Try.func26 (by kernel_rfl) rfl #[.int .i64 t268, .int .i64 a1, .int .i64 a2] rfl (by (try simp only [List.map_toArray, List.map_cons, List.map_nil]); first | done | rfl | (simp only [List.length_drop, List.length_take]; rfl)) ?_; (with_reducible refine (modp_Div.calls kj7 t268 a1 a2 t284 t285 _ A24.out).mono ?_); rintro e w' ⟨rfl, ⟨nd, rfl⟩⟩; refine ⟨_, rfl, ?_⟩) | ((with_reducible refine gate_callee (f := 26) rfl ?_); refine goesL_ (some 107) rfl rfl Try.func26 (by kernel_rfl) rfl #[.int .i64 t268, .int .i64 t269, .int .i64 t270] rfl (by (try simp only [List.map_toArray, List.map_cons, List.map_nil]); first | done | rfl | (simp only [List.length_drop, List.length_take]; rfl)) ?_; (with_reducible refine (modp_Div.calls kj7 t268 t269 t270 t286 t287 _ A25.out).mono ?_); rintro e w' ⟨rfl, ⟨nd, rfl⟩⟩; refine ⟨_, rfl, ?_⟩))
            go_ret
            exact ⟨by first | rfl | (simp [errW_none, errW_some] <;> rfl) | (simp [*, errW_none, errW_some] <;> rfl), by repeat (first | (with_reducible first | exact HB.out | apply below_alloc | apply pw_below_drewN | apply below_drew1) | exact HB.out)⟩

/-- THE ONE PURE STATEMENT of toruslaw01_ModpResidues: yours. -/
def toruslaw01_ModpResidues.Pure : Prop := ∀ (a0 : Int) (a1 : Int) (a2 : Int) (a3 : Int), (Lit.int .i64 a0).wf = true → (Lit.int .i64 a1).wf = true → (Lit.int .i64 a2).wf = true → (Lit.int .i64 a3).wf = true → ∃ k, toruslaw01_ModpResidues.f k a0 a1 a2 a3 = some true
theorem toruslaw01_ModpResidues.walk (P : toruslaw01_ModpResidues.Pure) (a0 : Int) (a1 : Int) (a2 : Int) (a3 : Int) (w : World) (w0 : (Lit.int .i64 a0).wf = true) (w1 : (Lit.int .i64 a1).wf = true) (w2 : (Lit.int .i64 a2).wf = true) (w3 : (Lit.int .i64 a3).wf = true) :
    Calls Try.prog 7 #[.int .i64 a0, .int .i64 a1, .int .i64 a2, .int .i64 a3] w fun e w' => e = .returned (.bool true) ∧ Below w.heap.size w w' := by
  obtain ⟨k, h⟩ := P a0 a1 a2 a3 w0 w1 w2 w3
  refine (toruslaw01_ModpResidues.calls k a0 a1 a2 a3 true w ⟨rfl⟩ h).mono ?_
  rintro e w' ⟨rfl, hd⟩
  exact ⟨rfl, hd⟩

/-! ### modp_field_order: function 51 -/
def modp_field_order.l0 : Nat → Int → Int → Int → Int → Option (Int)
  | 0, _, _, _, _ => none
  | k + 1, x0, x1, x5, x6 => if x6 = 1 then (some x5) else ((modp_field_rest.f x0 x1).bind fun t290 => (if x0 = 0 then (none) else (modp_field_order.l0 k x0 x1 (wrap64 (x5 + 1)) (Int.tmod (wrap64 (x6 * t290)) x0))))
def modp_field_order.f (k : Nat) (a0 : Int) (a1 : Int) : Option (Int) := (modp_field_rest.f a0 a1).bind fun t289 => (modp_field_order.l0 k a0 a1 1 t289)
theorem modp_field_order.mono_l : ∀ k, (∀ y0 y1 y2 y3, LeO (modp_field_order.l0 k y0 y1 y2 y3) (modp_field_order.l0 (k + 1) y0 y1 y2 y3))
  | 0 => fun _ _ _ _ r h => by simp [modp_field_order.l0] at h
  | k + 1 => by
    have ih0 := modp_field_order.mono_l k
    · intro y0 y1 y2 y3
      unfold modp_field_order.l0
      repeat' first
      | (with_reducible exact ih0 _ _ _ _)
      | (with_reducible exact LeO.refl _)
      | (with_reducible exact LeO.none _)
      | (with_reducible refine LeO.ite ?_ ?_)
      | (with_reducible refine LeO.bind ?_ (fun _ => ?_))
      | exact ih0 _ _ _ _
      | exact LeO.none _
      | refine LeO.ite ?_ ?_
      | refine LeO.bind ?_ (fun _ => ?_)
theorem modp_field_order.mono : ∀ a0 a1 k, LeO (modp_field_order.f k a0 a1) (modp_field_order.f (k + 1) a0 a1) := by
  intro a0 a1 k
  have ih0 := modp_field_order.mono_l k
  unfold modp_field_order.f
  repeat' first
      | (with_reducible exact ih0 _ _ _ _)
      | (with_reducible exact LeO.refl _)
      | (with_reducible exact LeO.none _)
      | (with_reducible refine LeO.ite ?_ ?_)
      | (with_reducible refine LeO.bind ?_ (fun _ => ?_))
      | exact ih0 _ _ _ _
      | exact LeO.none _
      | refine LeO.ite ?_ ?_
      | refine LeO.bind ?_ (fun _ => ?_)
set_option maxHeartbeats 8000000 in
set_option maxRecDepth 100000 in
theorem modp_field_order.calls (k : Nat) (a0 : Int) (a1 : Int) (r : Int) (w : World) (h : modp_field_order.f k a0 a1 = some r) :
    Calls Try.prog 51 #[.int .i64 a0, .int .i64 a1] w fun e w' => e = .returned (.int .i64 r) ∧ Drawn0 w w' := by
  have H : ((modp_field_rest.f a0 a1).bind fun t289 => (modp_field_order.l0 k a0 a1 1 t289)) = some r := h
  clear h
  replace H := Option.bind_eq_some_iff.mp H
  obtain ⟨t289, A30, H⟩ := H
  replace H : (modp_field_order.l0 k a0 a1 1 t289) = some r := H
  have A3 := Aside0.mk A30
  clear A30
  have H' := Aside0.mk H
  clear H
  go_enter Try.func51, Try.ntmps51
  go_wp2_with (first | ((with_reducible refine gate_callee (f := 48) rfl ?_); refine goesL_ (some 9) rfl rfl Try.func48 (by kernel_rfl) rfl #[.int .i64 a0, .int .i64 a1] rfl (by (try simp only [List.map_toArray, List.map_cons, List.map_nil]); first | done | rfl | (simp only [List.length_drop, List.length_take]; rfl)) ?_; (with_reducible refine (modp_field_rest.calls a0 a1 t289 _ A3.out).mono ?_); rintro e w' ⟨rfl, ⟨nd, rfl⟩⟩; refine ⟨_, rfl, ?_⟩))
  go_loopg [5, 6] k (fun kq v5 v6 w' => ∃ (x5_1 : Int) (x6_1 : Int), v5 = .int .i64 x5_1 ∧ v6 = .int .i64 x6_1 ∧ Aside0 (modp_field_order.l0 kq a0 a1 x5_1 x6_1 = some r) ∧ Aside0 (kq ≤ k) ∧ Drawn0 w w')
  case atStart => exact ⟨(1), (t289), (by first | rfl | (simp; done) | (simp [*]; done)), (by first | rfl | (simp; done) | (simp [*]; done)), H', ⟨Nat.le_refl _⟩, by repeat (first | exact Drawn0.refl _ | apply Drawn0.step)⟩
  case round =>
    clear H'
    try clear p2
    obtain ⟨x5_1, x6_1, rfl, rfl, HA, HK1, ⟨m1, rfl⟩⟩ := hrel
    cases gk with
    | zero => exact absurd HA.out (by simp [modp_field_order.l0])
    | succ k1 =>
      have H := HA.out
      clear HA
      simp only [modp_field_order.l0] at H
      by_cases c4 : x6_1 = 1
      · rw [if_pos c4] at H
        have c4b0 : (x6_1 == 1) = true := beq_iff_eq.mpr c4
        have c4b1 : (x6_1 != 1) = false := bne_eq_false_iff_eq.mpr c4
        clear c4
        obtain rfl := Option.some.inj H
        go_wp2
        go_ret
        exact ⟨by first | rfl | (simp; done) | (simp [*]; done), by repeat (first | exact Drawn0.refl _ | apply Drawn0.step)⟩
      · rw [if_neg c4] at H
        have c4b0 : (x6_1 == 1) = false := beq_eq_false_iff_ne.mpr c4
        have c4b1 : (x6_1 != 1) = true := bne_iff_ne.mpr c4
        replace H := Option.bind_eq_some_iff.mp H
        obtain ⟨t290, A50, H⟩ := H
        replace H : (if a0 = 0 then (none) else (modp_field_order.l0 k1 a0 a1 (wrap64 (x5_1 + 1)) (Int.tmod (wrap64 (x6_1 * t290)) a0))) = some r := H
        have A5 := Aside0.mk A50
        clear A50
        by_cases c6 : a0 = 0
        · rw [if_pos c6] at H
          exact absurd H (by simp)
        · rw [if_neg c6] at H
          have c6b0 : (a0 == 0) = false := beq_eq_false_iff_ne.mpr c6
          have c6b1 : (a0 != 0) = true := bne_iff_ne.mpr c6
          have H' := Aside0.mk H
          clear H
          go_wp2_with (first | ((with_reducible refine gate_callee (f := 48) rfl ?_); refine goesL_ (some 17) rfl rfl Try.func48 (by kernel_rfl) rfl #[.int .i64 a0, .int .i64 a1] rfl (by (try simp only [List.map_toArray, List.map_cons, List.map_nil]); first | done | rfl | (simp only [List.length_drop, List.length_take]; rfl)) ?_; (with_reducible refine (modp_field_rest.calls a0 a1 t290 _ A5.out).mono ?_); rintro e w' ⟨rfl, ⟨nd, rfl⟩⟩; refine ⟨_, rfl, ?_⟩))
          go_roundg k1
          case measure => have := HK1.out; omega
          case rel => exact ⟨(wrap64 (x5_1 + 1)), (Int.tmod (wrap64 (x6_1 * t290)) a0), (by first | rfl | (simp; done) | (simp [*]; done)), (by first | rfl | (simp; done) | (simp [*]; done)), H', ⟨by have := HK1.out; omega⟩, by repeat (first | exact Drawn0.refl _ | apply Drawn0.step)⟩

/-! ### modp_Order: function 30 -/
def modp_Order.f (k : Nat) (a0 : Int) (a1 : Int) : Option (Int × Int) := (modp_of.f k a0).bind fun bt291 => (if bt291.2 = 0 then ((modp_field_rest.f bt291.1 a1).bind fun t293 => (if t293 = 0 then (some (0, 9)) else ((modp_field_order.f k bt291.1 a1).bind fun t294 => (some (t294, 0))))) else (some (0, bt291.2)))
theorem modp_Order.mono : ∀ a0 a1 k, LeO (modp_Order.f k a0 a1) (modp_Order.f (k + 1) a0 a1) := by
  intro a0 a1 k
  unfold modp_Order.f
  repeat' first
      | (with_reducible exact modp_field_order.mono _ _ _)
      | (with_reducible exact modp_of.mono _ _)
      | (with_reducible exact LeO.refl _)
      | (with_reducible exact LeO.none _)
      | (with_reducible refine LeO.ite ?_ ?_)
      | (with_reducible refine LeO.bind ?_ (fun _ => ?_))
      | exact modp_field_order.mono _ _ _
      | exact modp_of.mono _ _
      | exact LeO.none _
      | refine LeO.ite ?_ ?_
      | refine LeO.bind ?_ (fun _ => ?_)
set_option maxHeartbeats 8000000 in
set_option maxRecDepth 100000 in
theorem modp_Order.calls (k : Nat) (a0 : Int) (a1 : Int) (r1 : Int) (r2 : Int) (w : World) (h : modp_Order.f k a0 a1 = some (r1, r2)) :
    Calls Try.prog 30 #[.int .i64 a0, .int .i64 a1] w fun e w' => e = .returned (.tuple #[.int .i64 r1, .int .i64 r2]) ∧ Drawn0 w w' := by
  have H : ((modp_of.f k a0).bind fun bt291 => (if bt291.2 = 0 then ((modp_field_rest.f bt291.1 a1).bind fun t293 => (if t293 = 0 then (some (0, 9)) else ((modp_field_order.f k bt291.1 a1).bind fun t294 => (some (t294, 0))))) else (some (0, bt291.2)))) = some (r1, r2) := h
  clear h
  replace H := Option.bind_eq_some_iff.mp H
  obtain ⟨⟨t291, t292⟩, A30, H⟩ := H
  replace H : (if t292 = 0 then ((modp_field_rest.f t291 a1).bind fun t293 => (if t293 = 0 then (some (0, 9)) else ((modp_field_order.f k t291 a1).bind fun t294 => (some (t294, 0))))) else (some (0, t292))) = some (r1, r2) := H
  have A3 := Aside0.mk A30
  clear A30
  by_cases c4 : t292 = 0
  · rw [if_pos c4] at H
    have c4b0 : (t292 == 0) = true := beq_iff_eq.mpr c4
    have c4b1 : (t292 != 0) = false := bne_eq_false_iff_eq.mpr c4
    clear c4
    replace H := Option.bind_eq_some_iff.mp H
    obtain ⟨t293, A50, H⟩ := H
    replace H : (if t293 = 0 then (some (0, 9)) else ((modp_field_order.f k t291 a1).bind fun t294 => (some (t294, 0)))) = some (r1, r2) := H
    have A5 := Aside0.mk A50
    clear A50
    by_cases c6 : t293 = 0
    · rw [if_pos c6] at H
      have c6b0 : (t293 == 0) = true := beq_iff_eq.mpr c6
      have c6b1 : (t293 != 0) = false := bne_eq_false_iff_eq.mpr c6
      clear c6
      simp only [Option.some.injEq, Prod.mk.injEq] at H
      obtain ⟨rfl, rfl⟩ := H
      go_enter Try.func30, Try.ntmps30
      go_wp2_with (first | ((with_reducible refine gate_callee (f := 47) rfl ?_); refine goesL_ (some 10) rfl rfl Try.func47 (by kernel_rfl) rfl #[.int .i64 a0] rfl (by (try simp only [List.map_toArray, List.map_cons, List.map_nil]); first | done | rfl | (simp only [List.length_drop, List.length_take]; rfl)) ?_; (with_reducible refine (modp_of.calls k a0 t291 t292 _ A3.out).mono ?_); rintro e w' ⟨rfl, ⟨nd, rfl⟩⟩; refine ⟨_, rfl, ?_⟩) | ((with_reducible refine gate_callee (f := 48) rfl ?_); refine goesL_ (some 20) rfl rfl Try.func48 (by kernel_rfl) rfl #[.int .i64 t291, .int .i64 a1] rfl (by (try simp only [List.map_toArray, List.map_cons, List.map_nil]); first | done | rfl | (simp only [List.length_drop, List.length_take]; rfl)) ?_; (with_reducible refine (modp_field_rest.calls t291 a1 t293 _ A5.out).mono ?_); rintro e w' ⟨rfl, ⟨nd, rfl⟩⟩; refine ⟨_, rfl, ?_⟩))
      go_ret2
      exact ⟨by first | rfl | (simp; done) | (simp [*]; done), by repeat (first | exact Drawn0.refl _ | apply Drawn0.step)⟩
    · rw [if_neg c6] at H
      have c6b0 : (t293 == 0) = false := beq_eq_false_iff_ne.mpr c6
      have c6b1 : (t293 != 0) = true := bne_iff_ne.mpr c6
      replace H := Option.bind_eq_some_iff.mp H
      obtain ⟨t294, A70, H⟩ := H
      replace H : (some (t294, 0)) = some (r1, r2) := H
      have A7 := Aside0.mk A70
      clear A70
      simp only [Option.some.injEq, Prod.mk.injEq] at H
      obtain ⟨rfl, rfl⟩ := H
      go_enter Try.func30, Try.ntmps30
      go_wp2_with (first | ((with_reducible refine gate_callee (f := 47) rfl ?_); refine goesL_ (some 10) rfl rfl Try.func47 (by kernel_rfl) rfl #[.int .i64 a0] rfl (by (try simp only [List.map_toArray, List.map_cons, List.map_nil]); first | done | rfl | (simp only [List.length_drop, List.length_take]; rfl)) ?_; (with_reducible refine (modp_of.calls k a0 t291 t292 _ A3.out).mono ?_); rintro e w' ⟨rfl, ⟨nd, rfl⟩⟩; refine ⟨_, rfl, ?_⟩) | ((with_reducible refine gate_callee (f := 48) rfl ?_); refine goesL_ (some 20) rfl rfl Try.func48 (by kernel_rfl) rfl #[.int .i64 t291, .int .i64 a1] rfl (by (try simp only [List.map_toArray, List.map_cons, List.map_nil]); first | done | rfl | (simp only [List.length_drop, List.length_take]; rfl)) ?_; (with_reducible refine (modp_field_rest.calls t291 a1 t293 _ A5.out).mono ?_); rintro e w' ⟨rfl, ⟨nd, rfl⟩⟩; refine ⟨_, rfl, ?_⟩) | ((with_reducible refine gate_callee (f := 51) rfl ?_); refine goesL_ (some 24) rfl rfl Try.func51 (by kernel_rfl) rfl #[.int .i64 t291, .int .i64 a1] rfl (by (try simp only [List.map_toArray, List.map_cons, List.map_nil]); first | done | rfl | (simp only [List.length_drop, List.length_take]; rfl)) ?_; (with_reducible refine (modp_field_order.calls k t291 a1 t294 _ A7.out).mono ?_); rintro e w' ⟨rfl, ⟨nd, rfl⟩⟩; refine ⟨_, rfl, ?_⟩))
      go_ret2
      exact ⟨by first | rfl | (simp; done) | (simp [*]; done), by repeat (first | exact Drawn0.refl _ | apply Drawn0.step)⟩
  · rw [if_neg c4] at H
    have c4b0 : (t292 == 0) = false := beq_eq_false_iff_ne.mpr c4
    have c4b1 : (t292 != 0) = true := bne_iff_ne.mpr c4
    simp only [Option.some.injEq, Prod.mk.injEq] at H
    obtain ⟨rfl, rfl⟩ := H
    go_enter Try.func30, Try.ntmps30
    go_wp2_with (first | ((with_reducible refine gate_callee (f := 47) rfl ?_); refine goesL_ (some 10) rfl rfl Try.func47 (by kernel_rfl) rfl #[.int .i64 a0] rfl (by (try simp only [List.map_toArray, List.map_cons, List.map_nil]); first | done | rfl | (simp only [List.length_drop, List.length_take]; rfl)) ?_; (with_reducible refine (modp_of.calls k a0 t291 t292 _ A3.out).mono ?_); rintro e w' ⟨rfl, ⟨nd, rfl⟩⟩; refine ⟨_, rfl, ?_⟩))
    go_ret2
    exact ⟨by first | rfl | (simp; done) | (simp [*]; done), by repeat (first | exact Drawn0.refl _ | apply Drawn0.step)⟩

end Go.Proofs.Ytikbgcpcbhoblaa.PModp
