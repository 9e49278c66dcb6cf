/- Each Go function named below, as a plain Lean function, with a proof that the Go code computes just that; conditions: those that each theorem states. Written by a program of this session (wip/xprint, over the print of the kit). -/
import Derived.Test.YtikbgcpcbhoblaaPModpx0
import Derived.Test.YtikbgcpcbhoblaaPModpx1
import Derived.Test.YtikbgcpcbhoblaaPModpx2
import Derived.Test.YtikbgcpcbhoblaaPModpx3
import Derived.Test.YtikbgcpcbhoblaaPModpx5
import Derived.Test.YtikbgcpcbhoblaaPModpx6
namespace Go.Proofs.Ytikbgcpcbhoblaa.PModp
open Go.RowKit Go.Proofs.YtikbgcpcbhoblaaW.PrintWords Go.Proofs.YtikbgcpcbhoblaaW.PrintLast Go.Proofs.YtikbgcpcbhoblaaW.PrintMore
attribute [local go_sem] max2_int min2_int max_two min_two max_three min_three max_four min_four   -- for this text's walks alone
set_option linter.unusedVariables false
set_option linter.unusedSimpArgs false

/-! ### toruslaw01_ModpOrders: function 8 -/
def toruslaw01_ModpOrders.j0 : Nat → Int → Int → Int → Int → Int → Int → Bool → Option (Bool)
  | 0, _, _, _, _, _, _, _ => none
  | k + 1, x1, x2, x7, x8, x14, x18, x112 => if x112 = true then (some false) else ((toruslaw01_power.f k x7 x1 x2).bind fun t310 => (if x14 = 0 then (none) else (if ((t310 == 1) == ((Int.tmod x2 x14) == 0)) = true then ((toruslaw01_power.f k x7 x8 x18).bind fun t311 => ((modp_Mod.f k x7 x1).bind fun t312 => (if t311 = t312 then ((toruslaw01_awake.f k).bind fun t313 => (some t313)) else (some false)))) else (some false))))
def toruslaw01_ModpOrders.f (k : Nat) (a0 : Int) (a1 : Int) (a2 : Int) : Option (Bool) := (torusref01_Field.f k a0).bind fun t295 => ((modp_Generator.f k t295).bind fun bt296 => ((modp_Mod.f k t295 a1).bind fun t298 => (if t298 = 0 then ((modp_Order.f k t295 a1).bind fun bt299 => ((modp_Log.f k t295 bt296.1 a1).bind fun bt301 => (if bt299.2 = 9 then (if bt301.2 = 9 then ((toruslaw01_awake.f k).bind fun t303 => (some t303)) else (some false)) else (some false)))) else ((modp_Order.f k t295 a1).bind fun bt304 => ((modp_Order.f k t295 bt296.1).bind fun bt306 => ((modp_Log.f k t295 bt296.1 a1).bind fun bt308 => (if bt296.2 = 0 then (if bt304.2 = 0 then (if bt306.2 = 0 then (if bt308.2 = 0 then (if bt306.1 = (wrap64 (t295 - 1)) then (if bt304.1 < 1 then (toruslaw01_ModpOrders.j0 k a1 a2 t295 bt296.1 bt304.1 bt308.1 true) else (if bt304.1 = 0 then (none) else (if (Int.tmod (wrap64 (t295 - 1)) bt304.1) = 0 then (if bt308.1 < 0 then (toruslaw01_ModpOrders.j0 k a1 a2 t295 bt296.1 bt304.1 bt308.1 true) else (toruslaw01_ModpOrders.j0 k a1 a2 t295 bt296.1 bt304.1 bt308.1 (decide (bt308.1 ≥ (wrap64 (t295 - 1)))))) else (toruslaw01_ModpOrders.j0 k a1 a2 t295 bt296.1 bt304.1 bt308.1 true)))) else (toruslaw01_ModpOrders.j0 k a1 a2 t295 bt296.1 bt304.1 bt308.1 true)) else (toruslaw01_ModpOrders.j0 k a1 a2 t295 bt296.1 bt304.1 bt308.1 true)) else (toruslaw01_ModpOrders.j0 k a1 a2 t295 bt296.1 bt304.1 bt308.1 true)) else (toruslaw01_ModpOrders.j0 k a1 a2 t295 bt296.1 bt304.1 bt308.1 true)) else (toruslaw01_ModpOrders.j0 k a1 a2 t295 bt296.1 bt304.1 bt308.1 true))))))))
theorem toruslaw01_ModpOrders.mono_l : ∀ k, (∀ y0 y1 y2 y3 y4 y5 y6, LeO (toruslaw01_ModpOrders.j0 k y0 y1 y2 y3 y4 y5 y6) (toruslaw01_ModpOrders.j0 (k + 1) y0 y1 y2 y3 y4 y5 y6))
  | 0 => fun _ _ _ _ _ _ _ r h => by simp [toruslaw01_ModpOrders.j0] at h
  | k + 1 => by
    have ih0 := toruslaw01_ModpOrders.mono_l k
    · intro y0 y1 y2 y3 y4 y5 y6
      unfold toruslaw01_ModpOrders.j0
      repeat' first
      | (with_reducible exact ih0 _ _ _ _ _ _ _)
      | (with_reducible exact modp_Generator.mono _ _)
      | (with_reducible exact modp_Log.mono _ _ _ _)
      | (with_reducible exact modp_Mod.mono _ _ _)
      | (with_reducible exact modp_Order.mono _ _ _)
      | (with_reducible exact toruslaw01_awake.mono _)
      | (with_reducible exact toruslaw01_power.mono _ _ _ _)
      | (with_reducible exact torusref01_Field.mono _ _)
      | (with_reducible exact LeO.refl _)
      | (with_reducible exact LeO.none _)
      | (with_reducible refine LeO.ite ?_ ?_)
      | (with_reducible refine LeO.bind ?_ (fun _ => ?_))
      | exact ih0 _ _ _ _ _ _ _
      | exact modp_Generator.mono _ _
      | exact modp_Log.mono _ _ _ _
      | exact modp_Mod.mono _ _ _
      | exact modp_Order.mono _ _ _
      | exact toruslaw01_awake.mono _
      | exact toruslaw01_power.mono _ _ _ _
      | exact torusref01_Field.mono _ _
      | exact LeO.none _
      | refine LeO.ite ?_ ?_
      | refine LeO.bind ?_ (fun _ => ?_)
theorem toruslaw01_ModpOrders.mono : ∀ a0 a1 a2 k, LeO (toruslaw01_ModpOrders.f k a0 a1 a2) (toruslaw01_ModpOrders.f (k + 1) a0 a1 a2) := by
  intro a0 a1 a2 k
  have ih0 := toruslaw01_ModpOrders.mono_l k
  unfold toruslaw01_ModpOrders.f
  repeat' first
      | (with_reducible exact ih0 _ _ _ _ _ _ _)
      | (with_reducible exact modp_Generator.mono _ _)
      | (with_reducible exact modp_Log.mono _ _ _ _)
      | (with_reducible exact modp_Mod.mono _ _ _)
      | (with_reducible exact modp_Order.mono _ _ _)
      | (with_reducible exact toruslaw01_awake.mono _)
      | (with_reducible exact toruslaw01_power.mono _ _ _ _)
      | (with_reducible exact torusref01_Field.mono _ _)
      | (with_reducible exact LeO.refl _)
      | (with_reducible exact LeO.none _)
      | (with_reducible refine LeO.ite ?_ ?_)
      | (with_reducible refine LeO.bind ?_ (fun _ => ?_))
      | exact ih0 _ _ _ _ _ _ _
      | exact modp_Generator.mono _ _
      | exact modp_Log.mono _ _ _ _
      | exact modp_Mod.mono _ _ _
      | exact modp_Order.mono _ _ _
      | exact toruslaw01_awake.mono _
      | exact toruslaw01_power.mono _ _ _ _
      | exact torusref01_Field.mono _ _
      | exact LeO.none _
      | refine LeO.ite ?_ ?_
      | refine LeO.bind ?_ (fun _ => ?_)
theorem toruslaw01_ModpOrders.j0_dead {P_ : Prop} {k_ : Nat} {y0_ : Int} {y1_ : Int} {y2_ : Int} {y3_ : Int} {y4_ : Int} {y5_ : Int} {r : Bool} (hrt : Aside0 (r = true)) (h : toruslaw01_ModpOrders.j0 k_ y0_ y1_ y2_ y3_ y4_ y5_ true = some r) : P_ := by
  have hrt := hrt.out
  cases k_ <;> simp [toruslaw01_ModpOrders.j0, hrt] at h
set_option maxHeartbeats 8000000 in
set_option maxRecDepth 100000 in
theorem toruslaw01_ModpOrders.calls (k : Nat) (a0 : Int) (a1 : Int) (a2 : Int) (r : Bool) (w : World) (hrt : Aside0 (r = true)) (h : toruslaw01_ModpOrders.f k a0 a1 a2 = some r) :
    Calls Try.prog 8 #[.int .i64 a0, .int .i64 a1, .int .i64 a2] w fun e w' => e = .returned (.bool r) ∧ Below w.heap.size w w' := by
  have HB := Aside0.mk (Below.refl w.heap.size w)
  have H : ((torusref01_Field.f k a0).bind fun t295 => ((modp_Generator.f k t295).bind fun bt296 => ((modp_Mod.f k t295 a1).bind fun t298 => (if t298 = 0 then ((modp_Order.f k t295 a1).bind fun bt299 => ((modp_Log.f k t295 bt296.1 a1).bind fun bt301 => (if bt299.2 = 9 then (if bt301.2 = 9 then ((toruslaw01_awake.f k).bind fun t303 => (some t303)) else (some false)) else (some false)))) else ((modp_Order.f k t295 a1).bind fun bt304 => ((modp_Order.f k t295 bt296.1).bind fun bt306 => ((modp_Log.f k t295 bt296.1 a1).bind fun bt308 => (if bt296.2 = 0 then (if bt304.2 = 0 then (if bt306.2 = 0 then (if bt308.2 = 0 then (if bt306.1 = (wrap64 (t295 - 1)) then (if bt304.1 < 1 then (toruslaw01_ModpOrders.j0 k a1 a2 t295 bt296.1 bt304.1 bt308.1 true) else (if bt304.1 = 0 then (none) else (if (Int.tmod (wrap64 (t295 - 1)) bt304.1) = 0 then (if bt308.1 < 0 then (toruslaw01_ModpOrders.j0 k a1 a2 t295 bt296.1 bt304.1 bt308.1 true) else (toruslaw01_ModpOrders.j0 k a1 a2 t295 bt296.1 bt304.1 bt308.1 (decide (bt308.1 ≥ (wrap64 (t295 - 1)))))) else (toruslaw01_ModpOrders.j0 k a1 a2 t295 bt296.1 bt304.1 bt308.1 true)))) else (toruslaw01_ModpOrders.j0 k a1 a2 t295 bt296.1 bt304.1 bt308.1 true)) else (toruslaw01_ModpOrders.j0 k a1 a2 t295 bt296.1 bt304.1 bt308.1 true)) else (toruslaw01_ModpOrders.j0 k a1 a2 t295 bt296.1 bt304.1 bt308.1 true)) else (toruslaw01_ModpOrders.j0 k a1 a2 t295 bt296.1 bt304.1 bt308.1 true)) else (toruslaw01_ModpOrders.j0 k a1 a2 t295 bt296.1 bt304.1 bt308.1 true))))))))) = some r := h
  clear h
  replace H := Option.bind_eq_some_iff.mp H
  obtain ⟨t295, A40, H⟩ := H
  replace H : ((modp_Generator.f k t295).bind fun bt296 => ((modp_Mod.f k t295 a1).bind fun t298 => (if t298 = 0 then ((modp_Order.f k t295 a1).bind fun bt299 => ((modp_Log.f k t295 bt296.1 a1).bind fun bt301 => (if bt299.2 = 9 then (if bt301.2 = 9 then ((toruslaw01_awake.f k).bind fun t303 => (some t303)) else (some false)) else (some false)))) else ((modp_Order.f k t295 a1).bind fun bt304 => ((modp_Order.f k t295 bt296.1).bind fun bt306 => ((modp_Log.f k t295 bt296.1 a1).bind fun bt308 => (if bt296.2 = 0 then (if bt304.2 = 0 then (if bt306.2 = 0 then (if bt308.2 = 0 then (if bt306.1 = (wrap64 (t295 - 1)) then (if bt304.1 < 1 then (toruslaw01_ModpOrders.j0 k a1 a2 t295 bt296.1 bt304.1 bt308.1 true) else (if bt304.1 = 0 then (none) else (if (Int.tmod (wrap64 (t295 - 1)) bt304.1) = 0 then (if bt308.1 < 0 then (toruslaw01_ModpOrders.j0 k a1 a2 t295 bt296.1 bt304.1 bt308.1 true) else (toruslaw01_ModpOrders.j0 k a1 a2 t295 bt296.1 bt304.1 bt308.1 (decide (bt308.1 ≥ (wrap64 (t295 - 1)))))) else (toruslaw01_ModpOrders.j0 k a1 a2 t295 bt296.1 bt304.1 bt308.1 true)))) else (toruslaw01_ModpOrders.j0 k a1 a2 t295 bt296.1 bt304.1 bt308.1 true)) else (toruslaw01_ModpOrders.j0 k a1 a2 t295 bt296.1 bt304.1 bt308.1 true)) else (toruslaw01_ModpOrders.j0 k a1 a2 t295 bt296.1 bt304.1 bt308.1 true)) else (toruslaw01_ModpOrders.j0 k a1 a2 t295 bt296.1 bt304.1 bt308.1 true)) else (toruslaw01_ModpOrders.j0 k a1 a2 t295 bt296.1 bt304.1 bt308.1 true)))))))) = some r := H
  have A4 := Aside0.mk A40
  clear A40
  replace H := Option.bind_eq_some_iff.mp H
  obtain ⟨⟨t296, t297⟩, A50, H⟩ := H
  replace H : ((modp_Mod.f k t295 a1).bind fun t298 => (if t298 = 0 then ((modp_Order.f k t295 a1).bind fun bt299 => ((modp_Log.f k t295 t296 a1).bind fun bt301 => (if bt299.2 = 9 then (if bt301.2 = 9 then ((toruslaw01_awake.f k).bind fun t303 => (some t303)) else (some false)) else (some false)))) else ((modp_Order.f k t295 a1).bind fun bt304 => ((modp_Order.f k t295 t296).bind fun bt306 => ((modp_Log.f k t295 t296 a1).bind fun bt308 => (if t297 = 0 then (if bt304.2 = 0 then (if bt306.2 = 0 then (if bt308.2 = 0 then (if bt306.1 = (wrap64 (t295 - 1)) then (if bt304.1 < 1 then (toruslaw01_ModpOrders.j0 k a1 a2 t295 t296 bt304.1 bt308.1 true) else (if bt304.1 = 0 then (none) else (if (Int.tmod (wrap64 (t295 - 1)) bt304.1) = 0 then (if bt308.1 < 0 then (toruslaw01_ModpOrders.j0 k a1 a2 t295 t296 bt304.1 bt308.1 true) else (toruslaw01_ModpOrders.j0 k a1 a2 t295 t296 bt304.1 bt308.1 (decide (bt308.1 ≥ (wrap64 (t295 - 1)))))) else (toruslaw01_ModpOrders.j0 k a1 a2 t295 t296 bt304.1 bt308.1 true)))) else (toruslaw01_ModpOrders.j0 k a1 a2 t295 t296 bt304.1 bt308.1 true)) else (toruslaw01_ModpOrders.j0 k a1 a2 t295 t296 bt304.1 bt308.1 true)) else (toruslaw01_ModpOrders.j0 k a1 a2 t295 t296 bt304.1 bt308.1 true)) else (toruslaw01_ModpOrders.j0 k a1 a2 t295 t296 bt304.1 bt308.1 true)) else (toruslaw01_ModpOrders.j0 k a1 a2 t295 t296 bt304.1 bt308.1 true))))))) = some r := H
  have A5 := Aside0.mk A50
  clear A50
  replace H := Option.bind_eq_some_iff.mp H
  obtain ⟨t298, A60, H⟩ := H
  replace H : (if t298 = 0 then ((modp_Order.f k t295 a1).bind fun bt299 => ((modp_Log.f k t295 t296 a1).bind fun bt301 => (if bt299.2 = 9 then (if bt301.2 = 9 then ((toruslaw01_awake.f k).bind fun t303 => (some t303)) else (some false)) else (some false)))) else ((modp_Order.f k t295 a1).bind fun bt304 => ((modp_Order.f k t295 t296).bind fun bt306 => ((modp_Log.f k t295 t296 a1).bind fun bt308 => (if t297 = 0 then (if bt304.2 = 0 then (if bt306.2 = 0 then (if bt308.2 = 0 then (if bt306.1 = (wrap64 (t295 - 1)) then (if bt304.1 < 1 then (toruslaw01_ModpOrders.j0 k a1 a2 t295 t296 bt304.1 bt308.1 true) else (if bt304.1 = 0 then (none) else (if (Int.tmod (wrap64 (t295 - 1)) bt304.1) = 0 then (if bt308.1 < 0 then (toruslaw01_ModpOrders.j0 k a1 a2 t295 t296 bt304.1 bt308.1 true) else (toruslaw01_ModpOrders.j0 k a1 a2 t295 t296 bt304.1 bt308.1 (decide (bt308.1 ≥ (wrap64 (t295 - 1)))))) else (toruslaw01_ModpOrders.j0 k a1 a2 t295 t296 bt304.1 bt308.1 true)))) else (toruslaw01_ModpOrders.j0 k a1 a2 t295 t296 bt304.1 bt308.1 true)) else (toruslaw01_ModpOrders.j0 k a1 a2 t295 t296 bt304.1 bt308.1 true)) else (toruslaw01_ModpOrders.j0 k a1 a2 t295 t296 bt304.1 bt308.1 true)) else (toruslaw01_ModpOrders.j0 k a1 a2 t295 t296 bt304.1 bt308.1 true)) else (toruslaw01_ModpOrders.j0 k a1 a2 t295 t296 bt304.1 bt308.1 true)))))) = some r := H
  have A6 := Aside0.mk A60
  clear A60
  by_cases c7 : t298 = 0
  · rw [if_pos c7] at H
    have c7b0 : (t298 == 0) = true := beq_iff_eq.mpr c7
    have c7b1 : (t298 != 0) = false := bne_eq_false_iff_eq.mpr c7
    clear c7
    replace H := Option.bind_eq_some_iff.mp H
    obtain ⟨⟨t299, t300⟩, A80, H⟩ := H
    replace H : ((modp_Log.f k t295 t296 a1).bind fun bt301 => (if t300 = 9 then (if bt301.2 = 9 then ((toruslaw01_awake.f k).bind fun t303 => (some t303)) else (some false)) else (some false))) = some r := H
    have A8 := Aside0.mk A80
    clear A80
    replace H := Option.bind_eq_some_iff.mp H
    obtain ⟨⟨t301, t302⟩, A90, H⟩ := H
    replace H : (if t300 = 9 then (if t302 = 9 then ((toruslaw01_awake.f k).bind fun t303 => (some t303)) else (some false)) else (some false)) = some r := H
    have A9 := Aside0.mk A90
    clear A90
    by_cases c10 : t300 = 9
    · rw [if_pos c10] at H
      have c10b0 : (t300 == 9) = true := beq_iff_eq.mpr c10
      have c10b1 : (t300 != 9) = false := bne_eq_false_iff_eq.mpr c10
      clear c10
      by_cases c11 : t302 = 9
      · rw [if_pos c11] at H
        have c11b0 : (t302 == 9) = true := beq_iff_eq.mpr c11
        have c11b1 : (t302 != 9) = false := bne_eq_false_iff_eq.mpr c11
        clear c11
        replace H := Option.bind_eq_some_iff.mp H
        obtain ⟨t303, A120, H⟩ := H
        replace H : (some t303) = some r := H
        have A12 := Aside0.mk A120
        clear A120
        first
        | with_reducible exact absurd ((Option.some.inj H).trans hrt.out) Bool.false_ne_true
        | skip
          obtain rfl := Option.some.inj H
          go_enter Try.func8, Try.ntmps8
          go_wp2_with (first | (go_at_call 16; (with_reducible refine (torusref01_Field.calls k a0 t295 _ A4.out).mono ?_); rintro e w13 ⟨rfl, hb⟩; have n0_ := Aside0.mk (below_step (by repeat (first | (with_reducible first | exact HB.out | apply below_alloc | apply pw_below_drewN | apply below_drew1) | exact HB.out)) hb); clear HB; have HB := n0_; clear n0_; (try clear hb); (try clear hb2); (try clear hk); (try clear hi)) | (go_at_call 29; (with_reducible refine (modp_Generator.calls k t295 t296 t297 _ A5.out).mono ?_); rintro e w' ⟨rfl, ⟨nd, rfl⟩⟩; (try first | exact ⟨rfl, _, World.drewN_drewN _ _ _⟩ | exact ⟨rfl, _, Eq.trans (World.drewN_drewN _ _ _) (congrArg (World.drewN _) (Nat.add_assoc _ _ _))⟩)) | (go_at_call 17; (with_reducible refine (modp_Mod.calls k t295 a1 t298 _ A6.out).mono ?_); rintro e w' ⟨rfl, ⟨nd, rfl⟩⟩; (try first | exact ⟨rfl, _, World.drewN_drewN _ _ _⟩ | exact ⟨rfl, _, Eq.trans (World.drewN_drewN _ _ _) (congrArg (World.drewN _) (Nat.add_assoc _ _ _))⟩)) | (go_at_call 30; (with_reducible refine (modp_Order.calls k t295 a1 t299 t300 _ A8.out).mono ?_); rintro e w' ⟨rfl, ⟨nd, rfl⟩⟩; (try first | exact ⟨rfl, _, World.drewN_drewN _ _ _⟩ | exact ⟨rfl, _, Eq.trans (World.drewN_drewN _ _ _) (congrArg (World.drewN _) (Nat.add_assoc _ _ _))⟩)) | (go_at_call 28; (with_reducible refine (modp_Log.calls k t295 t296 a1 t301 t302 _ A9.out).mono ?_); rintro e w' ⟨rfl, ⟨nd, rfl⟩⟩; (try first | exact ⟨rfl, _, World.drewN_drewN _ _ _⟩ | exact ⟨rfl, _, Eq.trans (World.drewN_drewN _ _ _) (congrArg (World.drewN _) (Nat.add_assoc _ _ _))⟩)) | (go_at_call 15; (with_reducible refine (toruslaw01_awake.calls k  t303 _ A12.out).mono ?_); rintro e w' ⟨rfl, ⟨nd, rfl⟩⟩; (try first | exact ⟨rfl, _, World.drewN_drewN _ _ _⟩ | exact ⟨rfl, _, Eq.trans (World.drewN_drewN _ _ _) (congrArg (World.drewN _) (Nat.add_assoc _ _ _))⟩)))
          repeat (go_quiet (first | (go_at_call 16; (with_reducible refine (torusref01_Field.calls k a0 t295 _ A4.out).mono ?_); rintro e w13 ⟨rfl, hb⟩; have n0_ := Aside0.mk (below_step (by repeat (first | (with_reducible first | exact HB.out | apply below_alloc | apply pw_below_drewN | apply below_drew1) | exact HB.out)) hb); clear HB; have HB := n0_; clear n0_; (try clear hb); (try clear hb2); (try clear hk); (try clear hi)) | (go_at_call 29; (with_reducible refine (modp_Generator.calls k t295 t296 t297 _ A5.out).mono ?_); rintro e w' ⟨rfl, ⟨nd, rfl⟩⟩; (try first | exact ⟨rfl, _, World.drewN_drewN _ _ _⟩ | exact ⟨rfl, _, Eq.trans (World.drewN_drewN _ _ _) (congrArg (World.drewN _) (Nat.add_assoc _ _ _))⟩)) | (go_at_call 17; (with_reducible refine (modp_Mod.calls k t295 a1 t298 _ A6.out).mono ?_); rintro e w' ⟨rfl, ⟨nd, rfl⟩⟩; (try first | exact ⟨rfl, _, World.drewN_drewN _ _ _⟩ | exact ⟨rfl, _, Eq.trans (World.drewN_drewN _ _ _) (congrArg (World.drewN _) (Nat.add_assoc _ _ _))⟩)) | (go_at_call 30; (with_reducible refine (modp_Order.calls k t295 a1 t299 t300 _ A8.out).mono ?_); rintro e w' ⟨rfl, ⟨nd, rfl⟩⟩; (try first | exact ⟨rfl, _, World.drewN_drewN _ _ _⟩ | exact ⟨rfl, _, Eq.trans (World.drewN_drewN _ _ _) (congrArg (World.drewN _) (Nat.add_assoc _ _ _))⟩)) | (go_at_call 28; (with_reducible refine (modp_Log.calls k t295 t296 a1 t301 t302 _ A9.out).mono ?_); rintro e w' ⟨rfl, ⟨nd, rfl⟩⟩; (try first | exact ⟨rfl, _, World.drewN_drewN _ _ _⟩ | exact ⟨rfl, _, Eq.trans (World.drewN_drewN _ _ _) (congrArg (World.drewN _) (Nat.add_assoc _ _ _))⟩)) | (go_at_call 15; (with_reducible refine (toruslaw01_awake.calls k  t303 _ A12.out).mono ?_); rintro e w' ⟨rfl, ⟨nd, rfl⟩⟩; (try first | exact ⟨rfl, _, World.drewN_drewN _ _ _⟩ | exact ⟨rfl, _, Eq.trans (World.drewN_drewN _ _ _) (congrArg (World.drewN _) (Nat.add_assoc _ _ _))⟩))); try go_wp2_with (first | (go_at_call 16; (with_reducible refine (torusref01_Field.calls k a0 t295 _ A4.out).mono ?_); rintro e w13 ⟨rfl, hb⟩; have n0_ := Aside0.mk (below_step (by repeat (first | (with_reducible first | exact HB.out | apply below_alloc | apply pw_below_drewN | apply below_drew1) | exact HB.out)) hb); clear HB; have HB := n0_; clear n0_; (try clear hb); (try clear hb2); (try clear hk); (try clear hi)) | (go_at_call 29; (with_reducible refine (modp_Generator.calls k t295 t296 t297 _ A5.out).mono ?_); rintro e w' ⟨rfl, ⟨nd, rfl⟩⟩; (try first | exact ⟨rfl, _, World.drewN_drewN _ _ _⟩ | exact ⟨rfl, _, Eq.trans (World.drewN_drewN _ _ _) (congrArg (World.drewN _) (Nat.add_assoc _ _ _))⟩)) | (go_at_call 17; (with_reducible refine (modp_Mod.calls k t295 a1 t298 _ A6.out).mono ?_); rintro e w' ⟨rfl, ⟨nd, rfl⟩⟩; (try first | exact ⟨rfl, _, World.drewN_drewN _ _ _⟩ | exact ⟨rfl, _, Eq.trans (World.drewN_drewN _ _ _) (congrArg (World.drewN _) (Nat.add_assoc _ _ _))⟩)) | (go_at_call 30; (with_reducible refine (modp_Order.calls k t295 a1 t299 t300 _ A8.out).mono ?_); rintro e w' ⟨rfl, ⟨nd, rfl⟩⟩; (try first | exact ⟨rfl, _, World.drewN_drewN _ _ _⟩ | exact ⟨rfl, _, Eq.trans (World.drewN_drewN _ _ _) (congrArg (World.drewN _) (Nat.add_assoc _ _ _))⟩)) | (go_at_call 28; (with_reducible refine (modp_Log.calls k t295 t296 a1 t301 t302 _ A9.out).mono ?_); rintro e w' ⟨rfl, ⟨nd, rfl⟩⟩; (try first | exact ⟨rfl, _, World.drewN_drewN _ _ _⟩ | exact ⟨rfl, _, Eq.trans (World.drewN_drewN _ _ _) (congrArg (World.drewN _) (Nat.add_assoc _ _ _))⟩)) | (go_at_call 15; (with_reducible refine (toruslaw01_awake.calls k  t303 _ A12.out).mono ?_); rintro e w' ⟨rfl, ⟨nd, rfl⟩⟩; (try first | exact ⟨rfl, _, World.drewN_drewN _ _ _⟩ | exact ⟨rfl, _, Eq.trans (World.drewN_drewN _ _ _) (congrArg (World.drewN _) (Nat.add_assoc _ _ _))⟩))))
          go_ret
          exact ⟨by first | rfl | (simp [errW_none, errW_some] <;> rfl) | (simp [*, errW_none, errW_some] <;> rfl), by repeat (first | (with_reducible first | exact HB.out | apply below_alloc | apply pw_below_drewN | apply below_drew1) | exact HB.out)⟩
      · rw [if_neg c11] at H
        have c11b0 : (t302 == 9) = false := beq_eq_false_iff_ne.mpr c11
        have c11b1 : (t302 != 9) = true := bne_iff_ne.mpr c11
        first
        | with_reducible exact absurd ((Option.some.inj H).trans hrt.out) Bool.false_ne_true
        | skip
          obtain rfl := Option.some.inj H
          go_enter Try.func8, Try.ntmps8
          go_wp2_with (first | (go_at_call 16; (with_reducible refine (torusref01_Field.calls k a0 t295 _ A4.out).mono ?_); rintro e w14 ⟨rfl, hb⟩; have n0_ := Aside0.mk (below_step (by repeat (first | (with_reducible first | exact HB.out | apply below_alloc | apply pw_below_drewN | apply below_drew1) | exact HB.out)) hb); clear HB; have HB := n0_; clear n0_; (try clear hb); (try clear hb2); (try clear hk); (try clear hi)) | (go_at_call 29; (with_reducible refine (modp_Generator.calls k t295 t296 t297 _ A5.out).mono ?_); rintro e w' ⟨rfl, ⟨nd, rfl⟩⟩; (try first | exact ⟨rfl, _, World.drewN_drewN _ _ _⟩ | exact ⟨rfl, _, Eq.trans (World.drewN_drewN _ _ _) (congrArg (World.drewN _) (Nat.add_assoc _ _ _))⟩)) | (go_at_call 17; (with_reducible refine (modp_Mod.calls k t295 a1 t298 _ A6.out).mono ?_); rintro e w' ⟨rfl, ⟨nd, rfl⟩⟩; (try first | exact ⟨rfl, _, World.drewN_drewN _ _ _⟩ | exact ⟨rfl, _, Eq.trans (World.drewN_drewN _ _ _) (congrArg (World.drewN _) (Nat.add_assoc _ _ _))⟩)) | (go_at_call 30; (with_reducible refine (modp_Order.calls k t295 a1 t299 t300 _ A8.out).mono ?_); rintro e w' ⟨rfl, ⟨nd, rfl⟩⟩; (try first | exact ⟨rfl, _, World.drewN_drewN _ _ _⟩ | exact ⟨rfl, _, Eq.trans (World.drewN_drewN _ _ _) (congrArg (World.drewN _) (Nat.add_assoc _ _ _))⟩)) | (go_at_call 28; (with_reducible refine (modp_Log.calls k t295 t296 a1 t301 t302 _ A9.out).mono ?_); rintro e w' ⟨rfl, ⟨nd, rfl⟩⟩; (try first | exact ⟨rfl, _, World.drewN_drewN _ _ _⟩ | exact ⟨rfl, _, Eq.trans (World.drewN_drewN _ _ _) (congrArg (World.drewN _) (Nat.add_assoc _ _ _))⟩)))
          repeat (go_quiet (first | (go_at_call 16; (with_reducible refine (torusref01_Field.calls k a0 t295 _ A4.out).mono ?_); rintro e w14 ⟨rfl, hb⟩; have n0_ := Aside0.mk (below_step (by repeat (first | (with_reducible first | exact HB.out | apply below_alloc | apply pw_below_drewN | apply below_drew1) | exact HB.out)) hb); clear HB; have HB := n0_; clear n0_; (try clear hb); (try clear hb2); (try clear hk); (try clear hi)) | (go_at_call 29; (with_reducible refine (modp_Generator.calls k t295 t296 t297 _ A5.out).mono ?_); rintro e w' ⟨rfl, ⟨nd, rfl⟩⟩; (try first | exact ⟨rfl, _, World.drewN_drewN _ _ _⟩ | exact ⟨rfl, _, Eq.trans (World.drewN_drewN _ _ _) (congrArg (World.drewN _) (Nat.add_assoc _ _ _))⟩)) | (go_at_call 17; (with_reducible refine (modp_Mod.calls k t295 a1 t298 _ A6.out).mono ?_); rintro e w' ⟨rfl, ⟨nd, rfl⟩⟩; (try first | exact ⟨rfl, _, World.drewN_drewN _ _ _⟩ | exact ⟨rfl, _, Eq.trans (World.drewN_drewN _ _ _) (congrArg (World.drewN _) (Nat.add_assoc _ _ _))⟩)) | (go_at_call 30; (with_reducible refine (modp_Order.calls k t295 a1 t299 t300 _ A8.out).mono ?_); rintro e w' ⟨rfl, ⟨nd, rfl⟩⟩; (try first | exact ⟨rfl, _, World.drewN_drewN _ _ _⟩ | exact ⟨rfl, _, Eq.trans (World.drewN_drewN _ _ _) (congrArg (World.drewN _) (Nat.add_assoc _ _ _))⟩)) | (go_at_call 28; (with_reducible refine (modp_Log.calls k t295 t296 a1 t301 t302 _ A9.out).mono ?_); rintro e w' ⟨rfl, ⟨nd, rfl⟩⟩; (try first | exact ⟨rfl, _, World.drewN_drewN _ _ _⟩ | exact ⟨rfl, _, Eq.trans (World.drewN_drewN _ _ _) (congrArg (World.drewN _) (Nat.add_assoc _ _ _))⟩))); try go_wp2_with (first | (go_at_call 16; (with_reducible refine (torusref01_Field.calls k a0 t295 _ A4.out).mono ?_); rintro e w14 ⟨rfl, hb⟩; have n0_ := Aside0.mk (below_step (by repeat (first | (with_reducible first | exact HB.out | apply below_alloc | apply pw_below_drewN | apply below_drew1) | exact HB.out)) hb); clear HB; have HB := n0_; clear n0_; (try clear hb); (try clear hb2); (try clear hk); (try clear hi)) | (go_at_call 29; (with_reducible refine (modp_Generator.calls k t295 t296 t297 _ A5.out).mono ?_); rintro e w' ⟨rfl, ⟨nd, rfl⟩⟩; (try first | exact ⟨rfl, _, World.drewN_drewN _ _ _⟩ | exact ⟨rfl, _, Eq.trans (World.drewN_drewN _ _ _) (congrArg (World.drewN _) (Nat.add_assoc _ _ _))⟩)) | (go_at_call 17; (with_reducible refine (modp_Mod.calls k t295 a1 t298 _ A6.out).mono ?_); rintro e w' ⟨rfl, ⟨nd, rfl⟩⟩; (try first | exact ⟨rfl, _, World.drewN_drewN _ _ _⟩ | exact ⟨rfl, _, Eq.trans (World.drewN_drewN _ _ _) (congrArg (World.drewN _) (Nat.add_assoc _ _ _))⟩)) | (go_at_call 30; (with_reducible refine (modp_Order.calls k t295 a1 t299 t300 _ A8.out).mono ?_); rintro e w' ⟨rfl, ⟨nd, rfl⟩⟩; (try first | exact ⟨rfl, _, World.drewN_drewN _ _ _⟩ | exact ⟨rfl, _, Eq.trans (World.drewN_drewN _ _ _) (congrArg (World.drewN _) (Nat.add_assoc _ _ _))⟩)) | (go_at_call 28; (with_reducible refine (modp_Log.calls k t295 t296 a1 t301 t302 _ A9.out).mono ?_); rintro e w' ⟨rfl, ⟨nd, rfl⟩⟩; (try first | exact ⟨rfl, _, World.drewN_drewN _ _ _⟩ | exact ⟨rfl, _, Eq.trans (World.drewN_drewN _ _ _) (congrArg (World.drewN _) (Nat.add_assoc _ _ _))⟩))))
          go_ret
          exact ⟨by first | rfl | (simp [errW_none, errW_some] <;> rfl) | (simp [*, errW_none, errW_some] <;> rfl), by repeat (first | (with_reducible first | exact HB.out | apply below_alloc | apply pw_below_drewN | apply below_drew1) | exact HB.out)⟩
    · rw [if_neg c10] at H
      have c10b0 : (t300 == 9) = false := beq_eq_false_iff_ne.mpr c10
      have c10b1 : (t300 != 9) = true := bne_iff_ne.mpr c10
      first
      | with_reducible exact absurd ((Option.some.inj H).trans hrt.out) Bool.false_ne_true
      | skip
        obtain rfl := Option.some.inj H
        go_enter Try.func8, Try.ntmps8
        go_wp2_with (first | (go_at_call 16; (with_reducible refine (torusref01_Field.calls k a0 t295 _ A4.out).mono ?_); rintro e w15 ⟨rfl, hb⟩; have n0_ := Aside0.mk (below_step (by repeat (first | (with_reducible first | exact HB.out | apply below_alloc | apply pw_below_drewN | apply below_drew1) | exact HB.out)) hb); clear HB; have HB := n0_; clear n0_; (try clear hb); (try clear hb2); (try clear hk); (try clear hi)) | (go_at_call 29; (with_reducible refine (modp_Generator.calls k t295 t296 t297 _ A5.out).mono ?_); rintro e w' ⟨rfl, ⟨nd, rfl⟩⟩; (try first | exact ⟨rfl, _, World.drewN_drewN _ _ _⟩ | exact ⟨rfl, _, Eq.trans (World.drewN_drewN _ _ _) (congrArg (World.drewN _) (Nat.add_assoc _ _ _))⟩)) | (go_at_call 17; (with_reducible refine (modp_Mod.calls k t295 a1 t298 _ A6.out).mono ?_); rintro e w' ⟨rfl, ⟨nd, rfl⟩⟩; (try first | exact ⟨rfl, _, World.drewN_drewN _ _ _⟩ | exact ⟨rfl, _, Eq.trans (World.drewN_drewN _ _ _) (congrArg (World.drewN _) (Nat.add_assoc _ _ _))⟩)) | (go_at_call 30; (with_reducible refine (modp_Order.calls k t295 a1 t299 t300 _ A8.out).mono ?_); rintro e w' ⟨rfl, ⟨nd, rfl⟩⟩; (try first | exact ⟨rfl, _, World.drewN_drewN _ _ _⟩ | exact ⟨rfl, _, Eq.trans (World.drewN_drewN _ _ _) (congrArg (World.drewN _) (Nat.add_assoc _ _ _))⟩)) | (go_at_call 28; (with_reducible refine (modp_Log.calls k t295 t296 a1 t301 t302 _ A9.out).mono ?_); rintro e w' ⟨rfl, ⟨nd, rfl⟩⟩; (try first | exact ⟨rfl, _, World.drewN_drewN _ _ _⟩ | exact ⟨rfl, _, Eq.trans (World.drewN_drewN _ _ _) (congrArg (World.drewN _) (Nat.add_assoc _ _ _))⟩)))
        repeat (go_quiet (first | (go_at_call 16; (with_reducible refine (torusref01_Field.calls k a0 t295 _ A4.out).mono ?_); rintro e w15 ⟨rfl, hb⟩; have n0_ := Aside0.mk (below_step (by repeat (first | (with_reducible first | exact HB.out | apply below_alloc | apply pw_below_drewN | apply below_drew1) | exact HB.out)) hb); clear HB; have HB := n0_; clear n0_; (try clear hb); (try clear hb2); (try clear hk); (try clear hi)) | (go_at_call 29; (with_reducible refine (modp_Generator.calls k t295 t296 t297 _ A5.out).mono ?_); rintro e w' ⟨rfl, ⟨nd, rfl⟩⟩; (try first | exact ⟨rfl, _, World.drewN_drewN _ _ _⟩ | exact ⟨rfl, _, Eq.trans (World.drewN_drewN _ _ _) (congrArg (World.drewN _) (Nat.add_assoc _ _ _))⟩)) | (go_at_call 17; (with_reducible refine (modp_Mod.calls k t295 a1 t298 _ A6.out).mono ?_); rintro e w' ⟨rfl, ⟨nd, rfl⟩⟩; (try first | exact ⟨rfl, _, World.drewN_drewN _ _ _⟩ | exact ⟨rfl, _, Eq.trans (World.drewN_drewN _ _ _) (congrArg (World.drewN _) (Nat.add_assoc _ _ _))⟩)) | (go_at_call 30; (with_reducible refine (modp_Order.calls k t295 a1 t299 t300 _ A8.out).mono ?_); rintro e w' ⟨rfl, ⟨nd, rfl⟩⟩; (try first | exact ⟨rfl, _, World.drewN_drewN _ _ _⟩ | exact ⟨rfl, _, Eq.trans (World.drewN_drewN _ _ _) (congrArg (World.drewN _) (Nat.add_assoc _ _ _))⟩)) | (go_at_call 28; (with_reducible refine (modp_Log.calls k t295 t296 a1 t301 t302 _ A9.out).mono ?_); rintro e w' ⟨rfl, ⟨nd, rfl⟩⟩; (try first | exact ⟨rfl, _, World.drewN_drewN _ _ _⟩ | exact ⟨rfl, _, Eq.trans (World.drewN_drewN _ _ _) (congrArg (World.drewN _) (Nat.add_assoc _ _ _))⟩))); try go_wp2_with (first | (go_at_call 16; (with_reducible refine (torusref01_Field.calls k a0 t295 _ A4.out).mono ?_); rintro e w15 ⟨rfl, hb⟩; have n0_ := Aside0.mk (below_step (by repeat (first | (with_reducible first | exact HB.out | apply below_alloc | apply pw_below_drewN | apply below_drew1) | exact HB.out)) hb); clear HB; have HB := n0_; clear n0_; (try clear hb); (try clear hb2); (try clear hk); (try clear hi)) | (go_at_call 29; (with_reducible refine (modp_Generator.calls k t295 t296 t297 _ A5.out).mono ?_); rintro e w' ⟨rfl, ⟨nd, rfl⟩⟩; (try first | exact ⟨rfl, _, World.drewN_drewN _ _ _⟩ | exact ⟨rfl, _, Eq.trans (World.drewN_drewN _ _ _) (congrArg (World.drewN _) (Nat.add_assoc _ _ _))⟩)) | (go_at_call 17; (with_reducible refine (modp_Mod.calls k t295 a1 t298 _ A6.out).mono ?_); rintro e w' ⟨rfl, ⟨nd, rfl⟩⟩; (try first | exact ⟨rfl, _, World.drewN_drewN _ _ _⟩ | exact ⟨rfl, _, Eq.trans (World.drewN_drewN _ _ _) (congrArg (World.drewN _) (Nat.add_assoc _ _ _))⟩)) | (go_at_call 30; (with_reducible refine (modp_Order.calls k t295 a1 t299 t300 _ A8.out).mono ?_); rintro e w' ⟨rfl, ⟨nd, rfl⟩⟩; (try first | exact ⟨rfl, _, World.drewN_drewN _ _ _⟩ | exact ⟨rfl, _, Eq.trans (World.drewN_drewN _ _ _) (congrArg (World.drewN _) (Nat.add_assoc _ _ _))⟩)) | (go_at_call 28; (with_reducible refine (modp_Log.calls k t295 t296 a1 t301 t302 _ A9.out).mono ?_); rintro e w' ⟨rfl, ⟨nd, rfl⟩⟩; (try first | exact ⟨rfl, _, World.drewN_drewN _ _ _⟩ | exact ⟨rfl, _, Eq.trans (World.drewN_drewN _ _ _) (congrArg (World.drewN _) (Nat.add_assoc _ _ _))⟩))))
        go_ret
        exact ⟨by first | rfl | (simp [errW_none, errW_some] <;> rfl) | (simp [*, errW_none, errW_some] <;> rfl), by repeat (first | (with_reducible first | exact HB.out | apply below_alloc | apply pw_below_drewN | apply below_drew1) | exact HB.out)⟩
  · rw [if_neg c7] at H
    have c7b0 : (t298 == 0) = false := beq_eq_false_iff_ne.mpr c7
    have c7b1 : (t298 != 0) = true := bne_iff_ne.mpr c7
    replace H := Option.bind_eq_some_iff.mp H
    obtain ⟨⟨t304, t305⟩, A160, H⟩ := H
    replace H : ((modp_Order.f k t295 t296).bind fun bt306 => ((modp_Log.f k t295 t296 a1).bind fun bt308 => (if t297 = 0 then (if t305 = 0 then (if bt306.2 = 0 then (if bt308.2 = 0 then (if bt306.1 = (wrap64 (t295 - 1)) then (if t304 < 1 then (toruslaw01_ModpOrders.j0 k a1 a2 t295 t296 t304 bt308.1 true) else (if t304 = 0 then (none) else (if (Int.tmod (wrap64 (t295 - 1)) t304) = 0 then (if bt308.1 < 0 then (toruslaw01_ModpOrders.j0 k a1 a2 t295 t296 t304 bt308.1 true) else (toruslaw01_ModpOrders.j0 k a1 a2 t295 t296 t304 bt308.1 (decide (bt308.1 ≥ (wrap64 (t295 - 1)))))) else (toruslaw01_ModpOrders.j0 k a1 a2 t295 t296 t304 bt308.1 true)))) else (toruslaw01_ModpOrders.j0 k a1 a2 t295 t296 t304 bt308.1 true)) else (toruslaw01_ModpOrders.j0 k a1 a2 t295 t296 t304 bt308.1 true)) else (toruslaw01_ModpOrders.j0 k a1 a2 t295 t296 t304 bt308.1 true)) else (toruslaw01_ModpOrders.j0 k a1 a2 t295 t296 t304 bt308.1 true)) else (toruslaw01_ModpOrders.j0 k a1 a2 t295 t296 t304 bt308.1 true)))) = some r := H
    have A16 := Aside0.mk A160
    clear A160
    replace H := Option.bind_eq_some_iff.mp H
    obtain ⟨⟨t306, t307⟩, A170, H⟩ := H
    replace H : ((modp_Log.f k t295 t296 a1).bind fun bt308 => (if t297 = 0 then (if t305 = 0 then (if t307 = 0 then (if bt308.2 = 0 then (if t306 = (wrap64 (t295 - 1)) then (if t304 < 1 then (toruslaw01_ModpOrders.j0 k a1 a2 t295 t296 t304 bt308.1 true) else (if t304 = 0 then (none) else (if (Int.tmod (wrap64 (t295 - 1)) t304) = 0 then (if bt308.1 < 0 then (toruslaw01_ModpOrders.j0 k a1 a2 t295 t296 t304 bt308.1 true) else (toruslaw01_ModpOrders.j0 k a1 a2 t295 t296 t304 bt308.1 (decide (bt308.1 ≥ (wrap64 (t295 - 1)))))) else (toruslaw01_ModpOrders.j0 k a1 a2 t295 t296 t304 bt308.1 true)))) else (toruslaw01_ModpOrders.j0 k a1 a2 t295 t296 t304 bt308.1 true)) else (toruslaw01_ModpOrders.j0 k a1 a2 t295 t296 t304 bt308.1 true)) else (toruslaw01_ModpOrders.j0 k a1 a2 t295 t296 t304 bt308.1 true)) else (toruslaw01_ModpOrders.j0 k a1 a2 t295 t296 t304 bt308.1 true)) else (toruslaw01_ModpOrders.j0 k a1 a2 t295 t296 t304 bt308.1 true))) = some r := H
    have A17 := Aside0.mk A170
    clear A170
    replace H := Option.bind_eq_some_iff.mp H
    obtain ⟨⟨t308, t309⟩, A180, H⟩ := H
    replace H : (if t297 = 0 then (if t305 = 0 then (if t307 = 0 then (if t309 = 0 then (if t306 = (wrap64 (t295 - 1)) then (if t304 < 1 then (toruslaw01_ModpOrders.j0 k a1 a2 t295 t296 t304 t308 true) else (if t304 = 0 then (none) else (if (Int.tmod (wrap64 (t295 - 1)) t304) = 0 then (if t308 < 0 then (toruslaw01_ModpOrders.j0 k a1 a2 t295 t296 t304 t308 true) else (toruslaw01_ModpOrders.j0 k a1 a2 t295 t296 t304 t308 (decide (t308 ≥ (wrap64 (t295 - 1)))))) else (toruslaw01_ModpOrders.j0 k a1 a2 t295 t296 t304 t308 true)))) else (toruslaw01_ModpOrders.j0 k a1 a2 t295 t296 t304 t308 true)) else (toruslaw01_ModpOrders.j0 k a1 a2 t295 t296 t304 t308 true)) else (toruslaw01_ModpOrders.j0 k a1 a2 t295 t296 t304 t308 true)) else (toruslaw01_ModpOrders.j0 k a1 a2 t295 t296 t304 t308 true)) else (toruslaw01_ModpOrders.j0 k a1 a2 t295 t296 t304 t308 true)) = some r := H
    have A18 := Aside0.mk A180
    clear A180
    have HC19 := Aside0.mk H
    clear H
    go_enter Try.func8, Try.ntmps8
    go_upto_region 10 with (first | (go_at_call 16; (with_reducible refine (torusref01_Field.calls k a0 t295 _ A4.out).mono ?_); rintro e w20 ⟨rfl, hb⟩; have n0_ := Aside0.mk (below_step (by repeat (first | (with_reducible first | exact HB.out | apply below_alloc | apply pw_below_drewN | apply below_drew1) | exact HB.out)) hb); clear HB; have HB := n0_; clear n0_; (try clear hb); (try clear hb2); (try clear hk); (try clear hi)) | (go_at_call 29; (with_reducible refine (modp_Generator.calls k t295 t296 t297 _ A5.out).mono ?_); rintro e w' ⟨rfl, ⟨nd, rfl⟩⟩; (try first | exact ⟨rfl, _, World.drewN_drewN _ _ _⟩ | exact ⟨rfl, _, Eq.trans (World.drewN_drewN _ _ _) (congrArg (World.drewN _) (Nat.add_assoc _ _ _))⟩)) | (go_at_call 17; (with_reducible refine (modp_Mod.calls k t295 a1 t298 _ A6.out).mono ?_); rintro e w' ⟨rfl, ⟨nd, rfl⟩⟩; (try first | exact ⟨rfl, _, World.drewN_drewN _ _ _⟩ | exact ⟨rfl, _, Eq.trans (World.drewN_drewN _ _ _) (congrArg (World.drewN _) (Nat.add_assoc _ _ _))⟩)) | (go_at_call 30; (with_reducible refine (modp_Order.calls k t295 a1 t304 t305 _ A16.out).mono ?_); rintro e w' ⟨rfl, ⟨nd, rfl⟩⟩; (try first | exact ⟨rfl, _, World.drewN_drewN _ _ _⟩ | exact ⟨rfl, _, Eq.trans (World.drewN_drewN _ _ _) (congrArg (World.drewN _) (Nat.add_assoc _ _ _))⟩)) | (go_at_call 30; (with_reducible refine (modp_Order.calls k t295 t296 t306 t307 _ A17.out).mono ?_); rintro e w' ⟨rfl, ⟨nd, rfl⟩⟩; (try first | exact ⟨rfl, _, World.drewN_drewN _ _ _⟩ | exact ⟨rfl, _, Eq.trans (World.drewN_drewN _ _ _) (congrArg (World.drewN _) (Nat.add_assoc _ _ _))⟩)) | (go_at_call 28; (with_reducible refine (modp_Log.calls k t295 t296 a1 t308 t309 _ A18.out).mono ?_); rintro e w' ⟨rfl, ⟨nd, rfl⟩⟩; (try first | exact ⟨rfl, _, World.drewN_drewN _ _ _⟩ | exact ⟨rfl, _, Eq.trans (World.drewN_drewN _ _ _) (congrArg (World.drewN _) (Nat.add_assoc _ _ _))⟩)))
    repeat (go_quiet (first | (go_at_call 16; (with_reducible refine (torusref01_Field.calls k a0 t295 _ A4.out).mono ?_); rintro e w20 ⟨rfl, hb⟩; have n0_ := Aside0.mk (below_step (by repeat (first | (with_reducible first | exact HB.out | apply below_alloc | apply pw_below_drewN | apply below_drew1) | exact HB.out)) hb); clear HB; have HB := n0_; clear n0_; (try clear hb); (try clear hb2); (try clear hk); (try clear hi)) | (go_at_call 29; (with_reducible refine (modp_Generator.calls k t295 t296 t297 _ A5.out).mono ?_); rintro e w' ⟨rfl, ⟨nd, rfl⟩⟩; (try first | exact ⟨rfl, _, World.drewN_drewN _ _ _⟩ | exact ⟨rfl, _, Eq.trans (World.drewN_drewN _ _ _) (congrArg (World.drewN _) (Nat.add_assoc _ _ _))⟩)) | (go_at_call 17; (with_reducible refine (modp_Mod.calls k t295 a1 t298 _ A6.out).mono ?_); rintro e w' ⟨rfl, ⟨nd, rfl⟩⟩; (try first | exact ⟨rfl, _, World.drewN_drewN _ _ _⟩ | exact ⟨rfl, _, Eq.trans (World.drewN_drewN _ _ _) (congrArg (World.drewN _) (Nat.add_assoc _ _ _))⟩)) | (go_at_call 30; (with_reducible refine (modp_Order.calls k t295 a1 t304 t305 _ A16.out).mono ?_); rintro e w' ⟨rfl, ⟨nd, rfl⟩⟩; (try first | exact ⟨rfl, _, World.drewN_drewN _ _ _⟩ | exact ⟨rfl, _, Eq.trans (World.drewN_drewN _ _ _) (congrArg (World.drewN _) (Nat.add_assoc _ _ _))⟩)) | (go_at_call 30; (with_reducible refine (modp_Order.calls k t295 t296 t306 t307 _ A17.out).mono ?_); rintro e w' ⟨rfl, ⟨nd, rfl⟩⟩; (try first | exact ⟨rfl, _, World.drewN_drewN _ _ _⟩ | exact ⟨rfl, _, Eq.trans (World.drewN_drewN _ _ _) (congrArg (World.drewN _) (Nat.add_assoc _ _ _))⟩)) | (go_at_call 28; (with_reducible refine (modp_Log.calls k t295 t296 a1 t308 t309 _ A18.out).mono ?_); rintro e w' ⟨rfl, ⟨nd, rfl⟩⟩; (try first | exact ⟨rfl, _, World.drewN_drewN _ _ _⟩ | exact ⟨rfl, _, Eq.trans (World.drewN_drewN _ _ _) (congrArg (World.drewN _) (Nat.add_assoc _ _ _))⟩))); go_upto_region 10 with (first | (go_at_call 16; (with_reducible refine (torusref01_Field.calls k a0 t295 _ A4.out).mono ?_); rintro e w20 ⟨rfl, hb⟩; have n0_ := Aside0.mk (below_step (by repeat (first | (with_reducible first | exact HB.out | apply below_alloc | apply pw_below_drewN | apply below_drew1) | exact HB.out)) hb); clear HB; have HB := n0_; clear n0_; (try clear hb); (try clear hb2); (try clear hk); (try clear hi)) | (go_at_call 29; (with_reducible refine (modp_Generator.calls k t295 t296 t297 _ A5.out).mono ?_); rintro e w' ⟨rfl, ⟨nd, rfl⟩⟩; (try first | exact ⟨rfl, _, World.drewN_drewN _ _ _⟩ | exact ⟨rfl, _, Eq.trans (World.drewN_drewN _ _ _) (congrArg (World.drewN _) (Nat.add_assoc _ _ _))⟩)) | (go_at_call 17; (with_reducible refine (modp_Mod.calls k t295 a1 t298 _ A6.out).mono ?_); rintro e w' ⟨rfl, ⟨nd, rfl⟩⟩; (try first | exact ⟨rfl, _, World.drewN_drewN _ _ _⟩ | exact ⟨rfl, _, Eq.trans (World.drewN_drewN _ _ _) (congrArg (World.drewN _) (Nat.add_assoc _ _ _))⟩)) | (go_at_call 30; (with_reducible refine (modp_Order.calls k t295 a1 t304 t305 _ A16.out).mono ?_); rintro e w' ⟨rfl, ⟨nd, rfl⟩⟩; (try first | exact ⟨rfl, _, World.drewN_drewN _ _ _⟩ | exact ⟨rfl, _, Eq.trans (World.drewN_drewN _ _ _) (congrArg (World.drewN _) (Nat.add_assoc _ _ _))⟩)) | (go_at_call 30; (with_reducible refine (modp_Order.calls k t295 t296 t306 t307 _ A17.out).mono ?_); rintro e w' ⟨rfl, ⟨nd, rfl⟩⟩; (try first | exact ⟨rfl, _, World.drewN_drewN _ _ _⟩ | exact ⟨rfl, _, Eq.trans (World.drewN_drewN _ _ _) (congrArg (World.drewN _) (Nat.add_assoc _ _ _))⟩)) | (go_at_call 28; (with_reducible refine (modp_Log.calls k t295 t296 a1 t308 t309 _ A18.out).mono ?_); rintro e w' ⟨rfl, ⟨nd, rfl⟩⟩; (try first | exact ⟨rfl, _, World.drewN_drewN _ _ _⟩ | exact ⟨rfl, _, Eq.trans (World.drewN_drewN _ _ _) (congrArg (World.drewN _) (Nat.add_assoc _ _ _))⟩))))
    (try simp only [Act.put, List.setIfInBounds_toArray, List.set_cons_zero, List.set_cons_succ])
    go_cut [112] (fun v112 wc => ∃ (kq : Nat) (x112_18 : Bool), v112 = .bool x112_18 ∧ Aside0 (toruslaw01_ModpOrders.j0 kq a1 a2 t295 t296 t304 t308 x112_18 = some r) ∧ Aside0 (kq ≤ k) ∧ Aside0 (Below w.heap.size w wc))
    case first =>
      have H := HC19.out
      clear HC19
      by_cases c21 : t297 = 0
      · rw [if_pos c21] at H
        have c21b0 : (t297 == 0) = true := beq_iff_eq.mpr c21
        have c21b1 : (t297 != 0) = false := bne_eq_false_iff_eq.mpr c21
        clear c21
        (first | rw [c21b0] | (simp only [i64_w, i32_w]; rw [c21b0]) | skip)
        by_cases c22 : t305 = 0
        · rw [if_pos c22] at H
          have c22b0 : (t305 == 0) = true := beq_iff_eq.mpr c22
          have c22b1 : (t305 != 0) = false := bne_eq_false_iff_eq.mpr c22
          clear c22
          by_cases c23 : t307 = 0
          · rw [if_pos c23] at H
            have c23b0 : (t307 == 0) = true := beq_iff_eq.mpr c23
            have c23b1 : (t307 != 0) = false := bne_eq_false_iff_eq.mpr c23
            clear c23
            by_cases c24 : t309 = 0
            · rw [if_pos c24] at H
              have c24b0 : (t309 == 0) = true := beq_iff_eq.mpr c24
              have c24b1 : (t309 != 0) = false := bne_eq_false_iff_eq.mpr c24
              clear c24
              by_cases c25 : t306 = (wrap64 (t295 - 1))
              · rw [if_pos c25] at H
                have c25b0 : (t306 == (wrap64 (t295 - 1))) = true := beq_iff_eq.mpr c25
                have c25b1 : (t306 != (wrap64 (t295 - 1))) = false := bne_eq_false_iff_eq.mpr c25
                clear c25
                by_cases c26 : t304 < 1
                · rw [if_pos c26] at H
                  have c26b0 : decide (t304 < 1) = true := decide_eq_true c26
                  clear c26
                  first
                  | with_reducible exact toruslaw01_ModpOrders.j0_dead hrt H
                  | skip
                    have H' := Aside0.mk H
                    clear H
                    go_wp2
                    repeat (go_quiet (fail); try go_wp2)
                    go_meet
                    case rel => exact ⟨_, (true), (by first | rfl | (simp; done) | (simp [*]; done)), H', ⟨by first | omega | exact Nat.le_refl _⟩, ⟨by repeat (first | (with_reducible first | exact HB.out | apply below_alloc | apply pw_below_drewN | apply below_drew1) | exact HB.out)⟩⟩
                · rw [if_neg c26] at H
                  have c26b0 : decide (t304 < 1) = false := decide_eq_false c26
                  clear c26
                  by_cases c27 : t304 = 0
                  · rw [if_pos c27] at H
                    exact absurd H (by simp)
                  · rw [if_neg c27] at H
                    have c27b0 : (t304 == 0) = false := beq_eq_false_iff_ne.mpr c27
                    have c27b1 : (t304 != 0) = true := bne_iff_ne.mpr c27
                    by_cases c28 : (Int.tmod (wrap64 (t295 - 1)) t304) = 0
                    · rw [if_pos c28] at H
                      have c28b0 : ((Int.tmod (wrap64 (t295 - 1)) t304) == 0) = true := beq_iff_eq.mpr c28
                      have c28b1 : ((Int.tmod (wrap64 (t295 - 1)) t304) != 0) = false := bne_eq_false_iff_eq.mpr c28
                      clear c28
                      by_cases c29 : t308 < 0
                      · rw [if_pos c29] at H
                        have c29b0 : decide (t308 < 0) = true := decide_eq_true c29
                        clear c29
                        first
                        | with_reducible exact toruslaw01_ModpOrders.j0_dead hrt H
                        | skip
                          have H' := Aside0.mk H
                          clear H
                          go_wp2
                          repeat (go_quiet (fail); try go_wp2)
                          go_meet
                          case rel => exact ⟨_, (true), (by first | rfl | (simp; done) | (simp [*]; done)), H', ⟨by first | omega | exact Nat.le_refl _⟩, ⟨by repeat (first | (with_reducible first | exact HB.out | apply below_alloc | apply pw_below_drewN | apply below_drew1) | exact HB.out)⟩⟩
                      · rw [if_neg c29] at H
                        have c29b0 : decide (t308 < 0) = false := decide_eq_false c29
                        clear c29
                        first
                        | with_reducible exact toruslaw01_ModpOrders.j0_dead hrt H
                        | skip
                          have H' := Aside0.mk H
                          clear H
                          go_wp2
                          repeat (go_quiet (fail); try go_wp2)
                          go_meet
                          case rel => exact ⟨_, (decide (t308 ≥ (wrap64 (t295 - 1)))), (by first | rfl | (simp; done) | (simp [*]; done)), H', ⟨by first | omega | exact Nat.le_refl _⟩, ⟨by repeat (first | (with_reducible first | exact HB.out | apply below_alloc | apply pw_below_drewN | apply below_drew1) | exact HB.out)⟩⟩
                    · rw [if_neg c28] at H
                      have c28b0 : ((Int.tmod (wrap64 (t295 - 1)) t304) == 0) = false := beq_eq_false_iff_ne.mpr c28
                      have c28b1 : ((Int.tmod (wrap64 (t295 - 1)) t304) != 0) = true := bne_iff_ne.mpr c28
                      first
                      | with_reducible exact toruslaw01_ModpOrders.j0_dead hrt H
                      | skip
                        have H' := Aside0.mk H
                        clear H
                        go_wp2
                        repeat (go_quiet (fail); try go_wp2)
                        go_meet
                        case rel => exact ⟨_, (true), (by first | rfl | (simp; done) | (simp [*]; done)), H', ⟨by first | omega | exact Nat.le_refl _⟩, ⟨by repeat (first | (with_reducible first | exact HB.out | apply below_alloc | apply pw_below_drewN | apply below_drew1) | exact HB.out)⟩⟩
              · rw [if_neg c25] at H
                have c25b0 : (t306 == (wrap64 (t295 - 1))) = false := beq_eq_false_iff_ne.mpr c25
                have c25b1 : (t306 != (wrap64 (t295 - 1))) = true := bne_iff_ne.mpr c25
                first
                | with_reducible exact toruslaw01_ModpOrders.j0_dead hrt H
                | skip
                  have H' := Aside0.mk H
                  clear H
                  go_wp2
                  repeat (go_quiet (fail); try go_wp2)
                  go_meet
                  case rel => exact ⟨_, (true), (by first | rfl | (simp; done) | (simp [*]; done)), H', ⟨by first | omega | exact Nat.le_refl _⟩, ⟨by repeat (first | (with_reducible first | exact HB.out | apply below_alloc | apply pw_below_drewN | apply below_drew1) | exact HB.out)⟩⟩
            · rw [if_neg c24] at H
              have c24b0 : (t309 == 0) = false := beq_eq_false_iff_ne.mpr c24
              have c24b1 : (t309 != 0) = true := bne_iff_ne.mpr c24
              first
              | with_reducible exact toruslaw01_ModpOrders.j0_dead hrt H
              | skip
                have H' := Aside0.mk H
                clear H
                go_wp2
                repeat (go_quiet (fail); try go_wp2)
                go_meet
                case rel => exact ⟨_, (true), (by first | rfl | (simp; done) | (simp [*]; done)), H', ⟨by first | omega | exact Nat.le_refl _⟩, ⟨by repeat (first | (with_reducible first | exact HB.out | apply below_alloc | apply pw_below_drewN | apply below_drew1) | exact HB.out)⟩⟩
          · rw [if_neg c23] at H
            have c23b0 : (t307 == 0) = false := beq_eq_false_iff_ne.mpr c23
            have c23b1 : (t307 != 0) = true := bne_iff_ne.mpr c23
            first
            | with_reducible exact toruslaw01_ModpOrders.j0_dead hrt H
            | skip
              have H' := Aside0.mk H
              clear H
              go_wp2
              repeat (go_quiet (fail); try go_wp2)
              go_meet
              case rel => exact ⟨_, (true), (by first | rfl | (simp; done) | (simp [*]; done)), H', ⟨by first | omega | exact Nat.le_refl _⟩, ⟨by repeat (first | (with_reducible first | exact HB.out | apply below_alloc | apply pw_below_drewN | apply below_drew1) | exact HB.out)⟩⟩
        · rw [if_neg c22] at H
          have c22b0 : (t305 == 0) = false := beq_eq_false_iff_ne.mpr c22
          have c22b1 : (t305 != 0) = true := bne_iff_ne.mpr c22
          first
          | with_reducible exact toruslaw01_ModpOrders.j0_dead hrt H
          | skip
            have H' := Aside0.mk H
            clear H
            go_wp2
            repeat (go_quiet (fail); try go_wp2)
            go_meet
            case rel => exact ⟨_, (true), (by first | rfl | (simp; done) | (simp [*]; done)), H', ⟨by first | omega | exact Nat.le_refl _⟩, ⟨by repeat (first | (with_reducible first | exact HB.out | apply below_alloc | apply pw_below_drewN | apply below_drew1) | exact HB.out)⟩⟩
      · rw [if_neg c21] at H
        have c21b0 : (t297 == 0) = false := beq_eq_false_iff_ne.mpr c21
        have c21b1 : (t297 != 0) = true := bne_iff_ne.mpr c21
        (first | rw [c21b0] | (simp only [i64_w, i32_w]; rw [c21b0]) | skip)
        first
        | with_reducible exact toruslaw01_ModpOrders.j0_dead hrt H
        | skip
          have H' := Aside0.mk H
          clear H
          go_wp2
          repeat (go_quiet (fail); try go_wp2)
          go_meet
          case rel => exact ⟨_, (true), (by first | rfl | (simp; done) | (simp [*]; done)), H', ⟨by first | omega | exact Nat.le_refl _⟩, ⟨by repeat (first | (with_reducible first | exact HB.out | apply below_alloc | apply pw_below_drewN | apply below_drew1) | exact HB.out)⟩⟩
    case rest =>
      clear HC19
      try clear c1
      try clear c2
      try clear p2
      try clear p6
      try clear c7
      try clear c7b0
      try clear c7b1
      try clear c8
      try clear c10
      try clear c10b0
      try clear c10b1
      try clear c11
      try clear c11b0
      try clear c11b1
      try clear c21
      try clear c21b0
      try clear c21b1
      try clear c22
      try clear c22b0
      try clear c22b1
      try clear c23
      try clear c23b0
      try clear c23b1
      try clear c24
      try clear c24b0
      try clear c24b1
      try clear c25
      try clear c25b0
      try clear c25b1
      try clear c26
      try clear c26b0
      try clear c27
      try clear c27b0
      try clear c27b1
      try clear c28
      try clear c28b0
      try clear c28b1
      try clear c29
      try clear c29b0
      obtain ⟨kq, x112_18, rfl, HA, HJ18, HB⟩ := hcut
      cases kq with
      | zero => exact absurd HA.out (by simp [toruslaw01_ModpOrders.j0])
      | succ kj18 =>
        have H := HA.out
        clear HA
        simp only [toruslaw01_ModpOrders.j0] at H
        by_cases c30 : x112_18 = true
        · subst c30
          have H1 : (some false) = some r := by rw [if_pos rfl] at H; exact H
          clear H
          have H := H1
          clear H1
          first
          | with_reducible exact absurd ((Option.some.inj H).trans hrt.out) Bool.false_ne_true
          | skip
            obtain rfl := Option.some.inj H
            go_wp2
            repeat (go_quiet (fail); try go_wp2)
            go_ret
            exact ⟨by first | rfl | (simp [errW_none, errW_some] <;> rfl) | (simp [*, errW_none, errW_some] <;> rfl), by repeat (first | (with_reducible first | exact HB.out | apply below_alloc | apply pw_below_drewN | apply below_drew1) | exact HB.out)⟩
        · replace c30 := Bool.eq_false_iff.mpr c30
          subst c30
          have H1 : ((toruslaw01_power.f kj18 t295 a1 a2).bind fun t310 => (if t304 = 0 then (none) else (if ((t310 == 1) == ((Int.tmod a2 t304) == 0)) = true then ((toruslaw01_power.f kj18 t295 t296 t308).bind fun t311 => ((modp_Mod.f kj18 t295 a1).bind fun t312 => (if t311 = t312 then ((toruslaw01_awake.f kj18).bind fun t313 => (some t313)) else (some false)))) else (some false)))) = some r := by rw [if_neg (show ¬ (false = true) by decide)] at H; exact H
          clear H
          have H := H1
          clear H1
          replace H := Option.bind_eq_some_iff.mp H
          obtain ⟨t310, A310, H⟩ := H
          replace H : (if t304 = 0 then (none) else (if ((t310 == 1) == ((Int.tmod a2 t304) == 0)) = true then ((toruslaw01_power.f kj18 t295 t296 t308).bind fun t311 => ((modp_Mod.f kj18 t295 a1).bind fun t312 => (if t311 = t312 then ((toruslaw01_awake.f kj18).bind fun t313 => (some t313)) else (some false)))) else (some false))) = some r := H
          have A31 := Aside0.mk A310
          clear A310
          by_cases c32 : t304 = 0
          · rw [if_pos c32] at H
            exact absurd H (by simp)
          · rw [if_neg c32] at H
            have c32b0 : (t304 == 0) = false := beq_eq_false_iff_ne.mpr c32
            have c32b1 : (t304 != 0) = true := bne_iff_ne.mpr c32
            by_cases c33 : ((t310 == 1) == ((Int.tmod a2 t304) == 0)) = true
            · rw [if_pos c33] at H
              have c33b0 : ((t310 == 1) == ((Int.tmod a2 t304) == 0)) = true := c33
              (try (have c33b1 : decide ((t310 == 1) = ((Int.tmod a2 t304) == 0)) = true := by simpa using c33))
              (try (have c33b2 : ((t310 == 1) == ((Int.tmod a2 t304) == 0)) = true := by simpa using c33))
              clear c33
              replace H := Option.bind_eq_some_iff.mp H
              obtain ⟨t311, A340, H⟩ := H
              replace H : ((modp_Mod.f kj18 t295 a1).bind fun t312 => (if t311 = t312 then ((toruslaw01_awake.f kj18).bind fun t313 => (some t313)) else (some false))) = some r := H
              have A34 := Aside0.mk A340
              clear A340
              replace H := Option.bind_eq_some_iff.mp H
              obtain ⟨t312, A350, H⟩ := H
              replace H : (if t311 = t312 then ((toruslaw01_awake.f kj18).bind fun t313 => (some t313)) else (some false)) = some r := H
              have A35 := Aside0.mk A350
              clear A350
              by_cases c36 : t311 = t312
              · rw [if_pos c36] at H
                have c36b0 : (t311 == t312) = true := beq_iff_eq.mpr c36
                have c36b1 : (t311 != t312) = false := bne_eq_false_iff_eq.mpr c36
                clear c36
                replace H := Option.bind_eq_some_iff.mp H
                obtain ⟨t313, A370, H⟩ := H
                replace H : (some t313) = some r := H
                have A37 := Aside0.mk A370
                clear A370
                first
                | with_reducible exact absurd ((Option.some.inj H).trans hrt.out) Bool.false_ne_true
                | skip
                  obtain rfl := Option.some.inj H
                  go_wp2_with (first | (go_at_call 20; (with_reducible refine (toruslaw01_power.calls kj18 t295 a1 a2 t310 _ A31.out).mono ?_); rintro e w' ⟨rfl, ⟨nd, rfl⟩⟩; (try first | exact ⟨rfl, _, World.drewN_drewN _ _ _⟩ | exact ⟨rfl, _, Eq.trans (World.drewN_drewN _ _ _) (congrArg (World.drewN _) (Nat.add_assoc _ _ _))⟩)) | (go_at_call 20; (with_reducible refine (toruslaw01_power.calls kj18 t295 t296 t308 t311 _ A34.out).mono ?_); rintro e w' ⟨rfl, ⟨nd, rfl⟩⟩; (try first | exact ⟨rfl, _, World.drewN_drewN _ _ _⟩ | exact ⟨rfl, _, Eq.trans (World.drewN_drewN _ _ _) (congrArg (World.drewN _) (Nat.add_assoc _ _ _))⟩)) | (go_at_call 17; (with_reducible refine (modp_Mod.calls kj18 t295 a1 t312 _ A35.out).mono ?_); rintro e w' ⟨rfl, ⟨nd, rfl⟩⟩; (try first | exact ⟨rfl, _, World.drewN_drewN _ _ _⟩ | exact ⟨rfl, _, Eq.trans (World.drewN_drewN _ _ _) (congrArg (World.drewN _) (Nat.add_assoc _ _ _))⟩)) | (go_at_call 15; (with_reducible refine (toruslaw01_awake.calls kj18  t313 _ A37.out).mono ?_); rintro e w' ⟨rfl, ⟨nd, rfl⟩⟩; (try first | exact ⟨rfl, _, World.drewN_drewN _ _ _⟩ | exact ⟨rfl, _, Eq.trans (World.drewN_drewN _ _ _) (congrArg (World.drewN _) (Nat.add_assoc _ _ _))⟩)))
                  repeat (go_quiet (first | (go_at_call 20; (with_reducible refine (toruslaw01_power.calls kj18 t295 a1 a2 t310 _ A31.out).mono ?_); rintro e w' ⟨rfl, ⟨nd, rfl⟩⟩; (try first | exact ⟨rfl, _, World.drewN_drewN _ _ _⟩ | exact ⟨rfl, _, Eq.trans (World.drewN_drewN _ _ _) (congrArg (World.drewN _) (Nat.add_assoc _ _ _))⟩)) | (go_at_call 20; (with_reducible refine (toruslaw01_power.calls kj18 t295 t296 t308 t311 _ A34.out).mono ?_); rintro e w' ⟨rfl, ⟨nd, rfl⟩⟩; (try first | exact ⟨rfl, _, World.drewN_drewN _ _ _⟩ | exact ⟨rfl, _, Eq.trans (World.drewN_drewN _ _ _) (congrArg (World.drewN _) (Nat.add_assoc _ _ _))⟩)) | (go_at_call 17; (with_reducible refine (modp_Mod.calls kj18 t295 a1 t312 _ A35.out).mono ?_); rintro e w' ⟨rfl, ⟨nd, rfl⟩⟩; (try first | exact ⟨rfl, _, World.drewN_drewN _ _ _⟩ | exact ⟨rfl, _, Eq.trans (World.drewN_drewN _ _ _) (congrArg (World.drewN _) (Nat.add_assoc _ _ _))⟩)) | (go_at_call 15; (with_reducible refine (toruslaw01_awake.calls kj18  t313 _ A37.out).mono ?_); rintro e w' ⟨rfl, ⟨nd, rfl⟩⟩; (try first | exact ⟨rfl, _, World.drewN_drewN _ _ _⟩ | exact ⟨rfl, _, Eq.trans (World.drewN_drewN _ _ _) (congrArg (World.drewN _) (Nat.add_assoc _ _ _))⟩))); try go_wp2_with (first | (go_at_call 20; (with_reducible refine (toruslaw01_power.calls kj18 t295 a1 a2 t310 _ A31.out).mono ?_); rintro e w' ⟨rfl, ⟨nd, rfl⟩⟩; (try first | exact ⟨rfl, _, World.drewN_drewN _ _ _⟩ | exact ⟨rfl, _, Eq.trans (World.drewN_drewN _ _ _) (congrArg (World.drewN _) (Nat.add_assoc _ _ _))⟩)) | (go_at_call 20; (with_reducible refine (toruslaw01_power.calls kj18 t295 t296 t308 t311 _ A34.out).mono ?_); rintro e w' ⟨rfl, ⟨nd, rfl⟩⟩; (try first | exact ⟨rfl, _, World.drewN_drewN _ _ _⟩ | exact ⟨rfl, _, Eq.trans (World.drewN_drewN _ _ _) (congrArg (World.drewN _) (Nat.add_assoc _ _ _))⟩)) | (go_at_call 17; (with_reducible refine (modp_Mod.calls kj18 t295 a1 t312 _ A35.out).mono ?_); rintro e w' ⟨rfl, ⟨nd, rfl⟩⟩; (try first | exact ⟨rfl, _, World.drewN_drewN _ _ _⟩ | exact ⟨rfl, _, Eq.trans (World.drewN_drewN _ _ _) (congrArg (World.drewN _) (Nat.add_assoc _ _ _))⟩)) | (go_at_call 15; (with_reducible refine (toruslaw01_awake.calls kj18  t313 _ A37.out).mono ?_); rintro e w' ⟨rfl, ⟨nd, rfl⟩⟩; (try first | exact ⟨rfl, _, World.drewN_drewN _ _ _⟩ | exact ⟨rfl, _, Eq.trans (World.drewN_drewN _ _ _) (congrArg (World.drewN _) (Nat.add_assoc _ _ _))⟩))))
                  go_ret
                  exact ⟨by first | rfl | (simp [errW_none, errW_some] <;> rfl) | (simp [*, errW_none, errW_some] <;> rfl), by repeat (first | (with_reducible first | exact HB.out | apply below_alloc | apply pw_below_drewN | apply below_drew1) | exact HB.out)⟩
              · rw [if_neg c36] at H
                have c36b0 : (t311 == t312) = false := beq_eq_false_iff_ne.mpr c36
                have c36b1 : (t311 != t312) = true := bne_iff_ne.mpr c36
                first
                | with_reducible exact absurd ((Option.some.inj H).trans hrt.out) Bool.false_ne_true
                | skip
                  obtain rfl := Option.some.inj H
                  go_wp2_with (first | (go_at_call 20; (with_reducible refine (toruslaw01_power.calls kj18 t295 a1 a2 t310 _ A31.out).mono ?_); rintro e w' ⟨rfl, ⟨nd, rfl⟩⟩; (try first | exact ⟨rfl, _, World.drewN_drewN _ _ _⟩ | exact ⟨rfl, _, Eq.trans (World.drewN_drewN _ _ _) (congrArg (World.drewN _) (Nat.add_assoc _ _ _))⟩)) | (go_at_call 20; (with_reducible refine (toruslaw01_power.calls kj18 t295 t296 t308 t311 _ A34.out).mono ?_); rintro e w' ⟨rfl, ⟨nd, rfl⟩⟩; (try first | exact ⟨rfl, _, World.drewN_drewN _ _ _⟩ | exact ⟨rfl, _, Eq.trans (World.drewN_drewN _ _ _) (congrArg (World.drewN _) (Nat.add_assoc _ _ _))⟩)) | (go_at_call 17; (with_reducible refine (modp_Mod.calls kj18 t295 a1 t312 _ A35.out).mono ?_); rintro e w' ⟨rfl, ⟨nd, rfl⟩⟩; (try first | exact ⟨rfl, _, World.drewN_drewN _ _ _⟩ | exact ⟨rfl, _, Eq.trans (World.drewN_drewN _ _ _) (congrArg (World.drewN _) (Nat.add_assoc _ _ _))⟩)))
                  repeat (go_quiet (first | (go_at_call 20; (with_reducible refine (toruslaw01_power.calls kj18 t295 a1 a2 t310 _ A31.out).mono ?_); rintro e w' ⟨rfl, ⟨nd, rfl⟩⟩; (try first | exact ⟨rfl, _, World.drewN_drewN _ _ _⟩ | exact ⟨rfl, _, Eq.trans (World.drewN_drewN _ _ _) (congrArg (World.drewN _) (Nat.add_assoc _ _ _))⟩)) | (go_at_call 20; (with_reducible refine (toruslaw01_power.calls kj18 t295 t296 t308 t311 _ A34.out).mono ?_); rintro e w' ⟨rfl, ⟨nd, rfl⟩⟩; (try first | exact ⟨rfl, _, World.drewN_drewN _ _ _⟩ | exact ⟨rfl, _, Eq.trans (World.drewN_drewN _ _ _) (congrArg (World.drewN _) (Nat.add_assoc _ _ _))⟩)) | (go_at_call 17; (with_reducible refine (modp_Mod.calls kj18 t295 a1 t312 _ A35.out).mono ?_); rintro e w' ⟨rfl, ⟨nd, rfl⟩⟩; (try first | exact ⟨rfl, _, World.drewN_drewN _ _ _⟩ | exact ⟨rfl, _, Eq.trans (World.drewN_drewN _ _ _) (congrArg (World.drewN _) (Nat.add_assoc _ _ _))⟩))); try go_wp2_with (first | (go_at_call 20; (with_reducible refine (toruslaw01_power.calls kj18 t295 a1 a2 t310 _ A31.out).mono ?_); rintro e w' ⟨rfl, ⟨nd, rfl⟩⟩; (try first | exact ⟨rfl, _, World.drewN_drewN _ _ _⟩ | exact ⟨rfl, _, Eq.trans (World.drewN_drewN _ _ _) (congrArg (World.drewN _) (Nat.add_assoc _ _ _))⟩)) | (go_at_call 20; (with_reducible refine (toruslaw01_power.calls kj18 t295 t296 t308 t311 _ A34.out).mono ?_); rintro e w' ⟨rfl, ⟨nd, rfl⟩⟩; (try first | exact ⟨rfl, _, World.drewN_drewN _ _ _⟩ | exact ⟨rfl, _, Eq.trans (World.drewN_drewN _ _ _) (congrArg (World.drewN _) (Nat.add_assoc _ _ _))⟩)) | (go_at_call 17; (with_reducible refine (modp_Mod.calls kj18 t295 a1 t312 _ A35.out).mono ?_); rintro e w' ⟨rfl, ⟨nd, rfl⟩⟩; (try first | exact ⟨rfl, _, World.drewN_drewN _ _ _⟩ | exact ⟨rfl, _, Eq.trans (World.drewN_drewN _ _ _) (congrArg (World.drewN _) (Nat.add_assoc _ _ _))⟩))))
                  go_ret
                  exact ⟨by first | rfl | (simp [errW_none, errW_some] <;> rfl) | (simp [*, errW_none, errW_some] <;> rfl), by repeat (first | (with_reducible first | exact HB.out | apply below_alloc | apply pw_below_drewN | apply below_drew1) | exact HB.out)⟩
            · rw [if_neg c33] at H
              have c33b0 : ((t310 == 1) == ((Int.tmod a2 t304) == 0)) = false := by simpa using c33
              (try (have c33b1 : decide ((t310 == 1) = ((Int.tmod a2 t304) == 0)) = false := by simpa using c33))
              (try (have c33b2 : ((t310 == 1) == ((Int.tmod a2 t304) == 0)) = false := by simpa using c33))
              (try (have c33b3 : ¬ ((t310 == 1) = ((Int.tmod a2 t304) == 0)) := by simpa using c33))
              clear c33
              first
              | with_reducible exact absurd ((Option.some.inj H).trans hrt.out) Bool.false_ne_true
              | skip
                obtain rfl := Option.some.inj H
                go_wp2_with (first | (go_at_call 20; (with_reducible refine (toruslaw01_power.calls kj18 t295 a1 a2 t310 _ A31.out).mono ?_); rintro e w' ⟨rfl, ⟨nd, rfl⟩⟩; (try first | exact ⟨rfl, _, World.drewN_drewN _ _ _⟩ | exact ⟨rfl, _, Eq.trans (World.drewN_drewN _ _ _) (congrArg (World.drewN _) (Nat.add_assoc _ _ _))⟩)))
                repeat (go_quiet (first | (go_at_call 20; (with_reducible refine (toruslaw01_power.calls kj18 t295 a1 a2 t310 _ A31.out).mono ?_); rintro e w' ⟨rfl, ⟨nd, rfl⟩⟩; (try first | exact ⟨rfl, _, World.drewN_drewN _ _ _⟩ | exact ⟨rfl, _, Eq.trans (World.drewN_drewN _ _ _) (congrArg (World.drewN _) (Nat.add_assoc _ _ _))⟩))); try go_wp2_with (first | (go_at_call 20; (with_reducible refine (toruslaw01_power.calls kj18 t295 a1 a2 t310 _ A31.out).mono ?_); rintro e w' ⟨rfl, ⟨nd, rfl⟩⟩; (try first | exact ⟨rfl, _, World.drewN_drewN _ _ _⟩ | exact ⟨rfl, _, Eq.trans (World.drewN_drewN _ _ _) (congrArg (World.drewN _) (Nat.add_assoc _ _ _))⟩))))
                go_ret
                exact ⟨by first | rfl | (simp [errW_none, errW_some] <;> rfl) | (simp [*, errW_none, errW_some] <;> rfl), by repeat (first | (with_reducible first | exact HB.out | apply below_alloc | apply pw_below_drewN | apply below_drew1) | exact HB.out)⟩

/-- THE ONE PURE STATEMENT of toruslaw01_ModpOrders: yours. -/
def toruslaw01_ModpOrders.Pure : Prop := ∀ (a0 : Int) (a1 : Int) (a2 : Int), (Lit.int .i64 a0).wf = true → (Lit.int .i64 a1).wf = true → (Lit.int .i64 a2).wf = true → ∃ k, toruslaw01_ModpOrders.f k a0 a1 a2 = some true
theorem toruslaw01_ModpOrders.walk (P : toruslaw01_ModpOrders.Pure) (a0 : Int) (a1 : Int) (a2 : Int) (w : World) (w0 : (Lit.int .i64 a0).wf = true) (w1 : (Lit.int .i64 a1).wf = true) (w2 : (Lit.int .i64 a2).wf = true) :
    Calls Try.prog 8 #[.int .i64 a0, .int .i64 a1, .int .i64 a2] w fun e w' => e = .returned (.bool true) ∧ Below w.heap.size w w' := by
  obtain ⟨k, h⟩ := P a0 a1 a2 w0 w1 w2
  refine (toruslaw01_ModpOrders.calls k a0 a1 a2 true w ⟨rfl⟩ h).mono ?_
  rintro e w' ⟨rfl, hd⟩
  exact ⟨rfl, hd⟩

/-! ### torusref01_Add: function 35 -/
def torusref01_Add.f (k : Nat) (a0 : Int) (a1 : Int) (a2 : Int) : Option (Int × Int) := (torusref01_Prime.f k a0).bind fun t314 => (if t314 = true then ((torusref01_Mod.f k a0 a1).bind fun t315 => ((torusref01_Mod.f k a0 a2).bind fun t316 => ((torusref01_Mod.f k a0 (wrap64 (t315 + t316))).bind fun t317 => (some (t317, 0))))) else (some (0, 8)))
theorem torusref01_Add.mono : ∀ a0 a1 a2 k, LeO (torusref01_Add.f k a0 a1 a2) (torusref01_Add.f (k + 1) a0 a1 a2) := by
  intro a0 a1 a2 k
  unfold torusref01_Add.f
  repeat' first
      | (with_reducible exact torusref01_Mod.mono _ _ _)
      | (with_reducible exact torusref01_Prime.mono _ _)
      | (with_reducible exact LeO.refl _)
      | (with_reducible exact LeO.none _)
      | (with_reducible refine LeO.ite ?_ ?_)
      | (with_reducible refine LeO.bind ?_ (fun _ => ?_))
      | exact torusref01_Mod.mono _ _ _
      | exact torusref01_Prime.mono _ _
      | exact LeO.none _
      | refine LeO.ite ?_ ?_
      | refine LeO.bind ?_ (fun _ => ?_)
set_option maxHeartbeats 8000000 in
set_option maxRecDepth 100000 in
theorem torusref01_Add.calls (k : Nat) (a0 : Int) (a1 : Int) (a2 : Int) (r1 : Int) (r2 : Int) (w : World) (h : torusref01_Add.f k a0 a1 a2 = some (r1, r2)) :
    Calls Try.prog 35 #[.int .i64 a0, .int .i64 a1, .int .i64 a2] w fun e w' => e = .returned (.tuple #[.int .i64 r1, .int .i64 r2]) ∧ Drawn0 w w' := by
  have H : ((torusref01_Prime.f k a0).bind fun t314 => (if t314 = true then ((torusref01_Mod.f k a0 a1).bind fun t315 => ((torusref01_Mod.f k a0 a2).bind fun t316 => ((torusref01_Mod.f k a0 (wrap64 (t315 + t316))).bind fun t317 => (some (t317, 0))))) else (some (0, 8)))) = some (r1, r2) := h
  clear h
  replace H := Option.bind_eq_some_iff.mp H
  obtain ⟨t314, A40, H⟩ := H
  replace H : (if t314 = true then ((torusref01_Mod.f k a0 a1).bind fun t315 => ((torusref01_Mod.f k a0 a2).bind fun t316 => ((torusref01_Mod.f k a0 (wrap64 (t315 + t316))).bind fun t317 => (some (t317, 0))))) else (some (0, 8))) = some (r1, r2) := H
  have A4 := Aside0.mk A40
  clear A40
  by_cases c5 : t314 = true
  · subst c5
    have H1 : ((torusref01_Mod.f k a0 a1).bind fun t315 => ((torusref01_Mod.f k a0 a2).bind fun t316 => ((torusref01_Mod.f k a0 (wrap64 (t315 + t316))).bind fun t317 => (some (t317, 0))))) = some (r1, r2) := by rw [if_pos rfl] at H; exact H
    clear H
    have H := H1
    clear H1
    replace H := Option.bind_eq_some_iff.mp H
    obtain ⟨t315, A60, H⟩ := H
    replace H : ((torusref01_Mod.f k a0 a2).bind fun t316 => ((torusref01_Mod.f k a0 (wrap64 (t315 + t316))).bind fun t317 => (some (t317, 0)))) = some (r1, r2) := H
    have A6 := Aside0.mk A60
    clear A60
    replace H := Option.bind_eq_some_iff.mp H
    obtain ⟨t316, A70, H⟩ := H
    replace H : ((torusref01_Mod.f k a0 (wrap64 (t315 + t316))).bind fun t317 => (some (t317, 0))) = some (r1, r2) := H
    have A7 := Aside0.mk A70
    clear A70
    replace H := Option.bind_eq_some_iff.mp H
    obtain ⟨t317, A80, H⟩ := H
    replace H : (some (t317, 0)) = some (r1, r2) := H
    have A8 := Aside0.mk A80
    clear A80
    simp only [Option.some.injEq, Prod.mk.injEq] at H
    obtain ⟨rfl, rfl⟩ := H
    go_enter Try.func35, Try.ntmps35
    go_wp2_with (first | ((with_reducible refine gate_callee (f := 32) rfl ?_); refine goesL_ (some 9) rfl rfl Try.func32 (by kernel_rfl) rfl #[.int .i64 a0] rfl (by (try simp only [List.map_toArray, List.map_cons, List.map_nil]); first | done | rfl | (simp only [List.length_drop, List.length_take]; rfl)) ?_; (with_reducible refine (torusref01_Prime.calls k a0 true _ A4.out).mono ?_); rintro e w' ⟨rfl, ⟨nd, rfl⟩⟩; refine ⟨_, rfl, ?_⟩) | ((with_reducible refine gate_callee (f := 33) rfl ?_); refine goesL_ (some 14) rfl rfl Try.func33 (by kernel_rfl) rfl #[.int .i64 a0, .int .i64 a1] rfl (by (try simp only [List.map_toArray, List.map_cons, List.map_nil]); first | done | rfl | (simp only [List.length_drop, List.length_take]; rfl)) ?_; (with_reducible refine (torusref01_Mod.calls k a0 a1 t315 _ A6.out).mono ?_); rintro e w' ⟨rfl, ⟨nd, rfl⟩⟩; refine ⟨_, rfl, ?_⟩) | ((with_reducible refine gate_callee (f := 33) rfl ?_); refine goesL_ (some 17) rfl rfl Try.func33 (by kernel_rfl) rfl #[.int .i64 a0, .int .i64 a2] rfl (by (try simp only [List.map_toArray, List.map_cons, List.map_nil]); first | done | rfl | (simp only [List.length_drop, List.length_take]; rfl)) ?_; (with_reducible refine (torusref01_Mod.calls k a0 a2 t316 _ A7.out).mono ?_); rintro e w' ⟨rfl, ⟨nd, rfl⟩⟩; refine ⟨_, rfl, ?_⟩) | ((with_reducible refine gate_callee (f := 33) rfl ?_); refine goesL_ (some 19) rfl rfl Try.func33 (by kernel_rfl) rfl #[.int .i64 a0, .int .i64 (wrap64 (t315 + t316))] rfl (by (try simp only [List.map_toArray, List.map_cons, List.map_nil]); first | done | rfl | (simp only [List.length_drop, List.length_take]; rfl)) ?_; (with_reducible refine (torusref01_Mod.calls k a0 (wrap64 (t315 + t316)) t317 _ A8.out).mono ?_); rintro e w' ⟨rfl, ⟨nd, rfl⟩⟩; refine ⟨_, rfl, ?_⟩))
    go_ret2
    exact ⟨by first | rfl | (simp; done) | (simp [*]; done), by repeat (first | exact Drawn0.refl _ | apply Drawn0.step)⟩
  · replace c5 := Bool.eq_false_iff.mpr c5
    subst c5
    have H1 : (some (0, 8)) = some (r1, r2) := by rw [if_neg (show ¬ (false = true) by decide)] at H; exact H
    clear H
    have H := H1
    clear H1
    simp only [Option.some.injEq, Prod.mk.injEq] at H
    obtain ⟨rfl, rfl⟩ := H
    go_enter Try.func35, Try.ntmps35
    go_wp2_with (first | ((with_reducible refine gate_callee (f := 32) rfl ?_); refine goesL_ (some 9) rfl rfl Try.func32 (by kernel_rfl) rfl #[.int .i64 a0] rfl (by (try simp only [List.map_toArray, List.map_cons, List.map_nil]); first | done | rfl | (simp only [List.length_drop, List.length_take]; rfl)) ?_; (with_reducible refine (torusref01_Prime.calls k a0 false _ A4.out).mono ?_); rintro e w' ⟨rfl, ⟨nd, rfl⟩⟩; refine ⟨_, rfl, ?_⟩))
    go_ret2
    exact ⟨by first | rfl | (simp; done) | (simp [*]; done), by repeat (first | exact Drawn0.refl _ | apply Drawn0.step)⟩

/-! ### torusref01_Sub: function 36 -/
def torusref01_Sub.f (k : Nat) (a0 : Int) (a1 : Int) (a2 : Int) : Option (Int × Int) := (torusref01_Prime.f k a0).bind fun t318 => (if t318 = true then ((torusref01_Mod.f k a0 a1).bind fun t319 => ((torusref01_Mod.f k a0 a2).bind fun t320 => ((torusref01_Mod.f k a0 (wrap64 (t319 - t320))).bind fun t321 => (some (t321, 0))))) else (some (0, 8)))
theorem torusref01_Sub.mono : ∀ a0 a1 a2 k, LeO (torusref01_Sub.f k a0 a1 a2) (torusref01_Sub.f (k + 1) a0 a1 a2) := by
  intro a0 a1 a2 k
  unfold torusref01_Sub.f
  repeat' first
      | (with_reducible exact torusref01_Mod.mono _ _ _)
      | (with_reducible exact torusref01_Prime.mono _ _)
      | (with_reducible exact LeO.refl _)
      | (with_reducible exact LeO.none _)
      | (with_reducible refine LeO.ite ?_ ?_)
      | (with_reducible refine LeO.bind ?_ (fun _ => ?_))
      | exact torusref01_Mod.mono _ _ _
      | exact torusref01_Prime.mono _ _
      | exact LeO.none _
      | refine LeO.ite ?_ ?_
      | refine LeO.bind ?_ (fun _ => ?_)
set_option maxHeartbeats 8000000 in
set_option maxRecDepth 100000 in
theorem torusref01_Sub.calls (k : Nat) (a0 : Int) (a1 : Int) (a2 : Int) (r1 : Int) (r2 : Int) (w : World) (h : torusref01_Sub.f k a0 a1 a2 = some (r1, r2)) :
    Calls Try.prog 36 #[.int .i64 a0, .int .i64 a1, .int .i64 a2] w fun e w' => e = .returned (.tuple #[.int .i64 r1, .int .i64 r2]) ∧ Drawn0 w w' := by
  have H : ((torusref01_Prime.f k a0).bind fun t318 => (if t318 = true then ((torusref01_Mod.f k a0 a1).bind fun t319 => ((torusref01_Mod.f k a0 a2).bind fun t320 => ((torusref01_Mod.f k a0 (wrap64 (t319 - t320))).bind fun t321 => (some (t321, 0))))) else (some (0, 8)))) = some (r1, r2) := h
  clear h
  replace H := Option.bind_eq_some_iff.mp H
  obtain ⟨t318, A40, H⟩ := H
  replace H : (if t318 = true then ((torusref01_Mod.f k a0 a1).bind fun t319 => ((torusref01_Mod.f k a0 a2).bind fun t320 => ((torusref01_Mod.f k a0 (wrap64 (t319 - t320))).bind fun t321 => (some (t321, 0))))) else (some (0, 8))) = some (r1, r2) := H
  have A4 := Aside0.mk A40
  clear A40
  by_cases c5 : t318 = true
  · subst c5
    have H1 : ((torusref01_Mod.f k a0 a1).bind fun t319 => ((torusref01_Mod.f k a0 a2).bind fun t320 => ((torusref01_Mod.f k a0 (wrap64 (t319 - t320))).bind fun t321 => (some (t321, 0))))) = some (r1, r2) := by rw [if_pos rfl] at H; exact H
    clear H
    have H := H1
    clear H1
    replace H := Option.bind_eq_some_iff.mp H
    obtain ⟨t319, A60, H⟩ := H
    replace H : ((torusref01_Mod.f k a0 a2).bind fun t320 => ((torusref01_Mod.f k a0 (wrap64 (t319 - t320))).bind fun t321 => (some (t321, 0)))) = some (r1, r2) := H
    have A6 := Aside0.mk A60
    clear A60
    replace H := Option.bind_eq_some_iff.mp H
    obtain ⟨t320, A70, H⟩ := H
    replace H : ((torusref01_Mod.f k a0 (wrap64 (t319 - t320))).bind fun t321 => (some (t321, 0))) = some (r1, r2) := H
    have A7 := Aside0.mk A70
    clear A70
    replace H := Option.bind_eq_some_iff.mp H
    obtain ⟨t321, A80, H⟩ := H
    replace H : (some (t321, 0)) = some (r1, r2) := H
    have A8 := Aside0.mk A80
    clear A80
    simp only [Option.some.injEq, Prod.mk.injEq] at H
    obtain ⟨rfl, rfl⟩ := H
    go_enter Try.func36, Try.ntmps36
    go_wp2_with (first | ((with_reducible refine gate_callee (f := 32) rfl ?_); refine goesL_ (some 9) rfl rfl Try.func32 (by kernel_rfl) rfl #[.int .i64 a0] rfl (by (try simp only [List.map_toArray, List.map_cons, List.map_nil]); first | done | rfl | (simp only [List.length_drop, List.length_take]; rfl)) ?_; (with_reducible refine (torusref01_Prime.calls k a0 true _ A4.out).mono ?_); rintro e w' ⟨rfl, ⟨nd, rfl⟩⟩; refine ⟨_, rfl, ?_⟩) | ((with_reducible refine gate_callee (f := 33) rfl ?_); refine goesL_ (some 14) rfl rfl Try.func33 (by kernel_rfl) rfl #[.int .i64 a0, .int .i64 a1] rfl (by (try simp only [List.map_toArray, List.map_cons, List.map_nil]); first | done | rfl | (simp only [List.length_drop, List.length_take]; rfl)) ?_; (with_reducible refine (torusref01_Mod.calls k a0 a1 t319 _ A6.out).mono ?_); rintro e w' ⟨rfl, ⟨nd, rfl⟩⟩; refine ⟨_, rfl, ?_⟩) | ((with_reducible refine gate_callee (f := 33) rfl ?_); refine goesL_ (some 17) rfl rfl Try.func33 (by kernel_rfl) rfl #[.int .i64 a0, .int .i64 a2] rfl (by (try simp only [List.map_toArray, List.map_cons, List.map_nil]); first | done | rfl | (simp only [List.length_drop, List.length_take]; rfl)) ?_; (with_reducible refine (torusref01_Mod.calls k a0 a2 t320 _ A7.out).mono ?_); rintro e w' ⟨rfl, ⟨nd, rfl⟩⟩; refine ⟨_, rfl, ?_⟩) | ((with_reducible refine gate_callee (f := 33) rfl ?_); refine goesL_ (some 19) rfl rfl Try.func33 (by kernel_rfl) rfl #[.int .i64 a0, .int .i64 (wrap64 (t319 - t320))] rfl (by (try simp only [List.map_toArray, List.map_cons, List.map_nil]); first | done | rfl | (simp only [List.length_drop, List.length_take]; rfl)) ?_; (with_reducible refine (torusref01_Mod.calls k a0 (wrap64 (t319 - t320)) t321 _ A8.out).mono ?_); rintro e w' ⟨rfl, ⟨nd, rfl⟩⟩; refine ⟨_, rfl, ?_⟩))
    go_ret2
    exact ⟨by first | rfl | (simp; done) | (simp [*]; done), by repeat (first | exact Drawn0.refl _ | apply Drawn0.step)⟩
  · replace c5 := Bool.eq_false_iff.mpr c5
    subst c5
    have H1 : (some (0, 8)) = some (r1, r2) := by rw [if_neg (show ¬ (false = true) by decide)] at H; exact H
    clear H
    have H := H1
    clear H1
    simp only [Option.some.injEq, Prod.mk.injEq] at H
    obtain ⟨rfl, rfl⟩ := H
    go_enter Try.func36, Try.ntmps36
    go_wp2_with (first | ((with_reducible refine gate_callee (f := 32) rfl ?_); refine goesL_ (some 9) rfl rfl Try.func32 (by kernel_rfl) rfl #[.int .i64 a0] rfl (by (try simp only [List.map_toArray, List.map_cons, List.map_nil]); first | done | rfl | (simp only [List.length_drop, List.length_take]; rfl)) ?_; (with_reducible refine (torusref01_Prime.calls k a0 false _ A4.out).mono ?_); rintro e w' ⟨rfl, ⟨nd, rfl⟩⟩; refine ⟨_, rfl, ?_⟩))
    go_ret2
    exact ⟨by first | rfl | (simp; done) | (simp [*]; done), by repeat (first | exact Drawn0.refl _ | apply Drawn0.step)⟩

/-! ### torusref01_Mul: function 38 -/
def torusref01_Mul.f (k : Nat) (a0 : Int) (a1 : Int) (a2 : Int) : Option (Int × Int) := (torusref01_Prime.f k a0).bind fun t322 => (if t322 = true then ((torusref01_Mod.f k a0 a1).bind fun t323 => ((torusref01_Mod.f k a0 a2).bind fun t324 => ((torusref01_Mod.f k a0 (wrap64 (t323 * t324))).bind fun t325 => (some (t325, 0))))) else (some (0, 8)))
theorem torusref01_Mul.mono : ∀ a0 a1 a2 k, LeO (torusref01_Mul.f k a0 a1 a2) (torusref01_Mul.f (k + 1) a0 a1 a2) := by
  intro a0 a1 a2 k
  unfold torusref01_Mul.f
  repeat' first
      | (with_reducible exact torusref01_Mod.mono _ _ _)
      | (with_reducible exact torusref01_Prime.mono _ _)
      | (with_reducible exact LeO.refl _)
      | (with_reducible exact LeO.none _)
      | (with_reducible refine LeO.ite ?_ ?_)
      | (with_reducible refine LeO.bind ?_ (fun _ => ?_))
      | exact torusref01_Mod.mono _ _ _
      | exact torusref01_Prime.mono _ _
      | exact LeO.none _
      | refine LeO.ite ?_ ?_
      | refine LeO.bind ?_ (fun _ => ?_)
set_option maxHeartbeats 8000000 in
set_option maxRecDepth 100000 in
theorem torusref01_Mul.calls (k : Nat) (a0 : Int) (a1 : Int) (a2 : Int) (r1 : Int) (r2 : Int) (w : World) (h : torusref01_Mul.f k a0 a1 a2 = some (r1, r2)) :
    Calls Try.prog 38 #[.int .i64 a0, .int .i64 a1, .int .i64 a2] w fun e w' => e = .returned (.tuple #[.int .i64 r1, .int .i64 r2]) ∧ Drawn0 w w' := by
  have H : ((torusref01_Prime.f k a0).bind fun t322 => (if t322 = true then ((torusref01_Mod.f k a0 a1).bind fun t323 => ((torusref01_Mod.f k a0 a2).bind fun t324 => ((torusref01_Mod.f k a0 (wrap64 (t323 * t324))).bind fun t325 => (some (t325, 0))))) else (some (0, 8)))) = some (r1, r2) := h
  clear h
  replace H := Option.bind_eq_some_iff.mp H
  obtain ⟨t322, A40, H⟩ := H
  replace H : (if t322 = true then ((torusref01_Mod.f k a0 a1).bind fun t323 => ((torusref01_Mod.f k a0 a2).bind fun t324 => ((torusref01_Mod.f k a0 (wrap64 (t323 * t324))).bind fun t325 => (some (t325, 0))))) else (some (0, 8))) = some (r1, r2) := H
  have A4 := Aside0.mk A40
  clear A40
  by_cases c5 : t322 = true
  · subst c5
    have H1 : ((torusref01_Mod.f k a0 a1).bind fun t323 => ((torusref01_Mod.f k a0 a2).bind fun t324 => ((torusref01_Mod.f k a0 (wrap64 (t323 * t324))).bind fun t325 => (some (t325, 0))))) = some (r1, r2) := by rw [if_pos rfl] at H; exact H
    clear H
    have H := H1
    clear H1
    replace H := Option.bind_eq_some_iff.mp H
    obtain ⟨t323, A60, H⟩ := H
    replace H : ((torusref01_Mod.f k a0 a2).bind fun t324 => ((torusref01_Mod.f k a0 (wrap64 (t323 * t324))).bind fun t325 => (some (t325, 0)))) = some (r1, r2) := H
    have A6 := Aside0.mk A60
    clear A60
    replace H := Option.bind_eq_some_iff.mp H
    obtain ⟨t324, A70, H⟩ := H
    replace H : ((torusref01_Mod.f k a0 (wrap64 (t323 * t324))).bind fun t325 => (some (t325, 0))) = some (r1, r2) := H
    have A7 := Aside0.mk A70
    clear A70
    replace H := Option.bind_eq_some_iff.mp H
    obtain ⟨t325, A80, H⟩ := H
    replace H : (some (t325, 0)) = some (r1, r2) := H
    have A8 := Aside0.mk A80
    clear A80
    simp only [Option.some.injEq, Prod.mk.injEq] at H
    obtain ⟨rfl, rfl⟩ := H
    go_enter Try.func38, Try.ntmps38
    go_wp2_with (first | ((with_reducible refine gate_callee (f := 32) rfl ?_); refine goesL_ (some 9) rfl rfl Try.func32 (by kernel_rfl) rfl #[.int .i64 a0] rfl (by (try simp only [List.map_toArray, List.map_cons, List.map_nil]); first | done | rfl | (simp only [List.length_drop, List.length_take]; rfl)) ?_; (with_reducible refine (torusref01_Prime.calls k a0 true _ A4.out).mono ?_); rintro e w' ⟨rfl, ⟨nd, rfl⟩⟩; refine ⟨_, rfl, ?_⟩) | ((with_reducible refine gate_callee (f := 33) rfl ?_); refine goesL_ (some 14) rfl rfl Try.func33 (by kernel_rfl) rfl #[.int .i64 a0, .int .i64 a1] rfl (by (try simp only [List.map_toArray, List.map_cons, List.map_nil]); first | done | rfl | (simp only [List.length_drop, List.length_take]; rfl)) ?_; (with_reducible refine (torusref01_Mod.calls k a0 a1 t323 _ A6.out).mono ?_); rintro e w' ⟨rfl, ⟨nd, rfl⟩⟩; refine ⟨_, rfl, ?_⟩) | ((with_reducible refine gate_callee (f := 33) rfl ?_); refine goesL_ (some 17) rfl rfl Try.func33 (by kernel_rfl) rfl #[.int .i64 a0, .int .i64 a2] rfl (by (try simp only [List.map_toArray, List.map_cons, List.map_nil]); first | done | rfl | (simp only [List.length_drop, List.length_take]; rfl)) ?_; (with_reducible refine (torusref01_Mod.calls k a0 a2 t324 _ A7.out).mono ?_); rintro e w' ⟨rfl, ⟨nd, rfl⟩⟩; refine ⟨_, rfl, ?_⟩) | ((with_reducible refine gate_callee (f := 33) rfl ?_); refine goesL_ (some 19) rfl rfl Try.func33 (by kernel_rfl) rfl #[.int .i64 a0, .int .i64 (wrap64 (t323 * t324))] rfl (by (try simp only [List.map_toArray, List.map_cons, List.map_nil]); first | done | rfl | (simp only [List.length_drop, List.length_take]; rfl)) ?_; (with_reducible refine (torusref01_Mod.calls k a0 (wrap64 (t323 * t324)) t325 _ A8.out).mono ?_); rintro e w' ⟨rfl, ⟨nd, rfl⟩⟩; refine ⟨_, rfl, ?_⟩))
    go_ret2
    exact ⟨by first | rfl | (simp; done) | (simp [*]; done), by repeat (first | exact Drawn0.refl _ | apply Drawn0.step)⟩
  · replace c5 := Bool.eq_false_iff.mpr c5
    subst c5
    have H1 : (some (0, 8)) = some (r1, r2) := by rw [if_neg (show ¬ (false = true) by decide)] at H; exact H
    clear H
    have H := H1
    clear H1
    simp only [Option.some.injEq, Prod.mk.injEq] at H
    obtain ⟨rfl, rfl⟩ := H
    go_enter Try.func38, Try.ntmps38
    go_wp2_with (first | ((with_reducible refine gate_callee (f := 32) rfl ?_); refine goesL_ (some 9) rfl rfl Try.func32 (by kernel_rfl) rfl #[.int .i64 a0] rfl (by (try simp only [List.map_toArray, List.map_cons, List.map_nil]); first | done | rfl | (simp only [List.length_drop, List.length_take]; rfl)) ?_; (with_reducible refine (torusref01_Prime.calls k a0 false _ A4.out).mono ?_); rintro e w' ⟨rfl, ⟨nd, rfl⟩⟩; refine ⟨_, rfl, ?_⟩))
    go_ret2
    exact ⟨by first | rfl | (simp; done) | (simp [*]; done), by repeat (first | exact Drawn0.refl _ | apply Drawn0.step)⟩

/-! ### torusref01_Inv: function 40 -/
def torusref01_Inv.l0 : Nat → Int → Int → Int → Option (Int × Int)
  | 0, _, _, _ => none
  | k + 1, x0, x1, x6 => if x6 < x0 then ((torusref01_Mod.f k x0 x1).bind fun t327 => (if x0 = 0 then (none) else (if (Int.tmod (wrap64 (x6 * t327)) x0) = 1 then (some (x6, 0)) else (torusref01_Inv.l0 k x0 x1 (wrap64 (x6 + 1)))))) else (some (0, 9))
def torusref01_Inv.f (k : Nat) (a0 : Int) (a1 : Int) : Option (Int × Int) := (torusref01_Prime.f k a0).bind fun t326 => (if t326 = true then (torusref01_Inv.l0 k a0 a1 1) else (some (0, 8)))
theorem torusref01_Inv.mono_l : ∀ k, (∀ y0 y1 y2, LeO (torusref01_Inv.l0 k y0 y1 y2) (torusref01_Inv.l0 (k + 1) y0 y1 y2))
  | 0 => fun _ _ _ r h => by simp [torusref01_Inv.l0] at h
  | k + 1 => by
    have ih0 := torusref01_Inv.mono_l k
    · intro y0 y1 y2
      unfold torusref01_Inv.l0
      repeat' first
      | (with_reducible exact ih0 _ _ _)
      | (with_reducible exact torusref01_Mod.mono _ _ _)
      | (with_reducible exact torusref01_Prime.mono _ _)
      | (with_reducible exact LeO.refl _)
      | (with_reducible exact LeO.none _)
      | (with_reducible refine LeO.ite ?_ ?_)
      | (with_reducible refine LeO.bind ?_ (fun _ => ?_))
      | exact ih0 _ _ _
      | exact torusref01_Mod.mono _ _ _
      | exact torusref01_Prime.mono _ _
      | exact LeO.none _
      | refine LeO.ite ?_ ?_
      | refine LeO.bind ?_ (fun _ => ?_)
theorem torusref01_Inv.mono : ∀ a0 a1 k, LeO (torusref01_Inv.f k a0 a1) (torusref01_Inv.f (k + 1) a0 a1) := by
  intro a0 a1 k
  have ih0 := torusref01_Inv.mono_l k
  unfold torusref01_Inv.f
  repeat' first
      | (with_reducible exact ih0 _ _ _)
      | (with_reducible exact torusref01_Mod.mono _ _ _)
      | (with_reducible exact torusref01_Prime.mono _ _)
      | (with_reducible exact LeO.refl _)
      | (with_reducible exact LeO.none _)
      | (with_reducible refine LeO.ite ?_ ?_)
      | (with_reducible refine LeO.bind ?_ (fun _ => ?_))
      | exact ih0 _ _ _
      | exact torusref01_Mod.mono _ _ _
      | exact torusref01_Prime.mono _ _
      | exact LeO.none _
      | refine LeO.ite ?_ ?_
      | refine LeO.bind ?_ (fun _ => ?_)
set_option maxHeartbeats 8000000 in
set_option maxRecDepth 100000 in
theorem torusref01_Inv.calls (k : Nat) (a0 : Int) (a1 : Int) (r1 : Int) (r2 : Int) (w : World) (h : torusref01_Inv.f k a0 a1 = some (r1, r2)) :
    Calls Try.prog 40 #[.int .i64 a0, .int .i64 a1] w fun e w' => e = .returned (.tuple #[.int .i64 r1, .int .i64 r2]) ∧ Drawn0 w w' := by
  have H : ((torusref01_Prime.f k a0).bind fun t326 => (if t326 = true then (torusref01_Inv.l0 k a0 a1 1) else (some (0, 8)))) = some (r1, r2) := h
  clear h
  replace H := Option.bind_eq_some_iff.mp H
  obtain ⟨t326, A30, H⟩ := H
  replace H : (if t326 = true then (torusref01_Inv.l0 k a0 a1 1) else (some (0, 8))) = some (r1, r2) := H
  have A3 := Aside0.mk A30
  clear A30
  by_cases c4 : t326 = true
  · subst c4
    have H1 : (torusref01_Inv.l0 k a0 a1 1) = some (r1, r2) := by rw [if_pos rfl] at H; exact H
    clear H
    have H := H1
    clear H1
    have H' := Aside0.mk H
    clear H
    go_enter Try.func40, Try.ntmps40
    go_wp2_with (first | ((with_reducible refine gate_callee (f := 32) rfl ?_); refine goesL_ (some 8) rfl rfl Try.func32 (by kernel_rfl) rfl #[.int .i64 a0] rfl (by (try simp only [List.map_toArray, List.map_cons, List.map_nil]); first | done | rfl | (simp only [List.length_drop, List.length_take]; rfl)) ?_; (with_reducible refine (torusref01_Prime.calls k a0 true _ A3.out).mono ?_); rintro e w' ⟨rfl, ⟨nd, rfl⟩⟩; refine ⟨_, rfl, ?_⟩))
    go_loopg [6] k (fun kq v6 w' => ∃ (x6_1 : Int), v6 = .int .i64 x6_1 ∧ Aside0 (torusref01_Inv.l0 kq a0 a1 x6_1 = some (r1, r2)) ∧ Aside0 (kq ≤ k) ∧ Drawn0 w w')
    case atStart => exact ⟨(1), (by first | rfl | (simp; done) | (simp [*]; done)), H', ⟨Nat.le_refl _⟩, by repeat (first | exact Drawn0.refl _ | apply Drawn0.step)⟩
    case round =>
      clear H'
      try clear p2
      try clear c3
      try clear c4
      obtain ⟨x6_1, rfl, HA, HK1, ⟨m1, rfl⟩⟩ := hrel
      cases gk with
      | zero => exact absurd HA.out (by simp [torusref01_Inv.l0])
      | succ k1 =>
        have H := HA.out
        clear HA
        simp only [torusref01_Inv.l0] at H
        by_cases c5 : x6_1 < a0
        · rw [if_pos c5] at H
          have c5b0 : decide (x6_1 < a0) = true := decide_eq_true c5
          clear c5
          replace H := Option.bind_eq_some_iff.mp H
          obtain ⟨t327, A60, H⟩ := H
          replace H : (if a0 = 0 then (none) else (if (Int.tmod (wrap64 (x6_1 * t327)) a0) = 1 then (some (x6_1, 0)) else (torusref01_Inv.l0 k1 a0 a1 (wrap64 (x6_1 + 1))))) = some (r1, r2) := H
          have A6 := Aside0.mk A60
          clear A60
          by_cases c7 : a0 = 0
          · rw [if_pos c7] at H
            exact absurd H (by simp)
          · rw [if_neg c7] at H
            have c7b0 : (a0 == 0) = false := beq_eq_false_iff_ne.mpr c7
            have c7b1 : (a0 != 0) = true := bne_iff_ne.mpr c7
            by_cases c8 : (Int.tmod (wrap64 (x6_1 * t327)) a0) = 1
            · rw [if_pos c8] at H
              have c8b0 : ((Int.tmod (wrap64 (x6_1 * t327)) a0) == 1) = true := beq_iff_eq.mpr c8
              have c8b1 : ((Int.tmod (wrap64 (x6_1 * t327)) a0) != 1) = false := bne_eq_false_iff_eq.mpr c8
              clear c8
              simp only [Option.some.injEq, Prod.mk.injEq] at H
              obtain ⟨rfl, rfl⟩ := H
              go_wp2_with (first | ((with_reducible refine gate_callee (f := 33) rfl ?_); refine goesL_ (some 18) rfl rfl Try.func33 (by kernel_rfl) rfl #[.int .i64 a0, .int .i64 a1] rfl (by (try simp only [List.map_toArray, List.map_cons, List.map_nil]); first | done | rfl | (simp only [List.length_drop, List.length_take]; rfl)) ?_; (with_reducible refine (torusref01_Mod.calls k1 a0 a1 t327 _ A6.out).mono ?_); rintro e w' ⟨rfl, ⟨nd, rfl⟩⟩; refine ⟨_, rfl, ?_⟩))
              go_ret2
              exact ⟨by first | rfl | (simp; done) | (simp [*]; done), by repeat (first | exact Drawn0.refl _ | apply Drawn0.step)⟩
            · rw [if_neg c8] at H
              have c8b0 : ((Int.tmod (wrap64 (x6_1 * t327)) a0) == 1) = false := beq_eq_false_iff_ne.mpr c8
              have c8b1 : ((Int.tmod (wrap64 (x6_1 * t327)) a0) != 1) = true := bne_iff_ne.mpr c8
              have H' := Aside0.mk H
              clear H
              go_wp2_with (first | ((with_reducible refine gate_callee (f := 33) rfl ?_); refine goesL_ (some 18) rfl rfl Try.func33 (by kernel_rfl) rfl #[.int .i64 a0, .int .i64 a1] rfl (by (try simp only [List.map_toArray, List.map_cons, List.map_nil]); first | done | rfl | (simp only [List.length_drop, List.length_take]; rfl)) ?_; (with_reducible refine (torusref01_Mod.calls k1 a0 a1 t327 _ A6.out).mono ?_); rintro e w' ⟨rfl, ⟨nd, rfl⟩⟩; refine ⟨_, rfl, ?_⟩))
              go_roundg k1
              case measure => have := HK1.out; omega
              case rel => exact ⟨(wrap64 (x6_1 + 1)), (by first | rfl | (simp; done) | (simp [*]; done)), H', ⟨by have := HK1.out; omega⟩, by repeat (first | exact Drawn0.refl _ | apply Drawn0.step)⟩
        · rw [if_neg c5] at H
          have c5b0 : decide (x6_1 < a0) = false := decide_eq_false c5
          clear c5
          simp only [Option.some.injEq, Prod.mk.injEq] at H
          obtain ⟨rfl, rfl⟩ := H
          go_wp2
          go_ret2
          exact ⟨by first | rfl | (simp; done) | (simp [*]; done), by repeat (first | exact Drawn0.refl _ | apply Drawn0.step)⟩
  · replace c4 := Bool.eq_false_iff.mpr c4
    subst c4
    have H1 : (some (0, 8)) = some (r1, r2) := by rw [if_neg (show ¬ (false = true) by decide)] at H; exact H
    clear H
    have H := H1
    clear H1
    simp only [Option.some.injEq, Prod.mk.injEq] at H
    obtain ⟨rfl, rfl⟩ := H
    go_enter Try.func40, Try.ntmps40
    go_wp2_with (first | ((with_reducible refine gate_callee (f := 32) rfl ?_); refine goesL_ (some 8) rfl rfl Try.func32 (by kernel_rfl) rfl #[.int .i64 a0] rfl (by (try simp only [List.map_toArray, List.map_cons, List.map_nil]); first | done | rfl | (simp only [List.length_drop, List.length_take]; rfl)) ?_; (with_reducible refine (torusref01_Prime.calls k a0 false _ A3.out).mono ?_); rintro e w' ⟨rfl, ⟨nd, rfl⟩⟩; refine ⟨_, rfl, ?_⟩))
    go_ret2
    exact ⟨by first | rfl | (simp; done) | (simp [*]; done), by repeat (first | exact Drawn0.refl _ | apply Drawn0.step)⟩

/-! ### torusref01_Div: function 39 -/
def torusref01_Div.f (k : Nat) (a0 : Int) (a1 : Int) (a2 : Int) : Option (Int × Int) := (torusref01_Inv.f k a0 a2).bind fun bt328 => (if bt328.2 = 0 then ((torusref01_Mul.f k a0 a1 bt328.1).bind fun bt330 => (some (bt330.1, bt330.2))) else (some (0, bt328.2)))
theorem torusref01_Div.mono : ∀ a0 a1 a2 k, LeO (torusref01_Div.f k a0 a1 a2) (torusref01_Div.f (k + 1) a0 a1 a2) := by
  intro a0 a1 a2 k
  unfold torusref01_Div.f
  repeat' first
      | (with_reducible exact torusref01_Inv.mono _ _ _)
      | (with_reducible exact torusref01_Mul.mono _ _ _ _)
      | (with_reducible exact LeO.refl _)
      | (with_reducible exact LeO.none _)
      | (with_reducible refine LeO.ite ?_ ?_)
      | (with_reducible refine LeO.bind ?_ (fun _ => ?_))
      | exact torusref01_Inv.mono _ _ _
      | exact torusref01_Mul.mono _ _ _ _
      | exact LeO.none _
      | refine LeO.ite ?_ ?_
      | refine LeO.bind ?_ (fun _ => ?_)
set_option maxHeartbeats 8000000 in
set_option maxRecDepth 100000 in
theorem torusref01_Div.calls (k : Nat) (a0 : Int) (a1 : Int) (a2 : Int) (r1 : Int) (r2 : Int) (w : World) (h : torusref01_Div.f k a0 a1 a2 = some (r1, r2)) :
    Calls Try.prog 39 #[.int .i64 a0, .int .i64 a1, .int .i64 a2] w fun e w' => e = .returned (.tuple #[.int .i64 r1, .int .i64 r2]) ∧ Drawn0 w w' := by
  have H : ((torusref01_Inv.f k a0 a2).bind fun bt328 => (if bt328.2 = 0 then ((torusref01_Mul.f k a0 a1 bt328.1).bind fun bt330 => (some (bt330.1, bt330.2))) else (some (0, bt328.2)))) = some (r1, r2) := h
  clear h
  replace H := Option.bind_eq_some_iff.mp H
  obtain ⟨⟨t328, t329⟩, A40, H⟩ := H
  replace H : (if t329 = 0 then ((torusref01_Mul.f k a0 a1 t328).bind fun bt330 => (some (bt330.1, bt330.2))) else (some (0, t329))) = some (r1, r2) := H
  have A4 := Aside0.mk A40
  clear A40
  by_cases c5 : t329 = 0
  · rw [if_pos c5] at H
    have c5b0 : (t329 == 0) = true := beq_iff_eq.mpr c5
    have c5b1 : (t329 != 0) = false := bne_eq_false_iff_eq.mpr c5
    clear c5
    replace H := Option.bind_eq_some_iff.mp H
    obtain ⟨⟨t330, t331⟩, A60, H⟩ := H
    replace H : (some (t330, t331)) = some (r1, r2) := H
    have A6 := Aside0.mk A60
    clear A60
    simp only [Option.some.injEq, Prod.mk.injEq] at H
    obtain ⟨rfl, rfl⟩ := H
    go_enter Try.func39, Try.ntmps39
    go_wp2_with (first | ((with_reducible refine gate_callee (f := 40) rfl ?_); refine goesL_ (some 13) rfl rfl Try.func40 (by kernel_rfl) rfl #[.int .i64 a0, .int .i64 a2] rfl (by (try simp only [List.map_toArray, List.map_cons, List.map_nil]); first | done | rfl | (simp only [List.length_drop, List.length_take]; rfl)) ?_; (with_reducible refine (torusref01_Inv.calls k a0 a2 t328 t329 _ A4.out).mono ?_); rintro e w' ⟨rfl, ⟨nd, rfl⟩⟩; refine ⟨_, rfl, ?_⟩) | ((with_reducible refine gate_callee (f := 38) rfl ?_); refine goesL_ (some 22) rfl rfl Try.func38 (by kernel_rfl) rfl #[.int .i64 a0, .int .i64 a1, .int .i64 t328] rfl (by (try simp only [List.map_toArray, List.map_cons, List.map_nil]); first | done | rfl | (simp only [List.length_drop, List.length_take]; rfl)) ?_; (with_reducible refine (torusref01_Mul.calls k a0 a1 t328 t330 t331 _ A6.out).mono ?_); rintro e w' ⟨rfl, ⟨nd, rfl⟩⟩; refine ⟨_, rfl, ?_⟩))
    go_ret2
    exact ⟨by first | rfl | (simp; done) | (simp [*]; done), by repeat (first | exact Drawn0.refl _ | apply Drawn0.step)⟩
  · rw [if_neg c5] at H
    have c5b0 : (t329 == 0) = false := beq_eq_false_iff_ne.mpr c5
    have c5b1 : (t329 != 0) = true := bne_iff_ne.mpr c5
    simp only [Option.some.injEq, Prod.mk.injEq] at H
    obtain ⟨rfl, rfl⟩ := H
    go_enter Try.func39, Try.ntmps39
    go_wp2_with (first | ((with_reducible refine gate_callee (f := 40) rfl ?_); refine goesL_ (some 13) rfl rfl Try.func40 (by kernel_rfl) rfl #[.int .i64 a0, .int .i64 a2] rfl (by (try simp only [List.map_toArray, List.map_cons, List.map_nil]); first | done | rfl | (simp only [List.length_drop, List.length_take]; rfl)) ?_; (with_reducible refine (torusref01_Inv.calls k a0 a2 t328 t329 _ A4.out).mono ?_); rintro e w' ⟨rfl, ⟨nd, rfl⟩⟩; refine ⟨_, rfl, ?_⟩))
    go_ret2
    exact ⟨by first | rfl | (simp; done) | (simp [*]; done), by repeat (first | exact Drawn0.refl _ | apply Drawn0.step)⟩

end Go.Proofs.Ytikbgcpcbhoblaa.PModp
