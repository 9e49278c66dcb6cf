/- Each Go function named below, as a plain Lean function, with a proof that the Go code computes just that; conditions: those that each theorem states. Written by a program of this session (wip/xprint, over the print of the kit). -/
import Derived.Test.YtikbgcpcbhoblaaPModpx0
import Derived.Test.YtikbgcpcbhoblaaPModpx1
import Derived.Test.YtikbgcpcbhoblaaPModpx2
import Derived.Test.YtikbgcpcbhoblaaPModpx3
import Derived.Test.YtikbgcpcbhoblaaPModpx4
namespace Go.Proofs.Ytikbgcpcbhoblaa.PModp
open Go.RowKit Go.Proofs.YtikbgcpcbhoblaaW.PrintWords Go.Proofs.YtikbgcpcbhoblaaW.PrintLast Go.Proofs.YtikbgcpcbhoblaaW.PrintMore
attribute [local go_sem] max2_int min2_int max_two min_two max_three min_three max_four min_four   -- for this text's walks alone
set_option linter.unusedVariables false
set_option linter.unusedSimpArgs false

/-! ### toruslaw01_ModpField: function 6 -/
mutual
def toruslaw01_ModpField.j0 : Nat → Int → Int → Int → Bool → Option (Bool)
  | 0, _, _, _, _ => none
  | k + 1, x1, x2, x9, x91 => if x91 = true then (some false) else ((toruslaw01_plus.f k x9 x1 x2).bind fun t247 => ((modp_Sub.f k x9 t247 x2).bind fun bt248 => (if bt248.2 = 0 then ((modp_Mod.f k x9 x1).bind fun t250 => (if bt248.1 = t250 then ((toruslaw01_plus.f k x9 x1 0).bind fun t251 => (if t251 = bt248.1 then ((toruslaw01_product.f k x9 x1 1).bind fun t252 => (toruslaw01_ModpField.j1 k x1 x2 x9 bt248.1 (t252 != bt248.1))) else (toruslaw01_ModpField.j1 k x1 x2 x9 bt248.1 true))) else (toruslaw01_ModpField.j1 k x1 x2 x9 bt248.1 true))) else (toruslaw01_ModpField.j1 k x1 x2 x9 bt248.1 true))))
def toruslaw01_ModpField.j1 : Nat → Int → Int → Int → Int → Bool → Option (Bool)
  | 0, _, _, _, _, _ => none
  | k + 1, x1, x2, x9, x10, x124 => if x124 = true then (some false) else ((toruslaw01_product.f k x9 x1 x2).bind fun t253 => ((modp_Div.f k x9 t253 x2).bind fun bt254 => ((modp_Inv.f k x9 x2).bind fun bt256 => ((modp_Mod.f k x9 x2).bind fun t258 => (if t258 = 0 then (if bt254.2 = 9 then (if bt256.2 = 9 then ((toruslaw01_awake.f k).bind fun t259 => (some t259)) else (some false)) else (some false)) else (if bt254.2 = 0 then (if bt254.1 = x10 then (if bt256.2 = 0 then ((toruslaw01_product.f k x9 bt256.1 x2).bind fun t260 => (if t260 = 1 then ((toruslaw01_awake.f k).bind fun t261 => (some t261)) else (some false))) else (some false)) else (some false)) else (some false)))))))
end
def toruslaw01_ModpField.f (k : Nat) (a0 : Int) (a1 : Int) (a2 : Int) (a3 : Int) : Option (Bool) := (torusref01_Field.f k a0).bind fun t229 => ((toruslaw01_plus.f k t229 a1 a2).bind fun t230 => ((toruslaw01_plus.f k t229 a2 a1).bind fun t231 => (if t230 = t231 then ((toruslaw01_product.f k t229 a1 a2).bind fun t232 => ((toruslaw01_product.f k t229 a2 a1).bind fun t233 => (if t232 = t233 then ((toruslaw01_plus.f k t229 a1 a2).bind fun t234 => ((toruslaw01_plus.f k t229 t234 a3).bind fun t235 => ((toruslaw01_plus.f k t229 a2 a3).bind fun t236 => ((toruslaw01_plus.f k t229 a1 t236).bind fun t237 => (if t235 = t237 then ((toruslaw01_product.f k t229 a1 a2).bind fun t238 => ((toruslaw01_product.f k t229 t238 a3).bind fun t239 => ((toruslaw01_product.f k t229 a2 a3).bind fun t240 => ((toruslaw01_product.f k t229 a1 t240).bind fun t241 => (if t239 = t241 then ((toruslaw01_plus.f k t229 a2 a3).bind fun t242 => ((toruslaw01_product.f k t229 a1 t242).bind fun t243 => ((toruslaw01_product.f k t229 a1 a2).bind fun t244 => ((toruslaw01_product.f k t229 a1 a3).bind fun t245 => ((toruslaw01_plus.f k t229 t244 t245).bind fun t246 => (toruslaw01_ModpField.j0 k a1 a2 t229 (t243 != t246))))))) else (toruslaw01_ModpField.j0 k a1 a2 t229 true)))))) else (toruslaw01_ModpField.j0 k a1 a2 t229 true)))))) else (toruslaw01_ModpField.j0 k a1 a2 t229 true)))) else (toruslaw01_ModpField.j0 k a1 a2 t229 true))))
theorem toruslaw01_ModpField.mono_l : ∀ k, (∀ y0 y1 y2 y3, LeO (toruslaw01_ModpField.j0 k y0 y1 y2 y3) (toruslaw01_ModpField.j0 (k + 1) y0 y1 y2 y3)) ∧ (∀ y0 y1 y2 y3 y4, LeO (toruslaw01_ModpField.j1 k y0 y1 y2 y3 y4) (toruslaw01_ModpField.j1 (k + 1) y0 y1 y2 y3 y4))
  | 0 => ⟨fun _ _ _ _ r h => by simp [toruslaw01_ModpField.j0] at h, fun _ _ _ _ _ r h => by simp [toruslaw01_ModpField.j1] at h⟩
  | k + 1 => by
    obtain ⟨ih0, ih1⟩ := toruslaw01_ModpField.mono_l k
    refine ⟨?_, ?_⟩
    · intro y0 y1 y2 y3
      unfold toruslaw01_ModpField.j0
      repeat' first
      | (with_reducible exact ih0 _ _ _ _)
      | (with_reducible exact ih1 _ _ _ _ _)
      | (with_reducible exact modp_Div.mono _ _ _ _)
      | (with_reducible exact modp_Inv.mono _ _ _)
      | (with_reducible exact modp_Mod.mono _ _ _)
      | (with_reducible exact modp_Sub.mono _ _ _ _)
      | (with_reducible exact toruslaw01_awake.mono _)
      | (with_reducible exact toruslaw01_plus.mono _ _ _ _)
      | (with_reducible exact toruslaw01_product.mono _ _ _ _)
      | (with_reducible exact torusref01_Field.mono _ _)
      | (with_reducible exact LeO.refl _)
      | (with_reducible exact LeO.none _)
      | (with_reducible refine LeO.ite ?_ ?_)
      | (with_reducible refine LeO.bind ?_ (fun _ => ?_))
      | exact ih0 _ _ _ _
      | exact ih1 _ _ _ _ _
      | exact modp_Div.mono _ _ _ _
      | exact modp_Inv.mono _ _ _
      | exact modp_Mod.mono _ _ _
      | exact modp_Sub.mono _ _ _ _
      | exact toruslaw01_awake.mono _
      | exact toruslaw01_plus.mono _ _ _ _
      | exact toruslaw01_product.mono _ _ _ _
      | exact torusref01_Field.mono _ _
      | exact LeO.none _
      | refine LeO.ite ?_ ?_
      | refine LeO.bind ?_ (fun _ => ?_)
    · intro y0 y1 y2 y3 y4
      unfold toruslaw01_ModpField.j1
      repeat' first
      | (with_reducible exact ih0 _ _ _ _)
      | (with_reducible exact ih1 _ _ _ _ _)
      | (with_reducible exact modp_Div.mono _ _ _ _)
      | (with_reducible exact modp_Inv.mono _ _ _)
      | (with_reducible exact modp_Mod.mono _ _ _)
      | (with_reducible exact modp_Sub.mono _ _ _ _)
      | (with_reducible exact toruslaw01_awake.mono _)
      | (with_reducible exact toruslaw01_plus.mono _ _ _ _)
      | (with_reducible exact toruslaw01_product.mono _ _ _ _)
      | (with_reducible exact torusref01_Field.mono _ _)
      | (with_reducible exact LeO.refl _)
      | (with_reducible exact LeO.none _)
      | (with_reducible refine LeO.ite ?_ ?_)
      | (with_reducible refine LeO.bind ?_ (fun _ => ?_))
      | exact ih0 _ _ _ _
      | exact ih1 _ _ _ _ _
      | exact modp_Div.mono _ _ _ _
      | exact modp_Inv.mono _ _ _
      | exact modp_Mod.mono _ _ _
      | exact modp_Sub.mono _ _ _ _
      | exact toruslaw01_awake.mono _
      | exact toruslaw01_plus.mono _ _ _ _
      | exact toruslaw01_product.mono _ _ _ _
      | exact torusref01_Field.mono _ _
      | exact LeO.none _
      | refine LeO.ite ?_ ?_
      | refine LeO.bind ?_ (fun _ => ?_)
theorem toruslaw01_ModpField.mono : ∀ a0 a1 a2 a3 k, LeO (toruslaw01_ModpField.f k a0 a1 a2 a3) (toruslaw01_ModpField.f (k + 1) a0 a1 a2 a3) := by
  intro a0 a1 a2 a3 k
  obtain ⟨ih0, ih1⟩ := toruslaw01_ModpField.mono_l k
  unfold toruslaw01_ModpField.f
  repeat' first
      | (with_reducible exact ih0 _ _ _ _)
      | (with_reducible exact ih1 _ _ _ _ _)
      | (with_reducible exact modp_Div.mono _ _ _ _)
      | (with_reducible exact modp_Inv.mono _ _ _)
      | (with_reducible exact modp_Mod.mono _ _ _)
      | (with_reducible exact modp_Sub.mono _ _ _ _)
      | (with_reducible exact toruslaw01_awake.mono _)
      | (with_reducible exact toruslaw01_plus.mono _ _ _ _)
      | (with_reducible exact toruslaw01_product.mono _ _ _ _)
      | (with_reducible exact torusref01_Field.mono _ _)
      | (with_reducible exact LeO.refl _)
      | (with_reducible exact LeO.none _)
      | (with_reducible refine LeO.ite ?_ ?_)
      | (with_reducible refine LeO.bind ?_ (fun _ => ?_))
      | exact ih0 _ _ _ _
      | exact ih1 _ _ _ _ _
      | exact modp_Div.mono _ _ _ _
      | exact modp_Inv.mono _ _ _
      | exact modp_Mod.mono _ _ _
      | exact modp_Sub.mono _ _ _ _
      | exact toruslaw01_awake.mono _
      | exact toruslaw01_plus.mono _ _ _ _
      | exact toruslaw01_product.mono _ _ _ _
      | exact torusref01_Field.mono _ _
      | exact LeO.none _
      | refine LeO.ite ?_ ?_
      | refine LeO.bind ?_ (fun _ => ?_)
theorem toruslaw01_ModpField.j0_dead {P_ : Prop} {k_ : Nat} {y0_ : Int} {y1_ : Int} {y2_ : Int} {r : Bool} (hrt : Aside0 (r = true)) (h : toruslaw01_ModpField.j0 k_ y0_ y1_ y2_ true = some r) : P_ := by
  have hrt := hrt.out
  cases k_ <;> simp [toruslaw01_ModpField.j0, hrt] at h
theorem toruslaw01_ModpField.j1_dead {P_ : Prop} {k_ : Nat} {y0_ : Int} {y1_ : Int} {y2_ : Int} {y3_ : Int} {r : Bool} (hrt : Aside0 (r = true)) (h : toruslaw01_ModpField.j1 k_ y0_ y1_ y2_ y3_ true = some r) : P_ := by
  have hrt := hrt.out
  cases k_ <;> simp [toruslaw01_ModpField.j1, hrt] at h
set_option maxHeartbeats 8000000 in
set_option maxRecDepth 100000 in
theorem toruslaw01_ModpField.calls (k : Nat) (a0 : Int) (a1 : Int) (a2 : Int) (a3 : Int) (r : Bool) (w : World) (hrt : Aside0 (r = true)) (h : toruslaw01_ModpField.f k a0 a1 a2 a3 = some r) :
    Calls Try.prog 6 #[.int .i64 a0, .int .i64 a1, .int .i64 a2, .int .i64 a3] w fun e w' => e = .returned (.bool r) ∧ Below w.heap.size w w' := by
  have HB := Aside0.mk (Below.refl w.heap.size w)
  have H : ((torusref01_Field.f k a0).bind fun t229 => ((toruslaw01_plus.f k t229 a1 a2).bind fun t230 => ((toruslaw01_plus.f k t229 a2 a1).bind fun t231 => (if t230 = t231 then ((toruslaw01_product.f k t229 a1 a2).bind fun t232 => ((toruslaw01_product.f k t229 a2 a1).bind fun t233 => (if t232 = t233 then ((toruslaw01_plus.f k t229 a1 a2).bind fun t234 => ((toruslaw01_plus.f k t229 t234 a3).bind fun t235 => ((toruslaw01_plus.f k t229 a2 a3).bind fun t236 => ((toruslaw01_plus.f k t229 a1 t236).bind fun t237 => (if t235 = t237 then ((toruslaw01_product.f k t229 a1 a2).bind fun t238 => ((toruslaw01_product.f k t229 t238 a3).bind fun t239 => ((toruslaw01_product.f k t229 a2 a3).bind fun t240 => ((toruslaw01_product.f k t229 a1 t240).bind fun t241 => (if t239 = t241 then ((toruslaw01_plus.f k t229 a2 a3).bind fun t242 => ((toruslaw01_product.f k t229 a1 t242).bind fun t243 => ((toruslaw01_product.f k t229 a1 a2).bind fun t244 => ((toruslaw01_product.f k t229 a1 a3).bind fun t245 => ((toruslaw01_plus.f k t229 t244 t245).bind fun t246 => (toruslaw01_ModpField.j0 k a1 a2 t229 (t243 != t246))))))) else (toruslaw01_ModpField.j0 k a1 a2 t229 true)))))) else (toruslaw01_ModpField.j0 k a1 a2 t229 true)))))) else (toruslaw01_ModpField.j0 k a1 a2 t229 true)))) else (toruslaw01_ModpField.j0 k a1 a2 t229 true))))) = some r := h
  clear h
  replace H := Option.bind_eq_some_iff.mp H
  obtain ⟨t229, A50, H⟩ := H
  replace H : ((toruslaw01_plus.f k t229 a1 a2).bind fun t230 => ((toruslaw01_plus.f k t229 a2 a1).bind fun t231 => (if t230 = t231 then ((toruslaw01_product.f k t229 a1 a2).bind fun t232 => ((toruslaw01_product.f k t229 a2 a1).bind fun t233 => (if t232 = t233 then ((toruslaw01_plus.f k t229 a1 a2).bind fun t234 => ((toruslaw01_plus.f k t229 t234 a3).bind fun t235 => ((toruslaw01_plus.f k t229 a2 a3).bind fun t236 => ((toruslaw01_plus.f k t229 a1 t236).bind fun t237 => (if t235 = t237 then ((toruslaw01_product.f k t229 a1 a2).bind fun t238 => ((toruslaw01_product.f k t229 t238 a3).bind fun t239 => ((toruslaw01_product.f k t229 a2 a3).bind fun t240 => ((toruslaw01_product.f k t229 a1 t240).bind fun t241 => (if t239 = t241 then ((toruslaw01_plus.f k t229 a2 a3).bind fun t242 => ((toruslaw01_product.f k t229 a1 t242).bind fun t243 => ((toruslaw01_product.f k t229 a1 a2).bind fun t244 => ((toruslaw01_product.f k t229 a1 a3).bind fun t245 => ((toruslaw01_plus.f k t229 t244 t245).bind fun t246 => (toruslaw01_ModpField.j0 k a1 a2 t229 (t243 != t246))))))) else (toruslaw01_ModpField.j0 k a1 a2 t229 true)))))) else (toruslaw01_ModpField.j0 k a1 a2 t229 true)))))) else (toruslaw01_ModpField.j0 k a1 a2 t229 true)))) else (toruslaw01_ModpField.j0 k a1 a2 t229 true)))) = some r := H
  have A5 := Aside0.mk A50
  clear A50
  have HC6 := Aside0.mk H
  clear H
  go_enter Try.func6, Try.ntmps6
  go_upto_region 2 with (first | ((with_reducible refine gate_callee (f := 16) rfl ?_); refine goesL_ (some 17) rfl rfl Try.func16 (by kernel_rfl) rfl #[.int .i64 a0] rfl (by (try simp only [List.map_toArray, List.map_cons, List.map_nil]); first | done | rfl | (simp only [List.length_drop, List.length_take]; rfl)) ?_; (with_reducible refine (torusref01_Field.calls k a0 t229 _ A5.out).mono ?_); rintro e w7 ⟨rfl, hb⟩; refine ⟨_, rfl, ?_⟩; have n0_ := Aside0.mk (below_step (by repeat (first | (with_reducible first | exact HB.out | apply below_alloc | apply pw_below_drewN | apply below_drew1) | exact HB.out)) hb); clear HB; have HB := n0_; clear n0_; (try clear hb); (try clear hb2); (try clear hk); (try clear hi)))
  (try simp only [Act.put, List.setIfInBounds_toArray, List.set_cons_zero, List.set_cons_succ])
  go_cut [91] (fun v91 wc => ∃ (kq : Nat) (x91_5 : Bool), v91 = .bool x91_5 ∧ Aside0 (toruslaw01_ModpField.j0 kq a1 a2 t229 x91_5 = some r) ∧ Aside0 (kq ≤ k) ∧ Aside0 (Below w.heap.size w wc))
  case first =>
    have H := HC6.out
    clear HC6
    replace H := Option.bind_eq_some_iff.mp H
    obtain ⟨t230, A80, H⟩ := H
    replace H : ((toruslaw01_plus.f k t229 a2 a1).bind fun t231 => (if t230 = t231 then ((toruslaw01_product.f k t229 a1 a2).bind fun t232 => ((toruslaw01_product.f k t229 a2 a1).bind fun t233 => (if t232 = t233 then ((toruslaw01_plus.f k t229 a1 a2).bind fun t234 => ((toruslaw01_plus.f k t229 t234 a3).bind fun t235 => ((toruslaw01_plus.f k t229 a2 a3).bind fun t236 => ((toruslaw01_plus.f k t229 a1 t236).bind fun t237 => (if t235 = t237 then ((toruslaw01_product.f k t229 a1 a2).bind fun t238 => ((toruslaw01_product.f k t229 t238 a3).bind fun t239 => ((toruslaw01_product.f k t229 a2 a3).bind fun t240 => ((toruslaw01_product.f k t229 a1 t240).bind fun t241 => (if t239 = t241 then ((toruslaw01_plus.f k t229 a2 a3).bind fun t242 => ((toruslaw01_product.f k t229 a1 t242).bind fun t243 => ((toruslaw01_product.f k t229 a1 a2).bind fun t244 => ((toruslaw01_product.f k t229 a1 a3).bind fun t245 => ((toruslaw01_plus.f k t229 t244 t245).bind fun t246 => (toruslaw01_ModpField.j0 k a1 a2 t229 (t243 != t246))))))) else (toruslaw01_ModpField.j0 k a1 a2 t229 true)))))) else (toruslaw01_ModpField.j0 k a1 a2 t229 true)))))) else (toruslaw01_ModpField.j0 k a1 a2 t229 true)))) else (toruslaw01_ModpField.j0 k a1 a2 t229 true))) = some r := H
    have A8 := Aside0.mk A80
    clear A80
    replace H := Option.bind_eq_some_iff.mp H
    obtain ⟨t231, A90, H⟩ := H
    replace H : (if t230 = t231 then ((toruslaw01_product.f k t229 a1 a2).bind fun t232 => ((toruslaw01_product.f k t229 a2 a1).bind fun t233 => (if t232 = t233 then ((toruslaw01_plus.f k t229 a1 a2).bind fun t234 => ((toruslaw01_plus.f k t229 t234 a3).bind fun t235 => ((toruslaw01_plus.f k t229 a2 a3).bind fun t236 => ((toruslaw01_plus.f k t229 a1 t236).bind fun t237 => (if t235 = t237 then ((toruslaw01_product.f k t229 a1 a2).bind fun t238 => ((toruslaw01_product.f k t229 t238 a3).bind fun t239 => ((toruslaw01_product.f k t229 a2 a3).bind fun t240 => ((toruslaw01_product.f k t229 a1 t240).bind fun t241 => (if t239 = t241 then ((toruslaw01_plus.f k t229 a2 a3).bind fun t242 => ((toruslaw01_product.f k t229 a1 t242).bind fun t243 => ((toruslaw01_product.f k t229 a1 a2).bind fun t244 => ((toruslaw01_product.f k t229 a1 a3).bind fun t245 => ((toruslaw01_plus.f k t229 t244 t245).bind fun t246 => (toruslaw01_ModpField.j0 k a1 a2 t229 (t243 != t246))))))) else (toruslaw01_ModpField.j0 k a1 a2 t229 true)))))) else (toruslaw01_ModpField.j0 k a1 a2 t229 true)))))) else (toruslaw01_ModpField.j0 k a1 a2 t229 true)))) else (toruslaw01_ModpField.j0 k a1 a2 t229 true)) = some r := H
    have A9 := Aside0.mk A90
    clear A90
    by_cases c10 : t230 = t231
    · rw [if_pos c10] at H
      have c10b0 : (t230 == t231) = true := beq_iff_eq.mpr c10
      have c10b1 : (t230 != t231) = false := bne_eq_false_iff_eq.mpr c10
      clear c10
      (first | rw [c10b0] | (simp only [i64_w, i32_w]; rw [c10b0]) | skip)
      replace H := Option.bind_eq_some_iff.mp H
      obtain ⟨t232, A110, H⟩ := H
      replace H : ((toruslaw01_product.f k t229 a2 a1).bind fun t233 => (if t232 = t233 then ((toruslaw01_plus.f k t229 a1 a2).bind fun t234 => ((toruslaw01_plus.f k t229 t234 a3).bind fun t235 => ((toruslaw01_plus.f k t229 a2 a3).bind fun t236 => ((toruslaw01_plus.f k t229 a1 t236).bind fun t237 => (if t235 = t237 then ((toruslaw01_product.f k t229 a1 a2).bind fun t238 => ((toruslaw01_product.f k t229 t238 a3).bind fun t239 => ((toruslaw01_product.f k t229 a2 a3).bind fun t240 => ((toruslaw01_product.f k t229 a1 t240).bind fun t241 => (if t239 = t241 then ((toruslaw01_plus.f k t229 a2 a3).bind fun t242 => ((toruslaw01_product.f k t229 a1 t242).bind fun t243 => ((toruslaw01_product.f k t229 a1 a2).bind fun t244 => ((toruslaw01_product.f k t229 a1 a3).bind fun t245 => ((toruslaw01_plus.f k t229 t244 t245).bind fun t246 => (toruslaw01_ModpField.j0 k a1 a2 t229 (t243 != t246))))))) else (toruslaw01_ModpField.j0 k a1 a2 t229 true)))))) else (toruslaw01_ModpField.j0 k a1 a2 t229 true)))))) else (toruslaw01_ModpField.j0 k a1 a2 t229 true))) = some r := H
      have A11 := Aside0.mk A110
      clear A110
      replace H := Option.bind_eq_some_iff.mp H
      obtain ⟨t233, A120, H⟩ := H
      replace H : (if t232 = t233 then ((toruslaw01_plus.f k t229 a1 a2).bind fun t234 => ((toruslaw01_plus.f k t229 t234 a3).bind fun t235 => ((toruslaw01_plus.f k t229 a2 a3).bind fun t236 => ((toruslaw01_plus.f k t229 a1 t236).bind fun t237 => (if t235 = t237 then ((toruslaw01_product.f k t229 a1 a2).bind fun t238 => ((toruslaw01_product.f k t229 t238 a3).bind fun t239 => ((toruslaw01_product.f k t229 a2 a3).bind fun t240 => ((toruslaw01_product.f k t229 a1 t240).bind fun t241 => (if t239 = t241 then ((toruslaw01_plus.f k t229 a2 a3).bind fun t242 => ((toruslaw01_product.f k t229 a1 t242).bind fun t243 => ((toruslaw01_product.f k t229 a1 a2).bind fun t244 => ((toruslaw01_product.f k t229 a1 a3).bind fun t245 => ((toruslaw01_plus.f k t229 t244 t245).bind fun t246 => (toruslaw01_ModpField.j0 k a1 a2 t229 (t243 != t246))))))) else (toruslaw01_ModpField.j0 k a1 a2 t229 true)))))) else (toruslaw01_ModpField.j0 k a1 a2 t229 true)))))) else (toruslaw01_ModpField.j0 k a1 a2 t229 true)) = some r := H
      have A12 := Aside0.mk A120
      clear A120
      by_cases c13 : t232 = t233
      · rw [if_pos c13] at H
        have c13b0 : (t232 == t233) = true := beq_iff_eq.mpr c13
        have c13b1 : (t232 != t233) = false := bne_eq_false_iff_eq.mpr c13
        clear c13
        replace H := Option.bind_eq_some_iff.mp H
        obtain ⟨t234, A140, H⟩ := H
        replace H : ((toruslaw01_plus.f k t229 t234 a3).bind fun t235 => ((toruslaw01_plus.f k t229 a2 a3).bind fun t236 => ((toruslaw01_plus.f k t229 a1 t236).bind fun t237 => (if t235 = t237 then ((toruslaw01_product.f k t229 a1 a2).bind fun t238 => ((toruslaw01_product.f k t229 t238 a3).bind fun t239 => ((toruslaw01_product.f k t229 a2 a3).bind fun t240 => ((toruslaw01_product.f k t229 a1 t240).bind fun t241 => (if t239 = t241 then ((toruslaw01_plus.f k t229 a2 a3).bind fun t242 => ((toruslaw01_product.f k t229 a1 t242).bind fun t243 => ((toruslaw01_product.f k t229 a1 a2).bind fun t244 => ((toruslaw01_product.f k t229 a1 a3).bind fun t245 => ((toruslaw01_plus.f k t229 t244 t245).bind fun t246 => (toruslaw01_ModpField.j0 k a1 a2 t229 (t243 != t246))))))) else (toruslaw01_ModpField.j0 k a1 a2 t229 true)))))) else (toruslaw01_ModpField.j0 k a1 a2 t229 true))))) = some r := H
        have A14 := Aside0.mk A140
        clear A140
        replace H := Option.bind_eq_some_iff.mp H
        obtain ⟨t235, A150, H⟩ := H
        replace H : ((toruslaw01_plus.f k t229 a2 a3).bind fun t236 => ((toruslaw01_plus.f k t229 a1 t236).bind fun t237 => (if t235 = t237 then ((toruslaw01_product.f k t229 a1 a2).bind fun t238 => ((toruslaw01_product.f k t229 t238 a3).bind fun t239 => ((toruslaw01_product.f k t229 a2 a3).bind fun t240 => ((toruslaw01_product.f k t229 a1 t240).bind fun t241 => (if t239 = t241 then ((toruslaw01_plus.f k t229 a2 a3).bind fun t242 => ((toruslaw01_product.f k t229 a1 t242).bind fun t243 => ((toruslaw01_product.f k t229 a1 a2).bind fun t244 => ((toruslaw01_product.f k t229 a1 a3).bind fun t245 => ((toruslaw01_plus.f k t229 t244 t245).bind fun t246 => (toruslaw01_ModpField.j0 k a1 a2 t229 (t243 != t246))))))) else (toruslaw01_ModpField.j0 k a1 a2 t229 true)))))) else (toruslaw01_ModpField.j0 k a1 a2 t229 true)))) = some r := H
        have A15 := Aside0.mk A150
        clear A150
        replace H := Option.bind_eq_some_iff.mp H
        obtain ⟨t236, A160, H⟩ := H
        replace H : ((toruslaw01_plus.f k t229 a1 t236).bind fun t237 => (if t235 = t237 then ((toruslaw01_product.f k t229 a1 a2).bind fun t238 => ((toruslaw01_product.f k t229 t238 a3).bind fun t239 => ((toruslaw01_product.f k t229 a2 a3).bind fun t240 => ((toruslaw01_product.f k t229 a1 t240).bind fun t241 => (if t239 = t241 then ((toruslaw01_plus.f k t229 a2 a3).bind fun t242 => ((toruslaw01_product.f k t229 a1 t242).bind fun t243 => ((toruslaw01_product.f k t229 a1 a2).bind fun t244 => ((toruslaw01_product.f k t229 a1 a3).bind fun t245 => ((toruslaw01_plus.f k t229 t244 t245).bind fun t246 => (toruslaw01_ModpField.j0 k a1 a2 t229 (t243 != t246))))))) else (toruslaw01_ModpField.j0 k a1 a2 t229 true)))))) else (toruslaw01_ModpField.j0 k a1 a2 t229 true))) = some r := H
        have A16 := Aside0.mk A160
        clear A160
        replace H := Option.bind_eq_some_iff.mp H
        obtain ⟨t237, A170, H⟩ := H
        replace H : (if t235 = t237 then ((toruslaw01_product.f k t229 a1 a2).bind fun t238 => ((toruslaw01_product.f k t229 t238 a3).bind fun t239 => ((toruslaw01_product.f k t229 a2 a3).bind fun t240 => ((toruslaw01_product.f k t229 a1 t240).bind fun t241 => (if t239 = t241 then ((toruslaw01_plus.f k t229 a2 a3).bind fun t242 => ((toruslaw01_product.f k t229 a1 t242).bind fun t243 => ((toruslaw01_product.f k t229 a1 a2).bind fun t244 => ((toruslaw01_product.f k t229 a1 a3).bind fun t245 => ((toruslaw01_plus.f k t229 t244 t245).bind fun t246 => (toruslaw01_ModpField.j0 k a1 a2 t229 (t243 != t246))))))) else (toruslaw01_ModpField.j0 k a1 a2 t229 true)))))) else (toruslaw01_ModpField.j0 k a1 a2 t229 true)) = some r := H
        have A17 := Aside0.mk A170
        clear A170
        by_cases c18 : t235 = t237
        · rw [if_pos c18] at H
          have c18b0 : (t235 == t237) = true := beq_iff_eq.mpr c18
          have c18b1 : (t235 != t237) = false := bne_eq_false_iff_eq.mpr c18
          clear c18
          replace H := Option.bind_eq_some_iff.mp H
          obtain ⟨t238, A190, H⟩ := H
          replace H : ((toruslaw01_product.f k t229 t238 a3).bind fun t239 => ((toruslaw01_product.f k t229 a2 a3).bind fun t240 => ((toruslaw01_product.f k t229 a1 t240).bind fun t241 => (if t239 = t241 then ((toruslaw01_plus.f k t229 a2 a3).bind fun t242 => ((toruslaw01_product.f k t229 a1 t242).bind fun t243 => ((toruslaw01_product.f k t229 a1 a2).bind fun t244 => ((toruslaw01_product.f k t229 a1 a3).bind fun t245 => ((toruslaw01_plus.f k t229 t244 t245).bind fun t246 => (toruslaw01_ModpField.j0 k a1 a2 t229 (t243 != t246))))))) else (toruslaw01_ModpField.j0 k a1 a2 t229 true))))) = some r := H
          have A19 := Aside0.mk A190
          clear A190
          replace H := Option.bind_eq_some_iff.mp H
          obtain ⟨t239, A200, H⟩ := H
          replace H : ((toruslaw01_product.f k t229 a2 a3).bind fun t240 => ((toruslaw01_product.f k t229 a1 t240).bind fun t241 => (if t239 = t241 then ((toruslaw01_plus.f k t229 a2 a3).bind fun t242 => ((toruslaw01_product.f k t229 a1 t242).bind fun t243 => ((toruslaw01_product.f k t229 a1 a2).bind fun t244 => ((toruslaw01_product.f k t229 a1 a3).bind fun t245 => ((toruslaw01_plus.f k t229 t244 t245).bind fun t246 => (toruslaw01_ModpField.j0 k a1 a2 t229 (t243 != t246))))))) else (toruslaw01_ModpField.j0 k a1 a2 t229 true)))) = some r := H
          have A20 := Aside0.mk A200
          clear A200
          replace H := Option.bind_eq_some_iff.mp H
          obtain ⟨t240, A210, H⟩ := H
          replace H : ((toruslaw01_product.f k t229 a1 t240).bind fun t241 => (if t239 = t241 then ((toruslaw01_plus.f k t229 a2 a3).bind fun t242 => ((toruslaw01_product.f k t229 a1 t242).bind fun t243 => ((toruslaw01_product.f k t229 a1 a2).bind fun t244 => ((toruslaw01_product.f k t229 a1 a3).bind fun t245 => ((toruslaw01_plus.f k t229 t244 t245).bind fun t246 => (toruslaw01_ModpField.j0 k a1 a2 t229 (t243 != t246))))))) else (toruslaw01_ModpField.j0 k a1 a2 t229 true))) = some r := H
          have A21 := Aside0.mk A210
          clear A210
          replace H := Option.bind_eq_some_iff.mp H
          obtain ⟨t241, A220, H⟩ := H
          replace H : (if t239 = t241 then ((toruslaw01_plus.f k t229 a2 a3).bind fun t242 => ((toruslaw01_product.f k t229 a1 t242).bind fun t243 => ((toruslaw01_product.f k t229 a1 a2).bind fun t244 => ((toruslaw01_product.f k t229 a1 a3).bind fun t245 => ((toruslaw01_plus.f k t229 t244 t245).bind fun t246 => (toruslaw01_ModpField.j0 k a1 a2 t229 (t243 != t246))))))) else (toruslaw01_ModpField.j0 k a1 a2 t229 true)) = some r := H
          have A22 := Aside0.mk A220
          clear A220
          by_cases c23 : t239 = t241
          · rw [if_pos c23] at H
            have c23b0 : (t239 == t241) = true := beq_iff_eq.mpr c23
            have c23b1 : (t239 != t241) = false := bne_eq_false_iff_eq.mpr c23
            clear c23
            replace H := Option.bind_eq_some_iff.mp H
            obtain ⟨t242, A240, H⟩ := H
            replace H : ((toruslaw01_product.f k t229 a1 t242).bind fun t243 => ((toruslaw01_product.f k t229 a1 a2).bind fun t244 => ((toruslaw01_product.f k t229 a1 a3).bind fun t245 => ((toruslaw01_plus.f k t229 t244 t245).bind fun t246 => (toruslaw01_ModpField.j0 k a1 a2 t229 (t243 != t246)))))) = some r := H
            have A24 := Aside0.mk A240
            clear A240
            replace H := Option.bind_eq_some_iff.mp H
            obtain ⟨t243, A250, H⟩ := H
            replace H : ((toruslaw01_product.f k t229 a1 a2).bind fun t244 => ((toruslaw01_product.f k t229 a1 a3).bind fun t245 => ((toruslaw01_plus.f k t229 t244 t245).bind fun t246 => (toruslaw01_ModpField.j0 k a1 a2 t229 (t243 != t246))))) = some r := H
            have A25 := Aside0.mk A250
            clear A250
            replace H := Option.bind_eq_some_iff.mp H
            obtain ⟨t244, A260, H⟩ := H
            replace H : ((toruslaw01_product.f k t229 a1 a3).bind fun t245 => ((toruslaw01_plus.f k t229 t244 t245).bind fun t246 => (toruslaw01_ModpField.j0 k a1 a2 t229 (t243 != t246)))) = some r := H
            have A26 := Aside0.mk A260
            clear A260
            replace H := Option.bind_eq_some_iff.mp H
            obtain ⟨t245, A270, H⟩ := H
            replace H : ((toruslaw01_plus.f k t229 t244 t245).bind fun t246 => (toruslaw01_ModpField.j0 k a1 a2 t229 (t243 != t246))) = some r := H
            have A27 := Aside0.mk A270
            clear A270
            replace H := Option.bind_eq_some_iff.mp H
            obtain ⟨t246, A280, H⟩ := H
            replace H : (toruslaw01_ModpField.j0 k a1 a2 t229 (t243 != t246)) = some r := H
            have A28 := Aside0.mk A280
            clear A280
            first
            | with_reducible exact toruslaw01_ModpField.j0_dead hrt H
            | with_reducible exact toruslaw01_ModpField.j1_dead hrt H
            | skip
              have H' := Aside0.mk H
              clear H
              have EA14_t234 : t230 = t234 := Option.some.inj (A8.out.symm.trans A14.out)
              subst EA14_t234
              have EA19_t238 : t232 = t238 := Option.some.inj (A11.out.symm.trans A19.out)
              subst EA19_t238
              have EA24_t242 : t236 = t242 := Option.some.inj (A16.out.symm.trans A24.out)
              subst EA24_t242
              have EA26_t244 : t232 = t244 := Option.some.inj (A11.out.symm.trans A26.out)
              subst EA26_t244
              go_wp2_with (first | (go_at_call 24; (with_reducible refine (toruslaw01_plus.calls k t229 a1 a2 t230 _ A8.out).mono ?_); rintro e w' ⟨rfl, ⟨nd, rfl⟩⟩) | (go_at_call 24; (with_reducible refine (toruslaw01_plus.calls k t229 a2 a1 t231 _ A9.out).mono ?_); rintro e w' ⟨rfl, ⟨nd, rfl⟩⟩) | (go_at_call 21; (with_reducible refine (toruslaw01_product.calls k t229 a1 a2 t232 _ A11.out).mono ?_); rintro e w' ⟨rfl, ⟨nd, rfl⟩⟩) | (go_at_call 21; (with_reducible refine (toruslaw01_product.calls k t229 a2 a1 t233 _ A12.out).mono ?_); rintro e w' ⟨rfl, ⟨nd, rfl⟩⟩) | (go_at_call 24; (with_reducible refine (toruslaw01_plus.calls k t229 a1 a2 t230 _ A14.out).mono ?_); rintro e w' ⟨rfl, ⟨nd, rfl⟩⟩) | (go_at_call 24; (with_reducible refine (toruslaw01_plus.calls k t229 t230 a3 t235 _ A15.out).mono ?_); rintro e w' ⟨rfl, ⟨nd, rfl⟩⟩) | (go_at_call 24; (with_reducible refine (toruslaw01_plus.calls k t229 a2 a3 t236 _ A16.out).mono ?_); rintro e w' ⟨rfl, ⟨nd, rfl⟩⟩) | (go_at_call 24; (with_reducible refine (toruslaw01_plus.calls k t229 a1 t236 t237 _ A17.out).mono ?_); rintro e w' ⟨rfl, ⟨nd, rfl⟩⟩) | (go_at_call 21; (with_reducible refine (toruslaw01_product.calls k t229 a1 a2 t232 _ A19.out).mono ?_); rintro e w' ⟨rfl, ⟨nd, rfl⟩⟩) | (go_at_call 21; (with_reducible refine (toruslaw01_product.calls k t229 t232 a3 t239 _ A20.out).mono ?_); rintro e w' ⟨rfl, ⟨nd, rfl⟩⟩) | (go_at_call 21; (with_reducible refine (toruslaw01_product.calls k t229 a2 a3 t240 _ A21.out).mono ?_); rintro e w' ⟨rfl, ⟨nd, rfl⟩⟩) | (go_at_call 21; (with_reducible refine (toruslaw01_product.calls k t229 a1 t240 t241 _ A22.out).mono ?_); rintro e w' ⟨rfl, ⟨nd, rfl⟩⟩) | (go_at_call 24; (with_reducible refine (toruslaw01_plus.calls k t229 a2 a3 t236 _ A24.out).mono ?_); rintro e w' ⟨rfl, ⟨nd, rfl⟩⟩) | (go_at_call 21; (with_reducible refine (toruslaw01_product.calls k t229 a1 t236 t243 _ A25.out).mono ?_); rintro e w' ⟨rfl, ⟨nd, rfl⟩⟩) | (go_at_call 21; (with_reducible refine (toruslaw01_product.calls k t229 a1 a2 t232 _ A26.out).mono ?_); rintro e w' ⟨rfl, ⟨nd, rfl⟩⟩) | (go_at_call 21; (with_reducible refine (toruslaw01_product.calls k t229 a1 a3 t245 _ A27.out).mono ?_); rintro e w' ⟨rfl, ⟨nd, rfl⟩⟩) | (go_at_call 24; (with_reducible refine (toruslaw01_plus.calls k t229 t232 t245 t246 _ A28.out).mono ?_); rintro e w' ⟨rfl, ⟨nd, rfl⟩⟩))
              go_meet
              case rel => exact ⟨_, ((t243 != t246)), (by first | rfl | (simp; done) | (simp [*]; done)), H', ⟨by first | omega | exact Nat.le_refl _⟩, ⟨by repeat (first | (with_reducible first | exact HB.out | apply below_alloc | apply pw_below_drewN | apply below_drew1) | exact HB.out)⟩⟩
          · rw [if_neg c23] at H
            have c23b0 : (t239 == t241) = false := beq_eq_false_iff_ne.mpr c23
            have c23b1 : (t239 != t241) = true := bne_iff_ne.mpr c23
            first
            | with_reducible exact toruslaw01_ModpField.j0_dead hrt H
            | with_reducible exact toruslaw01_ModpField.j1_dead hrt H
            | skip
              have H' := Aside0.mk H
              clear H
              have EA14_t234 : t230 = t234 := Option.some.inj (A8.out.symm.trans A14.out)
              subst EA14_t234
              have EA19_t238 : t232 = t238 := Option.some.inj (A11.out.symm.trans A19.out)
              subst EA19_t238
              go_wp2_with (first | (go_at_call 24; (with_reducible refine (toruslaw01_plus.calls k t229 a1 a2 t230 _ A8.out).mono ?_); rintro e w' ⟨rfl, ⟨nd, rfl⟩⟩) | (go_at_call 24; (with_reducible refine (toruslaw01_plus.calls k t229 a2 a1 t231 _ A9.out).mono ?_); rintro e w' ⟨rfl, ⟨nd, rfl⟩⟩) | (go_at_call 21; (with_reducible refine (toruslaw01_product.calls k t229 a1 a2 t232 _ A11.out).mono ?_); rintro e w' ⟨rfl, ⟨nd, rfl⟩⟩) | (go_at_call 21; (with_reducible refine (toruslaw01_product.calls k t229 a2 a1 t233 _ A12.out).mono ?_); rintro e w' ⟨rfl, ⟨nd, rfl⟩⟩) | (go_at_call 24; (with_reducible refine (toruslaw01_plus.calls k t229 a1 a2 t230 _ A14.out).mono ?_); rintro e w' ⟨rfl, ⟨nd, rfl⟩⟩) | (go_at_call 24; (with_reducible refine (toruslaw01_plus.calls k t229 t230 a3 t235 _ A15.out).mono ?_); rintro e w' ⟨rfl, ⟨nd, rfl⟩⟩) | (go_at_call 24; (with_reducible refine (toruslaw01_plus.calls k t229 a2 a3 t236 _ A16.out).mono ?_); rintro e w' ⟨rfl, ⟨nd, rfl⟩⟩) | (go_at_call 24; (with_reducible refine (toruslaw01_plus.calls k t229 a1 t236 t237 _ A17.out).mono ?_); rintro e w' ⟨rfl, ⟨nd, rfl⟩⟩) | (go_at_call 21; (with_reducible refine (toruslaw01_product.calls k t229 a1 a2 t232 _ A19.out).mono ?_); rintro e w' ⟨rfl, ⟨nd, rfl⟩⟩) | (go_at_call 21; (with_reducible refine (toruslaw01_product.calls k t229 t232 a3 t239 _ A20.out).mono ?_); rintro e w' ⟨rfl, ⟨nd, rfl⟩⟩) | (go_at_call 21; (with_reducible refine (toruslaw01_product.calls k t229 a2 a3 t240 _ A21.out).mono ?_); rintro e w' ⟨rfl, ⟨nd, rfl⟩⟩) | (go_at_call 21; (with_reducible refine (toruslaw01_product.calls k t229 a1 t240 t241 _ A22.out).mono ?_); rintro e w' ⟨rfl, ⟨nd, rfl⟩⟩))
              go_meet
              case rel => exact ⟨_, (true), (by first | rfl | (simp; done) | (simp [*]; done)), H', ⟨by first | omega | exact Nat.le_refl _⟩, ⟨by repeat (first | (with_reducible first | exact HB.out | apply below_alloc | apply pw_below_drewN | apply below_drew1) | exact HB.out)⟩⟩
        · rw [if_neg c18] at H
          have c18b0 : (t235 == t237) = false := beq_eq_false_iff_ne.mpr c18
          have c18b1 : (t235 != t237) = true := bne_iff_ne.mpr c18
          first
          | with_reducible exact toruslaw01_ModpField.j0_dead hrt H
          | with_reducible exact toruslaw01_ModpField.j1_dead hrt H
          | skip
            have H' := Aside0.mk H
            clear H
            have EA14_t234 : t230 = t234 := Option.some.inj (A8.out.symm.trans A14.out)
            subst EA14_t234
            go_wp2_with (first | (go_at_call 24; (with_reducible refine (toruslaw01_plus.calls k t229 a1 a2 t230 _ A8.out).mono ?_); rintro e w' ⟨rfl, ⟨nd, rfl⟩⟩) | (go_at_call 24; (with_reducible refine (toruslaw01_plus.calls k t229 a2 a1 t231 _ A9.out).mono ?_); rintro e w' ⟨rfl, ⟨nd, rfl⟩⟩) | (go_at_call 21; (with_reducible refine (toruslaw01_product.calls k t229 a1 a2 t232 _ A11.out).mono ?_); rintro e w' ⟨rfl, ⟨nd, rfl⟩⟩) | (go_at_call 21; (with_reducible refine (toruslaw01_product.calls k t229 a2 a1 t233 _ A12.out).mono ?_); rintro e w' ⟨rfl, ⟨nd, rfl⟩⟩) | (go_at_call 24; (with_reducible refine (toruslaw01_plus.calls k t229 a1 a2 t230 _ A14.out).mono ?_); rintro e w' ⟨rfl, ⟨nd, rfl⟩⟩) | (go_at_call 24; (with_reducible refine (toruslaw01_plus.calls k t229 t230 a3 t235 _ A15.out).mono ?_); rintro e w' ⟨rfl, ⟨nd, rfl⟩⟩) | (go_at_call 24; (with_reducible refine (toruslaw01_plus.calls k t229 a2 a3 t236 _ A16.out).mono ?_); rintro e w' ⟨rfl, ⟨nd, rfl⟩⟩) | (go_at_call 24; (with_reducible refine (toruslaw01_plus.calls k t229 a1 t236 t237 _ A17.out).mono ?_); rintro e w' ⟨rfl, ⟨nd, rfl⟩⟩))
            go_meet
            case rel => exact ⟨_, (true), (by first | rfl | (simp; done) | (simp [*]; done)), H', ⟨by first | omega | exact Nat.le_refl _⟩, ⟨by repeat (first | (with_reducible first | exact HB.out | apply below_alloc | apply pw_below_drewN | apply below_drew1) | exact HB.out)⟩⟩
      · rw [if_neg c13] at H
        have c13b0 : (t232 == t233) = false := beq_eq_false_iff_ne.mpr c13
        have c13b1 : (t232 != t233) = true := bne_iff_ne.mpr c13
        first
        | with_reducible exact toruslaw01_ModpField.j0_dead hrt H
        | with_reducible exact toruslaw01_ModpField.j1_dead hrt H
        | skip
          have H' := Aside0.mk H
          clear H
          go_wp2_with (first | (go_at_call 24; (with_reducible refine (toruslaw01_plus.calls k t229 a1 a2 t230 _ A8.out).mono ?_); rintro e w' ⟨rfl, ⟨nd, rfl⟩⟩) | (go_at_call 24; (with_reducible refine (toruslaw01_plus.calls k t229 a2 a1 t231 _ A9.out).mono ?_); rintro e w' ⟨rfl, ⟨nd, rfl⟩⟩) | (go_at_call 21; (with_reducible refine (toruslaw01_product.calls k t229 a1 a2 t232 _ A11.out).mono ?_); rintro e w' ⟨rfl, ⟨nd, rfl⟩⟩) | (go_at_call 21; (with_reducible refine (toruslaw01_product.calls k t229 a2 a1 t233 _ A12.out).mono ?_); rintro e w' ⟨rfl, ⟨nd, rfl⟩⟩))
          go_meet
          case rel => exact ⟨_, (true), (by first | rfl | (simp; done) | (simp [*]; done)), H', ⟨by first | omega | exact Nat.le_refl _⟩, ⟨by repeat (first | (with_reducible first | exact HB.out | apply below_alloc | apply pw_below_drewN | apply below_drew1) | exact HB.out)⟩⟩
    · rw [if_neg c10] at H
      have c10b0 : (t230 == t231) = false := beq_eq_false_iff_ne.mpr c10
      have c10b1 : (t230 != t231) = true := bne_iff_ne.mpr c10
      (first | rw [c10b0] | (simp only [i64_w, i32_w]; rw [c10b0]) | skip)
      first
      | with_reducible exact toruslaw01_ModpField.j0_dead hrt H
      | with_reducible exact toruslaw01_ModpField.j1_dead hrt H
      | skip
        have H' := Aside0.mk H
        clear H
        go_wp2_with (first | (go_at_call 24; (with_reducible refine (toruslaw01_plus.calls k t229 a1 a2 t230 _ A8.out).mono ?_); rintro e w' ⟨rfl, ⟨nd, rfl⟩⟩) | (go_at_call 24; (with_reducible refine (toruslaw01_plus.calls k t229 a2 a1 t231 _ A9.out).mono ?_); rintro e w' ⟨rfl, ⟨nd, rfl⟩⟩))
        go_meet
        case rel => exact ⟨_, (true), (by first | rfl | (simp; done) | (simp [*]; done)), H', ⟨by first | omega | exact Nat.le_refl _⟩, ⟨by repeat (first | (with_reducible first | exact HB.out | apply below_alloc | apply pw_below_drewN | apply below_drew1) | exact HB.out)⟩⟩
  case rest =>
    clear HC6
    try clear c1
    try clear c2
    try clear p2
    try clear c6
    try clear c10
    try clear c10b0
    try clear c10b1
    try clear c13
    try clear c13b0
    try clear c13b1
    try clear c16
    try clear c18
    try clear c18b0
    try clear c18b1
    try clear c23
    try clear c23b0
    try clear c23b1
    obtain ⟨kq, x91_5, rfl, HA, HJ5, HB⟩ := hcut
    cases kq with
    | zero => exact absurd HA.out (by simp [toruslaw01_ModpField.j0])
    | succ kj5 =>
      have H := HA.out
      clear HA
      simp only [toruslaw01_ModpField.j0] at H
      by_cases c29 : x91_5 = true
      · subst c29
        have H1 : (some false) = some r := by rw [if_pos rfl] at H; exact H
        clear H
        have H := H1
        clear H1
        first
        | with_reducible exact absurd ((Option.some.inj H).trans hrt.out) Bool.false_ne_true
        | skip
          obtain rfl := Option.some.inj H
          go_wp2
          go_ret
          exact ⟨by first | rfl | (simp [errW_none, errW_some] <;> rfl) | (simp [*, errW_none, errW_some] <;> rfl), by repeat (first | (with_reducible first | exact HB.out | apply below_alloc | apply pw_below_drewN | apply below_drew1) | exact HB.out)⟩
      · replace c29 := Bool.eq_false_iff.mpr c29
        subst c29
        have H1 : ((toruslaw01_plus.f kj5 t229 a1 a2).bind fun t247 => ((modp_Sub.f kj5 t229 t247 a2).bind fun bt248 => (if bt248.2 = 0 then ((modp_Mod.f kj5 t229 a1).bind fun t250 => (if bt248.1 = t250 then ((toruslaw01_plus.f kj5 t229 a1 0).bind fun t251 => (if t251 = bt248.1 then ((toruslaw01_product.f kj5 t229 a1 1).bind fun t252 => (toruslaw01_ModpField.j1 kj5 a1 a2 t229 bt248.1 (t252 != bt248.1))) else (toruslaw01_ModpField.j1 kj5 a1 a2 t229 bt248.1 true))) else (toruslaw01_ModpField.j1 kj5 a1 a2 t229 bt248.1 true))) else (toruslaw01_ModpField.j1 kj5 a1 a2 t229 bt248.1 true)))) = some r := by rw [if_neg (show ¬ (false = true) by decide)] at H; exact H
        clear H
        have H := H1
        clear H1
        replace H := Option.bind_eq_some_iff.mp H
        obtain ⟨t247, A300, H⟩ := H
        replace H : ((modp_Sub.f kj5 t229 t247 a2).bind fun bt248 => (if bt248.2 = 0 then ((modp_Mod.f kj5 t229 a1).bind fun t250 => (if bt248.1 = t250 then ((toruslaw01_plus.f kj5 t229 a1 0).bind fun t251 => (if t251 = bt248.1 then ((toruslaw01_product.f kj5 t229 a1 1).bind fun t252 => (toruslaw01_ModpField.j1 kj5 a1 a2 t229 bt248.1 (t252 != bt248.1))) else (toruslaw01_ModpField.j1 kj5 a1 a2 t229 bt248.1 true))) else (toruslaw01_ModpField.j1 kj5 a1 a2 t229 bt248.1 true))) else (toruslaw01_ModpField.j1 kj5 a1 a2 t229 bt248.1 true))) = some r := H
        have A30 := Aside0.mk A300
        clear A300
        replace H := Option.bind_eq_some_iff.mp H
        obtain ⟨⟨t248, t249⟩, A310, H⟩ := H
        replace H : (if t249 = 0 then ((modp_Mod.f kj5 t229 a1).bind fun t250 => (if t248 = t250 then ((toruslaw01_plus.f kj5 t229 a1 0).bind fun t251 => (if t251 = t248 then ((toruslaw01_product.f kj5 t229 a1 1).bind fun t252 => (toruslaw01_ModpField.j1 kj5 a1 a2 t229 t248 (t252 != t248))) else (toruslaw01_ModpField.j1 kj5 a1 a2 t229 t248 true))) else (toruslaw01_ModpField.j1 kj5 a1 a2 t229 t248 true))) else (toruslaw01_ModpField.j1 kj5 a1 a2 t229 t248 true)) = some r := H
        have A31 := Aside0.mk A310
        clear A310
        have HC32 := Aside0.mk H
        clear H
        go_upto_region 5 with (first | ((with_reducible refine gate_callee (f := 24) rfl ?_); refine goesL_ (some 97) rfl rfl Try.func24 (by kernel_rfl) rfl #[.int .i64 t229, .int .i64 a1, .int .i64 a2] rfl (by (try simp only [List.map_toArray, List.map_cons, List.map_nil]); first | done | rfl | (simp only [List.length_drop, List.length_take]; rfl)) ?_; (with_reducible refine (toruslaw01_plus.calls kj5 t229 a1 a2 t247 _ A30.out).mono ?_); rintro e w' ⟨rfl, ⟨nd, rfl⟩⟩; refine ⟨_, rfl, ?_⟩) | ((with_reducible refine gate_callee (f := 25) rfl ?_); refine goesL_ (some 99) rfl rfl Try.func25 (by kernel_rfl) rfl #[.int .i64 t229, .int .i64 t247, .int .i64 a2] rfl (by (try simp only [List.map_toArray, List.map_cons, List.map_nil]); first | done | rfl | (simp only [List.length_drop, List.length_take]; rfl)) ?_; (with_reducible refine (modp_Sub.calls kj5 t229 t247 a2 t248 t249 _ A31.out).mono ?_); rintro e w' ⟨rfl, ⟨nd, rfl⟩⟩; refine ⟨_, rfl, ?_⟩))
        (try simp only [Act.put, List.setIfInBounds_toArray, List.set_cons_zero, List.set_cons_succ])
        go_cut [124] (fun v124 wc => ∃ (kq : Nat) (x124_31 : Bool), v124 = .bool x124_31 ∧ Aside0 (toruslaw01_ModpField.j1 kq a1 a2 t229 t248 x124_31 = some r) ∧ Aside0 (kq ≤ kj5) ∧ Aside0 (Below w.heap.size w wc))
        case first =>
          have H := HC32.out
          clear HC32
          by_cases c33 : t249 = 0
          · rw [if_pos c33] at H
            have c33b0 : (t249 == 0) = true := beq_iff_eq.mpr c33
            have c33b1 : (t249 != 0) = false := bne_eq_false_iff_eq.mpr c33
            clear c33
            (first | rw [c33b0] | (simp only [i64_w, i32_w]; rw [c33b0]) | skip)
            replace H := Option.bind_eq_some_iff.mp H
            obtain ⟨t250, A340, H⟩ := H
            replace H : (if t248 = t250 then ((toruslaw01_plus.f kj5 t229 a1 0).bind fun t251 => (if t251 = t248 then ((toruslaw01_product.f kj5 t229 a1 1).bind fun t252 => (toruslaw01_ModpField.j1 kj5 a1 a2 t229 t248 (t252 != t248))) else (toruslaw01_ModpField.j1 kj5 a1 a2 t229 t248 true))) else (toruslaw01_ModpField.j1 kj5 a1 a2 t229 t248 true)) = some r := H
            have A34 := Aside0.mk A340
            clear A340
            by_cases c35 : t248 = t250
            · rw [if_pos c35] at H
              have c35b0 : (t248 == t250) = true := beq_iff_eq.mpr c35
              have c35b1 : (t248 != t250) = false := bne_eq_false_iff_eq.mpr c35
              clear c35
              replace H := Option.bind_eq_some_iff.mp H
              obtain ⟨t251, A360, H⟩ := H
              replace H : (if t251 = t248 then ((toruslaw01_product.f kj5 t229 a1 1).bind fun t252 => (toruslaw01_ModpField.j1 kj5 a1 a2 t229 t248 (t252 != t248))) else (toruslaw01_ModpField.j1 kj5 a1 a2 t229 t248 true)) = some r := H
              have A36 := Aside0.mk A360
              clear A360
              by_cases c37 : t251 = t248
              · rw [if_pos c37] at H
                have c37b0 : (t251 == t248) = true := beq_iff_eq.mpr c37
                have c37b1 : (t251 != t248) = false := bne_eq_false_iff_eq.mpr c37
                clear c37
                replace H := Option.bind_eq_some_iff.mp H
                obtain ⟨t252, A380, H⟩ := H
                replace H : (toruslaw01_ModpField.j1 kj5 a1 a2 t229 t248 (t252 != t248)) = some r := H
                have A38 := Aside0.mk A380
                clear A380
                first
                | with_reducible exact toruslaw01_ModpField.j0_dead hrt H
                | with_reducible exact toruslaw01_ModpField.j1_dead hrt H
                | skip
                  have H' := Aside0.mk H
                  clear H
                  go_wp2_with (first | (go_at_call 17; (with_reducible refine (modp_Mod.calls kj5 t229 a1 t250 _ A34.out).mono ?_); rintro e w' ⟨rfl, ⟨nd, rfl⟩⟩) | (go_at_call 24; (with_reducible refine (toruslaw01_plus.calls kj5 t229 a1 0 t251 _ A36.out).mono ?_); rintro e w' ⟨rfl, ⟨nd, rfl⟩⟩) | (go_at_call 21; (with_reducible refine (toruslaw01_product.calls kj5 t229 a1 1 t252 _ A38.out).mono ?_); rintro e w' ⟨rfl, ⟨nd, rfl⟩⟩))
                  go_meet
                  case rel => exact ⟨_, ((t252 != t248)), (by first | rfl | (simp; done) | (simp [*]; done)), H', ⟨by have := HJ5.out; first | omega | exact Nat.le_refl _⟩, ⟨by repeat (first | (with_reducible first | exact HB.out | apply below_alloc | apply pw_below_drewN | apply below_drew1) | exact HB.out)⟩⟩
              · rw [if_neg c37] at H
                have c37b0 : (t251 == t248) = false := beq_eq_false_iff_ne.mpr c37
                have c37b1 : (t251 != t248) = true := bne_iff_ne.mpr c37
                first
                | with_reducible exact toruslaw01_ModpField.j0_dead hrt H
                | with_reducible exact toruslaw01_ModpField.j1_dead hrt H
                | skip
                  have H' := Aside0.mk H
                  clear H
                  go_wp2_with (first | (go_at_call 17; (with_reducible refine (modp_Mod.calls kj5 t229 a1 t250 _ A34.out).mono ?_); rintro e w' ⟨rfl, ⟨nd, rfl⟩⟩) | (go_at_call 24; (with_reducible refine (toruslaw01_plus.calls kj5 t229 a1 0 t251 _ A36.out).mono ?_); rintro e w' ⟨rfl, ⟨nd, rfl⟩⟩))
                  go_meet
                  case rel => exact ⟨_, (true), (by first | rfl | (simp; done) | (simp [*]; done)), H', ⟨by have := HJ5.out; first | omega | exact Nat.le_refl _⟩, ⟨by repeat (first | (with_reducible first | exact HB.out | apply below_alloc | apply pw_below_drewN | apply below_drew1) | exact HB.out)⟩⟩
            · rw [if_neg c35] at H
              have c35b0 : (t248 == t250) = false := beq_eq_false_iff_ne.mpr c35
              have c35b1 : (t248 != t250) = true := bne_iff_ne.mpr c35
              first
              | with_reducible exact toruslaw01_ModpField.j0_dead hrt H
              | with_reducible exact toruslaw01_ModpField.j1_dead hrt H
              | skip
                have H' := Aside0.mk H
                clear H
                go_wp2_with (first | (go_at_call 17; (with_reducible refine (modp_Mod.calls kj5 t229 a1 t250 _ A34.out).mono ?_); rintro e w' ⟨rfl, ⟨nd, rfl⟩⟩))
                go_meet
                case rel => exact ⟨_, (true), (by first | rfl | (simp; done) | (simp [*]; done)), H', ⟨by have := HJ5.out; first | omega | exact Nat.le_refl _⟩, ⟨by repeat (first | (with_reducible first | exact HB.out | apply below_alloc | apply pw_below_drewN | apply below_drew1) | exact HB.out)⟩⟩
          · rw [if_neg c33] at H
            have c33b0 : (t249 == 0) = false := beq_eq_false_iff_ne.mpr c33
            have c33b1 : (t249 != 0) = true := bne_iff_ne.mpr c33
            (first | rw [c33b0] | (simp only [i64_w, i32_w]; rw [c33b0]) | skip)
            first
            | with_reducible exact toruslaw01_ModpField.j0_dead hrt H
            | with_reducible exact toruslaw01_ModpField.j1_dead hrt H
            | skip
              have H' := Aside0.mk H
              clear H
              go_wp2
              go_meet
              case rel => exact ⟨_, (true), (by first | rfl | (simp; done) | (simp [*]; done)), H', ⟨by have := HJ5.out; first | omega | exact Nat.le_refl _⟩, ⟨by repeat (first | (with_reducible first | exact HB.out | apply below_alloc | apply pw_below_drewN | apply below_drew1) | exact HB.out)⟩⟩
        case rest =>
          clear HC32
          try clear c1
          try clear c2
          try clear p2
          try clear c3
          try clear c6
          try clear c10
          try clear c10b0
          try clear c10b1
          try clear c13
          try clear c13b0
          try clear c13b1
          try clear c16
          try clear c18
          try clear c18b0
          try clear c18b1
          try clear c23
          try clear c23b0
          try clear c23b1
          try clear c24
          try clear c25
          try clear c29
          try clear c33
          try clear c33b0
          try clear c33b1
          try clear c35
          try clear c35b0
          try clear c35b1
          try clear c37
          try clear c37b0
          try clear c37b1
          try clear p2
          obtain ⟨kq, x124_31, rfl, HA, HJ31, HB⟩ := hcut
          cases kq with
          | zero => exact absurd HA.out (by simp [toruslaw01_ModpField.j1])
          | succ kj31 =>
            have H := HA.out
            clear HA
            simp only [toruslaw01_ModpField.j1] at H
            by_cases c39 : x124_31 = true
            · subst c39
              have H1 : (some false) = some r := by rw [if_pos rfl] at H; exact H
              clear H
              have H := H1
              clear H1
              first
              | with_reducible exact absurd ((Option.some.inj H).trans hrt.out) Bool.false_ne_true
              | skip
                obtain rfl := Option.some.inj H
                go_wp2
                go_ret
                exact ⟨by first | rfl | (simp [errW_none, errW_some] <;> rfl) | (simp [*, errW_none, errW_some] <;> rfl), by repeat (first | (with_reducible first | exact HB.out | apply below_alloc | apply pw_below_drewN | apply below_drew1) | exact HB.out)⟩
            · replace c39 := Bool.eq_false_iff.mpr c39
              subst c39
              have H1 : ((toruslaw01_product.f kj31 t229 a1 a2).bind fun t253 => ((modp_Div.f kj31 t229 t253 a2).bind fun bt254 => ((modp_Inv.f kj31 t229 a2).bind fun bt256 => ((modp_Mod.f kj31 t229 a2).bind fun t258 => (if t258 = 0 then (if bt254.2 = 9 then (if bt256.2 = 9 then ((toruslaw01_awake.f kj31).bind fun t259 => (some t259)) else (some false)) else (some false)) else (if bt254.2 = 0 then (if bt254.1 = t248 then (if bt256.2 = 0 then ((toruslaw01_product.f kj31 t229 bt256.1 a2).bind fun t260 => (if t260 = 1 then ((toruslaw01_awake.f kj31).bind fun t261 => (some t261)) else (some false))) else (some false)) else (some false)) else (some false))))))) = some r := by rw [if_neg (show ¬ (false = true) by decide)] at H; exact H
              clear H
              have H := H1
              clear H1
              replace H := Option.bind_eq_some_iff.mp H
              obtain ⟨t253, A400, H⟩ := H
              replace H : ((modp_Div.f kj31 t229 t253 a2).bind fun bt254 => ((modp_Inv.f kj31 t229 a2).bind fun bt256 => ((modp_Mod.f kj31 t229 a2).bind fun t258 => (if t258 = 0 then (if bt254.2 = 9 then (if bt256.2 = 9 then ((toruslaw01_awake.f kj31).bind fun t259 => (some t259)) else (some false)) else (some false)) else (if bt254.2 = 0 then (if bt254.1 = t248 then (if bt256.2 = 0 then ((toruslaw01_product.f kj31 t229 bt256.1 a2).bind fun t260 => (if t260 = 1 then ((toruslaw01_awake.f kj31).bind fun t261 => (some t261)) else (some false))) else (some false)) else (some false)) else (some false)))))) = some r := H
              have A40 := Aside0.mk A400
              clear A400
              replace H := Option.bind_eq_some_iff.mp H
              obtain ⟨⟨t254, t255⟩, A410, H⟩ := H
              replace H : ((modp_Inv.f kj31 t229 a2).bind fun bt256 => ((modp_Mod.f kj31 t229 a2).bind fun t258 => (if t258 = 0 then (if t255 = 9 then (if bt256.2 = 9 then ((toruslaw01_awake.f kj31).bind fun t259 => (some t259)) else (some false)) else (some false)) else (if t255 = 0 then (if t254 = t248 then (if bt256.2 = 0 then ((toruslaw01_product.f kj31 t229 bt256.1 a2).bind fun t260 => (if t260 = 1 then ((toruslaw01_awake.f kj31).bind fun t261 => (some t261)) else (some false))) else (some false)) else (some false)) else (some false))))) = some r := H
              have A41 := Aside0.mk A410
              clear A410
              replace H := Option.bind_eq_some_iff.mp H
              obtain ⟨⟨t256, t257⟩, A420, H⟩ := H
              replace H : ((modp_Mod.f kj31 t229 a2).bind fun t258 => (if t258 = 0 then (if t255 = 9 then (if t257 = 9 then ((toruslaw01_awake.f kj31).bind fun t259 => (some t259)) else (some false)) else (some false)) else (if t255 = 0 then (if t254 = t248 then (if t257 = 0 then ((toruslaw01_product.f kj31 t229 t256 a2).bind fun t260 => (if t260 = 1 then ((toruslaw01_awake.f kj31).bind fun t261 => (some t261)) else (some false))) else (some false)) else (some false)) else (some false)))) = some r := H
              have A42 := Aside0.mk A420
              clear A420
              replace H := Option.bind_eq_some_iff.mp H
              obtain ⟨t258, A430, H⟩ := H
              replace H : (if t258 = 0 then (if t255 = 9 then (if t257 = 9 then ((toruslaw01_awake.f kj31).bind fun t259 => (some t259)) else (some false)) else (some false)) else (if t255 = 0 then (if t254 = t248 then (if t257 = 0 then ((toruslaw01_product.f kj31 t229 t256 a2).bind fun t260 => (if t260 = 1 then ((toruslaw01_awake.f kj31).bind fun t261 => (some t261)) else (some false))) else (some false)) else (some false)) else (some false))) = some r := H
              have A43 := Aside0.mk A430
              clear A430
              by_cases c44 : t258 = 0
              · rw [if_pos c44] at H
                have c44b0 : (t258 == 0) = true := beq_iff_eq.mpr c44
                have c44b1 : (t258 != 0) = false := bne_eq_false_iff_eq.mpr c44
                clear c44
                by_cases c45 : t255 = 9
                · rw [if_pos c45] at H
                  have c45b0 : (t255 == 9) = true := beq_iff_eq.mpr c45
                  have c45b1 : (t255 != 9) = false := bne_eq_false_iff_eq.mpr c45
                  clear c45
                  by_cases c46 : t257 = 9
                  · rw [if_pos c46] at H
                    have c46b0 : (t257 == 9) = true := beq_iff_eq.mpr c46
                    have c46b1 : (t257 != 9) = false := bne_eq_false_iff_eq.mpr c46
                    clear c46
                    replace H := Option.bind_eq_some_iff.mp H
                    obtain ⟨t259, A470, H⟩ := H
                    replace H : (some t259) = some r := H
                    have A47 := Aside0.mk A470
                    clear A470
                    first
                    | with_reducible exact absurd ((Option.some.inj H).trans hrt.out) Bool.false_ne_true
                    | skip
                      obtain rfl := Option.some.inj H
                      go_wp2_with (first | ((with_reducible refine gate_callee (f := 21) rfl ?_); refine goesL_ (some 130) rfl rfl Try.func21 (by kernel_rfl) rfl #[.int .i64 t229, .int .i64 a1, .int .i64 a2] rfl (by (try simp only [List.map_toArray, List.map_cons, List.map_nil]); first | done | rfl | (simp only [List.length_drop, List.length_take]; rfl)) ?_; (with_reducible refine (toruslaw01_product.calls kj31 t229 a1 a2 t253 _ A40.out).mono ?_); rintro e w' ⟨rfl, ⟨nd, rfl⟩⟩; refine ⟨_, rfl, ?_⟩) | ((with_reducible refine gate_callee (f := 26) rfl ?_); refine goesL_ (some 132) rfl rfl Try.func26 (by kernel_rfl) rfl #[.int .i64 t229, .int .i64 t253, .int .i64 a2] rfl (by (try simp only [List.map_toArray, List.map_cons, List.map_nil]); first | done | rfl | (simp only [List.length_drop, List.length_take]; rfl)) ?_; (with_reducible refine (modp_Div.calls kj31 t229 t253 a2 t254 t255 _ A41.out).mono ?_); rintro e w' ⟨rfl, ⟨nd, rfl⟩⟩; refine ⟨_, rfl, ?_⟩) | ((with_reducible refine gate_callee (f := 27) rfl ?_); refine goesL_ (some 138) rfl rfl Try.func27 (by kernel_rfl) rfl #[.int .i64 t229, .int .i64 a2] rfl (by (try simp only [List.map_toArray, List.map_cons, List.map_nil]); first | done | rfl | (simp only [List.length_drop, List.length_take]; rfl)) ?_; (with_reducible refine (modp_Inv.calls kj31 t229 a2 t256 t257 _ A42.out).mono ?_); rintro e w' ⟨rfl, ⟨nd, rfl⟩⟩; refine ⟨_, rfl, ?_⟩) | ((with_reducible refine gate_callee (f := 17) rfl ?_); refine goesL_ (some 143) rfl rfl Try.func17 (by kernel_rfl) rfl #[.int .i64 t229, .int .i64 a2] rfl (by (try simp only [List.map_toArray, List.map_cons, List.map_nil]); first | done | rfl | (simp only [List.length_drop, List.length_take]; rfl)) ?_; (with_reducible refine (modp_Mod.calls kj31 t229 a2 t258 _ A43.out).mono ?_); rintro e w' ⟨rfl, ⟨nd, rfl⟩⟩; refine ⟨_, rfl, ?_⟩) | (go_at_call 15; (with_reducible refine (toruslaw01_awake.calls kj31  t259 _ A47.out).mono ?_); rintro e w' ⟨rfl, ⟨nd, rfl⟩⟩))
                      go_ret
                      exact ⟨by first | rfl | (simp [errW_none, errW_some] <;> rfl) | (simp [*, errW_none, errW_some] <;> rfl), by repeat (first | (with_reducible first | exact HB.out | apply below_alloc | apply pw_below_drewN | apply below_drew1) | exact HB.out)⟩
                  · rw [if_neg c46] at H
                    have c46b0 : (t257 == 9) = false := beq_eq_false_iff_ne.mpr c46
                    have c46b1 : (t257 != 9) = true := bne_iff_ne.mpr c46
                    first
                    | with_reducible exact absurd ((Option.some.inj H).trans hrt.out) Bool.false_ne_true
                    | skip
                      obtain rfl := Option.some.inj H
                      go_wp2_with (first | ((with_reducible refine gate_callee (f := 21) rfl ?_); refine goesL_ (some 130) rfl rfl Try.func21 (by kernel_rfl) rfl #[.int .i64 t229, .int .i64 a1, .int .i64 a2] rfl (by (try simp only [List.map_toArray, List.map_cons, List.map_nil]); first | done | rfl | (simp only [List.length_drop, List.length_take]; rfl)) ?_; (with_reducible refine (toruslaw01_product.calls kj31 t229 a1 a2 t253 _ A40.out).mono ?_); rintro e w' ⟨rfl, ⟨nd, rfl⟩⟩; refine ⟨_, rfl, ?_⟩) | ((with_reducible refine gate_callee (f := 26) rfl ?_); refine goesL_ (some 132) rfl rfl Try.func26 (by kernel_rfl) rfl #[.int .i64 t229, .int .i64 t253, .int .i64 a2] rfl (by (try simp only [List.map_toArray, List.map_cons, List.map_nil]); first | done | rfl | (simp only [List.length_drop, List.length_take]; rfl)) ?_; (with_reducible refine (modp_Div.calls kj31 t229 t253 a2 t254 t255 _ A41.out).mono ?_); rintro e w' ⟨rfl, ⟨nd, rfl⟩⟩; refine ⟨_, rfl, ?_⟩) | ((with_reducible refine gate_callee (f := 27) rfl ?_); refine goesL_ (some 138) rfl rfl Try.func27 (by kernel_rfl) rfl #[.int .i64 t229, .int .i64 a2] rfl (by (try simp only [List.map_toArray, List.map_cons, List.map_nil]); first | done | rfl | (simp only [List.length_drop, List.length_take]; rfl)) ?_; (with_reducible refine (modp_Inv.calls kj31 t229 a2 t256 t257 _ A42.out).mono ?_); rintro e w' ⟨rfl, ⟨nd, rfl⟩⟩; refine ⟨_, rfl, ?_⟩) | ((with_reducible refine gate_callee (f := 17) rfl ?_); refine goesL_ (some 143) rfl rfl Try.func17 (by kernel_rfl) rfl #[.int .i64 t229, .int .i64 a2] rfl (by (try simp only [List.map_toArray, List.map_cons, List.map_nil]); first | done | rfl | (simp only [List.length_drop, List.length_take]; rfl)) ?_; (with_reducible refine (modp_Mod.calls kj31 t229 a2 t258 _ A43.out).mono ?_); rintro e w' ⟨rfl, ⟨nd, rfl⟩⟩; refine ⟨_, rfl, ?_⟩))
                      go_ret
                      exact ⟨by first | rfl | (simp [errW_none, errW_some] <;> rfl) | (simp [*, errW_none, errW_some] <;> rfl), by repeat (first | (with_reducible first | exact HB.out | apply below_alloc | apply pw_below_drewN | apply below_drew1) | exact HB.out)⟩
                · rw [if_neg c45] at H
                  have c45b0 : (t255 == 9) = false := beq_eq_false_iff_ne.mpr c45
                  have c45b1 : (t255 != 9) = true := bne_iff_ne.mpr c45
                  first
                  | with_reducible exact absurd ((Option.some.inj H).trans hrt.out) Bool.false_ne_true
                  | skip
                    obtain rfl := Option.some.inj H
                    go_wp2_with (first | ((with_reducible refine gate_callee (f := 21) rfl ?_); refine goesL_ (some 130) rfl rfl Try.func21 (by kernel_rfl) rfl #[.int .i64 t229, .int .i64 a1, .int .i64 a2] rfl (by (try simp only [List.map_toArray, List.map_cons, List.map_nil]); first | done | rfl | (simp only [List.length_drop, List.length_take]; rfl)) ?_; (with_reducible refine (toruslaw01_product.calls kj31 t229 a1 a2 t253 _ A40.out).mono ?_); rintro e w' ⟨rfl, ⟨nd, rfl⟩⟩; refine ⟨_, rfl, ?_⟩) | ((with_reducible refine gate_callee (f := 26) rfl ?_); refine goesL_ (some 132) rfl rfl Try.func26 (by kernel_rfl) rfl #[.int .i64 t229, .int .i64 t253, .int .i64 a2] rfl (by (try simp only [List.map_toArray, List.map_cons, List.map_nil]); first | done | rfl | (simp only [List.length_drop, List.length_take]; rfl)) ?_; (with_reducible refine (modp_Div.calls kj31 t229 t253 a2 t254 t255 _ A41.out).mono ?_); rintro e w' ⟨rfl, ⟨nd, rfl⟩⟩; refine ⟨_, rfl, ?_⟩) | ((with_reducible refine gate_callee (f := 27) rfl ?_); refine goesL_ (some 138) rfl rfl Try.func27 (by kernel_rfl) rfl #[.int .i64 t229, .int .i64 a2] rfl (by (try simp only [List.map_toArray, List.map_cons, List.map_nil]); first | done | rfl | (simp only [List.length_drop, List.length_take]; rfl)) ?_; (with_reducible refine (modp_Inv.calls kj31 t229 a2 t256 t257 _ A42.out).mono ?_); rintro e w' ⟨rfl, ⟨nd, rfl⟩⟩; refine ⟨_, rfl, ?_⟩) | ((with_reducible refine gate_callee (f := 17) rfl ?_); refine goesL_ (some 143) rfl rfl Try.func17 (by kernel_rfl) rfl #[.int .i64 t229, .int .i64 a2] rfl (by (try simp only [List.map_toArray, List.map_cons, List.map_nil]); first | done | rfl | (simp only [List.length_drop, List.length_take]; rfl)) ?_; (with_reducible refine (modp_Mod.calls kj31 t229 a2 t258 _ A43.out).mono ?_); rintro e w' ⟨rfl, ⟨nd, rfl⟩⟩; refine ⟨_, rfl, ?_⟩))
                    go_ret
                    exact ⟨by first | rfl | (simp [errW_none, errW_some] <;> rfl) | (simp [*, errW_none, errW_some] <;> rfl), by repeat (first | (with_reducible first | exact HB.out | apply below_alloc | apply pw_below_drewN | apply below_drew1) | exact HB.out)⟩
              · rw [if_neg c44] at H
                have c44b0 : (t258 == 0) = false := beq_eq_false_iff_ne.mpr c44
                have c44b1 : (t258 != 0) = true := bne_iff_ne.mpr c44
                by_cases c48 : t255 = 0
                · rw [if_pos c48] at H
                  have c48b0 : (t255 == 0) = true := beq_iff_eq.mpr c48
                  have c48b1 : (t255 != 0) = false := bne_eq_false_iff_eq.mpr c48
                  clear c48
                  by_cases c49 : t254 = t248
                  · rw [if_pos c49] at H
                    have c49b0 : (t254 == t248) = true := beq_iff_eq.mpr c49
                    have c49b1 : (t254 != t248) = false := bne_eq_false_iff_eq.mpr c49
                    clear c49
                    by_cases c50 : t257 = 0
                    · rw [if_pos c50] at H
                      have c50b0 : (t257 == 0) = true := beq_iff_eq.mpr c50
                      have c50b1 : (t257 != 0) = false := bne_eq_false_iff_eq.mpr c50
                      clear c50
                      replace H := Option.bind_eq_some_iff.mp H
                      obtain ⟨t260, A510, H⟩ := H
                      replace H : (if t260 = 1 then ((toruslaw01_awake.f kj31).bind fun t261 => (some t261)) else (some false)) = some r := H
                      have A51 := Aside0.mk A510
                      clear A510
                      by_cases c52 : t260 = 1
                      · rw [if_pos c52] at H
                        have c52b0 : (t260 == 1) = true := beq_iff_eq.mpr c52
                        have c52b1 : (t260 != 1) = false := bne_eq_false_iff_eq.mpr c52
                        clear c52
                        replace H := Option.bind_eq_some_iff.mp H
                        obtain ⟨t261, A530, H⟩ := H
                        replace H : (some t261) = some r := H
                        have A53 := Aside0.mk A530
                        clear A530
                        first
                        | with_reducible exact absurd ((Option.some.inj H).trans hrt.out) Bool.false_ne_true
                        | skip
                          obtain rfl := Option.some.inj H
                          go_wp2_with (first | ((with_reducible refine gate_callee (f := 21) rfl ?_); refine goesL_ (some 130) rfl rfl Try.func21 (by kernel_rfl) rfl #[.int .i64 t229, .int .i64 a1, .int .i64 a2] rfl (by (try simp only [List.map_toArray, List.map_cons, List.map_nil]); first | done | rfl | (simp only [List.length_drop, List.length_take]; rfl)) ?_; (with_reducible refine (toruslaw01_product.calls kj31 t229 a1 a2 t253 _ A40.out).mono ?_); rintro e w' ⟨rfl, ⟨nd, rfl⟩⟩; refine ⟨_, rfl, ?_⟩) | ((with_reducible refine gate_callee (f := 26) rfl ?_); refine goesL_ (some 132) rfl rfl Try.func26 (by kernel_rfl) rfl #[.int .i64 t229, .int .i64 t253, .int .i64 a2] rfl (by (try simp only [List.map_toArray, List.map_cons, List.map_nil]); first | done | rfl | (simp only [List.length_drop, List.length_take]; rfl)) ?_; (with_reducible refine (modp_Div.calls kj31 t229 t253 a2 t254 t255 _ A41.out).mono ?_); rintro e w' ⟨rfl, ⟨nd, rfl⟩⟩; refine ⟨_, rfl, ?_⟩) | ((with_reducible refine gate_callee (f := 27) rfl ?_); refine goesL_ (some 138) rfl rfl Try.func27 (by kernel_rfl) rfl #[.int .i64 t229, .int .i64 a2] rfl (by (try simp only [List.map_toArray, List.map_cons, List.map_nil]); first | done | rfl | (simp only [List.length_drop, List.length_take]; rfl)) ?_; (with_reducible refine (modp_Inv.calls kj31 t229 a2 t256 t257 _ A42.out).mono ?_); rintro e w' ⟨rfl, ⟨nd, rfl⟩⟩; refine ⟨_, rfl, ?_⟩) | ((with_reducible refine gate_callee (f := 17) rfl ?_); refine goesL_ (some 143) rfl rfl Try.func17 (by kernel_rfl) rfl #[.int .i64 t229, .int .i64 a2] rfl (by (try simp only [List.map_toArray, List.map_cons, List.map_nil]); first | done | rfl | (simp only [List.length_drop, List.length_take]; rfl)) ?_; (with_reducible refine (modp_Mod.calls kj31 t229 a2 t258 _ A43.out).mono ?_); rintro e w' ⟨rfl, ⟨nd, rfl⟩⟩; refine ⟨_, rfl, ?_⟩) | (go_at_call 21; (with_reducible refine (toruslaw01_product.calls kj31 t229 t256 a2 t260 _ A51.out).mono ?_); rintro e w' ⟨rfl, ⟨nd, rfl⟩⟩) | (go_at_call 15; (with_reducible refine (toruslaw01_awake.calls kj31  t261 _ A53.out).mono ?_); rintro e w' ⟨rfl, ⟨nd, rfl⟩⟩))
                          go_ret
                          exact ⟨by first | rfl | (simp [errW_none, errW_some] <;> rfl) | (simp [*, errW_none, errW_some] <;> rfl), by repeat (first | (with_reducible first | exact HB.out | apply below_alloc | apply pw_below_drewN | apply below_drew1) | exact HB.out)⟩
                      · rw [if_neg c52] at H
                        have c52b0 : (t260 == 1) = false := beq_eq_false_iff_ne.mpr c52
                        have c52b1 : (t260 != 1) = true := bne_iff_ne.mpr c52
                        first
                        | with_reducible exact absurd ((Option.some.inj H).trans hrt.out) Bool.false_ne_true
                        | skip
                          obtain rfl := Option.some.inj H
                          go_wp2_with (first | ((with_reducible refine gate_callee (f := 21) rfl ?_); refine goesL_ (some 130) rfl rfl Try.func21 (by kernel_rfl) rfl #[.int .i64 t229, .int .i64 a1, .int .i64 a2] rfl (by (try simp only [List.map_toArray, List.map_cons, List.map_nil]); first | done | rfl | (simp only [List.length_drop, List.length_take]; rfl)) ?_; (with_reducible refine (toruslaw01_product.calls kj31 t229 a1 a2 t253 _ A40.out).mono ?_); rintro e w' ⟨rfl, ⟨nd, rfl⟩⟩; refine ⟨_, rfl, ?_⟩) | ((with_reducible refine gate_callee (f := 26) rfl ?_); refine goesL_ (some 132) rfl rfl Try.func26 (by kernel_rfl) rfl #[.int .i64 t229, .int .i64 t253, .int .i64 a2] rfl (by (try simp only [List.map_toArray, List.map_cons, List.map_nil]); first | done | rfl | (simp only [List.length_drop, List.length_take]; rfl)) ?_; (with_reducible refine (modp_Div.calls kj31 t229 t253 a2 t254 t255 _ A41.out).mono ?_); rintro e w' ⟨rfl, ⟨nd, rfl⟩⟩; refine ⟨_, rfl, ?_⟩) | ((with_reducible refine gate_callee (f := 27) rfl ?_); refine goesL_ (some 138) rfl rfl Try.func27 (by kernel_rfl) rfl #[.int .i64 t229, .int .i64 a2] rfl (by (try simp only [List.map_toArray, List.map_cons, List.map_nil]); first | done | rfl | (simp only [List.length_drop, List.length_take]; rfl)) ?_; (with_reducible refine (modp_Inv.calls kj31 t229 a2 t256 t257 _ A42.out).mono ?_); rintro e w' ⟨rfl, ⟨nd, rfl⟩⟩; refine ⟨_, rfl, ?_⟩) | ((with_reducible refine gate_callee (f := 17) rfl ?_); refine goesL_ (some 143) rfl rfl Try.func17 (by kernel_rfl) rfl #[.int .i64 t229, .int .i64 a2] rfl (by (try simp only [List.map_toArray, List.map_cons, List.map_nil]); first | done | rfl | (simp only [List.length_drop, List.length_take]; rfl)) ?_; (with_reducible refine (modp_Mod.calls kj31 t229 a2 t258 _ A43.out).mono ?_); rintro e w' ⟨rfl, ⟨nd, rfl⟩⟩; refine ⟨_, rfl, ?_⟩) | (go_at_call 21; (with_reducible refine (toruslaw01_product.calls kj31 t229 t256 a2 t260 _ A51.out).mono ?_); rintro e w' ⟨rfl, ⟨nd, rfl⟩⟩))
                          go_ret
                          exact ⟨by first | rfl | (simp [errW_none, errW_some] <;> rfl) | (simp [*, errW_none, errW_some] <;> rfl), by repeat (first | (with_reducible first | exact HB.out | apply below_alloc | apply pw_below_drewN | apply below_drew1) | exact HB.out)⟩
                    · rw [if_neg c50] at H
                      have c50b0 : (t257 == 0) = false := beq_eq_false_iff_ne.mpr c50
                      have c50b1 : (t257 != 0) = true := bne_iff_ne.mpr c50
                      first
                      | with_reducible exact absurd ((Option.some.inj H).trans hrt.out) Bool.false_ne_true
                      | skip
                        obtain rfl := Option.some.inj H
                        go_wp2_with (first | ((with_reducible refine gate_callee (f := 21) rfl ?_); refine goesL_ (some 130) rfl rfl Try.func21 (by kernel_rfl) rfl #[.int .i64 t229, .int .i64 a1, .int .i64 a2] rfl (by (try simp only [List.map_toArray, List.map_cons, List.map_nil]); first | done | rfl | (simp only [List.length_drop, List.length_take]; rfl)) ?_; (with_reducible refine (toruslaw01_product.calls kj31 t229 a1 a2 t253 _ A40.out).mono ?_); rintro e w' ⟨rfl, ⟨nd, rfl⟩⟩; refine ⟨_, rfl, ?_⟩) | ((with_reducible refine gate_callee (f := 26) rfl ?_); refine goesL_ (some 132) rfl rfl Try.func26 (by kernel_rfl) rfl #[.int .i64 t229, .int .i64 t253, .int .i64 a2] rfl (by (try simp only [List.map_toArray, List.map_cons, List.map_nil]); first | done | rfl | (simp only [List.length_drop, List.length_take]; rfl)) ?_; (with_reducible refine (modp_Div.calls kj31 t229 t253 a2 t254 t255 _ A41.out).mono ?_); rintro e w' ⟨rfl, ⟨nd, rfl⟩⟩; refine ⟨_, rfl, ?_⟩) | ((with_reducible refine gate_callee (f := 27) rfl ?_); refine goesL_ (some 138) rfl rfl Try.func27 (by kernel_rfl) rfl #[.int .i64 t229, .int .i64 a2] rfl (by (try simp only [List.map_toArray, List.map_cons, List.map_nil]); first | done | rfl | (simp only [List.length_drop, List.length_take]; rfl)) ?_; (with_reducible refine (modp_Inv.calls kj31 t229 a2 t256 t257 _ A42.out).mono ?_); rintro e w' ⟨rfl, ⟨nd, rfl⟩⟩; refine ⟨_, rfl, ?_⟩) | ((with_reducible refine gate_callee (f := 17) rfl ?_); refine goesL_ (some 143) rfl rfl Try.func17 (by kernel_rfl) rfl #[.int .i64 t229, .int .i64 a2] rfl (by (try simp only [List.map_toArray, List.map_cons, List.map_nil]); first | done | rfl | (simp only [List.length_drop, List.length_take]; rfl)) ?_; (with_reducible refine (modp_Mod.calls kj31 t229 a2 t258 _ A43.out).mono ?_); rintro e w' ⟨rfl, ⟨nd, rfl⟩⟩; refine ⟨_, rfl, ?_⟩))
                        go_ret
                        exact ⟨by first | rfl | (simp [errW_none, errW_some] <;> rfl) | (simp [*, errW_none, errW_some] <;> rfl), by repeat (first | (with_reducible first | exact HB.out | apply below_alloc | apply pw_below_drewN | apply below_drew1) | exact HB.out)⟩
                  · rw [if_neg c49] at H
                    have c49b0 : (t254 == t248) = false := beq_eq_false_iff_ne.mpr c49
                    have c49b1 : (t254 != t248) = true := bne_iff_ne.mpr c49
                    first
                    | with_reducible exact absurd ((Option.some.inj H).trans hrt.out) Bool.false_ne_true
                    | skip
                      obtain rfl := Option.some.inj H
                      go_wp2_with (first | ((with_reducible refine gate_callee (f := 21) rfl ?_); refine goesL_ (some 130) rfl rfl Try.func21 (by kernel_rfl) rfl #[.int .i64 t229, .int .i64 a1, .int .i64 a2] rfl (by (try simp only [List.map_toArray, List.map_cons, List.map_nil]); first | done | rfl | (simp only [List.length_drop, List.length_take]; rfl)) ?_; (with_reducible refine (toruslaw01_product.calls kj31 t229 a1 a2 t253 _ A40.out).mono ?_); rintro e w' ⟨rfl, ⟨nd, rfl⟩⟩; refine ⟨_, rfl, ?_⟩) | ((with_reducible refine gate_callee (f := 26) rfl ?_); refine goesL_ (some 132) rfl rfl Try.func26 (by kernel_rfl) rfl #[.int .i64 t229, .int .i64 t253, .int .i64 a2] rfl (by (try simp only [List.map_toArray, List.map_cons, List.map_nil]); first | done | rfl | (simp only [List.length_drop, List.length_take]; rfl)) ?_; (with_reducible refine (modp_Div.calls kj31 t229 t253 a2 t254 t255 _ A41.out).mono ?_); rintro e w' ⟨rfl, ⟨nd, rfl⟩⟩; refine ⟨_, rfl, ?_⟩) | ((with_reducible refine gate_callee (f := 27) rfl ?_); refine goesL_ (some 138) rfl rfl Try.func27 (by kernel_rfl) rfl #[.int .i64 t229, .int .i64 a2] rfl (by (try simp only [List.map_toArray, List.map_cons, List.map_nil]); first | done | rfl | (simp only [List.length_drop, List.length_take]; rfl)) ?_; (with_reducible refine (modp_Inv.calls kj31 t229 a2 t256 t257 _ A42.out).mono ?_); rintro e w' ⟨rfl, ⟨nd, rfl⟩⟩; refine ⟨_, rfl, ?_⟩) | ((with_reducible refine gate_callee (f := 17) rfl ?_); refine goesL_ (some 143) rfl rfl Try.func17 (by kernel_rfl) rfl #[.int .i64 t229, .int .i64 a2] rfl (by (try simp only [List.map_toArray, List.map_cons, List.map_nil]); first | done | rfl | (simp only [List.length_drop, List.length_take]; rfl)) ?_; (with_reducible refine (modp_Mod.calls kj31 t229 a2 t258 _ A43.out).mono ?_); rintro e w' ⟨rfl, ⟨nd, rfl⟩⟩; refine ⟨_, rfl, ?_⟩))
                      go_ret
                      exact ⟨by first | rfl | (simp [errW_none, errW_some] <;> rfl) | (simp [*, errW_none, errW_some] <;> rfl), by repeat (first | (with_reducible first | exact HB.out | apply below_alloc | apply pw_below_drewN | apply below_drew1) | exact HB.out)⟩
                · rw [if_neg c48] at H
                  have c48b0 : (t255 == 0) = false := beq_eq_false_iff_ne.mpr c48
                  have c48b1 : (t255 != 0) = true := bne_iff_ne.mpr c48
                  first
                  | with_reducible exact absurd ((Option.some.inj H).trans hrt.out) Bool.false_ne_true
                  | skip
                    obtain rfl := Option.some.inj H
                    go_wp2_with (first | ((with_reducible refine gate_callee (f := 21) rfl ?_); refine goesL_ (some 130) rfl rfl Try.func21 (by kernel_rfl) rfl #[.int .i64 t229, .int .i64 a1, .int .i64 a2] rfl (by (try simp only [List.map_toArray, List.map_cons, List.map_nil]); first | done | rfl | (simp only [List.length_drop, List.length_take]; rfl)) ?_; (with_reducible refine (toruslaw01_product.calls kj31 t229 a1 a2 t253 _ A40.out).mono ?_); rintro e w' ⟨rfl, ⟨nd, rfl⟩⟩; refine ⟨_, rfl, ?_⟩) | ((with_reducible refine gate_callee (f := 26) rfl ?_); refine goesL_ (some 132) rfl rfl Try.func26 (by kernel_rfl) rfl #[.int .i64 t229, .int .i64 t253, .int .i64 a2] rfl (by (try simp only [List.map_toArray, List.map_cons, List.map_nil]); first | done | rfl | (simp only [List.length_drop, List.length_take]; rfl)) ?_; (with_reducible refine (modp_Div.calls kj31 t229 t253 a2 t254 t255 _ A41.out).mono ?_); rintro e w' ⟨rfl, ⟨nd, rfl⟩⟩; refine ⟨_, rfl, ?_⟩) | ((with_reducible refine gate_callee (f := 27) rfl ?_); refine goesL_ (some 138) rfl rfl Try.func27 (by kernel_rfl) rfl #[.int .i64 t229, .int .i64 a2] rfl (by (try simp only [List.map_toArray, List.map_cons, List.map_nil]); first | done | rfl | (simp only [List.length_drop, List.length_take]; rfl)) ?_; (with_reducible refine (modp_Inv.calls kj31 t229 a2 t256 t257 _ A42.out).mono ?_); rintro e w' ⟨rfl, ⟨nd, rfl⟩⟩; refine ⟨_, rfl, ?_⟩) | ((with_reducible refine gate_callee (f := 17) rfl ?_); refine goesL_ (some 143) rfl rfl Try.func17 (by kernel_rfl) rfl #[.int .i64 t229, .int .i64 a2] rfl (by (try simp only [List.map_toArray, List.map_cons, List.map_nil]); first | done | rfl | (simp only [List.length_drop, List.length_take]; rfl)) ?_; (with_reducible refine (modp_Mod.calls kj31 t229 a2 t258 _ A43.out).mono ?_); rintro e w' ⟨rfl, ⟨nd, rfl⟩⟩; refine ⟨_, rfl, ?_⟩))
                    go_ret
                    exact ⟨by first | rfl | (simp [errW_none, errW_some] <;> rfl) | (simp [*, errW_none, errW_some] <;> rfl), by repeat (first | (with_reducible first | exact HB.out | apply below_alloc | apply pw_below_drewN | apply below_drew1) | exact HB.out)⟩

/-- THE ONE PURE STATEMENT of toruslaw01_ModpField: yours. -/
def toruslaw01_ModpField.Pure : Prop := ∀ (a0 : Int) (a1 : Int) (a2 : Int) (a3 : Int), (Lit.int .i64 a0).wf = true → (Lit.int .i64 a1).wf = true → (Lit.int .i64 a2).wf = true → (Lit.int .i64 a3).wf = true → ∃ k, toruslaw01_ModpField.f k a0 a1 a2 a3 = some true
theorem toruslaw01_ModpField.walk (P : toruslaw01_ModpField.Pure) (a0 : Int) (a1 : Int) (a2 : Int) (a3 : Int) (w : World) (w0 : (Lit.int .i64 a0).wf = true) (w1 : (Lit.int .i64 a1).wf = true) (w2 : (Lit.int .i64 a2).wf = true) (w3 : (Lit.int .i64 a3).wf = true) :
    Calls Try.prog 6 #[.int .i64 a0, .int .i64 a1, .int .i64 a2, .int .i64 a3] w fun e w' => e = .returned (.bool true) ∧ Below w.heap.size w w' := by
  obtain ⟨k, h⟩ := P a0 a1 a2 a3 w0 w1 w2 w3
  refine (toruslaw01_ModpField.calls k a0 a1 a2 a3 true w ⟨rfl⟩ h).mono ?_
  rintro e w' ⟨rfl, hd⟩
  exact ⟨rfl, hd⟩

/-! ### modp_Log: function 28 -/
def modp_Log.l0 : Nat → Int → Int → Int → Int → Int → Int → Int → Option (Int × Int)
  | 0, _, _, _, _, _, _, _ => none
  | k + 1, x0, x1, x2, x8, x10, x33, x34 => if x34 < x33 then ((modp_field_rest.f x8 x2).bind fun t266 => (if x10 = t266 then (some (x34, 0)) else ((modp_field_rest.f x8 x1).bind fun t267 => (if x0 = 0 then (none) else (modp_Log.l0 k x0 x1 x2 x8 (Int.tmod (wrap64 (x10 * t267)) x0) x33 (wrap64 (x34 + 1))))))) else (some (0, 4))
def modp_Log.f (k : Nat) (a0 : Int) (a1 : Int) (a2 : Int) : Option (Int × Int) := (modp_of.f k a0).bind fun bt262 => (if bt262.2 = 0 then ((modp_field_rest.f bt262.1 a1).bind fun t264 => (if t264 = 0 then (some (0, 9)) else ((modp_field_rest.f bt262.1 a2).bind fun t265 => (if t265 = 0 then (some (0, 9)) else (modp_Log.l0 k a0 a1 a2 bt262.1 1 (wrap64 (a0 - 1)) 0))))) else (some (0, bt262.2)))
theorem modp_Log.mono_l : ∀ k, (∀ y0 y1 y2 y3 y4 y5 y6, LeO (modp_Log.l0 k y0 y1 y2 y3 y4 y5 y6) (modp_Log.l0 (k + 1) y0 y1 y2 y3 y4 y5 y6))
  | 0 => fun _ _ _ _ _ _ _ r h => by simp [modp_Log.l0] at h
  | k + 1 => by
    have ih0 := modp_Log.mono_l k
    · intro y0 y1 y2 y3 y4 y5 y6
      unfold modp_Log.l0
      repeat' first
      | (with_reducible exact ih0 _ _ _ _ _ _ _)
      | (with_reducible exact modp_of.mono _ _)
      | (with_reducible exact LeO.refl _)
      | (with_reducible exact LeO.none _)
      | (with_reducible refine LeO.ite ?_ ?_)
      | (with_reducible refine LeO.bind ?_ (fun _ => ?_))
      | exact ih0 _ _ _ _ _ _ _
      | exact modp_of.mono _ _
      | exact LeO.none _
      | refine LeO.ite ?_ ?_
      | refine LeO.bind ?_ (fun _ => ?_)
theorem modp_Log.mono : ∀ a0 a1 a2 k, LeO (modp_Log.f k a0 a1 a2) (modp_Log.f (k + 1) a0 a1 a2) := by
  intro a0 a1 a2 k
  have ih0 := modp_Log.mono_l k
  unfold modp_Log.f
  repeat' first
      | (with_reducible exact ih0 _ _ _ _ _ _ _)
      | (with_reducible exact modp_of.mono _ _)
      | (with_reducible exact LeO.refl _)
      | (with_reducible exact LeO.none _)
      | (with_reducible refine LeO.ite ?_ ?_)
      | (with_reducible refine LeO.bind ?_ (fun _ => ?_))
      | exact ih0 _ _ _ _ _ _ _
      | exact modp_of.mono _ _
      | exact LeO.none _
      | refine LeO.ite ?_ ?_
      | refine LeO.bind ?_ (fun _ => ?_)
set_option maxHeartbeats 8000000 in
set_option maxRecDepth 100000 in
theorem modp_Log.calls (k : Nat) (a0 : Int) (a1 : Int) (a2 : Int) (r1 : Int) (r2 : Int) (w : World) (h : modp_Log.f k a0 a1 a2 = some (r1, r2)) :
    Calls Try.prog 28 #[.int .i64 a0, .int .i64 a1, .int .i64 a2] w fun e w' => e = .returned (.tuple #[.int .i64 r1, .int .i64 r2]) ∧ Drawn0 w w' := by
  have H : ((modp_of.f k a0).bind fun bt262 => (if bt262.2 = 0 then ((modp_field_rest.f bt262.1 a1).bind fun t264 => (if t264 = 0 then (some (0, 9)) else ((modp_field_rest.f bt262.1 a2).bind fun t265 => (if t265 = 0 then (some (0, 9)) else (modp_Log.l0 k a0 a1 a2 bt262.1 1 (wrap64 (a0 - 1)) 0))))) else (some (0, bt262.2)))) = some (r1, r2) := h
  clear h
  replace H := Option.bind_eq_some_iff.mp H
  obtain ⟨⟨t262, t263⟩, A40, H⟩ := H
  replace H : (if t263 = 0 then ((modp_field_rest.f t262 a1).bind fun t264 => (if t264 = 0 then (some (0, 9)) else ((modp_field_rest.f t262 a2).bind fun t265 => (if t265 = 0 then (some (0, 9)) else (modp_Log.l0 k a0 a1 a2 t262 1 (wrap64 (a0 - 1)) 0))))) else (some (0, t263))) = some (r1, r2) := H
  have A4 := Aside0.mk A40
  clear A40
  by_cases c5 : t263 = 0
  · rw [if_pos c5] at H
    have c5b0 : (t263 == 0) = true := beq_iff_eq.mpr c5
    have c5b1 : (t263 != 0) = false := bne_eq_false_iff_eq.mpr c5
    clear c5
    replace H := Option.bind_eq_some_iff.mp H
    obtain ⟨t264, A60, H⟩ := H
    replace H : (if t264 = 0 then (some (0, 9)) else ((modp_field_rest.f t262 a2).bind fun t265 => (if t265 = 0 then (some (0, 9)) else (modp_Log.l0 k a0 a1 a2 t262 1 (wrap64 (a0 - 1)) 0)))) = some (r1, r2) := H
    have A6 := Aside0.mk A60
    clear A60
    by_cases c7 : t264 = 0
    · rw [if_pos c7] at H
      have c7b0 : (t264 == 0) = true := beq_iff_eq.mpr c7
      have c7b1 : (t264 != 0) = false := bne_eq_false_iff_eq.mpr c7
      clear c7
      simp only [Option.some.injEq, Prod.mk.injEq] at H
      obtain ⟨rfl, rfl⟩ := H
      go_enter Try.func28, Try.ntmps28
      go_wp2_with (first | ((with_reducible refine gate_callee (f := 47) rfl ?_); refine goesL_ (some 14) rfl rfl Try.func47 (by kernel_rfl) rfl #[.int .i64 a0] rfl (by (try simp only [List.map_toArray, List.map_cons, List.map_nil]); first | done | rfl | (simp only [List.length_drop, List.length_take]; rfl)) ?_; (with_reducible refine (modp_of.calls k a0 t262 t263 _ A4.out).mono ?_); rintro e w' ⟨rfl, ⟨nd, rfl⟩⟩; refine ⟨_, rfl, ?_⟩) | ((with_reducible refine gate_callee (f := 48) rfl ?_); refine goesL_ (some 24) rfl rfl Try.func48 (by kernel_rfl) rfl #[.int .i64 t262, .int .i64 a1] rfl (by (try simp only [List.map_toArray, List.map_cons, List.map_nil]); first | done | rfl | (simp only [List.length_drop, List.length_take]; rfl)) ?_; (with_reducible refine (modp_field_rest.calls t262 a1 t264 _ A6.out).mono ?_); rintro e w' ⟨rfl, ⟨nd, rfl⟩⟩; refine ⟨_, rfl, ?_⟩))
      go_ret2
      exact ⟨by first | rfl | (simp; done) | (simp [*]; done), by repeat (first | exact Drawn0.refl _ | apply Drawn0.step)⟩
    · rw [if_neg c7] at H
      have c7b0 : (t264 == 0) = false := beq_eq_false_iff_ne.mpr c7
      have c7b1 : (t264 != 0) = true := bne_iff_ne.mpr c7
      replace H := Option.bind_eq_some_iff.mp H
      obtain ⟨t265, A80, H⟩ := H
      replace H : (if t265 = 0 then (some (0, 9)) else (modp_Log.l0 k a0 a1 a2 t262 1 (wrap64 (a0 - 1)) 0)) = some (r1, r2) := H
      have A8 := Aside0.mk A80
      clear A80
      by_cases c9 : t265 = 0
      · rw [if_pos c9] at H
        have c9b0 : (t265 == 0) = true := beq_iff_eq.mpr c9
        have c9b1 : (t265 != 0) = false := bne_eq_false_iff_eq.mpr c9
        clear c9
        simp only [Option.some.injEq, Prod.mk.injEq] at H
        obtain ⟨rfl, rfl⟩ := H
        go_enter Try.func28, Try.ntmps28
        go_wp2_with (first | ((with_reducible refine gate_callee (f := 47) rfl ?_); refine goesL_ (some 14) rfl rfl Try.func47 (by kernel_rfl) rfl #[.int .i64 a0] rfl (by (try simp only [List.map_toArray, List.map_cons, List.map_nil]); first | done | rfl | (simp only [List.length_drop, List.length_take]; rfl)) ?_; (with_reducible refine (modp_of.calls k a0 t262 t263 _ A4.out).mono ?_); rintro e w' ⟨rfl, ⟨nd, rfl⟩⟩; refine ⟨_, rfl, ?_⟩) | ((with_reducible refine gate_callee (f := 48) rfl ?_); refine goesL_ (some 24) rfl rfl Try.func48 (by kernel_rfl) rfl #[.int .i64 t262, .int .i64 a1] rfl (by (try simp only [List.map_toArray, List.map_cons, List.map_nil]); first | done | rfl | (simp only [List.length_drop, List.length_take]; rfl)) ?_; (with_reducible refine (modp_field_rest.calls t262 a1 t264 _ A6.out).mono ?_); rintro e w' ⟨rfl, ⟨nd, rfl⟩⟩; refine ⟨_, rfl, ?_⟩) | (go_at_call 48; (with_reducible refine (modp_field_rest.calls t262 a2 t265 _ A8.out).mono ?_); rintro e w' ⟨rfl, ⟨nd, rfl⟩⟩))
        go_ret2
        exact ⟨by first | rfl | (simp; done) | (simp [*]; done), by repeat (first | exact Drawn0.refl _ | apply Drawn0.step)⟩
      · rw [if_neg c9] at H
        have c9b0 : (t265 == 0) = false := beq_eq_false_iff_ne.mpr c9
        have c9b1 : (t265 != 0) = true := bne_iff_ne.mpr c9
        have H' := Aside0.mk H
        clear H
        go_enter Try.func28, Try.ntmps28
        go_wp2_with (first | ((with_reducible refine gate_callee (f := 47) rfl ?_); refine goesL_ (some 14) rfl rfl Try.func47 (by kernel_rfl) rfl #[.int .i64 a0] rfl (by (try simp only [List.map_toArray, List.map_cons, List.map_nil]); first | done | rfl | (simp only [List.length_drop, List.length_take]; rfl)) ?_; (with_reducible refine (modp_of.calls k a0 t262 t263 _ A4.out).mono ?_); rintro e w' ⟨rfl, ⟨nd, rfl⟩⟩; refine ⟨_, rfl, ?_⟩) | ((with_reducible refine gate_callee (f := 48) rfl ?_); refine goesL_ (some 24) rfl rfl Try.func48 (by kernel_rfl) rfl #[.int .i64 t262, .int .i64 a1] rfl (by (try simp only [List.map_toArray, List.map_cons, List.map_nil]); first | done | rfl | (simp only [List.length_drop, List.length_take]; rfl)) ?_; (with_reducible refine (modp_field_rest.calls t262 a1 t264 _ A6.out).mono ?_); rintro e w' ⟨rfl, ⟨nd, rfl⟩⟩; refine ⟨_, rfl, ?_⟩) | (go_at_call 48; (with_reducible refine (modp_field_rest.calls t262 a2 t265 _ A8.out).mono ?_); rintro e w' ⟨rfl, ⟨nd, rfl⟩⟩))
        go_loopg [10, 34] k (fun kq v10 v34 w' => ∃ (x10_1 : Int) (x34_1 : Int), v10 = .int .i64 x10_1 ∧ v34 = .int .i64 x34_1 ∧ Aside0 (modp_Log.l0 kq a0 a1 a2 t262 x10_1 (wrap64 (a0 - 1)) x34_1 = some (r1, r2)) ∧ Aside0 (kq ≤ k) ∧ Drawn0 w w')
        case atStart => exact ⟨(1), (0), (by first | rfl | (simp; done) | (simp [*]; done)), (by first | rfl | (simp; done) | (simp [*]; done)), H', ⟨Nat.le_refl _⟩, by repeat (first | exact Drawn0.refl _ | apply Drawn0.step)⟩
        case round =>
          clear H'
          try clear c2
          try clear p2
          try clear c4
          try clear c5
          try clear c5b0
          try clear c5b1
          try clear p6
          try clear c7
          try clear c7b0
          try clear c7b1
          try clear c9
          try clear c9b0
          try clear c9b1
          obtain ⟨x10_1, x34_1, rfl, rfl, HA, HK1, ⟨m1, rfl⟩⟩ := hrel
          cases gk with
          | zero => exact absurd HA.out (by simp [modp_Log.l0])
          | succ k1 =>
            have H := HA.out
            clear HA
            simp only [modp_Log.l0] at H
            by_cases c10 : x34_1 < (wrap64 (a0 - 1))
            · rw [if_pos c10] at H
              have c10b0 : decide (x34_1 < (wrap64 (a0 - 1))) = true := decide_eq_true c10
              clear c10
              replace H := Option.bind_eq_some_iff.mp H
              obtain ⟨t266, A110, H⟩ := H
              replace H : (if x10_1 = t266 then (some (x34_1, 0)) else ((modp_field_rest.f t262 a1).bind fun t267 => (if a0 = 0 then (none) else (modp_Log.l0 k1 a0 a1 a2 t262 (Int.tmod (wrap64 (x10_1 * t267)) a0) (wrap64 (a0 - 1)) (wrap64 (x34_1 + 1)))))) = some (r1, r2) := H
              have A11 := Aside0.mk A110
              clear A110
              by_cases c12 : x10_1 = t266
              · rw [if_pos c12] at H
                have c12b0 : (x10_1 == t266) = true := beq_iff_eq.mpr c12
                have c12b1 : (x10_1 != t266) = false := bne_eq_false_iff_eq.mpr c12
                clear c12
                simp only [Option.some.injEq, Prod.mk.injEq] at H
                obtain ⟨rfl, rfl⟩ := H
                go_wp2_with (first | ((with_reducible refine gate_callee (f := 48) rfl ?_); refine goesL_ (some 40) rfl rfl Try.func48 (by kernel_rfl) rfl #[.int .i64 t262, .int .i64 a2] rfl (by (try simp only [List.map_toArray, List.map_cons, List.map_nil]); first | done | rfl | (simp only [List.length_drop, List.length_take]; rfl)) ?_; (with_reducible refine (modp_field_rest.calls t262 a2 t266 _ A11.out).mono ?_); rintro e w' ⟨rfl, ⟨nd, rfl⟩⟩; refine ⟨_, rfl, ?_⟩))
                go_ret2
                exact ⟨by first | rfl | (simp; done) | (simp [*]; done), by repeat (first | exact Drawn0.refl _ | apply Drawn0.step)⟩
              · rw [if_neg c12] at H
                have c12b0 : (x10_1 == t266) = false := beq_eq_false_iff_ne.mpr c12
                have c12b1 : (x10_1 != t266) = true := bne_iff_ne.mpr c12
                replace H := Option.bind_eq_some_iff.mp H
                obtain ⟨t267, A130, H⟩ := H
                replace H : (if a0 = 0 then (none) else (modp_Log.l0 k1 a0 a1 a2 t262 (Int.tmod (wrap64 (x10_1 * t267)) a0) (wrap64 (a0 - 1)) (wrap64 (x34_1 + 1)))) = some (r1, r2) := H
                have A13 := Aside0.mk A130
                clear A130
                by_cases c14 : a0 = 0
                · rw [if_pos c14] at H
                  exact absurd H (by simp)
                · rw [if_neg c14] at H
                  have c14b0 : (a0 == 0) = false := beq_eq_false_iff_ne.mpr c14
                  have c14b1 : (a0 != 0) = true := bne_iff_ne.mpr c14
                  have H' := Aside0.mk H
                  clear H
                  go_wp2_with (first | ((with_reducible refine gate_callee (f := 48) rfl ?_); refine goesL_ (some 40) rfl rfl Try.func48 (by kernel_rfl) rfl #[.int .i64 t262, .int .i64 a2] rfl (by (try simp only [List.map_toArray, List.map_cons, List.map_nil]); first | done | rfl | (simp only [List.length_drop, List.length_take]; rfl)) ?_; (with_reducible refine (modp_field_rest.calls t262 a2 t266 _ A11.out).mono ?_); rintro e w' ⟨rfl, ⟨nd, rfl⟩⟩; refine ⟨_, rfl, ?_⟩) | ((with_reducible refine gate_callee (f := 48) rfl ?_); refine goesL_ (some 46) rfl rfl Try.func48 (by kernel_rfl) rfl #[.int .i64 t262, .int .i64 a1] rfl (by (try simp only [List.map_toArray, List.map_cons, List.map_nil]); first | done | rfl | (simp only [List.length_drop, List.length_take]; rfl)) ?_; (with_reducible refine (modp_field_rest.calls t262 a1 t267 _ A13.out).mono ?_); rintro e w' ⟨rfl, ⟨nd, rfl⟩⟩; refine ⟨_, rfl, ?_⟩))
                  go_roundg k1
                  case measure => have := HK1.out; omega
                  case rel => exact ⟨(Int.tmod (wrap64 (x10_1 * t267)) a0), (wrap64 (x34_1 + 1)), (by first | rfl | (simp; done) | (simp [*]; done)), (by first | rfl | (simp; done) | (simp [*]; done)), H', ⟨by have := HK1.out; omega⟩, by repeat (first | exact Drawn0.refl _ | apply Drawn0.step)⟩
            · rw [if_neg c10] at H
              have c10b0 : decide (x34_1 < (wrap64 (a0 - 1))) = false := decide_eq_false c10
              clear c10
              simp only [Option.some.injEq, Prod.mk.injEq] at H
              obtain ⟨rfl, rfl⟩ := H
              go_wp2
              go_ret2
              exact ⟨by first | rfl | (simp; done) | (simp [*]; done), by repeat (first | exact Drawn0.refl _ | apply Drawn0.step)⟩
  · rw [if_neg c5] at H
    have c5b0 : (t263 == 0) = false := beq_eq_false_iff_ne.mpr c5
    have c5b1 : (t263 != 0) = true := bne_iff_ne.mpr c5
    simp only [Option.some.injEq, Prod.mk.injEq] at H
    obtain ⟨rfl, rfl⟩ := H
    go_enter Try.func28, Try.ntmps28
    go_wp2_with (first | ((with_reducible refine gate_callee (f := 47) rfl ?_); refine goesL_ (some 14) rfl rfl Try.func47 (by kernel_rfl) rfl #[.int .i64 a0] rfl (by (try simp only [List.map_toArray, List.map_cons, List.map_nil]); first | done | rfl | (simp only [List.length_drop, List.length_take]; rfl)) ?_; (with_reducible refine (modp_of.calls k a0 t262 t263 _ A4.out).mono ?_); rintro e w' ⟨rfl, ⟨nd, rfl⟩⟩; refine ⟨_, rfl, ?_⟩))
    go_ret2
    exact ⟨by first | rfl | (simp; done) | (simp [*]; done), by repeat (first | exact Drawn0.refl _ | apply Drawn0.step)⟩

end Go.Proofs.Ytikbgcpcbhoblaa.PModp
