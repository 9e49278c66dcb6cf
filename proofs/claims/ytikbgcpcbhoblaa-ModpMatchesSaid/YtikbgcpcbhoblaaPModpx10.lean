/- Each Go function named below, as a plain Lean function, with a proof that the Go code computes just that; conditions: those that each theorem states. Written by a program of this session (wip/xprint, over the print of the kit). -/
import Derived.Test.YtikbgcpcbhoblaaPModpx0
import Derived.Test.YtikbgcpcbhoblaaPModpx1
import Derived.Test.YtikbgcpcbhoblaaPModpx2
import Derived.Test.YtikbgcpcbhoblaaPModpx3
import Derived.Test.YtikbgcpcbhoblaaPModpx4
import Derived.Test.YtikbgcpcbhoblaaPModpx5
import Derived.Test.YtikbgcpcbhoblaaPModpx6
import Derived.Test.YtikbgcpcbhoblaaPModpx7
import Derived.Test.YtikbgcpcbhoblaaPModpx8
import Derived.Test.YtikbgcpcbhoblaaPModpx9
namespace Go.Proofs.Ytikbgcpcbhoblaa.PModp
open Go.RowKit Go.Proofs.YtikbgcpcbhoblaaW.PrintWords Go.Proofs.YtikbgcpcbhoblaaW.PrintLast Go.Proofs.YtikbgcpcbhoblaaW.PrintMore
attribute [local go_sem] max2_int min2_int max_two min_two max_three min_three max_four min_four   -- for this text's walks alone
set_option linter.unusedVariables false
set_option linter.unusedSimpArgs false

/-! ### toruslaw01_ModpMatches: function 9 -/
mutual
def toruslaw01_ModpMatches.j0 : Nat → Int → Int → Int → Int → Bool → Option (Bool)
  | 0, _, _, _, _, _ => none
  | k + 1, x0, x1, x2, x3, x26 => if x26 = true then (some false) else ((modp_Add.f k x0 x1 x2).bind fun bt353 => ((torusref01_Add.f k x0 x1 x2).bind fun bt355 => (if bt353.1 = bt355.1 then (toruslaw01_ModpMatches.j1 k x0 x1 x2 x3 (bt353.2 != bt355.2)) else (toruslaw01_ModpMatches.j1 k x0 x1 x2 x3 true))))
def toruslaw01_ModpMatches.j1 : Nat → Int → Int → Int → Int → Bool → Option (Bool)
  | 0, _, _, _, _, _ => none
  | k + 1, x0, x1, x2, x3, x48 => if x48 = true then (some false) else ((modp_Sub.f k x0 x1 x2).bind fun bt357 => ((torusref01_Sub.f k x0 x1 x2).bind fun bt359 => (if bt357.1 = bt359.1 then (toruslaw01_ModpMatches.j2 k x0 x1 x2 x3 (bt357.2 != bt359.2)) else (toruslaw01_ModpMatches.j2 k x0 x1 x2 x3 true))))
def toruslaw01_ModpMatches.j2 : Nat → Int → Int → Int → Int → Bool → Option (Bool)
  | 0, _, _, _, _, _ => none
  | k + 1, x0, x1, x2, x3, x70 => if x70 = true then (some false) else ((modp_Mul.f k x0 x1 x2).bind fun bt361 => ((torusref01_Mul.f k x0 x1 x2).bind fun bt363 => (if bt361.1 = bt363.1 then (toruslaw01_ModpMatches.j3 k x0 x1 x2 x3 (bt361.2 != bt363.2)) else (toruslaw01_ModpMatches.j3 k x0 x1 x2 x3 true))))
def toruslaw01_ModpMatches.j3 : Nat → Int → Int → Int → Int → Bool → Option (Bool)
  | 0, _, _, _, _, _ => none
  | k + 1, x0, x1, x2, x3, x92 => if x92 = true then (some false) else ((modp_Div.f k x0 x1 x2).bind fun bt365 => ((torusref01_Div.f k x0 x1 x2).bind fun bt367 => (if bt365.1 = bt367.1 then (toruslaw01_ModpMatches.j4 k x0 x1 x2 x3 (bt365.2 != bt367.2)) else (toruslaw01_ModpMatches.j4 k x0 x1 x2 x3 true))))
def toruslaw01_ModpMatches.j4 : Nat → Int → Int → Int → Int → Bool → Option (Bool)
  | 0, _, _, _, _, _ => none
  | k + 1, x0, x1, x2, x3, x114 => if x114 = true then (some false) else ((modp_Inv.f k x0 x1).bind fun bt369 => ((torusref01_Inv.f k x0 x1).bind fun bt371 => (if bt369.1 = bt371.1 then (toruslaw01_ModpMatches.j5 k x0 x1 x2 x3 (bt369.2 != bt371.2)) else (toruslaw01_ModpMatches.j5 k x0 x1 x2 x3 true))))
def toruslaw01_ModpMatches.j5 : Nat → Int → Int → Int → Int → Bool → Option (Bool)
  | 0, _, _, _, _, _ => none
  | k + 1, x0, x1, x2, x3, x134 => if x134 = true then (some false) else ((modp_Pow.f k x0 x1 x3).bind fun bt373 => ((torusref01_Pow.f k x0 x1 x3).bind fun bt375 => (if bt373.1 = bt375.1 then (toruslaw01_ModpMatches.j6 k x0 x1 x2 (bt373.2 != bt375.2)) else (toruslaw01_ModpMatches.j6 k x0 x1 x2 true))))
def toruslaw01_ModpMatches.j6 : Nat → Int → Int → Int → Bool → Option (Bool)
  | 0, _, _, _, _ => none
  | k + 1, x0, x1, x2, x156 => if x156 = true then (some false) else ((modp_Order.f k x0 x1).bind fun bt377 => ((torusref01_Order.f k x0 x1).bind fun bt379 => (if bt377.1 = bt379.1 then (toruslaw01_ModpMatches.j7 k x0 x1 x2 (bt377.2 != bt379.2)) else (toruslaw01_ModpMatches.j7 k x0 x1 x2 true))))
def toruslaw01_ModpMatches.j7 : Nat → Int → Int → Int → Bool → Option (Bool)
  | 0, _, _, _, _ => none
  | k + 1, x0, x1, x2, x176 => if x176 = true then (some false) else ((modp_Generator.f k x0).bind fun bt381 => ((torusref01_Generator.f k x0).bind fun bt383 => (if bt381.1 = bt383.1 then (toruslaw01_ModpMatches.j8 k x0 x1 x2 (bt381.2 != bt383.2)) else (toruslaw01_ModpMatches.j8 k x0 x1 x2 true))))
def toruslaw01_ModpMatches.j8 : Nat → Int → Int → Int → Bool → Option (Bool)
  | 0, _, _, _, _ => none
  | k + 1, x0, x1, x2, x194 => if x194 = true then (some false) else ((modp_Log.f k x0 x1 x2).bind fun bt385 => ((torusref01_Log.f k x0 x1 x2).bind fun bt387 => (if bt385.1 = bt387.1 then (toruslaw01_ModpMatches.j9 k x0 x1 (bt385.2 != bt387.2)) else (toruslaw01_ModpMatches.j9 k x0 x1 true))))
def toruslaw01_ModpMatches.j9 : Nat → Int → Int → Bool → Option (Bool)
  | 0, _, _, _ => none
  | k + 1, x0, x1, x216 => if x216 = true then (some false) else ((modp_Root.f k x0 x1).bind fun bt389 => ((torusref01_Root.f k x0 x1).bind fun bt391 => (if bt389.1 = bt391.1 then (if bt389.2 = bt391.2 then ((toruslaw01_awake.f k).bind fun t393 => (some t393)) else (some false)) else (some false))))
end
def toruslaw01_ModpMatches.f (k : Nat) (a0 : Int) (a1 : Int) (a2 : Int) (a3 : Int) : Option (Bool) := (modp_Prime.f k a0).bind fun t349 => ((torusref01_Prime.f k a0).bind fun t350 => (if (t349 != t350) = true then (toruslaw01_ModpMatches.j0 k a0 a1 a2 a3 true) else ((modp_Mod.f k a0 a1).bind fun t351 => ((torusref01_Mod.f k a0 a1).bind fun t352 => (toruslaw01_ModpMatches.j0 k a0 a1 a2 a3 (t351 != t352))))))
theorem toruslaw01_ModpMatches.mono_l : ∀ k, (∀ y0 y1 y2 y3 y4, LeO (toruslaw01_ModpMatches.j0 k y0 y1 y2 y3 y4) (toruslaw01_ModpMatches.j0 (k + 1) y0 y1 y2 y3 y4)) ∧ (∀ y0 y1 y2 y3 y4, LeO (toruslaw01_ModpMatches.j1 k y0 y1 y2 y3 y4) (toruslaw01_ModpMatches.j1 (k + 1) y0 y1 y2 y3 y4)) ∧ (∀ y0 y1 y2 y3 y4, LeO (toruslaw01_ModpMatches.j2 k y0 y1 y2 y3 y4) (toruslaw01_ModpMatches.j2 (k + 1) y0 y1 y2 y3 y4)) ∧ (∀ y0 y1 y2 y3 y4, LeO (toruslaw01_ModpMatches.j3 k y0 y1 y2 y3 y4) (toruslaw01_ModpMatches.j3 (k + 1) y0 y1 y2 y3 y4)) ∧ (∀ y0 y1 y2 y3 y4, LeO (toruslaw01_ModpMatches.j4 k y0 y1 y2 y3 y4) (toruslaw01_ModpMatches.j4 (k + 1) y0 y1 y2 y3 y4)) ∧ (∀ y0 y1 y2 y3 y4, LeO (toruslaw01_ModpMatches.j5 k y0 y1 y2 y3 y4) (toruslaw01_ModpMatches.j5 (k + 1) y0 y1 y2 y3 y4)) ∧ (∀ y0 y1 y2 y3, LeO (toruslaw01_ModpMatches.j6 k y0 y1 y2 y3) (toruslaw01_ModpMatches.j6 (k + 1) y0 y1 y2 y3)) ∧ (∀ y0 y1 y2 y3, LeO (toruslaw01_ModpMatches.j7 k y0 y1 y2 y3) (toruslaw01_ModpMatches.j7 (k + 1) y0 y1 y2 y3)) ∧ (∀ y0 y1 y2 y3, LeO (toruslaw01_ModpMatches.j8 k y0 y1 y2 y3) (toruslaw01_ModpMatches.j8 (k + 1) y0 y1 y2 y3)) ∧ (∀ y0 y1 y2, LeO (toruslaw01_ModpMatches.j9 k y0 y1 y2) (toruslaw01_ModpMatches.j9 (k + 1) y0 y1 y2))
  | 0 => ⟨fun _ _ _ _ _ r h => by simp [toruslaw01_ModpMatches.j0] at h, fun _ _ _ _ _ r h => by simp [toruslaw01_ModpMatches.j1] at h, fun _ _ _ _ _ r h => by simp [toruslaw01_ModpMatches.j2] at h, fun _ _ _ _ _ r h => by simp [toruslaw01_ModpMatches.j3] at h, fun _ _ _ _ _ r h => by simp [toruslaw01_ModpMatches.j4] at h, fun _ _ _ _ _ r h => by simp [toruslaw01_ModpMatches.j5] at h, fun _ _ _ _ r h => by simp [toruslaw01_ModpMatches.j6] at h, fun _ _ _ _ r h => by simp [toruslaw01_ModpMatches.j7] at h, fun _ _ _ _ r h => by simp [toruslaw01_ModpMatches.j8] at h, fun _ _ _ r h => by simp [toruslaw01_ModpMatches.j9] at h⟩
  | k + 1 => by
    obtain ⟨ih0, ih1, ih2, ih3, ih4, ih5, ih6, ih7, ih8, ih9⟩ := toruslaw01_ModpMatches.mono_l k
    refine ⟨?_, ?_, ?_, ?_, ?_, ?_, ?_, ?_, ?_, ?_⟩
    · intro y0 y1 y2 y3 y4
      unfold toruslaw01_ModpMatches.j0
      repeat' first
      | (with_reducible exact ih0 _ _ _ _ _)
      | (with_reducible exact ih1 _ _ _ _ _)
      | (with_reducible exact ih2 _ _ _ _ _)
      | (with_reducible exact ih3 _ _ _ _ _)
      | (with_reducible exact ih4 _ _ _ _ _)
      | (with_reducible exact ih5 _ _ _ _ _)
      | (with_reducible exact ih6 _ _ _ _)
      | (with_reducible exact ih7 _ _ _ _)
      | (with_reducible exact ih8 _ _ _ _)
      | (with_reducible exact ih9 _ _ _)
      | (with_reducible exact modp_Add.mono _ _ _ _)
      | (with_reducible exact modp_Div.mono _ _ _ _)
      | (with_reducible exact modp_Generator.mono _ _)
      | (with_reducible exact modp_Inv.mono _ _ _)
      | (with_reducible exact modp_Log.mono _ _ _ _)
      | (with_reducible exact modp_Mod.mono _ _ _)
      | (with_reducible exact modp_Mul.mono _ _ _ _)
      | (with_reducible exact modp_Order.mono _ _ _)
      | (with_reducible exact modp_Pow.mono _ _ _ _)
      | (with_reducible exact modp_Prime.mono _ _)
      | (with_reducible exact modp_Root.mono _ _ _)
      | (with_reducible exact modp_Sub.mono _ _ _ _)
      | (with_reducible exact toruslaw01_awake.mono _)
      | (with_reducible exact torusref01_Add.mono _ _ _ _)
      | (with_reducible exact torusref01_Div.mono _ _ _ _)
      | (with_reducible exact torusref01_Generator.mono _ _)
      | (with_reducible exact torusref01_Inv.mono _ _ _)
      | (with_reducible exact torusref01_Log.mono _ _ _ _)
      | (with_reducible exact torusref01_Mod.mono _ _ _)
      | (with_reducible exact torusref01_Mul.mono _ _ _ _)
      | (with_reducible exact torusref01_Order.mono _ _ _)
      | (with_reducible exact torusref01_Pow.mono _ _ _ _)
      | (with_reducible exact torusref01_Prime.mono _ _)
      | (with_reducible exact torusref01_Root.mono _ _ _)
      | (with_reducible exact torusref01_Sub.mono _ _ _ _)
      | (with_reducible exact LeO.refl _)
      | (with_reducible exact LeO.none _)
      | (with_reducible refine LeO.ite ?_ ?_)
      | (with_reducible refine LeO.bind ?_ (fun _ => ?_))
      | exact ih0 _ _ _ _ _
      | exact ih1 _ _ _ _ _
      | exact ih2 _ _ _ _ _
      | exact ih3 _ _ _ _ _
      | exact ih4 _ _ _ _ _
      | exact ih5 _ _ _ _ _
      | exact ih6 _ _ _ _
      | exact ih7 _ _ _ _
      | exact ih8 _ _ _ _
      | exact ih9 _ _ _
      | exact modp_Add.mono _ _ _ _
      | exact modp_Div.mono _ _ _ _
      | exact modp_Generator.mono _ _
      | exact modp_Inv.mono _ _ _
      | exact modp_Log.mono _ _ _ _
      | exact modp_Mod.mono _ _ _
      | exact modp_Mul.mono _ _ _ _
      | exact modp_Order.mono _ _ _
      | exact modp_Pow.mono _ _ _ _
      | exact modp_Prime.mono _ _
      | exact modp_Root.mono _ _ _
      | exact modp_Sub.mono _ _ _ _
      | exact toruslaw01_awake.mono _
      | exact torusref01_Add.mono _ _ _ _
      | exact torusref01_Div.mono _ _ _ _
      | exact torusref01_Generator.mono _ _
      | exact torusref01_Inv.mono _ _ _
      | exact torusref01_Log.mono _ _ _ _
      | exact torusref01_Mod.mono _ _ _
      | exact torusref01_Mul.mono _ _ _ _
      | exact torusref01_Order.mono _ _ _
      | exact torusref01_Pow.mono _ _ _ _
      | exact torusref01_Prime.mono _ _
      | exact torusref01_Root.mono _ _ _
      | exact torusref01_Sub.mono _ _ _ _
      | exact LeO.none _
      | refine LeO.ite ?_ ?_
      | refine LeO.bind ?_ (fun _ => ?_)
    · intro y0 y1 y2 y3 y4
      unfold toruslaw01_ModpMatches.j1
      repeat' first
      | (with_reducible exact ih0 _ _ _ _ _)
      | (with_reducible exact ih1 _ _ _ _ _)
      | (with_reducible exact ih2 _ _ _ _ _)
      | (with_reducible exact ih3 _ _ _ _ _)
      | (with_reducible exact ih4 _ _ _ _ _)
      | (with_reducible exact ih5 _ _ _ _ _)
      | (with_reducible exact ih6 _ _ _ _)
      | (with_reducible exact ih7 _ _ _ _)
      | (with_reducible exact ih8 _ _ _ _)
      | (with_reducible exact ih9 _ _ _)
      | (with_reducible exact modp_Add.mono _ _ _ _)
      | (with_reducible exact modp_Div.mono _ _ _ _)
      | (with_reducible exact modp_Generator.mono _ _)
      | (with_reducible exact modp_Inv.mono _ _ _)
      | (with_reducible exact modp_Log.mono _ _ _ _)
      | (with_reducible exact modp_Mod.mono _ _ _)
      | (with_reducible exact modp_Mul.mono _ _ _ _)
      | (with_reducible exact modp_Order.mono _ _ _)
      | (with_reducible exact modp_Pow.mono _ _ _ _)
      | (with_reducible exact modp_Prime.mono _ _)
      | (with_reducible exact modp_Root.mono _ _ _)
      | (with_reducible exact modp_Sub.mono _ _ _ _)
      | (with_reducible exact toruslaw01_awake.mono _)
      | (with_reducible exact torusref01_Add.mono _ _ _ _)
      | (with_reducible exact torusref01_Div.mono _ _ _ _)
      | (with_reducible exact torusref01_Generator.mono _ _)
      | (with_reducible exact torusref01_Inv.mono _ _ _)
      | (with_reducible exact torusref01_Log.mono _ _ _ _)
      | (with_reducible exact torusref01_Mod.mono _ _ _)
      | (with_reducible exact torusref01_Mul.mono _ _ _ _)
      | (with_reducible exact torusref01_Order.mono _ _ _)
      | (with_reducible exact torusref01_Pow.mono _ _ _ _)
      | (with_reducible exact torusref01_Prime.mono _ _)
      | (with_reducible exact torusref01_Root.mono _ _ _)
      | (with_reducible exact torusref01_Sub.mono _ _ _ _)
      | (with_reducible exact LeO.refl _)
      | (with_reducible exact LeO.none _)
      | (with_reducible refine LeO.ite ?_ ?_)
      | (with_reducible refine LeO.bind ?_ (fun _ => ?_))
      | exact ih0 _ _ _ _ _
      | exact ih1 _ _ _ _ _
      | exact ih2 _ _ _ _ _
      | exact ih3 _ _ _ _ _
      | exact ih4 _ _ _ _ _
      | exact ih5 _ _ _ _ _
      | exact ih6 _ _ _ _
      | exact ih7 _ _ _ _
      | exact ih8 _ _ _ _
      | exact ih9 _ _ _
      | exact modp_Add.mono _ _ _ _
      | exact modp_Div.mono _ _ _ _
      | exact modp_Generator.mono _ _
      | exact modp_Inv.mono _ _ _
      | exact modp_Log.mono _ _ _ _
      | exact modp_Mod.mono _ _ _
      | exact modp_Mul.mono _ _ _ _
      | exact modp_Order.mono _ _ _
      | exact modp_Pow.mono _ _ _ _
      | exact modp_Prime.mono _ _
      | exact modp_Root.mono _ _ _
      | exact modp_Sub.mono _ _ _ _
      | exact toruslaw01_awake.mono _
      | exact torusref01_Add.mono _ _ _ _
      | exact torusref01_Div.mono _ _ _ _
      | exact torusref01_Generator.mono _ _
      | exact torusref01_Inv.mono _ _ _
      | exact torusref01_Log.mono _ _ _ _
      | exact torusref01_Mod.mono _ _ _
      | exact torusref01_Mul.mono _ _ _ _
      | exact torusref01_Order.mono _ _ _
      | exact torusref01_Pow.mono _ _ _ _
      | exact torusref01_Prime.mono _ _
      | exact torusref01_Root.mono _ _ _
      | exact torusref01_Sub.mono _ _ _ _
      | exact LeO.none _
      | refine LeO.ite ?_ ?_
      | refine LeO.bind ?_ (fun _ => ?_)
    · intro y0 y1 y2 y3 y4
      unfold toruslaw01_ModpMatches.j2
      repeat' first
      | (with_reducible exact ih0 _ _ _ _ _)
      | (with_reducible exact ih1 _ _ _ _ _)
      | (with_reducible exact ih2 _ _ _ _ _)
      | (with_reducible exact ih3 _ _ _ _ _)
      | (with_reducible exact ih4 _ _ _ _ _)
      | (with_reducible exact ih5 _ _ _ _ _)
      | (with_reducible exact ih6 _ _ _ _)
      | (with_reducible exact ih7 _ _ _ _)
      | (with_reducible exact ih8 _ _ _ _)
      | (with_reducible exact ih9 _ _ _)
      | (with_reducible exact modp_Add.mono _ _ _ _)
      | (with_reducible exact modp_Div.mono _ _ _ _)
      | (with_reducible exact modp_Generator.mono _ _)
      | (with_reducible exact modp_Inv.mono _ _ _)
      | (with_reducible exact modp_Log.mono _ _ _ _)
      | (with_reducible exact modp_Mod.mono _ _ _)
      | (with_reducible exact modp_Mul.mono _ _ _ _)
      | (with_reducible exact modp_Order.mono _ _ _)
      | (with_reducible exact modp_Pow.mono _ _ _ _)
      | (with_reducible exact modp_Prime.mono _ _)
      | (with_reducible exact modp_Root.mono _ _ _)
      | (with_reducible exact modp_Sub.mono _ _ _ _)
      | (with_reducible exact toruslaw01_awake.mono _)
      | (with_reducible exact torusref01_Add.mono _ _ _ _)
      | (with_reducible exact torusref01_Div.mono _ _ _ _)
      | (with_reducible exact torusref01_Generator.mono _ _)
      | (with_reducible exact torusref01_Inv.mono _ _ _)
      | (with_reducible exact torusref01_Log.mono _ _ _ _)
      | (with_reducible exact torusref01_Mod.mono _ _ _)
      | (with_reducible exact torusref01_Mul.mono _ _ _ _)
      | (with_reducible exact torusref01_Order.mono _ _ _)
      | (with_reducible exact torusref01_Pow.mono _ _ _ _)
      | (with_reducible exact torusref01_Prime.mono _ _)
      | (with_reducible exact torusref01_Root.mono _ _ _)
      | (with_reducible exact torusref01_Sub.mono _ _ _ _)
      | (with_reducible exact LeO.refl _)
      | (with_reducible exact LeO.none _)
      | (with_reducible refine LeO.ite ?_ ?_)
      | (with_reducible refine LeO.bind ?_ (fun _ => ?_))
      | exact ih0 _ _ _ _ _
      | exact ih1 _ _ _ _ _
      | exact ih2 _ _ _ _ _
      | exact ih3 _ _ _ _ _
      | exact ih4 _ _ _ _ _
      | exact ih5 _ _ _ _ _
      | exact ih6 _ _ _ _
      | exact ih7 _ _ _ _
      | exact ih8 _ _ _ _
      | exact ih9 _ _ _
      | exact modp_Add.mono _ _ _ _
      | exact modp_Div.mono _ _ _ _
      | exact modp_Generator.mono _ _
      | exact modp_Inv.mono _ _ _
      | exact modp_Log.mono _ _ _ _
      | exact modp_Mod.mono _ _ _
      | exact modp_Mul.mono _ _ _ _
      | exact modp_Order.mono _ _ _
      | exact modp_Pow.mono _ _ _ _
      | exact modp_Prime.mono _ _
      | exact modp_Root.mono _ _ _
      | exact modp_Sub.mono _ _ _ _
      | exact toruslaw01_awake.mono _
      | exact torusref01_Add.mono _ _ _ _
      | exact torusref01_Div.mono _ _ _ _
      | exact torusref01_Generator.mono _ _
      | exact torusref01_Inv.mono _ _ _
      | exact torusref01_Log.mono _ _ _ _
      | exact torusref01_Mod.mono _ _ _
      | exact torusref01_Mul.mono _ _ _ _
      | exact torusref01_Order.mono _ _ _
      | exact torusref01_Pow.mono _ _ _ _
      | exact torusref01_Prime.mono _ _
      | exact torusref01_Root.mono _ _ _
      | exact torusref01_Sub.mono _ _ _ _
      | exact LeO.none _
      | refine LeO.ite ?_ ?_
      | refine LeO.bind ?_ (fun _ => ?_)
    · intro y0 y1 y2 y3 y4
      unfold toruslaw01_ModpMatches.j3
      repeat' first
      | (with_reducible exact ih0 _ _ _ _ _)
      | (with_reducible exact ih1 _ _ _ _ _)
      | (with_reducible exact ih2 _ _ _ _ _)
      | (with_reducible exact ih3 _ _ _ _ _)
      | (with_reducible exact ih4 _ _ _ _ _)
      | (with_reducible exact ih5 _ _ _ _ _)
      | (with_reducible exact ih6 _ _ _ _)
      | (with_reducible exact ih7 _ _ _ _)
      | (with_reducible exact ih8 _ _ _ _)
      | (with_reducible exact ih9 _ _ _)
      | (with_reducible exact modp_Add.mono _ _ _ _)
      | (with_reducible exact modp_Div.mono _ _ _ _)
      | (with_reducible exact modp_Generator.mono _ _)
      | (with_reducible exact modp_Inv.mono _ _ _)
      | (with_reducible exact modp_Log.mono _ _ _ _)
      | (with_reducible exact modp_Mod.mono _ _ _)
      | (with_reducible exact modp_Mul.mono _ _ _ _)
      | (with_reducible exact modp_Order.mono _ _ _)
      | (with_reducible exact modp_Pow.mono _ _ _ _)
      | (with_reducible exact modp_Prime.mono _ _)
      | (with_reducible exact modp_Root.mono _ _ _)
      | (with_reducible exact modp_Sub.mono _ _ _ _)
      | (with_reducible exact toruslaw01_awake.mono _)
      | (with_reducible exact torusref01_Add.mono _ _ _ _)
      | (with_reducible exact torusref01_Div.mono _ _ _ _)
      | (with_reducible exact torusref01_Generator.mono _ _)
      | (with_reducible exact torusref01_Inv.mono _ _ _)
      | (with_reducible exact torusref01_Log.mono _ _ _ _)
      | (with_reducible exact torusref01_Mod.mono _ _ _)
      | (with_reducible exact torusref01_Mul.mono _ _ _ _)
      | (with_reducible exact torusref01_Order.mono _ _ _)
      | (with_reducible exact torusref01_Pow.mono _ _ _ _)
      | (with_reducible exact torusref01_Prime.mono _ _)
      | (with_reducible exact torusref01_Root.mono _ _ _)
      | (with_reducible exact torusref01_Sub.mono _ _ _ _)
      | (with_reducible exact LeO.refl _)
      | (with_reducible exact LeO.none _)
      | (with_reducible refine LeO.ite ?_ ?_)
      | (with_reducible refine LeO.bind ?_ (fun _ => ?_))
      | exact ih0 _ _ _ _ _
      | exact ih1 _ _ _ _ _
      | exact ih2 _ _ _ _ _
      | exact ih3 _ _ _ _ _
      | exact ih4 _ _ _ _ _
      | exact ih5 _ _ _ _ _
      | exact ih6 _ _ _ _
      | exact ih7 _ _ _ _
      | exact ih8 _ _ _ _
      | exact ih9 _ _ _
      | exact modp_Add.mono _ _ _ _
      | exact modp_Div.mono _ _ _ _
      | exact modp_Generator.mono _ _
      | exact modp_Inv.mono _ _ _
      | exact modp_Log.mono _ _ _ _
      | exact modp_Mod.mono _ _ _
      | exact modp_Mul.mono _ _ _ _
      | exact modp_Order.mono _ _ _
      | exact modp_Pow.mono _ _ _ _
      | exact modp_Prime.mono _ _
      | exact modp_Root.mono _ _ _
      | exact modp_Sub.mono _ _ _ _
      | exact toruslaw01_awake.mono _
      | exact torusref01_Add.mono _ _ _ _
      | exact torusref01_Div.mono _ _ _ _
      | exact torusref01_Generator.mono _ _
      | exact torusref01_Inv.mono _ _ _
      | exact torusref01_Log.mono _ _ _ _
      | exact torusref01_Mod.mono _ _ _
      | exact torusref01_Mul.mono _ _ _ _
      | exact torusref01_Order.mono _ _ _
      | exact torusref01_Pow.mono _ _ _ _
      | exact torusref01_Prime.mono _ _
      | exact torusref01_Root.mono _ _ _
      | exact torusref01_Sub.mono _ _ _ _
      | exact LeO.none _
      | refine LeO.ite ?_ ?_
      | refine LeO.bind ?_ (fun _ => ?_)
    · intro y0 y1 y2 y3 y4
      unfold toruslaw01_ModpMatches.j4
      repeat' first
      | (with_reducible exact ih0 _ _ _ _ _)
      | (with_reducible exact ih1 _ _ _ _ _)
      | (with_reducible exact ih2 _ _ _ _ _)
      | (with_reducible exact ih3 _ _ _ _ _)
      | (with_reducible exact ih4 _ _ _ _ _)
      | (with_reducible exact ih5 _ _ _ _ _)
      | (with_reducible exact ih6 _ _ _ _)
      | (with_reducible exact ih7 _ _ _ _)
      | (with_reducible exact ih8 _ _ _ _)
      | (with_reducible exact ih9 _ _ _)
      | (with_reducible exact modp_Add.mono _ _ _ _)
      | (with_reducible exact modp_Div.mono _ _ _ _)
      | (with_reducible exact modp_Generator.mono _ _)
      | (with_reducible exact modp_Inv.mono _ _ _)
      | (with_reducible exact modp_Log.mono _ _ _ _)
      | (with_reducible exact modp_Mod.mono _ _ _)
      | (with_reducible exact modp_Mul.mono _ _ _ _)
      | (with_reducible exact modp_Order.mono _ _ _)
      | (with_reducible exact modp_Pow.mono _ _ _ _)
      | (with_reducible exact modp_Prime.mono _ _)
      | (with_reducible exact modp_Root.mono _ _ _)
      | (with_reducible exact modp_Sub.mono _ _ _ _)
      | (with_reducible exact toruslaw01_awake.mono _)
      | (with_reducible exact torusref01_Add.mono _ _ _ _)
      | (with_reducible exact torusref01_Div.mono _ _ _ _)
      | (with_reducible exact torusref01_Generator.mono _ _)
      | (with_reducible exact torusref01_Inv.mono _ _ _)
      | (with_reducible exact torusref01_Log.mono _ _ _ _)
      | (with_reducible exact torusref01_Mod.mono _ _ _)
      | (with_reducible exact torusref01_Mul.mono _ _ _ _)
      | (with_reducible exact torusref01_Order.mono _ _ _)
      | (with_reducible exact torusref01_Pow.mono _ _ _ _)
      | (with_reducible exact torusref01_Prime.mono _ _)
      | (with_reducible exact torusref01_Root.mono _ _ _)
      | (with_reducible exact torusref01_Sub.mono _ _ _ _)
      | (with_reducible exact LeO.refl _)
      | (with_reducible exact LeO.none _)
      | (with_reducible refine LeO.ite ?_ ?_)
      | (with_reducible refine LeO.bind ?_ (fun _ => ?_))
      | exact ih0 _ _ _ _ _
      | exact ih1 _ _ _ _ _
      | exact ih2 _ _ _ _ _
      | exact ih3 _ _ _ _ _
      | exact ih4 _ _ _ _ _
      | exact ih5 _ _ _ _ _
      | exact ih6 _ _ _ _
      | exact ih7 _ _ _ _
      | exact ih8 _ _ _ _
      | exact ih9 _ _ _
      | exact modp_Add.mono _ _ _ _
      | exact modp_Div.mono _ _ _ _
      | exact modp_Generator.mono _ _
      | exact modp_Inv.mono _ _ _
      | exact modp_Log.mono _ _ _ _
      | exact modp_Mod.mono _ _ _
      | exact modp_Mul.mono _ _ _ _
      | exact modp_Order.mono _ _ _
      | exact modp_Pow.mono _ _ _ _
      | exact modp_Prime.mono _ _
      | exact modp_Root.mono _ _ _
      | exact modp_Sub.mono _ _ _ _
      | exact toruslaw01_awake.mono _
      | exact torusref01_Add.mono _ _ _ _
      | exact torusref01_Div.mono _ _ _ _
      | exact torusref01_Generator.mono _ _
      | exact torusref01_Inv.mono _ _ _
      | exact torusref01_Log.mono _ _ _ _
      | exact torusref01_Mod.mono _ _ _
      | exact torusref01_Mul.mono _ _ _ _
      | exact torusref01_Order.mono _ _ _
      | exact torusref01_Pow.mono _ _ _ _
      | exact torusref01_Prime.mono _ _
      | exact torusref01_Root.mono _ _ _
      | exact torusref01_Sub.mono _ _ _ _
      | exact LeO.none _
      | refine LeO.ite ?_ ?_
      | refine LeO.bind ?_ (fun _ => ?_)
    · intro y0 y1 y2 y3 y4
      unfold toruslaw01_ModpMatches.j5
      repeat' first
      | (with_reducible exact ih0 _ _ _ _ _)
      | (with_reducible exact ih1 _ _ _ _ _)
      | (with_reducible exact ih2 _ _ _ _ _)
      | (with_reducible exact ih3 _ _ _ _ _)
      | (with_reducible exact ih4 _ _ _ _ _)
      | (with_reducible exact ih5 _ _ _ _ _)
      | (with_reducible exact ih6 _ _ _ _)
      | (with_reducible exact ih7 _ _ _ _)
      | (with_reducible exact ih8 _ _ _ _)
      | (with_reducible exact ih9 _ _ _)
      | (with_reducible exact modp_Add.mono _ _ _ _)
      | (with_reducible exact modp_Div.mono _ _ _ _)
      | (with_reducible exact modp_Generator.mono _ _)
      | (with_reducible exact modp_Inv.mono _ _ _)
      | (with_reducible exact modp_Log.mono _ _ _ _)
      | (with_reducible exact modp_Mod.mono _ _ _)
      | (with_reducible exact modp_Mul.mono _ _ _ _)
      | (with_reducible exact modp_Order.mono _ _ _)
      | (with_reducible exact modp_Pow.mono _ _ _ _)
      | (with_reducible exact modp_Prime.mono _ _)
      | (with_reducible exact modp_Root.mono _ _ _)
      | (with_reducible exact modp_Sub.mono _ _ _ _)
      | (with_reducible exact toruslaw01_awake.mono _)
      | (with_reducible exact torusref01_Add.mono _ _ _ _)
      | (with_reducible exact torusref01_Div.mono _ _ _ _)
      | (with_reducible exact torusref01_Generator.mono _ _)
      | (with_reducible exact torusref01_Inv.mono _ _ _)
      | (with_reducible exact torusref01_Log.mono _ _ _ _)
      | (with_reducible exact torusref01_Mod.mono _ _ _)
      | (with_reducible exact torusref01_Mul.mono _ _ _ _)
      | (with_reducible exact torusref01_Order.mono _ _ _)
      | (with_reducible exact torusref01_Pow.mono _ _ _ _)
      | (with_reducible exact torusref01_Prime.mono _ _)
      | (with_reducible exact torusref01_Root.mono _ _ _)
      | (with_reducible exact torusref01_Sub.mono _ _ _ _)
      | (with_reducible exact LeO.refl _)
      | (with_reducible exact LeO.none _)
      | (with_reducible refine LeO.ite ?_ ?_)
      | (with_reducible refine LeO.bind ?_ (fun _ => ?_))
      | exact ih0 _ _ _ _ _
      | exact ih1 _ _ _ _ _
      | exact ih2 _ _ _ _ _
      | exact ih3 _ _ _ _ _
      | exact ih4 _ _ _ _ _
      | exact ih5 _ _ _ _ _
      | exact ih6 _ _ _ _
      | exact ih7 _ _ _ _
      | exact ih8 _ _ _ _
      | exact ih9 _ _ _
      | exact modp_Add.mono _ _ _ _
      | exact modp_Div.mono _ _ _ _
      | exact modp_Generator.mono _ _
      | exact modp_Inv.mono _ _ _
      | exact modp_Log.mono _ _ _ _
      | exact modp_Mod.mono _ _ _
      | exact modp_Mul.mono _ _ _ _
      | exact modp_Order.mono _ _ _
      | exact modp_Pow.mono _ _ _ _
      | exact modp_Prime.mono _ _
      | exact modp_Root.mono _ _ _
      | exact modp_Sub.mono _ _ _ _
      | exact toruslaw01_awake.mono _
      | exact torusref01_Add.mono _ _ _ _
      | exact torusref01_Div.mono _ _ _ _
      | exact torusref01_Generator.mono _ _
      | exact torusref01_Inv.mono _ _ _
      | exact torusref01_Log.mono _ _ _ _
      | exact torusref01_Mod.mono _ _ _
      | exact torusref01_Mul.mono _ _ _ _
      | exact torusref01_Order.mono _ _ _
      | exact torusref01_Pow.mono _ _ _ _
      | exact torusref01_Prime.mono _ _
      | exact torusref01_Root.mono _ _ _
      | exact torusref01_Sub.mono _ _ _ _
      | exact LeO.none _
      | refine LeO.ite ?_ ?_
      | refine LeO.bind ?_ (fun _ => ?_)
    · intro y0 y1 y2 y3
      unfold toruslaw01_ModpMatches.j6
      repeat' first
      | (with_reducible exact ih0 _ _ _ _ _)
      | (with_reducible exact ih1 _ _ _ _ _)
      | (with_reducible exact ih2 _ _ _ _ _)
      | (with_reducible exact ih3 _ _ _ _ _)
      | (with_reducible exact ih4 _ _ _ _ _)
      | (with_reducible exact ih5 _ _ _ _ _)
      | (with_reducible exact ih6 _ _ _ _)
      | (with_reducible exact ih7 _ _ _ _)
      | (with_reducible exact ih8 _ _ _ _)
      | (with_reducible exact ih9 _ _ _)
      | (with_reducible exact modp_Add.mono _ _ _ _)
      | (with_reducible exact modp_Div.mono _ _ _ _)
      | (with_reducible exact modp_Generator.mono _ _)
      | (with_reducible exact modp_Inv.mono _ _ _)
      | (with_reducible exact modp_Log.mono _ _ _ _)
      | (with_reducible exact modp_Mod.mono _ _ _)
      | (with_reducible exact modp_Mul.mono _ _ _ _)
      | (with_reducible exact modp_Order.mono _ _ _)
      | (with_reducible exact modp_Pow.mono _ _ _ _)
      | (with_reducible exact modp_Prime.mono _ _)
      | (with_reducible exact modp_Root.mono _ _ _)
      | (with_reducible exact modp_Sub.mono _ _ _ _)
      | (with_reducible exact toruslaw01_awake.mono _)
      | (with_reducible exact torusref01_Add.mono _ _ _ _)
      | (with_reducible exact torusref01_Div.mono _ _ _ _)
      | (with_reducible exact torusref01_Generator.mono _ _)
      | (with_reducible exact torusref01_Inv.mono _ _ _)
      | (with_reducible exact torusref01_Log.mono _ _ _ _)
      | (with_reducible exact torusref01_Mod.mono _ _ _)
      | (with_reducible exact torusref01_Mul.mono _ _ _ _)
      | (with_reducible exact torusref01_Order.mono _ _ _)
      | (with_reducible exact torusref01_Pow.mono _ _ _ _)
      | (with_reducible exact torusref01_Prime.mono _ _)
      | (with_reducible exact torusref01_Root.mono _ _ _)
      | (with_reducible exact torusref01_Sub.mono _ _ _ _)
      | (with_reducible exact LeO.refl _)
      | (with_reducible exact LeO.none _)
      | (with_reducible refine LeO.ite ?_ ?_)
      | (with_reducible refine LeO.bind ?_ (fun _ => ?_))
      | exact ih0 _ _ _ _ _
      | exact ih1 _ _ _ _ _
      | exact ih2 _ _ _ _ _
      | exact ih3 _ _ _ _ _
      | exact ih4 _ _ _ _ _
      | exact ih5 _ _ _ _ _
      | exact ih6 _ _ _ _
      | exact ih7 _ _ _ _
      | exact ih8 _ _ _ _
      | exact ih9 _ _ _
      | exact modp_Add.mono _ _ _ _
      | exact modp_Div.mono _ _ _ _
      | exact modp_Generator.mono _ _
      | exact modp_Inv.mono _ _ _
      | exact modp_Log.mono _ _ _ _
      | exact modp_Mod.mono _ _ _
      | exact modp_Mul.mono _ _ _ _
      | exact modp_Order.mono _ _ _
      | exact modp_Pow.mono _ _ _ _
      | exact modp_Prime.mono _ _
      | exact modp_Root.mono _ _ _
      | exact modp_Sub.mono _ _ _ _
      | exact toruslaw01_awake.mono _
      | exact torusref01_Add.mono _ _ _ _
      | exact torusref01_Div.mono _ _ _ _
      | exact torusref01_Generator.mono _ _
      | exact torusref01_Inv.mono _ _ _
      | exact torusref01_Log.mono _ _ _ _
      | exact torusref01_Mod.mono _ _ _
      | exact torusref01_Mul.mono _ _ _ _
      | exact torusref01_Order.mono _ _ _
      | exact torusref01_Pow.mono _ _ _ _
      | exact torusref01_Prime.mono _ _
      | exact torusref01_Root.mono _ _ _
      | exact torusref01_Sub.mono _ _ _ _
      | exact LeO.none _
      | refine LeO.ite ?_ ?_
      | refine LeO.bind ?_ (fun _ => ?_)
    · intro y0 y1 y2 y3
      unfold toruslaw01_ModpMatches.j7
      repeat' first
      | (with_reducible exact ih0 _ _ _ _ _)
      | (with_reducible exact ih1 _ _ _ _ _)
      | (with_reducible exact ih2 _ _ _ _ _)
      | (with_reducible exact ih3 _ _ _ _ _)
      | (with_reducible exact ih4 _ _ _ _ _)
      | (with_reducible exact ih5 _ _ _ _ _)
      | (with_reducible exact ih6 _ _ _ _)
      | (with_reducible exact ih7 _ _ _ _)
      | (with_reducible exact ih8 _ _ _ _)
      | (with_reducible exact ih9 _ _ _)
      | (with_reducible exact modp_Add.mono _ _ _ _)
      | (with_reducible exact modp_Div.mono _ _ _ _)
      | (with_reducible exact modp_Generator.mono _ _)
      | (with_reducible exact modp_Inv.mono _ _ _)
      | (with_reducible exact modp_Log.mono _ _ _ _)
      | (with_reducible exact modp_Mod.mono _ _ _)
      | (with_reducible exact modp_Mul.mono _ _ _ _)
      | (with_reducible exact modp_Order.mono _ _ _)
      | (with_reducible exact modp_Pow.mono _ _ _ _)
      | (with_reducible exact modp_Prime.mono _ _)
      | (with_reducible exact modp_Root.mono _ _ _)
      | (with_reducible exact modp_Sub.mono _ _ _ _)
      | (with_reducible exact toruslaw01_awake.mono _)
      | (with_reducible exact torusref01_Add.mono _ _ _ _)
      | (with_reducible exact torusref01_Div.mono _ _ _ _)
      | (with_reducible exact torusref01_Generator.mono _ _)
      | (with_reducible exact torusref01_Inv.mono _ _ _)
      | (with_reducible exact torusref01_Log.mono _ _ _ _)
      | (with_reducible exact torusref01_Mod.mono _ _ _)
      | (with_reducible exact torusref01_Mul.mono _ _ _ _)
      | (with_reducible exact torusref01_Order.mono _ _ _)
      | (with_reducible exact torusref01_Pow.mono _ _ _ _)
      | (with_reducible exact torusref01_Prime.mono _ _)
      | (with_reducible exact torusref01_Root.mono _ _ _)
      | (with_reducible exact torusref01_Sub.mono _ _ _ _)
      | (with_reducible exact LeO.refl _)
      | (with_reducible exact LeO.none _)
      | (with_reducible refine LeO.ite ?_ ?_)
      | (with_reducible refine LeO.bind ?_ (fun _ => ?_))
      | exact ih0 _ _ _ _ _
      | exact ih1 _ _ _ _ _
      | exact ih2 _ _ _ _ _
      | exact ih3 _ _ _ _ _
      | exact ih4 _ _ _ _ _
      | exact ih5 _ _ _ _ _
      | exact ih6 _ _ _ _
      | exact ih7 _ _ _ _
      | exact ih8 _ _ _ _
      | exact ih9 _ _ _
      | exact modp_Add.mono _ _ _ _
      | exact modp_Div.mono _ _ _ _
      | exact modp_Generator.mono _ _
      | exact modp_Inv.mono _ _ _
      | exact modp_Log.mono _ _ _ _
      | exact modp_Mod.mono _ _ _
      | exact modp_Mul.mono _ _ _ _
      | exact modp_Order.mono _ _ _
      | exact modp_Pow.mono _ _ _ _
      | exact modp_Prime.mono _ _
      | exact modp_Root.mono _ _ _
      | exact modp_Sub.mono _ _ _ _
      | exact toruslaw01_awake.mono _
      | exact torusref01_Add.mono _ _ _ _
      | exact torusref01_Div.mono _ _ _ _
      | exact torusref01_Generator.mono _ _
      | exact torusref01_Inv.mono _ _ _
      | exact torusref01_Log.mono _ _ _ _
      | exact torusref01_Mod.mono _ _ _
      | exact torusref01_Mul.mono _ _ _ _
      | exact torusref01_Order.mono _ _ _
      | exact torusref01_Pow.mono _ _ _ _
      | exact torusref01_Prime.mono _ _
      | exact torusref01_Root.mono _ _ _
      | exact torusref01_Sub.mono _ _ _ _
      | exact LeO.none _
      | refine LeO.ite ?_ ?_
      | refine LeO.bind ?_ (fun _ => ?_)
    · intro y0 y1 y2 y3
      unfold toruslaw01_ModpMatches.j8
      repeat' first
      | (with_reducible exact ih0 _ _ _ _ _)
      | (with_reducible exact ih1 _ _ _ _ _)
      | (with_reducible exact ih2 _ _ _ _ _)
      | (with_reducible exact ih3 _ _ _ _ _)
      | (with_reducible exact ih4 _ _ _ _ _)
      | (with_reducible exact ih5 _ _ _ _ _)
      | (with_reducible exact ih6 _ _ _ _)
      | (with_reducible exact ih7 _ _ _ _)
      | (with_reducible exact ih8 _ _ _ _)
      | (with_reducible exact ih9 _ _ _)
      | (with_reducible exact modp_Add.mono _ _ _ _)
      | (with_reducible exact modp_Div.mono _ _ _ _)
      | (with_reducible exact modp_Generator.mono _ _)
      | (with_reducible exact modp_Inv.mono _ _ _)
      | (with_reducible exact modp_Log.mono _ _ _ _)
      | (with_reducible exact modp_Mod.mono _ _ _)
      | (with_reducible exact modp_Mul.mono _ _ _ _)
      | (with_reducible exact modp_Order.mono _ _ _)
      | (with_reducible exact modp_Pow.mono _ _ _ _)
      | (with_reducible exact modp_Prime.mono _ _)
      | (with_reducible exact modp_Root.mono _ _ _)
      | (with_reducible exact modp_Sub.mono _ _ _ _)
      | (with_reducible exact toruslaw01_awake.mono _)
      | (with_reducible exact torusref01_Add.mono _ _ _ _)
      | (with_reducible exact torusref01_Div.mono _ _ _ _)
      | (with_reducible exact torusref01_Generator.mono _ _)
      | (with_reducible exact torusref01_Inv.mono _ _ _)
      | (with_reducible exact torusref01_Log.mono _ _ _ _)
      | (with_reducible exact torusref01_Mod.mono _ _ _)
      | (with_reducible exact torusref01_Mul.mono _ _ _ _)
      | (with_reducible exact torusref01_Order.mono _ _ _)
      | (with_reducible exact torusref01_Pow.mono _ _ _ _)
      | (with_reducible exact torusref01_Prime.mono _ _)
      | (with_reducible exact torusref01_Root.mono _ _ _)
      | (with_reducible exact torusref01_Sub.mono _ _ _ _)
      | (with_reducible exact LeO.refl _)
      | (with_reducible exact LeO.none _)
      | (with_reducible refine LeO.ite ?_ ?_)
      | (with_reducible refine LeO.bind ?_ (fun _ => ?_))
      | exact ih0 _ _ _ _ _
      | exact ih1 _ _ _ _ _
      | exact ih2 _ _ _ _ _
      | exact ih3 _ _ _ _ _
      | exact ih4 _ _ _ _ _
      | exact ih5 _ _ _ _ _
      | exact ih6 _ _ _ _
      | exact ih7 _ _ _ _
      | exact ih8 _ _ _ _
      | exact ih9 _ _ _
      | exact modp_Add.mono _ _ _ _
      | exact modp_Div.mono _ _ _ _
      | exact modp_Generator.mono _ _
      | exact modp_Inv.mono _ _ _
      | exact modp_Log.mono _ _ _ _
      | exact modp_Mod.mono _ _ _
      | exact modp_Mul.mono _ _ _ _
      | exact modp_Order.mono _ _ _
      | exact modp_Pow.mono _ _ _ _
      | exact modp_Prime.mono _ _
      | exact modp_Root.mono _ _ _
      | exact modp_Sub.mono _ _ _ _
      | exact toruslaw01_awake.mono _
      | exact torusref01_Add.mono _ _ _ _
      | exact torusref01_Div.mono _ _ _ _
      | exact torusref01_Generator.mono _ _
      | exact torusref01_Inv.mono _ _ _
      | exact torusref01_Log.mono _ _ _ _
      | exact torusref01_Mod.mono _ _ _
      | exact torusref01_Mul.mono _ _ _ _
      | exact torusref01_Order.mono _ _ _
      | exact torusref01_Pow.mono _ _ _ _
      | exact torusref01_Prime.mono _ _
      | exact torusref01_Root.mono _ _ _
      | exact torusref01_Sub.mono _ _ _ _
      | exact LeO.none _
      | refine LeO.ite ?_ ?_
      | refine LeO.bind ?_ (fun _ => ?_)
    · intro y0 y1 y2
      unfold toruslaw01_ModpMatches.j9
      repeat' first
      | (with_reducible exact ih0 _ _ _ _ _)
      | (with_reducible exact ih1 _ _ _ _ _)
      | (with_reducible exact ih2 _ _ _ _ _)
      | (with_reducible exact ih3 _ _ _ _ _)
      | (with_reducible exact ih4 _ _ _ _ _)
      | (with_reducible exact ih5 _ _ _ _ _)
      | (with_reducible exact ih6 _ _ _ _)
      | (with_reducible exact ih7 _ _ _ _)
      | (with_reducible exact ih8 _ _ _ _)
      | (with_reducible exact ih9 _ _ _)
      | (with_reducible exact modp_Add.mono _ _ _ _)
      | (with_reducible exact modp_Div.mono _ _ _ _)
      | (with_reducible exact modp_Generator.mono _ _)
      | (with_reducible exact modp_Inv.mono _ _ _)
      | (with_reducible exact modp_Log.mono _ _ _ _)
      | (with_reducible exact modp_Mod.mono _ _ _)
      | (with_reducible exact modp_Mul.mono _ _ _ _)
      | (with_reducible exact modp_Order.mono _ _ _)
      | (with_reducible exact modp_Pow.mono _ _ _ _)
      | (with_reducible exact modp_Prime.mono _ _)
      | (with_reducible exact modp_Root.mono _ _ _)
      | (with_reducible exact modp_Sub.mono _ _ _ _)
      | (with_reducible exact toruslaw01_awake.mono _)
      | (with_reducible exact torusref01_Add.mono _ _ _ _)
      | (with_reducible exact torusref01_Div.mono _ _ _ _)
      | (with_reducible exact torusref01_Generator.mono _ _)
      | (with_reducible exact torusref01_Inv.mono _ _ _)
      | (with_reducible exact torusref01_Log.mono _ _ _ _)
      | (with_reducible exact torusref01_Mod.mono _ _ _)
      | (with_reducible exact torusref01_Mul.mono _ _ _ _)
      | (with_reducible exact torusref01_Order.mono _ _ _)
      | (with_reducible exact torusref01_Pow.mono _ _ _ _)
      | (with_reducible exact torusref01_Prime.mono _ _)
      | (with_reducible exact torusref01_Root.mono _ _ _)
      | (with_reducible exact torusref01_Sub.mono _ _ _ _)
      | (with_reducible exact LeO.refl _)
      | (with_reducible exact LeO.none _)
      | (with_reducible refine LeO.ite ?_ ?_)
      | (with_reducible refine LeO.bind ?_ (fun _ => ?_))
      | exact ih0 _ _ _ _ _
      | exact ih1 _ _ _ _ _
      | exact ih2 _ _ _ _ _
      | exact ih3 _ _ _ _ _
      | exact ih4 _ _ _ _ _
      | exact ih5 _ _ _ _ _
      | exact ih6 _ _ _ _
      | exact ih7 _ _ _ _
      | exact ih8 _ _ _ _
      | exact ih9 _ _ _
      | exact modp_Add.mono _ _ _ _
      | exact modp_Div.mono _ _ _ _
      | exact modp_Generator.mono _ _
      | exact modp_Inv.mono _ _ _
      | exact modp_Log.mono _ _ _ _
      | exact modp_Mod.mono _ _ _
      | exact modp_Mul.mono _ _ _ _
      | exact modp_Order.mono _ _ _
      | exact modp_Pow.mono _ _ _ _
      | exact modp_Prime.mono _ _
      | exact modp_Root.mono _ _ _
      | exact modp_Sub.mono _ _ _ _
      | exact toruslaw01_awake.mono _
      | exact torusref01_Add.mono _ _ _ _
      | exact torusref01_Div.mono _ _ _ _
      | exact torusref01_Generator.mono _ _
      | exact torusref01_Inv.mono _ _ _
      | exact torusref01_Log.mono _ _ _ _
      | exact torusref01_Mod.mono _ _ _
      | exact torusref01_Mul.mono _ _ _ _
      | exact torusref01_Order.mono _ _ _
      | exact torusref01_Pow.mono _ _ _ _
      | exact torusref01_Prime.mono _ _
      | exact torusref01_Root.mono _ _ _
      | exact torusref01_Sub.mono _ _ _ _
      | exact LeO.none _
      | refine LeO.ite ?_ ?_
      | refine LeO.bind ?_ (fun _ => ?_)
theorem toruslaw01_ModpMatches.mono : ∀ a0 a1 a2 a3 k, LeO (toruslaw01_ModpMatches.f k a0 a1 a2 a3) (toruslaw01_ModpMatches.f (k + 1) a0 a1 a2 a3) := by
  intro a0 a1 a2 a3 k
  obtain ⟨ih0, ih1, ih2, ih3, ih4, ih5, ih6, ih7, ih8, ih9⟩ := toruslaw01_ModpMatches.mono_l k
  unfold toruslaw01_ModpMatches.f
  repeat' first
      | (with_reducible exact ih0 _ _ _ _ _)
      | (with_reducible exact ih1 _ _ _ _ _)
      | (with_reducible exact ih2 _ _ _ _ _)
      | (with_reducible exact ih3 _ _ _ _ _)
      | (with_reducible exact ih4 _ _ _ _ _)
      | (with_reducible exact ih5 _ _ _ _ _)
      | (with_reducible exact ih6 _ _ _ _)
      | (with_reducible exact ih7 _ _ _ _)
      | (with_reducible exact ih8 _ _ _ _)
      | (with_reducible exact ih9 _ _ _)
      | (with_reducible exact modp_Add.mono _ _ _ _)
      | (with_reducible exact modp_Div.mono _ _ _ _)
      | (with_reducible exact modp_Generator.mono _ _)
      | (with_reducible exact modp_Inv.mono _ _ _)
      | (with_reducible exact modp_Log.mono _ _ _ _)
      | (with_reducible exact modp_Mod.mono _ _ _)
      | (with_reducible exact modp_Mul.mono _ _ _ _)
      | (with_reducible exact modp_Order.mono _ _ _)
      | (with_reducible exact modp_Pow.mono _ _ _ _)
      | (with_reducible exact modp_Prime.mono _ _)
      | (with_reducible exact modp_Root.mono _ _ _)
      | (with_reducible exact modp_Sub.mono _ _ _ _)
      | (with_reducible exact toruslaw01_awake.mono _)
      | (with_reducible exact torusref01_Add.mono _ _ _ _)
      | (with_reducible exact torusref01_Div.mono _ _ _ _)
      | (with_reducible exact torusref01_Generator.mono _ _)
      | (with_reducible exact torusref01_Inv.mono _ _ _)
      | (with_reducible exact torusref01_Log.mono _ _ _ _)
      | (with_reducible exact torusref01_Mod.mono _ _ _)
      | (with_reducible exact torusref01_Mul.mono _ _ _ _)
      | (with_reducible exact torusref01_Order.mono _ _ _)
      | (with_reducible exact torusref01_Pow.mono _ _ _ _)
      | (with_reducible exact torusref01_Prime.mono _ _)
      | (with_reducible exact torusref01_Root.mono _ _ _)
      | (with_reducible exact torusref01_Sub.mono _ _ _ _)
      | (with_reducible exact LeO.refl _)
      | (with_reducible exact LeO.none _)
      | (with_reducible refine LeO.ite ?_ ?_)
      | (with_reducible refine LeO.bind ?_ (fun _ => ?_))
      | exact ih0 _ _ _ _ _
      | exact ih1 _ _ _ _ _
      | exact ih2 _ _ _ _ _
      | exact ih3 _ _ _ _ _
      | exact ih4 _ _ _ _ _
      | exact ih5 _ _ _ _ _
      | exact ih6 _ _ _ _
      | exact ih7 _ _ _ _
      | exact ih8 _ _ _ _
      | exact ih9 _ _ _
      | exact modp_Add.mono _ _ _ _
      | exact modp_Div.mono _ _ _ _
      | exact modp_Generator.mono _ _
      | exact modp_Inv.mono _ _ _
      | exact modp_Log.mono _ _ _ _
      | exact modp_Mod.mono _ _ _
      | exact modp_Mul.mono _ _ _ _
      | exact modp_Order.mono _ _ _
      | exact modp_Pow.mono _ _ _ _
      | exact modp_Prime.mono _ _
      | exact modp_Root.mono _ _ _
      | exact modp_Sub.mono _ _ _ _
      | exact toruslaw01_awake.mono _
      | exact torusref01_Add.mono _ _ _ _
      | exact torusref01_Div.mono _ _ _ _
      | exact torusref01_Generator.mono _ _
      | exact torusref01_Inv.mono _ _ _
      | exact torusref01_Log.mono _ _ _ _
      | exact torusref01_Mod.mono _ _ _
      | exact torusref01_Mul.mono _ _ _ _
      | exact torusref01_Order.mono _ _ _
      | exact torusref01_Pow.mono _ _ _ _
      | exact torusref01_Prime.mono _ _
      | exact torusref01_Root.mono _ _ _
      | exact torusref01_Sub.mono _ _ _ _
      | exact LeO.none _
      | refine LeO.ite ?_ ?_
      | refine LeO.bind ?_ (fun _ => ?_)
theorem toruslaw01_ModpMatches.j0_dead {P_ : Prop} {k_ : Nat} {y0_ : Int} {y1_ : Int} {y2_ : Int} {y3_ : Int} {r : Bool} (hrt : Aside0 (r = true)) (h : toruslaw01_ModpMatches.j0 k_ y0_ y1_ y2_ y3_ true = some r) : P_ := by
  have hrt := hrt.out
  cases k_ <;> simp [toruslaw01_ModpMatches.j0, hrt] at h
theorem toruslaw01_ModpMatches.j1_dead {P_ : Prop} {k_ : Nat} {y0_ : Int} {y1_ : Int} {y2_ : Int} {y3_ : Int} {r : Bool} (hrt : Aside0 (r = true)) (h : toruslaw01_ModpMatches.j1 k_ y0_ y1_ y2_ y3_ true = some r) : P_ := by
  have hrt := hrt.out
  cases k_ <;> simp [toruslaw01_ModpMatches.j1, hrt] at h
theorem toruslaw01_ModpMatches.j2_dead {P_ : Prop} {k_ : Nat} {y0_ : Int} {y1_ : Int} {y2_ : Int} {y3_ : Int} {r : Bool} (hrt : Aside0 (r = true)) (h : toruslaw01_ModpMatches.j2 k_ y0_ y1_ y2_ y3_ true = some r) : P_ := by
  have hrt := hrt.out
  cases k_ <;> simp [toruslaw01_ModpMatches.j2, hrt] at h
theorem toruslaw01_ModpMatches.j3_dead {P_ : Prop} {k_ : Nat} {y0_ : Int} {y1_ : Int} {y2_ : Int} {y3_ : Int} {r : Bool} (hrt : Aside0 (r = true)) (h : toruslaw01_ModpMatches.j3 k_ y0_ y1_ y2_ y3_ true = some r) : P_ := by
  have hrt := hrt.out
  cases k_ <;> simp [toruslaw01_ModpMatches.j3, hrt] at h
theorem toruslaw01_ModpMatches.j4_dead {P_ : Prop} {k_ : Nat} {y0_ : Int} {y1_ : Int} {y2_ : Int} {y3_ : Int} {r : Bool} (hrt : Aside0 (r = true)) (h : toruslaw01_ModpMatches.j4 k_ y0_ y1_ y2_ y3_ true = some r) : P_ := by
  have hrt := hrt.out
  cases k_ <;> simp [toruslaw01_ModpMatches.j4, hrt] at h
theorem toruslaw01_ModpMatches.j5_dead {P_ : Prop} {k_ : Nat} {y0_ : Int} {y1_ : Int} {y2_ : Int} {y3_ : Int} {r : Bool} (hrt : Aside0 (r = true)) (h : toruslaw01_ModpMatches.j5 k_ y0_ y1_ y2_ y3_ true = some r) : P_ := by
  have hrt := hrt.out
  cases k_ <;> simp [toruslaw01_ModpMatches.j5, hrt] at h
theorem toruslaw01_ModpMatches.j6_dead {P_ : Prop} {k_ : Nat} {y0_ : Int} {y1_ : Int} {y2_ : Int} {r : Bool} (hrt : Aside0 (r = true)) (h : toruslaw01_ModpMatches.j6 k_ y0_ y1_ y2_ true = some r) : P_ := by
  have hrt := hrt.out
  cases k_ <;> simp [toruslaw01_ModpMatches.j6, hrt] at h
theorem toruslaw01_ModpMatches.j7_dead {P_ : Prop} {k_ : Nat} {y0_ : Int} {y1_ : Int} {y2_ : Int} {r : Bool} (hrt : Aside0 (r = true)) (h : toruslaw01_ModpMatches.j7 k_ y0_ y1_ y2_ true = some r) : P_ := by
  have hrt := hrt.out
  cases k_ <;> simp [toruslaw01_ModpMatches.j7, hrt] at h
theorem toruslaw01_ModpMatches.j8_dead {P_ : Prop} {k_ : Nat} {y0_ : Int} {y1_ : Int} {y2_ : Int} {r : Bool} (hrt : Aside0 (r = true)) (h : toruslaw01_ModpMatches.j8 k_ y0_ y1_ y2_ true = some r) : P_ := by
  have hrt := hrt.out
  cases k_ <;> simp [toruslaw01_ModpMatches.j8, hrt] at h
theorem toruslaw01_ModpMatches.j9_dead {P_ : Prop} {k_ : Nat} {y0_ : Int} {y1_ : Int} {r : Bool} (hrt : Aside0 (r = true)) (h : toruslaw01_ModpMatches.j9 k_ y0_ y1_ true = some r) : P_ := by
  have hrt := hrt.out
  cases k_ <;> simp [toruslaw01_ModpMatches.j9, hrt] at h
set_option maxHeartbeats 8000000 in
set_option maxRecDepth 100000 in
theorem toruslaw01_ModpMatches.calls (k : Nat) (a0 : Int) (a1 : Int) (a2 : Int) (a3 : Int) (r : Bool) (w : World) (hrt : Aside0 (r = true)) (h : toruslaw01_ModpMatches.f k a0 a1 a2 a3 = some r) :
    Calls Try.prog 9 #[.int .i64 a0, .int .i64 a1, .int .i64 a2, .int .i64 a3] w fun e w' => e = .returned (.bool r) ∧ Drawn0 w w' := by
  have H : ((modp_Prime.f k a0).bind fun t349 => ((torusref01_Prime.f k a0).bind fun t350 => (if (t349 != t350) = true then (toruslaw01_ModpMatches.j0 k a0 a1 a2 a3 true) else ((modp_Mod.f k a0 a1).bind fun t351 => ((torusref01_Mod.f k a0 a1).bind fun t352 => (toruslaw01_ModpMatches.j0 k a0 a1 a2 a3 (t351 != t352))))))) = some r := h
  clear h
  have HC5 := Aside0.mk H
  clear H
  go_enter Try.func9, Try.ntmps9
  go_upto_region 1 with (fail)
  go_cut [26] (fun v26 wc => ∃ (kq : Nat) (x26_4 : Bool), v26 = .bool x26_4 ∧ Aside0 (toruslaw01_ModpMatches.j0 kq a0 a1 a2 a3 x26_4 = some r) ∧ Aside0 (kq ≤ k) ∧ Drawn0 w wc)
  case first =>
    have H := HC5.out
    clear HC5
    replace H := Option.bind_eq_some_iff.mp H
    obtain ⟨t349, A60, H⟩ := H
    replace H : ((torusref01_Prime.f k a0).bind fun t350 => (if (t349 != t350) = true then (toruslaw01_ModpMatches.j0 k a0 a1 a2 a3 true) else ((modp_Mod.f k a0 a1).bind fun t351 => ((torusref01_Mod.f k a0 a1).bind fun t352 => (toruslaw01_ModpMatches.j0 k a0 a1 a2 a3 (t351 != t352)))))) = some r := H
    have A6 := Aside0.mk A60
    clear A60
    replace H := Option.bind_eq_some_iff.mp H
    obtain ⟨t350, A70, H⟩ := H
    replace H : (if (t349 != t350) = true then (toruslaw01_ModpMatches.j0 k a0 a1 a2 a3 true) else ((modp_Mod.f k a0 a1).bind fun t351 => ((torusref01_Mod.f k a0 a1).bind fun t352 => (toruslaw01_ModpMatches.j0 k a0 a1 a2 a3 (t351 != t352))))) = some r := H
    have A7 := Aside0.mk A70
    clear A70
    by_cases c8 : (t349 != t350) = true
    · rw [if_pos c8] at H
      have c8b0 : (t349 != t350) = true := c8
      (try (have c8b1 : decide (t349 = t350) = false := by simpa using c8))
      (try (have c8b2 : (t349 == t350) = false := by simpa using c8))
      (try (have c8b3 : ¬ (t349 = t350) := by simpa using c8))
      clear c8
      (first | rw [c8b0] | (simp only [i64_w, i32_w]; rw [c8b0]) | skip)
      first
      | with_reducible exact toruslaw01_ModpMatches.j0_dead hrt H
      | with_reducible exact toruslaw01_ModpMatches.j1_dead hrt H
      | with_reducible exact toruslaw01_ModpMatches.j2_dead hrt H
      | with_reducible exact toruslaw01_ModpMatches.j3_dead hrt H
      | with_reducible exact toruslaw01_ModpMatches.j4_dead hrt H
      | with_reducible exact toruslaw01_ModpMatches.j5_dead hrt H
      | with_reducible exact toruslaw01_ModpMatches.j6_dead hrt H
      | with_reducible exact toruslaw01_ModpMatches.j7_dead hrt H
      | with_reducible exact toruslaw01_ModpMatches.j8_dead hrt H
      | with_reducible exact toruslaw01_ModpMatches.j9_dead hrt H
      | skip
        have H' := Aside0.mk H
        clear H
        go_wp2_with (first | ((with_reducible refine gate_callee (f := 31) rfl ?_); refine goesL_ (some 14) rfl rfl Try.func31 (by kernel_rfl) rfl #[.int .i64 a0] rfl (by (try simp only [List.map_toArray, List.map_cons, List.map_nil]); first | done | rfl | (simp only [List.length_drop, List.length_take]; rfl)) ?_; (with_reducible refine (modp_Prime.calls k a0 t349 _ A6.out).mono ?_); rintro e w' ⟨rfl, ⟨nd, rfl⟩⟩; refine ⟨_, rfl, ?_⟩) | ((with_reducible refine gate_callee (f := 32) rfl ?_); refine goesL_ (some 16) rfl rfl Try.func32 (by kernel_rfl) rfl #[.int .i64 a0] rfl (by (try simp only [List.map_toArray, List.map_cons, List.map_nil]); first | done | rfl | (simp only [List.length_drop, List.length_take]; rfl)) ?_; (with_reducible refine (torusref01_Prime.calls k a0 t350 _ A7.out).mono ?_); rintro e w' ⟨rfl, ⟨nd, rfl⟩⟩; refine ⟨_, rfl, ?_⟩))
        go_meet
        case rel => exact ⟨_, (true), (by first | rfl | (simp; done) | (simp [*]; done)), H', ⟨by first | omega | exact Nat.le_refl _⟩, by repeat (first | exact Drawn0.refl _ | apply Drawn0.step)⟩
    · rw [if_neg c8] at H
      have c8b0 : (t349 != t350) = false := by simpa using c8
      (try (have c8b1 : decide (t349 = t350) = true := by simpa using c8))
      (try (have c8b2 : (t349 == t350) = true := by simpa using c8))
      clear c8
      (first | rw [c8b0] | (simp only [i64_w, i32_w]; rw [c8b0]) | skip)
      replace H := Option.bind_eq_some_iff.mp H
      obtain ⟨t351, A90, H⟩ := H
      replace H : ((torusref01_Mod.f k a0 a1).bind fun t352 => (toruslaw01_ModpMatches.j0 k a0 a1 a2 a3 (t351 != t352))) = some r := H
      have A9 := Aside0.mk A90
      clear A90
      replace H := Option.bind_eq_some_iff.mp H
      obtain ⟨t352, A100, H⟩ := H
      replace H : (toruslaw01_ModpMatches.j0 k a0 a1 a2 a3 (t351 != t352)) = some r := H
      have A10 := Aside0.mk A100
      clear A100
      first
      | with_reducible exact toruslaw01_ModpMatches.j0_dead hrt H
      | with_reducible exact toruslaw01_ModpMatches.j1_dead hrt H
      | with_reducible exact toruslaw01_ModpMatches.j2_dead hrt H
      | with_reducible exact toruslaw01_ModpMatches.j3_dead hrt H
      | with_reducible exact toruslaw01_ModpMatches.j4_dead hrt H
      | with_reducible exact toruslaw01_ModpMatches.j5_dead hrt H
      | with_reducible exact toruslaw01_ModpMatches.j6_dead hrt H
      | with_reducible exact toruslaw01_ModpMatches.j7_dead hrt H
      | with_reducible exact toruslaw01_ModpMatches.j8_dead hrt H
      | with_reducible exact toruslaw01_ModpMatches.j9_dead hrt H
      | skip
        have H' := Aside0.mk H
        clear H
        go_wp2_with (first | ((with_reducible refine gate_callee (f := 31) rfl ?_); refine goesL_ (some 14) rfl rfl Try.func31 (by kernel_rfl) rfl #[.int .i64 a0] rfl (by (try simp only [List.map_toArray, List.map_cons, List.map_nil]); first | done | rfl | (simp only [List.length_drop, List.length_take]; rfl)) ?_; (with_reducible refine (modp_Prime.calls k a0 t349 _ A6.out).mono ?_); rintro e w' ⟨rfl, ⟨nd, rfl⟩⟩; refine ⟨_, rfl, ?_⟩) | ((with_reducible refine gate_callee (f := 32) rfl ?_); refine goesL_ (some 16) rfl rfl Try.func32 (by kernel_rfl) rfl #[.int .i64 a0] rfl (by (try simp only [List.map_toArray, List.map_cons, List.map_nil]); first | done | rfl | (simp only [List.length_drop, List.length_take]; rfl)) ?_; (with_reducible refine (torusref01_Prime.calls k a0 t350 _ A7.out).mono ?_); rintro e w' ⟨rfl, ⟨nd, rfl⟩⟩; refine ⟨_, rfl, ?_⟩) | (go_at_call 17; (with_reducible refine (modp_Mod.calls k a0 a1 t351 _ A9.out).mono ?_); rintro e w' ⟨rfl, ⟨nd, rfl⟩⟩) | (go_at_call 33; (with_reducible refine (torusref01_Mod.calls k a0 a1 t352 _ A10.out).mono ?_); rintro e w' ⟨rfl, ⟨nd, rfl⟩⟩))
        go_meet
        case rel => exact ⟨_, ((t351 != t352)), (by first | rfl | (simp; done) | (simp [*]; done)), H', ⟨by first | omega | exact Nat.le_refl _⟩, by repeat (first | exact Drawn0.refl _ | apply Drawn0.step)⟩
  case rest => as_aux_lemma =>
    clear HC5
    try clear p2
    try clear c3
    try clear c8
    try clear c8b0
    try clear c8b1
    try clear c8b2
    try clear c9
    obtain ⟨kq, x26_4, rfl, HA, HJ4, ⟨mc4, rfl⟩⟩ := hcut
    cases kq with
    | zero => exact absurd HA.out (by simp [toruslaw01_ModpMatches.j0])
    | succ kj4 =>
      have H := HA.out
      clear HA
      simp only [toruslaw01_ModpMatches.j0] at H
      by_cases c11 : x26_4 = true
      · subst c11
        have H1 : (some false) = some r := by rw [if_pos rfl] at H; exact H
        clear H
        have H := H1
        clear H1
        first
        | with_reducible exact absurd ((Option.some.inj H).trans hrt.out) Bool.false_ne_true
        | skip
          obtain rfl := Option.some.inj H
          go_wp2
          go_ret
          exact ⟨by first | rfl | (simp; done) | (simp [*]; done), by repeat (first | exact Drawn0.refl _ | apply Drawn0.step)⟩
      · replace c11 := Bool.eq_false_iff.mpr c11
        subst c11
        have H1 : ((modp_Add.f kj4 a0 a1 a2).bind fun bt353 => ((torusref01_Add.f kj4 a0 a1 a2).bind fun bt355 => (if bt353.1 = bt355.1 then (toruslaw01_ModpMatches.j1 kj4 a0 a1 a2 a3 (bt353.2 != bt355.2)) else (toruslaw01_ModpMatches.j1 kj4 a0 a1 a2 a3 true)))) = some r := by rw [if_neg (show ¬ (false = true) by decide)] at H; exact H
        clear H
        have H := H1
        clear H1
        replace H := Option.bind_eq_some_iff.mp H
        obtain ⟨⟨t353, t354⟩, A120, H⟩ := H
        replace H : ((torusref01_Add.f kj4 a0 a1 a2).bind fun bt355 => (if t353 = bt355.1 then (toruslaw01_ModpMatches.j1 kj4 a0 a1 a2 a3 (t354 != bt355.2)) else (toruslaw01_ModpMatches.j1 kj4 a0 a1 a2 a3 true))) = some r := H
        have A12 := Aside0.mk A120
        clear A120
        replace H := Option.bind_eq_some_iff.mp H
        obtain ⟨⟨t355, t356⟩, A130, H⟩ := H
        replace H : (if t353 = t355 then (toruslaw01_ModpMatches.j1 kj4 a0 a1 a2 a3 (t354 != t356)) else (toruslaw01_ModpMatches.j1 kj4 a0 a1 a2 a3 true)) = some r := H
        have A13 := Aside0.mk A130
        clear A130
        have HC14 := Aside0.mk H
        clear H
        go_upto_region 5 with (first | ((with_reducible refine gate_callee (f := 34) rfl ?_); refine goesL_ (some 31) rfl rfl Try.func34 (by kernel_rfl) rfl #[.int .i64 a0, .int .i64 a1, .int .i64 a2] rfl (by (try simp only [List.map_toArray, List.map_cons, List.map_nil]); first | done | rfl | (simp only [List.length_drop, List.length_take]; rfl)) ?_; (with_reducible refine (modp_Add.calls kj4 a0 a1 a2 t353 t354 _ A12.out).mono ?_); rintro e w' ⟨rfl, ⟨nd, rfl⟩⟩; refine ⟨_, rfl, ?_⟩) | ((with_reducible refine gate_callee (f := 35) rfl ?_); refine goesL_ (some 38) rfl rfl Try.func35 (by kernel_rfl) rfl #[.int .i64 a0, .int .i64 a1, .int .i64 a2] rfl (by (try simp only [List.map_toArray, List.map_cons, List.map_nil]); first | done | rfl | (simp only [List.length_drop, List.length_take]; rfl)) ?_; (with_reducible refine (torusref01_Add.calls kj4 a0 a1 a2 t355 t356 _ A13.out).mono ?_); rintro e w' ⟨rfl, ⟨nd, rfl⟩⟩; refine ⟨_, rfl, ?_⟩))
        (try simp only [Act.put, List.setIfInBounds_toArray, List.set_cons_zero, List.set_cons_succ])
        go_cut [48] (fun v48 wc => ∃ (kq : Nat) (x48_13 : Bool), v48 = .bool x48_13 ∧ Aside0 (toruslaw01_ModpMatches.j1 kq a0 a1 a2 a3 x48_13 = some r) ∧ Aside0 (kq ≤ kj4) ∧ Drawn0 w wc)
        case first =>
          have H := HC14.out
          clear HC14
          by_cases c15 : t353 = t355
          · rw [if_pos c15] at H
            have c15b0 : (t353 == t355) = true := beq_iff_eq.mpr c15
            have c15b1 : (t353 != t355) = false := bne_eq_false_iff_eq.mpr c15
            clear c15
            (first | rw [c15b0] | (simp only [i64_w, i32_w]; rw [c15b0]) | skip)
            first
            | with_reducible exact toruslaw01_ModpMatches.j0_dead hrt H
            | with_reducible exact toruslaw01_ModpMatches.j1_dead hrt H
            | with_reducible exact toruslaw01_ModpMatches.j2_dead hrt H
            | with_reducible exact toruslaw01_ModpMatches.j3_dead hrt H
            | with_reducible exact toruslaw01_ModpMatches.j4_dead hrt H
            | with_reducible exact toruslaw01_ModpMatches.j5_dead hrt H
            | with_reducible exact toruslaw01_ModpMatches.j6_dead hrt H
            | with_reducible exact toruslaw01_ModpMatches.j7_dead hrt H
            | with_reducible exact toruslaw01_ModpMatches.j8_dead hrt H
            | with_reducible exact toruslaw01_ModpMatches.j9_dead hrt H
            | skip
              have H' := Aside0.mk H
              clear H
              go_wp2
              go_meet
              case rel => exact ⟨_, ((t354 != t356)), (by first | rfl | (simp; done) | (simp [*]; done)), H', ⟨by have := HJ4.out; first | omega | exact Nat.le_refl _⟩, by repeat (first | exact Drawn0.refl _ | apply Drawn0.step)⟩
          · rw [if_neg c15] at H
            have c15b0 : (t353 == t355) = false := beq_eq_false_iff_ne.mpr c15
            have c15b1 : (t353 != t355) = true := bne_iff_ne.mpr c15
            (first | rw [c15b0] | (simp only [i64_w, i32_w]; rw [c15b0]) | skip)
            first
            | with_reducible exact toruslaw01_ModpMatches.j0_dead hrt H
            | with_reducible exact toruslaw01_ModpMatches.j1_dead hrt H
            | with_reducible exact toruslaw01_ModpMatches.j2_dead hrt H
            | with_reducible exact toruslaw01_ModpMatches.j3_dead hrt H
            | with_reducible exact toruslaw01_ModpMatches.j4_dead hrt H
            | with_reducible exact toruslaw01_ModpMatches.j5_dead hrt H
            | with_reducible exact toruslaw01_ModpMatches.j6_dead hrt H
            | with_reducible exact toruslaw01_ModpMatches.j7_dead hrt H
            | with_reducible exact toruslaw01_ModpMatches.j8_dead hrt H
            | with_reducible exact toruslaw01_ModpMatches.j9_dead hrt H
            | skip
              have H' := Aside0.mk H
              clear H
              go_wp2
              go_meet
              case rel => exact ⟨_, (true), (by first | rfl | (simp; done) | (simp [*]; done)), H', ⟨by have := HJ4.out; first | omega | exact Nat.le_refl _⟩, by repeat (first | exact Drawn0.refl _ | apply Drawn0.step)⟩
        case rest => as_aux_lemma =>
          clear HC14
          try clear c1
          try clear p2
          try clear c3
          try clear c4
          try clear c8
          try clear c8b0
          try clear c8b1
          try clear c8b2
          try clear c9
          try clear c11
          try clear c15
          try clear c15b0
          try clear c15b1
          try clear p2
          obtain ⟨kq, x48_13, rfl, HA, HJ13, ⟨mc13, rfl⟩⟩ := hcut
          cases kq with
          | zero => exact absurd HA.out (by simp [toruslaw01_ModpMatches.j1])
          | succ kj13 =>
            have H := HA.out
            clear HA
            simp only [toruslaw01_ModpMatches.j1] at H
            by_cases c16 : x48_13 = true
            · subst c16
              have H1 : (some false) = some r := by rw [if_pos rfl] at H; exact H
              clear H
              have H := H1
              clear H1
              first
              | with_reducible exact absurd ((Option.some.inj H).trans hrt.out) Bool.false_ne_true
              | skip
                obtain rfl := Option.some.inj H
                go_wp2
                go_ret
                exact ⟨by first | rfl | (simp; done) | (simp [*]; done), by repeat (first | exact Drawn0.refl _ | apply Drawn0.step)⟩
            · replace c16 := Bool.eq_false_iff.mpr c16
              subst c16
              have H1 : ((modp_Sub.f kj13 a0 a1 a2).bind fun bt357 => ((torusref01_Sub.f kj13 a0 a1 a2).bind fun bt359 => (if bt357.1 = bt359.1 then (toruslaw01_ModpMatches.j2 kj13 a0 a1 a2 a3 (bt357.2 != bt359.2)) else (toruslaw01_ModpMatches.j2 kj13 a0 a1 a2 a3 true)))) = some r := by rw [if_neg (show ¬ (false = true) by decide)] at H; exact H
              clear H
              have H := H1
              clear H1
              replace H := Option.bind_eq_some_iff.mp H
              obtain ⟨⟨t357, t358⟩, A170, H⟩ := H
              replace H : ((torusref01_Sub.f kj13 a0 a1 a2).bind fun bt359 => (if t357 = bt359.1 then (toruslaw01_ModpMatches.j2 kj13 a0 a1 a2 a3 (t358 != bt359.2)) else (toruslaw01_ModpMatches.j2 kj13 a0 a1 a2 a3 true))) = some r := H
              have A17 := Aside0.mk A170
              clear A170
              replace H := Option.bind_eq_some_iff.mp H
              obtain ⟨⟨t359, t360⟩, A180, H⟩ := H
              replace H : (if t357 = t359 then (toruslaw01_ModpMatches.j2 kj13 a0 a1 a2 a3 (t358 != t360)) else (toruslaw01_ModpMatches.j2 kj13 a0 a1 a2 a3 true)) = some r := H
              have A18 := Aside0.mk A180
              clear A180
              have HC19 := Aside0.mk H
              clear H
              go_upto_region 9 with (first | ((with_reducible refine gate_callee (f := 25) rfl ?_); refine goesL_ (some 53) rfl rfl Try.func25 (by kernel_rfl) rfl #[.int .i64 a0, .int .i64 a1, .int .i64 a2] rfl (by (try simp only [List.map_toArray, List.map_cons, List.map_nil]); first | done | rfl | (simp only [List.length_drop, List.length_take]; rfl)) ?_; (with_reducible refine (modp_Sub.calls kj13 a0 a1 a2 t357 t358 _ A17.out).mono ?_); rintro e w' ⟨rfl, ⟨nd, rfl⟩⟩; refine ⟨_, rfl, ?_⟩) | ((with_reducible refine gate_callee (f := 36) rfl ?_); refine goesL_ (some 60) rfl rfl Try.func36 (by kernel_rfl) rfl #[.int .i64 a0, .int .i64 a1, .int .i64 a2] rfl (by (try simp only [List.map_toArray, List.map_cons, List.map_nil]); first | done | rfl | (simp only [List.length_drop, List.length_take]; rfl)) ?_; (with_reducible refine (torusref01_Sub.calls kj13 a0 a1 a2 t359 t360 _ A18.out).mono ?_); rintro e w' ⟨rfl, ⟨nd, rfl⟩⟩; refine ⟨_, rfl, ?_⟩))
              (try simp only [Act.put, List.setIfInBounds_toArray, List.set_cons_zero, List.set_cons_succ])
              go_cut [70] (fun v70 wc => ∃ (kq : Nat) (x70_18 : Bool), v70 = .bool x70_18 ∧ Aside0 (toruslaw01_ModpMatches.j2 kq a0 a1 a2 a3 x70_18 = some r) ∧ Aside0 (kq ≤ kj13) ∧ Drawn0 w wc)
              case first =>
                have H := HC19.out
                clear HC19
                by_cases c20 : t357 = t359
                · rw [if_pos c20] at H
                  have c20b0 : (t357 == t359) = true := beq_iff_eq.mpr c20
                  have c20b1 : (t357 != t359) = false := bne_eq_false_iff_eq.mpr c20
                  clear c20
                  (first | rw [c20b0] | (simp only [i64_w, i32_w]; rw [c20b0]) | skip)
                  first
                  | with_reducible exact toruslaw01_ModpMatches.j0_dead hrt H
                  | with_reducible exact toruslaw01_ModpMatches.j1_dead hrt H
                  | with_reducible exact toruslaw01_ModpMatches.j2_dead hrt H
                  | with_reducible exact toruslaw01_ModpMatches.j3_dead hrt H
                  | with_reducible exact toruslaw01_ModpMatches.j4_dead hrt H
                  | with_reducible exact toruslaw01_ModpMatches.j5_dead hrt H
                  | with_reducible exact toruslaw01_ModpMatches.j6_dead hrt H
                  | with_reducible exact toruslaw01_ModpMatches.j7_dead hrt H
                  | with_reducible exact toruslaw01_ModpMatches.j8_dead hrt H
                  | with_reducible exact toruslaw01_ModpMatches.j9_dead hrt H
                  | skip
                    have H' := Aside0.mk H
                    clear H
                    go_wp2
                    go_meet
                    case rel => exact ⟨_, ((t358 != t360)), (by first | rfl | (simp; done) | (simp [*]; done)), H', ⟨by have := HJ4.out; have := HJ13.out; first | omega | exact Nat.le_refl _⟩, by repeat (first | exact Drawn0.refl _ | apply Drawn0.step)⟩
                · rw [if_neg c20] at H
                  have c20b0 : (t357 == t359) = false := beq_eq_false_iff_ne.mpr c20
                  have c20b1 : (t357 != t359) = true := bne_iff_ne.mpr c20
                  (first | rw [c20b0] | (simp only [i64_w, i32_w]; rw [c20b0]) | skip)
                  first
                  | with_reducible exact toruslaw01_ModpMatches.j0_dead hrt H
                  | with_reducible exact toruslaw01_ModpMatches.j1_dead hrt H
                  | with_reducible exact toruslaw01_ModpMatches.j2_dead hrt H
                  | with_reducible exact toruslaw01_ModpMatches.j3_dead hrt H
                  | with_reducible exact toruslaw01_ModpMatches.j4_dead hrt H
                  | with_reducible exact toruslaw01_ModpMatches.j5_dead hrt H
                  | with_reducible exact toruslaw01_ModpMatches.j6_dead hrt H
                  | with_reducible exact toruslaw01_ModpMatches.j7_dead hrt H
                  | with_reducible exact toruslaw01_ModpMatches.j8_dead hrt H
                  | with_reducible exact toruslaw01_ModpMatches.j9_dead hrt H
                  | skip
                    have H' := Aside0.mk H
                    clear H
                    go_wp2
                    go_meet
                    case rel => exact ⟨_, (true), (by first | rfl | (simp; done) | (simp [*]; done)), H', ⟨by have := HJ4.out; have := HJ13.out; first | omega | exact Nat.le_refl _⟩, by repeat (first | exact Drawn0.refl _ | apply Drawn0.step)⟩
              case rest => as_aux_lemma =>
                clear HC19
                try clear c1
                try clear c2
                try clear p2
                try clear c3
                try clear c4
                try clear c8
                try clear c8b0
                try clear c8b1
                try clear c8b2
                try clear c9
                try clear c11
                try clear c13
                try clear c15
                try clear c15b0
                try clear c15b1
                try clear c16
                try clear c20
                try clear c20b0
                try clear c20b1
                try clear p2
                obtain ⟨kq, x70_18, rfl, HA, HJ18, ⟨mc18, rfl⟩⟩ := hcut
                cases kq with
                | zero => exact absurd HA.out (by simp [toruslaw01_ModpMatches.j2])
                | succ kj18 =>
                  have H := HA.out
                  clear HA
                  simp only [toruslaw01_ModpMatches.j2] at H
                  by_cases c21 : x70_18 = true
                  · subst c21
                    have H1 : (some false) = some r := by rw [if_pos rfl] at H; exact H
                    clear H
                    have H := H1
                    clear H1
                    first
                    | with_reducible exact absurd ((Option.some.inj H).trans hrt.out) Bool.false_ne_true
                    | skip
                      obtain rfl := Option.some.inj H
                      go_wp2
                      go_ret
                      exact ⟨by first | rfl | (simp; done) | (simp [*]; done), by repeat (first | exact Drawn0.refl _ | apply Drawn0.step)⟩
                  · replace c21 := Bool.eq_false_iff.mpr c21
                    subst c21
                    have H1 : ((modp_Mul.f kj18 a0 a1 a2).bind fun bt361 => ((torusref01_Mul.f kj18 a0 a1 a2).bind fun bt363 => (if bt361.1 = bt363.1 then (toruslaw01_ModpMatches.j3 kj18 a0 a1 a2 a3 (bt361.2 != bt363.2)) else (toruslaw01_ModpMatches.j3 kj18 a0 a1 a2 a3 true)))) = some r := by rw [if_neg (show ¬ (false = true) by decide)] at H; exact H
                    clear H
                    have H := H1
                    clear H1
                    replace H := Option.bind_eq_some_iff.mp H
                    obtain ⟨⟨t361, t362⟩, A220, H⟩ := H
                    replace H : ((torusref01_Mul.f kj18 a0 a1 a2).bind fun bt363 => (if t361 = bt363.1 then (toruslaw01_ModpMatches.j3 kj18 a0 a1 a2 a3 (t362 != bt363.2)) else (toruslaw01_ModpMatches.j3 kj18 a0 a1 a2 a3 true))) = some r := H
                    have A22 := Aside0.mk A220
                    clear A220
                    replace H := Option.bind_eq_some_iff.mp H
                    obtain ⟨⟨t363, t364⟩, A230, H⟩ := H
                    replace H : (if t361 = t363 then (toruslaw01_ModpMatches.j3 kj18 a0 a1 a2 a3 (t362 != t364)) else (toruslaw01_ModpMatches.j3 kj18 a0 a1 a2 a3 true)) = some r := H
                    have A23 := Aside0.mk A230
                    clear A230
                    have HC24 := Aside0.mk H
                    clear H
                    go_upto_region 13 with (first | ((with_reducible refine gate_callee (f := 37) rfl ?_); refine goesL_ (some 75) rfl rfl Try.func37 (by kernel_rfl) rfl #[.int .i64 a0, .int .i64 a1, .int .i64 a2] rfl (by (try simp only [List.map_toArray, List.map_cons, List.map_nil]); first | done | rfl | (simp only [List.length_drop, List.length_take]; rfl)) ?_; (with_reducible refine (modp_Mul.calls kj18 a0 a1 a2 t361 t362 _ A22.out).mono ?_); rintro e w' ⟨rfl, ⟨nd, rfl⟩⟩; refine ⟨_, rfl, ?_⟩) | ((with_reducible refine gate_callee (f := 38) rfl ?_); refine goesL_ (some 82) rfl rfl Try.func38 (by kernel_rfl) rfl #[.int .i64 a0, .int .i64 a1, .int .i64 a2] rfl (by (try simp only [List.map_toArray, List.map_cons, List.map_nil]); first | done | rfl | (simp only [List.length_drop, List.length_take]; rfl)) ?_; (with_reducible refine (torusref01_Mul.calls kj18 a0 a1 a2 t363 t364 _ A23.out).mono ?_); rintro e w' ⟨rfl, ⟨nd, rfl⟩⟩; refine ⟨_, rfl, ?_⟩))
                    (try simp only [Act.put, List.setIfInBounds_toArray, List.set_cons_zero, List.set_cons_succ])
                    go_cut [92] (fun v92 wc => ∃ (kq : Nat) (x92_23 : Bool), v92 = .bool x92_23 ∧ Aside0 (toruslaw01_ModpMatches.j3 kq a0 a1 a2 a3 x92_23 = some r) ∧ Aside0 (kq ≤ kj18) ∧ Drawn0 w wc)
                    case first =>
                      have H := HC24.out
                      clear HC24
                      by_cases c25 : t361 = t363
                      · rw [if_pos c25] at H
                        have c25b0 : (t361 == t363) = true := beq_iff_eq.mpr c25
                        have c25b1 : (t361 != t363) = false := bne_eq_false_iff_eq.mpr c25
                        clear c25
                        (first | rw [c25b0] | (simp only [i64_w, i32_w]; rw [c25b0]) | skip)
                        first
                        | with_reducible exact toruslaw01_ModpMatches.j0_dead hrt H
                        | with_reducible exact toruslaw01_ModpMatches.j1_dead hrt H
                        | with_reducible exact toruslaw01_ModpMatches.j2_dead hrt H
                        | with_reducible exact toruslaw01_ModpMatches.j3_dead hrt H
                        | with_reducible exact toruslaw01_ModpMatches.j4_dead hrt H
                        | with_reducible exact toruslaw01_ModpMatches.j5_dead hrt H
                        | with_reducible exact toruslaw01_ModpMatches.j6_dead hrt H
                        | with_reducible exact toruslaw01_ModpMatches.j7_dead hrt H
                        | with_reducible exact toruslaw01_ModpMatches.j8_dead hrt H
                        | with_reducible exact toruslaw01_ModpMatches.j9_dead hrt H
                        | skip
                          have H' := Aside0.mk H
                          clear H
                          go_wp2
                          go_meet
                          case rel => exact ⟨_, ((t362 != t364)), (by first | rfl | (simp; done) | (simp [*]; done)), H', ⟨by have := HJ4.out; have := HJ13.out; have := HJ18.out; first | omega | exact Nat.le_refl _⟩, by repeat (first | exact Drawn0.refl _ | apply Drawn0.step)⟩
                      · rw [if_neg c25] at H
                        have c25b0 : (t361 == t363) = false := beq_eq_false_iff_ne.mpr c25
                        have c25b1 : (t361 != t363) = true := bne_iff_ne.mpr c25
                        (first | rw [c25b0] | (simp only [i64_w, i32_w]; rw [c25b0]) | skip)
                        first
                        | with_reducible exact toruslaw01_ModpMatches.j0_dead hrt H
                        | with_reducible exact toruslaw01_ModpMatches.j1_dead hrt H
                        | with_reducible exact toruslaw01_ModpMatches.j2_dead hrt H
                        | with_reducible exact toruslaw01_ModpMatches.j3_dead hrt H
                        | with_reducible exact toruslaw01_ModpMatches.j4_dead hrt H
                        | with_reducible exact toruslaw01_ModpMatches.j5_dead hrt H
                        | with_reducible exact toruslaw01_ModpMatches.j6_dead hrt H
                        | with_reducible exact toruslaw01_ModpMatches.j7_dead hrt H
                        | with_reducible exact toruslaw01_ModpMatches.j8_dead hrt H
                        | with_reducible exact toruslaw01_ModpMatches.j9_dead hrt H
                        | skip
                          have H' := Aside0.mk H
                          clear H
                          go_wp2
                          go_meet
                          case rel => exact ⟨_, (true), (by first | rfl | (simp; done) | (simp [*]; done)), H', ⟨by have := HJ4.out; have := HJ13.out; have := HJ18.out; first | omega | exact Nat.le_refl _⟩, by repeat (first | exact Drawn0.refl _ | apply Drawn0.step)⟩
                    case rest => as_aux_lemma =>
                      clear HC24
                      try clear c1
                      try clear c2
                      try clear p2
                      try clear c3
                      try clear c4
                      try clear c8
                      try clear c8b0
                      try clear c8b1
                      try clear c8b2
                      try clear c9
                      try clear c11
                      try clear c13
                      try clear c15
                      try clear c15b0
                      try clear c15b1
                      try clear c16
                      try clear c18
                      try clear c20
                      try clear c20b0
                      try clear c20b1
                      try clear c21
                      try clear c25
                      try clear c25b0
                      try clear c25b1
                      try clear p2
                      obtain ⟨kq, x92_23, rfl, HA, HJ23, ⟨mc23, rfl⟩⟩ := hcut
                      cases kq with
                      | zero => exact absurd HA.out (by simp [toruslaw01_ModpMatches.j3])
                      | succ kj23 =>
                        have H := HA.out
                        clear HA
                        simp only [toruslaw01_ModpMatches.j3] at H
                        by_cases c26 : x92_23 = true
                        · subst c26
                          have H1 : (some false) = some r := by rw [if_pos rfl] at H; exact H
                          clear H
                          have H := H1
                          clear H1
                          first
                          | with_reducible exact absurd ((Option.some.inj H).trans hrt.out) Bool.false_ne_true
                          | skip
                            obtain rfl := Option.some.inj H
                            go_wp2
                            go_ret
                            exact ⟨by first | rfl | (simp; done) | (simp [*]; done), by repeat (first | exact Drawn0.refl _ | apply Drawn0.step)⟩
                        · replace c26 := Bool.eq_false_iff.mpr c26
                          subst c26
                          have H1 : ((modp_Div.f kj23 a0 a1 a2).bind fun bt365 => ((torusref01_Div.f kj23 a0 a1 a2).bind fun bt367 => (if bt365.1 = bt367.1 then (toruslaw01_ModpMatches.j4 kj23 a0 a1 a2 a3 (bt365.2 != bt367.2)) else (toruslaw01_ModpMatches.j4 kj23 a0 a1 a2 a3 true)))) = some r := by rw [if_neg (show ¬ (false = true) by decide)] at H; exact H
                          clear H
                          have H := H1
                          clear H1
                          replace H := Option.bind_eq_some_iff.mp H
                          obtain ⟨⟨t365, t366⟩, A270, H⟩ := H
                          replace H : ((torusref01_Div.f kj23 a0 a1 a2).bind fun bt367 => (if t365 = bt367.1 then (toruslaw01_ModpMatches.j4 kj23 a0 a1 a2 a3 (t366 != bt367.2)) else (toruslaw01_ModpMatches.j4 kj23 a0 a1 a2 a3 true))) = some r := H
                          have A27 := Aside0.mk A270
                          clear A270
                          replace H := Option.bind_eq_some_iff.mp H
                          obtain ⟨⟨t367, t368⟩, A280, H⟩ := H
                          replace H : (if t365 = t367 then (toruslaw01_ModpMatches.j4 kj23 a0 a1 a2 a3 (t366 != t368)) else (toruslaw01_ModpMatches.j4 kj23 a0 a1 a2 a3 true)) = some r := H
                          have A28 := Aside0.mk A280
                          clear A280
                          have HC29 := Aside0.mk H
                          clear H
                          go_upto_region 17 with (first | ((with_reducible refine gate_callee (f := 26) rfl ?_); refine goesL_ (some 97) rfl rfl Try.func26 (by kernel_rfl) rfl #[.int .i64 a0, .int .i64 a1, .int .i64 a2] rfl (by (try simp only [List.map_toArray, List.map_cons, List.map_nil]); first | done | rfl | (simp only [List.length_drop, List.length_take]; rfl)) ?_; (with_reducible refine (modp_Div.calls kj23 a0 a1 a2 t365 t366 _ A27.out).mono ?_); rintro e w' ⟨rfl, ⟨nd, rfl⟩⟩; refine ⟨_, rfl, ?_⟩) | ((with_reducible refine gate_callee (f := 39) rfl ?_); refine goesL_ (some 104) rfl rfl Try.func39 (by kernel_rfl) rfl #[.int .i64 a0, .int .i64 a1, .int .i64 a2] rfl (by (try simp only [List.map_toArray, List.map_cons, List.map_nil]); first | done | rfl | (simp only [List.length_drop, List.length_take]; rfl)) ?_; (with_reducible refine (torusref01_Div.calls kj23 a0 a1 a2 t367 t368 _ A28.out).mono ?_); rintro e w' ⟨rfl, ⟨nd, rfl⟩⟩; refine ⟨_, rfl, ?_⟩))
                          (try simp only [Act.put, List.setIfInBounds_toArray, List.set_cons_zero, List.set_cons_succ])
                          go_cut [114] (fun v114 wc => ∃ (kq : Nat) (x114_28 : Bool), v114 = .bool x114_28 ∧ Aside0 (toruslaw01_ModpMatches.j4 kq a0 a1 a2 a3 x114_28 = some r) ∧ Aside0 (kq ≤ kj23) ∧ Drawn0 w wc)
                          case first =>
                            have H := HC29.out
                            clear HC29
                            by_cases c30 : t365 = t367
                            · rw [if_pos c30] at H
                              have c30b0 : (t365 == t367) = true := beq_iff_eq.mpr c30
                              have c30b1 : (t365 != t367) = false := bne_eq_false_iff_eq.mpr c30
                              clear c30
                              (first | rw [c30b0] | (simp only [i64_w, i32_w]; rw [c30b0]) | skip)
                              first
                              | with_reducible exact toruslaw01_ModpMatches.j0_dead hrt H
                              | with_reducible exact toruslaw01_ModpMatches.j1_dead hrt H
                              | with_reducible exact toruslaw01_ModpMatches.j2_dead hrt H
                              | with_reducible exact toruslaw01_ModpMatches.j3_dead hrt H
                              | with_reducible exact toruslaw01_ModpMatches.j4_dead hrt H
                              | with_reducible exact toruslaw01_ModpMatches.j5_dead hrt H
                              | with_reducible exact toruslaw01_ModpMatches.j6_dead hrt H
                              | with_reducible exact toruslaw01_ModpMatches.j7_dead hrt H
                              | with_reducible exact toruslaw01_ModpMatches.j8_dead hrt H
                              | with_reducible exact toruslaw01_ModpMatches.j9_dead hrt H
                              | skip
                                have H' := Aside0.mk H
                                clear H
                                go_wp2
                                go_meet
                                case rel => exact ⟨_, ((t366 != t368)), (by first | rfl | (simp; done) | (simp [*]; done)), H', ⟨by have := HJ4.out; have := HJ13.out; have := HJ18.out; have := HJ23.out; first | omega | exact Nat.le_refl _⟩, by repeat (first | exact Drawn0.refl _ | apply Drawn0.step)⟩
                            · rw [if_neg c30] at H
                              have c30b0 : (t365 == t367) = false := beq_eq_false_iff_ne.mpr c30
                              have c30b1 : (t365 != t367) = true := bne_iff_ne.mpr c30
                              (first | rw [c30b0] | (simp only [i64_w, i32_w]; rw [c30b0]) | skip)
                              first
                              | with_reducible exact toruslaw01_ModpMatches.j0_dead hrt H
                              | with_reducible exact toruslaw01_ModpMatches.j1_dead hrt H
                              | with_reducible exact toruslaw01_ModpMatches.j2_dead hrt H
                              | with_reducible exact toruslaw01_ModpMatches.j3_dead hrt H
                              | with_reducible exact toruslaw01_ModpMatches.j4_dead hrt H
                              | with_reducible exact toruslaw01_ModpMatches.j5_dead hrt H
                              | with_reducible exact toruslaw01_ModpMatches.j6_dead hrt H
                              | with_reducible exact toruslaw01_ModpMatches.j7_dead hrt H
                              | with_reducible exact toruslaw01_ModpMatches.j8_dead hrt H
                              | with_reducible exact toruslaw01_ModpMatches.j9_dead hrt H
                              | skip
                                have H' := Aside0.mk H
                                clear H
                                go_wp2
                                go_meet
                                case rel => exact ⟨_, (true), (by first | rfl | (simp; done) | (simp [*]; done)), H', ⟨by have := HJ4.out; have := HJ13.out; have := HJ18.out; have := HJ23.out; first | omega | exact Nat.le_refl _⟩, by repeat (first | exact Drawn0.refl _ | apply Drawn0.step)⟩
                          case rest => as_aux_lemma =>
                            clear HC29
                            try clear c1
                            try clear c2
                            try clear p2
                            try clear c3
                            try clear c4
                            try clear c8
                            try clear c8b0
                            try clear c8b1
                            try clear c8b2
                            try clear c9
                            try clear c11
                            try clear c13
                            try clear c15
                            try clear c15b0
                            try clear c15b1
                            try clear c16
                            try clear c18
                            try clear c20
                            try clear c20b0
                            try clear c20b1
                            try clear c21
                            try clear c23
                            try clear c25
                            try clear c25b0
                            try clear c25b1
                            try clear c26
                            try clear c30
                            try clear c30b0
                            try clear c30b1
                            try clear p2
                            obtain ⟨kq, x114_28, rfl, HA, HJ28, ⟨mc28, rfl⟩⟩ := hcut
                            cases kq with
                            | zero => exact absurd HA.out (by simp [toruslaw01_ModpMatches.j4])
                            | succ kj28 =>
                              have H := HA.out
                              clear HA
                              simp only [toruslaw01_ModpMatches.j4] at H
                              by_cases c31 : x114_28 = true
                              · subst c31
                                have H1 : (some false) = some r := by rw [if_pos rfl] at H; exact H
                                clear H
                                have H := H1
                                clear H1
                                first
                                | with_reducible exact absurd ((Option.some.inj H).trans hrt.out) Bool.false_ne_true
                                | skip
                                  obtain rfl := Option.some.inj H
                                  go_wp2
                                  go_ret
                                  exact ⟨by first | rfl | (simp; done) | (simp [*]; done), by repeat (first | exact Drawn0.refl _ | apply Drawn0.step)⟩
                              · replace c31 := Bool.eq_false_iff.mpr c31
                                subst c31
                                have H1 : ((modp_Inv.f kj28 a0 a1).bind fun bt369 => ((torusref01_Inv.f kj28 a0 a1).bind fun bt371 => (if bt369.1 = bt371.1 then (toruslaw01_ModpMatches.j5 kj28 a0 a1 a2 a3 (bt369.2 != bt371.2)) else (toruslaw01_ModpMatches.j5 kj28 a0 a1 a2 a3 true)))) = some r := by rw [if_neg (show ¬ (false = true) by decide)] at H; exact H
                                clear H
                                have H := H1
                                clear H1
                                replace H := Option.bind_eq_some_iff.mp H
                                obtain ⟨⟨t369, t370⟩, A320, H⟩ := H
                                replace H : ((torusref01_Inv.f kj28 a0 a1).bind fun bt371 => (if t369 = bt371.1 then (toruslaw01_ModpMatches.j5 kj28 a0 a1 a2 a3 (t370 != bt371.2)) else (toruslaw01_ModpMatches.j5 kj28 a0 a1 a2 a3 true))) = some r := H
                                have A32 := Aside0.mk A320
                                clear A320
                                replace H := Option.bind_eq_some_iff.mp H
                                obtain ⟨⟨t371, t372⟩, A330, H⟩ := H
                                replace H : (if t369 = t371 then (toruslaw01_ModpMatches.j5 kj28 a0 a1 a2 a3 (t370 != t372)) else (toruslaw01_ModpMatches.j5 kj28 a0 a1 a2 a3 true)) = some r := H
                                have A33 := Aside0.mk A330
                                clear A330
                                have HC34 := Aside0.mk H
                                clear H
                                go_upto_region 21 with (first | ((with_reducible refine gate_callee (f := 27) rfl ?_); refine goesL_ (some 118) rfl rfl Try.func27 (by kernel_rfl) rfl #[.int .i64 a0, .int .i64 a1] rfl (by (try simp only [List.map_toArray, List.map_cons, List.map_nil]); first | done | rfl | (simp only [List.length_drop, List.length_take]; rfl)) ?_; (with_reducible refine (modp_Inv.calls kj28 a0 a1 t369 t370 _ A32.out).mono ?_); rintro e w' ⟨rfl, ⟨nd, rfl⟩⟩; refine ⟨_, rfl, ?_⟩) | ((with_reducible refine gate_callee (f := 40) rfl ?_); refine goesL_ (some 124) rfl rfl Try.func40 (by kernel_rfl) rfl #[.int .i64 a0, .int .i64 a1] rfl (by (try simp only [List.map_toArray, List.map_cons, List.map_nil]); first | done | rfl | (simp only [List.length_drop, List.length_take]; rfl)) ?_; (with_reducible refine (torusref01_Inv.calls kj28 a0 a1 t371 t372 _ A33.out).mono ?_); rintro e w' ⟨rfl, ⟨nd, rfl⟩⟩; refine ⟨_, rfl, ?_⟩))
                                (try simp only [Act.put, List.setIfInBounds_toArray, List.set_cons_zero, List.set_cons_succ])
                                go_cut [134] (fun v134 wc => ∃ (kq : Nat) (x134_33 : Bool), v134 = .bool x134_33 ∧ Aside0 (toruslaw01_ModpMatches.j5 kq a0 a1 a2 a3 x134_33 = some r) ∧ Aside0 (kq ≤ kj28) ∧ Drawn0 w wc)
                                case first =>
                                  have H := HC34.out
                                  clear HC34
                                  by_cases c35 : t369 = t371
                                  · rw [if_pos c35] at H
                                    have c35b0 : (t369 == t371) = true := beq_iff_eq.mpr c35
                                    have c35b1 : (t369 != t371) = false := bne_eq_false_iff_eq.mpr c35
                                    clear c35
                                    (first | rw [c35b0] | (simp only [i64_w, i32_w]; rw [c35b0]) | skip)
                                    first
                                    | with_reducible exact toruslaw01_ModpMatches.j0_dead hrt H
                                    | with_reducible exact toruslaw01_ModpMatches.j1_dead hrt H
                                    | with_reducible exact toruslaw01_ModpMatches.j2_dead hrt H
                                    | with_reducible exact toruslaw01_ModpMatches.j3_dead hrt H
                                    | with_reducible exact toruslaw01_ModpMatches.j4_dead hrt H
                                    | with_reducible exact toruslaw01_ModpMatches.j5_dead hrt H
                                    | with_reducible exact toruslaw01_ModpMatches.j6_dead hrt H
                                    | with_reducible exact toruslaw01_ModpMatches.j7_dead hrt H
                                    | with_reducible exact toruslaw01_ModpMatches.j8_dead hrt H
                                    | with_reducible exact toruslaw01_ModpMatches.j9_dead hrt H
                                    | skip
                                      have H' := Aside0.mk H
                                      clear H
                                      go_wp2
                                      go_meet
                                      case rel => exact ⟨_, ((t370 != t372)), (by first | rfl | (simp; done) | (simp [*]; done)), H', ⟨by have := HJ4.out; have := HJ13.out; have := HJ18.out; have := HJ23.out; have := HJ28.out; first | omega | exact Nat.le_refl _⟩, by repeat (first | exact Drawn0.refl _ | apply Drawn0.step)⟩
                                  · rw [if_neg c35] at H
                                    have c35b0 : (t369 == t371) = false := beq_eq_false_iff_ne.mpr c35
                                    have c35b1 : (t369 != t371) = true := bne_iff_ne.mpr c35
                                    (first | rw [c35b0] | (simp only [i64_w, i32_w]; rw [c35b0]) | skip)
                                    first
                                    | with_reducible exact toruslaw01_ModpMatches.j0_dead hrt H
                                    | with_reducible exact toruslaw01_ModpMatches.j1_dead hrt H
                                    | with_reducible exact toruslaw01_ModpMatches.j2_dead hrt H
                                    | with_reducible exact toruslaw01_ModpMatches.j3_dead hrt H
                                    | with_reducible exact toruslaw01_ModpMatches.j4_dead hrt H
                                    | with_reducible exact toruslaw01_ModpMatches.j5_dead hrt H
                                    | with_reducible exact toruslaw01_ModpMatches.j6_dead hrt H
                                    | with_reducible exact toruslaw01_ModpMatches.j7_dead hrt H
                                    | with_reducible exact toruslaw01_ModpMatches.j8_dead hrt H
                                    | with_reducible exact toruslaw01_ModpMatches.j9_dead hrt H
                                    | skip
                                      have H' := Aside0.mk H
                                      clear H
                                      go_wp2
                                      go_meet
                                      case rel => exact ⟨_, (true), (by first | rfl | (simp; done) | (simp [*]; done)), H', ⟨by have := HJ4.out; have := HJ13.out; have := HJ18.out; have := HJ23.out; have := HJ28.out; first | omega | exact Nat.le_refl _⟩, by repeat (first | exact Drawn0.refl _ | apply Drawn0.step)⟩
                                case rest => as_aux_lemma =>
                                  clear HC34
                                  try clear c1
                                  try clear c2
                                  try clear p2
                                  try clear c3
                                  try clear c4
                                  try clear c8
                                  try clear c8b0
                                  try clear c8b1
                                  try clear c8b2
                                  try clear c9
                                  try clear c11
                                  try clear c13
                                  try clear c15
                                  try clear c15b0
                                  try clear c15b1
                                  try clear c16
                                  try clear c18
                                  try clear c20
                                  try clear c20b0
                                  try clear c20b1
                                  try clear c21
                                  try clear c23
                                  try clear c25
                                  try clear c25b0
                                  try clear c25b1
                                  try clear c26
                                  try clear c27
                                  try clear c28
                                  try clear c30
                                  try clear c30b0
                                  try clear c30b1
                                  try clear c31
                                  try clear c32
                                  try clear c34
                                  try clear c35
                                  try clear c35b0
                                  try clear c35b1
                                  try clear p2
                                  obtain ⟨kq, x134_33, rfl, HA, HJ33, ⟨mc33, rfl⟩⟩ := hcut
                                  cases kq with
                                  | zero => exact absurd HA.out (by simp [toruslaw01_ModpMatches.j5])
                                  | succ kj33 =>
                                    have H := HA.out
                                    clear HA
                                    simp only [toruslaw01_ModpMatches.j5] at H
                                    by_cases c36 : x134_33 = true
                                    · subst c36
                                      have H1 : (some false) = some r := by rw [if_pos rfl] at H; exact H
                                      clear H
                                      have H := H1
                                      clear H1
                                      first
                                      | with_reducible exact absurd ((Option.some.inj H).trans hrt.out) Bool.false_ne_true
                                      | skip
                                        obtain rfl := Option.some.inj H
                                        go_wp2
                                        go_ret
                                        exact ⟨by first | rfl | (simp; done) | (simp [*]; done), by repeat (first | exact Drawn0.refl _ | apply Drawn0.step)⟩
                                    · replace c36 := Bool.eq_false_iff.mpr c36
                                      subst c36
                                      have H1 : ((modp_Pow.f kj33 a0 a1 a3).bind fun bt373 => ((torusref01_Pow.f kj33 a0 a1 a3).bind fun bt375 => (if bt373.1 = bt375.1 then (toruslaw01_ModpMatches.j6 kj33 a0 a1 a2 (bt373.2 != bt375.2)) else (toruslaw01_ModpMatches.j6 kj33 a0 a1 a2 true)))) = some r := by rw [if_neg (show ¬ (false = true) by decide)] at H; exact H
                                      clear H
                                      have H := H1
                                      clear H1
                                      replace H := Option.bind_eq_some_iff.mp H
                                      obtain ⟨⟨t373, t374⟩, A370, H⟩ := H
                                      replace H : ((torusref01_Pow.f kj33 a0 a1 a3).bind fun bt375 => (if t373 = bt375.1 then (toruslaw01_ModpMatches.j6 kj33 a0 a1 a2 (t374 != bt375.2)) else (toruslaw01_ModpMatches.j6 kj33 a0 a1 a2 true))) = some r := H
                                      have A37 := Aside0.mk A370
                                      clear A370
                                      replace H := Option.bind_eq_some_iff.mp H
                                      obtain ⟨⟨t375, t376⟩, A380, H⟩ := H
                                      replace H : (if t373 = t375 then (toruslaw01_ModpMatches.j6 kj33 a0 a1 a2 (t374 != t376)) else (toruslaw01_ModpMatches.j6 kj33 a0 a1 a2 true)) = some r := H
                                      have A38 := Aside0.mk A380
                                      clear A380
                                      have HC39 := Aside0.mk H
                                      clear H
                                      go_upto_region 25 with (first | ((with_reducible refine gate_callee (f := 18) rfl ?_); refine goesL_ (some 139) rfl rfl Try.func18 (by kernel_rfl) rfl #[.int .i64 a0, .int .i64 a1, .int .i64 a3] rfl (by (try simp only [List.map_toArray, List.map_cons, List.map_nil]); first | done | rfl | (simp only [List.length_drop, List.length_take]; rfl)) ?_; (with_reducible refine (modp_Pow.calls kj33 a0 a1 a3 t373 t374 _ A37.out).mono ?_); rintro e w' ⟨rfl, ⟨nd, rfl⟩⟩; refine ⟨_, rfl, ?_⟩) | ((with_reducible refine gate_callee (f := 41) rfl ?_); refine goesL_ (some 146) rfl rfl Try.func41 (by kernel_rfl) rfl #[.int .i64 a0, .int .i64 a1, .int .i64 a3] rfl (by (try simp only [List.map_toArray, List.map_cons, List.map_nil]); first | done | rfl | (simp only [List.length_drop, List.length_take]; rfl)) ?_; (with_reducible refine (torusref01_Pow.calls kj33 a0 a1 a3 t375 t376 _ A38.out).mono ?_); rintro e w' ⟨rfl, ⟨nd, rfl⟩⟩; refine ⟨_, rfl, ?_⟩))
                                      (try simp only [Act.put, List.setIfInBounds_toArray, List.set_cons_zero, List.set_cons_succ])
                                      go_cut [156] (fun v156 wc => ∃ (kq : Nat) (x156_38 : Bool), v156 = .bool x156_38 ∧ Aside0 (toruslaw01_ModpMatches.j6 kq a0 a1 a2 x156_38 = some r) ∧ Aside0 (kq ≤ kj33) ∧ Drawn0 w wc)
                                      case first =>
                                        have H := HC39.out
                                        clear HC39
                                        by_cases c40 : t373 = t375
                                        · rw [if_pos c40] at H
                                          have c40b0 : (t373 == t375) = true := beq_iff_eq.mpr c40
                                          have c40b1 : (t373 != t375) = false := bne_eq_false_iff_eq.mpr c40
                                          clear c40
                                          (first | rw [c40b0] | (simp only [i64_w, i32_w]; rw [c40b0]) | skip)
                                          first
                                          | with_reducible exact toruslaw01_ModpMatches.j0_dead hrt H
                                          | with_reducible exact toruslaw01_ModpMatches.j1_dead hrt H
                                          | with_reducible exact toruslaw01_ModpMatches.j2_dead hrt H
                                          | with_reducible exact toruslaw01_ModpMatches.j3_dead hrt H
                                          | with_reducible exact toruslaw01_ModpMatches.j4_dead hrt H
                                          | with_reducible exact toruslaw01_ModpMatches.j5_dead hrt H
                                          | with_reducible exact toruslaw01_ModpMatches.j6_dead hrt H
                                          | with_reducible exact toruslaw01_ModpMatches.j7_dead hrt H
                                          | with_reducible exact toruslaw01_ModpMatches.j8_dead hrt H
                                          | with_reducible exact toruslaw01_ModpMatches.j9_dead hrt H
                                          | skip
                                            have H' := Aside0.mk H
                                            clear H
                                            go_wp2
                                            go_meet
                                            case rel => exact ⟨_, ((t374 != t376)), (by first | rfl | (simp; done) | (simp [*]; done)), H', ⟨by have := HJ4.out; have := HJ13.out; have := HJ18.out; have := HJ23.out; have := HJ28.out; have := HJ33.out; first | omega | exact Nat.le_refl _⟩, by repeat (first | exact Drawn0.refl _ | apply Drawn0.step)⟩
                                        · rw [if_neg c40] at H
                                          have c40b0 : (t373 == t375) = false := beq_eq_false_iff_ne.mpr c40
                                          have c40b1 : (t373 != t375) = true := bne_iff_ne.mpr c40
                                          (first | rw [c40b0] | (simp only [i64_w, i32_w]; rw [c40b0]) | skip)
                                          first
                                          | with_reducible exact toruslaw01_ModpMatches.j0_dead hrt H
                                          | with_reducible exact toruslaw01_ModpMatches.j1_dead hrt H
                                          | with_reducible exact toruslaw01_ModpMatches.j2_dead hrt H
                                          | with_reducible exact toruslaw01_ModpMatches.j3_dead hrt H
                                          | with_reducible exact toruslaw01_ModpMatches.j4_dead hrt H
                                          | with_reducible exact toruslaw01_ModpMatches.j5_dead hrt H
                                          | with_reducible exact toruslaw01_ModpMatches.j6_dead hrt H
                                          | with_reducible exact toruslaw01_ModpMatches.j7_dead hrt H
                                          | with_reducible exact toruslaw01_ModpMatches.j8_dead hrt H
                                          | with_reducible exact toruslaw01_ModpMatches.j9_dead hrt H
                                          | skip
                                            have H' := Aside0.mk H
                                            clear H
                                            go_wp2
                                            go_meet
                                            case rel => exact ⟨_, (true), (by first | rfl | (simp; done) | (simp [*]; done)), H', ⟨by have := HJ4.out; have := HJ13.out; have := HJ18.out; have := HJ23.out; have := HJ28.out; have := HJ33.out; first | omega | exact Nat.le_refl _⟩, by repeat (first | exact Drawn0.refl _ | apply Drawn0.step)⟩
                                      case rest => as_aux_lemma =>
                                        clear HC39
                                        try clear c1
                                        try clear c2
                                        try clear p2
                                        try clear c3
                                        try clear c4
                                        try clear c8
                                        try clear c8b0
                                        try clear c8b1
                                        try clear c8b2
                                        try clear c9
                                        try clear c11
                                        try clear c13
                                        try clear c15
                                        try clear c15b0
                                        try clear c15b1
                                        try clear c16
                                        try clear c18
                                        try clear c20
                                        try clear c20b0
                                        try clear c20b1
                                        try clear c21
                                        try clear c23
                                        try clear c25
                                        try clear c25b0
                                        try clear c25b1
                                        try clear c26
                                        try clear c27
                                        try clear c28
                                        try clear c30
                                        try clear c30b0
                                        try clear c30b1
                                        try clear c31
                                        try clear c32
                                        try clear c33
                                        try clear c34
                                        try clear c35
                                        try clear c35b0
                                        try clear c35b1
                                        try clear c36
                                        try clear c37
                                        try clear c38
                                        try clear c39
                                        try clear c40
                                        try clear c40b0
                                        try clear c40b1
                                        try clear p2
                                        obtain ⟨kq, x156_38, rfl, HA, HJ38, ⟨mc38, rfl⟩⟩ := hcut
                                        cases kq with
                                        | zero => exact absurd HA.out (by simp [toruslaw01_ModpMatches.j6])
                                        | succ kj38 =>
                                          have H := HA.out
                                          clear HA
                                          simp only [toruslaw01_ModpMatches.j6] at H
                                          by_cases c41 : x156_38 = true
                                          · subst c41
                                            have H1 : (some false) = some r := by rw [if_pos rfl] at H; exact H
                                            clear H
                                            have H := H1
                                            clear H1
                                            first
                                            | with_reducible exact absurd ((Option.some.inj H).trans hrt.out) Bool.false_ne_true
                                            | skip
                                              obtain rfl := Option.some.inj H
                                              go_wp2
                                              go_ret
                                              exact ⟨by first | rfl | (simp; done) | (simp [*]; done), by repeat (first | exact Drawn0.refl _ | apply Drawn0.step)⟩
                                          · replace c41 := Bool.eq_false_iff.mpr c41
                                            subst c41
                                            have H1 : ((modp_Order.f kj38 a0 a1).bind fun bt377 => ((torusref01_Order.f kj38 a0 a1).bind fun bt379 => (if bt377.1 = bt379.1 then (toruslaw01_ModpMatches.j7 kj38 a0 a1 a2 (bt377.2 != bt379.2)) else (toruslaw01_ModpMatches.j7 kj38 a0 a1 a2 true)))) = some r := by rw [if_neg (show ¬ (false = true) by decide)] at H; exact H
                                            clear H
                                            have H := H1
                                            clear H1
                                            replace H := Option.bind_eq_some_iff.mp H
                                            obtain ⟨⟨t377, t378⟩, A420, H⟩ := H
                                            replace H : ((torusref01_Order.f kj38 a0 a1).bind fun bt379 => (if t377 = bt379.1 then (toruslaw01_ModpMatches.j7 kj38 a0 a1 a2 (t378 != bt379.2)) else (toruslaw01_ModpMatches.j7 kj38 a0 a1 a2 true))) = some r := H
                                            have A42 := Aside0.mk A420
                                            clear A420
                                            replace H := Option.bind_eq_some_iff.mp H
                                            obtain ⟨⟨t379, t380⟩, A430, H⟩ := H
                                            replace H : (if t377 = t379 then (toruslaw01_ModpMatches.j7 kj38 a0 a1 a2 (t378 != t380)) else (toruslaw01_ModpMatches.j7 kj38 a0 a1 a2 true)) = some r := H
                                            have A43 := Aside0.mk A430
                                            clear A430
                                            have HC44 := Aside0.mk H
                                            clear H
                                            go_upto_region 29 with (first | ((with_reducible refine gate_callee (f := 30) rfl ?_); refine goesL_ (some 160) rfl rfl Try.func30 (by kernel_rfl) rfl #[.int .i64 a0, .int .i64 a1] rfl (by (try simp only [List.map_toArray, List.map_cons, List.map_nil]); first | done | rfl | (simp only [List.length_drop, List.length_take]; rfl)) ?_; (with_reducible refine (modp_Order.calls kj38 a0 a1 t377 t378 _ A42.out).mono ?_); rintro e w' ⟨rfl, ⟨nd, rfl⟩⟩; refine ⟨_, rfl, ?_⟩) | ((with_reducible refine gate_callee (f := 42) rfl ?_); refine goesL_ (some 166) rfl rfl Try.func42 (by kernel_rfl) rfl #[.int .i64 a0, .int .i64 a1] rfl (by (try simp only [List.map_toArray, List.map_cons, List.map_nil]); first | done | rfl | (simp only [List.length_drop, List.length_take]; rfl)) ?_; (with_reducible refine (torusref01_Order.calls kj38 a0 a1 t379 t380 _ A43.out).mono ?_); rintro e w' ⟨rfl, ⟨nd, rfl⟩⟩; refine ⟨_, rfl, ?_⟩))
                                            (try simp only [Act.put, List.setIfInBounds_toArray, List.set_cons_zero, List.set_cons_succ])
                                            go_cut [176] (fun v176 wc => ∃ (kq : Nat) (x176_43 : Bool), v176 = .bool x176_43 ∧ Aside0 (toruslaw01_ModpMatches.j7 kq a0 a1 a2 x176_43 = some r) ∧ Aside0 (kq ≤ kj38) ∧ Drawn0 w wc)
                                            case first =>
                                              have H := HC44.out
                                              clear HC44
                                              by_cases c45 : t377 = t379
                                              · rw [if_pos c45] at H
                                                have c45b0 : (t377 == t379) = true := beq_iff_eq.mpr c45
                                                have c45b1 : (t377 != t379) = false := bne_eq_false_iff_eq.mpr c45
                                                clear c45
                                                (first | rw [c45b0] | (simp only [i64_w, i32_w]; rw [c45b0]) | skip)
                                                first
                                                | with_reducible exact toruslaw01_ModpMatches.j0_dead hrt H
                                                | with_reducible exact toruslaw01_ModpMatches.j1_dead hrt H
                                                | with_reducible exact toruslaw01_ModpMatches.j2_dead hrt H
                                                | with_reducible exact toruslaw01_ModpMatches.j3_dead hrt H
                                                | with_reducible exact toruslaw01_ModpMatches.j4_dead hrt H
                                                | with_reducible exact toruslaw01_ModpMatches.j5_dead hrt H
                                                | with_reducible exact toruslaw01_ModpMatches.j6_dead hrt H
                                                | with_reducible exact toruslaw01_ModpMatches.j7_dead hrt H
                                                | with_reducible exact toruslaw01_ModpMatches.j8_dead hrt H
                                                | with_reducible exact toruslaw01_ModpMatches.j9_dead hrt H
                                                | skip
                                                  have H' := Aside0.mk H
                                                  clear H
                                                  go_wp2
                                                  go_meet
                                                  case rel => exact ⟨_, ((t378 != t380)), (by first | rfl | (simp; done) | (simp [*]; done)), H', ⟨by have := HJ4.out; have := HJ13.out; have := HJ18.out; have := HJ23.out; have := HJ28.out; have := HJ33.out; have := HJ38.out; first | omega | exact Nat.le_refl _⟩, by repeat (first | exact Drawn0.refl _ | apply Drawn0.step)⟩
                                              · rw [if_neg c45] at H
                                                have c45b0 : (t377 == t379) = false := beq_eq_false_iff_ne.mpr c45
                                                have c45b1 : (t377 != t379) = true := bne_iff_ne.mpr c45
                                                (first | rw [c45b0] | (simp only [i64_w, i32_w]; rw [c45b0]) | skip)
                                                first
                                                | with_reducible exact toruslaw01_ModpMatches.j0_dead hrt H
                                                | with_reducible exact toruslaw01_ModpMatches.j1_dead hrt H
                                                | with_reducible exact toruslaw01_ModpMatches.j2_dead hrt H
                                                | with_reducible exact toruslaw01_ModpMatches.j3_dead hrt H
                                                | with_reducible exact toruslaw01_ModpMatches.j4_dead hrt H
                                                | with_reducible exact toruslaw01_ModpMatches.j5_dead hrt H
                                                | with_reducible exact toruslaw01_ModpMatches.j6_dead hrt H
                                                | with_reducible exact toruslaw01_ModpMatches.j7_dead hrt H
                                                | with_reducible exact toruslaw01_ModpMatches.j8_dead hrt H
                                                | with_reducible exact toruslaw01_ModpMatches.j9_dead hrt H
                                                | skip
                                                  have H' := Aside0.mk H
                                                  clear H
                                                  go_wp2
                                                  go_meet
                                                  case rel => exact ⟨_, (true), (by first | rfl | (simp; done) | (simp [*]; done)), H', ⟨by have := HJ4.out; have := HJ13.out; have := HJ18.out; have := HJ23.out; have := HJ28.out; have := HJ33.out; have := HJ38.out; first | omega | exact Nat.le_refl _⟩, by repeat (first | exact Drawn0.refl _ | apply Drawn0.step)⟩
                                            case rest => as_aux_lemma =>
                                              clear HC44
                                              try clear c1
                                              try clear c2
                                              try clear p2
                                              try clear c3
                                              try clear c4
                                              try clear c8
                                              try clear c8b0
                                              try clear c8b1
                                              try clear c8b2
                                              try clear c9
                                              try clear c11
                                              try clear c13
                                              try clear c15
                                              try clear c15b0
                                              try clear c15b1
                                              try clear c16
                                              try clear c18
                                              try clear c20
                                              try clear c20b0
                                              try clear c20b1
                                              try clear c21
                                              try clear c23
                                              try clear c25
                                              try clear c25b0
                                              try clear c25b1
                                              try clear c26
                                              try clear c27
                                              try clear c28
                                              try clear c30
                                              try clear c30b0
                                              try clear c30b1
                                              try clear c31
                                              try clear c32
                                              try clear c33
                                              try clear c34
                                              try clear c35
                                              try clear c35b0
                                              try clear c35b1
                                              try clear c36
                                              try clear c37
                                              try clear c38
                                              try clear c39
                                              try clear c40
                                              try clear c40b0
                                              try clear c40b1
                                              try clear c41
                                              try clear c42
                                              try clear c45
                                              try clear c45b0
                                              try clear c45b1
                                              try clear p2
                                              obtain ⟨kq, x176_43, rfl, HA, HJ43, ⟨mc43, rfl⟩⟩ := hcut
                                              cases kq with
                                              | zero => exact absurd HA.out (by simp [toruslaw01_ModpMatches.j7])
                                              | succ kj43 =>
                                                have H := HA.out
                                                clear HA
                                                simp only [toruslaw01_ModpMatches.j7] at H
                                                by_cases c46 : x176_43 = true
                                                · subst c46
                                                  have H1 : (some false) = some r := by rw [if_pos rfl] at H; exact H
                                                  clear H
                                                  have H := H1
                                                  clear H1
                                                  first
                                                  | with_reducible exact absurd ((Option.some.inj H).trans hrt.out) Bool.false_ne_true
                                                  | skip
                                                    obtain rfl := Option.some.inj H
                                                    go_wp2
                                                    go_ret
                                                    exact ⟨by first | rfl | (simp; done) | (simp [*]; done), by repeat (first | exact Drawn0.refl _ | apply Drawn0.step)⟩
                                                · replace c46 := Bool.eq_false_iff.mpr c46
                                                  subst c46
                                                  have H1 : ((modp_Generator.f kj43 a0).bind fun bt381 => ((torusref01_Generator.f kj43 a0).bind fun bt383 => (if bt381.1 = bt383.1 then (toruslaw01_ModpMatches.j8 kj43 a0 a1 a2 (bt381.2 != bt383.2)) else (toruslaw01_ModpMatches.j8 kj43 a0 a1 a2 true)))) = some r := by rw [if_neg (show ¬ (false = true) by decide)] at H; exact H
                                                  clear H
                                                  have H := H1
                                                  clear H1
                                                  replace H := Option.bind_eq_some_iff.mp H
                                                  obtain ⟨⟨t381, t382⟩, A470, H⟩ := H
                                                  replace H : ((torusref01_Generator.f kj43 a0).bind fun bt383 => (if t381 = bt383.1 then (toruslaw01_ModpMatches.j8 kj43 a0 a1 a2 (t382 != bt383.2)) else (toruslaw01_ModpMatches.j8 kj43 a0 a1 a2 true))) = some r := H
                                                  have A47 := Aside0.mk A470
                                                  clear A470
                                                  replace H := Option.bind_eq_some_iff.mp H
                                                  obtain ⟨⟨t383, t384⟩, A480, H⟩ := H
                                                  replace H : (if t381 = t383 then (toruslaw01_ModpMatches.j8 kj43 a0 a1 a2 (t382 != t384)) else (toruslaw01_ModpMatches.j8 kj43 a0 a1 a2 true)) = some r := H
                                                  have A48 := Aside0.mk A480
                                                  clear A480
                                                  have HC49 := Aside0.mk H
                                                  clear H
                                                  go_upto_region 33 with (first | ((with_reducible refine gate_callee (f := 29) rfl ?_); refine goesL_ (some 179) rfl rfl Try.func29 (by kernel_rfl) rfl #[.int .i64 a0] rfl (by (try simp only [List.map_toArray, List.map_cons, List.map_nil]); first | done | rfl | (simp only [List.length_drop, List.length_take]; rfl)) ?_; (with_reducible refine (modp_Generator.calls kj43 a0 t381 t382 _ A47.out).mono ?_); rintro e w' ⟨rfl, ⟨nd, rfl⟩⟩; refine ⟨_, rfl, ?_⟩) | ((with_reducible refine gate_callee (f := 43) rfl ?_); refine goesL_ (some 184) rfl rfl Try.func43 (by kernel_rfl) rfl #[.int .i64 a0] rfl (by (try simp only [List.map_toArray, List.map_cons, List.map_nil]); first | done | rfl | (simp only [List.length_drop, List.length_take]; rfl)) ?_; (with_reducible refine (torusref01_Generator.calls kj43 a0 t383 t384 _ A48.out).mono ?_); rintro e w' ⟨rfl, ⟨nd, rfl⟩⟩; refine ⟨_, rfl, ?_⟩))
                                                  (try simp only [Act.put, List.setIfInBounds_toArray, List.set_cons_zero, List.set_cons_succ])
                                                  go_cut [194] (fun v194 wc => ∃ (kq : Nat) (x194_48 : Bool), v194 = .bool x194_48 ∧ Aside0 (toruslaw01_ModpMatches.j8 kq a0 a1 a2 x194_48 = some r) ∧ Aside0 (kq ≤ kj43) ∧ Drawn0 w wc)
                                                  case first =>
                                                    have H := HC49.out
                                                    clear HC49
                                                    by_cases c50 : t381 = t383
                                                    · rw [if_pos c50] at H
                                                      have c50b0 : (t381 == t383) = true := beq_iff_eq.mpr c50
                                                      have c50b1 : (t381 != t383) = false := bne_eq_false_iff_eq.mpr c50
                                                      clear c50
                                                      (first | rw [c50b0] | (simp only [i64_w, i32_w]; rw [c50b0]) | skip)
                                                      first
                                                      | with_reducible exact toruslaw01_ModpMatches.j0_dead hrt H
                                                      | with_reducible exact toruslaw01_ModpMatches.j1_dead hrt H
                                                      | with_reducible exact toruslaw01_ModpMatches.j2_dead hrt H
                                                      | with_reducible exact toruslaw01_ModpMatches.j3_dead hrt H
                                                      | with_reducible exact toruslaw01_ModpMatches.j4_dead hrt H
                                                      | with_reducible exact toruslaw01_ModpMatches.j5_dead hrt H
                                                      | with_reducible exact toruslaw01_ModpMatches.j6_dead hrt H
                                                      | with_reducible exact toruslaw01_ModpMatches.j7_dead hrt H
                                                      | with_reducible exact toruslaw01_ModpMatches.j8_dead hrt H
                                                      | with_reducible exact toruslaw01_ModpMatches.j9_dead hrt H
                                                      | skip
                                                        have H' := Aside0.mk H
                                                        clear H
                                                        go_wp2
                                                        go_meet
                                                        case rel => exact ⟨_, ((t382 != t384)), (by first | rfl | (simp; done) | (simp [*]; done)), H', ⟨by have := HJ4.out; have := HJ13.out; have := HJ18.out; have := HJ23.out; have := HJ28.out; have := HJ33.out; have := HJ38.out; have := HJ43.out; first | omega | exact Nat.le_refl _⟩, by repeat (first | exact Drawn0.refl _ | apply Drawn0.step)⟩
                                                    · rw [if_neg c50] at H
                                                      have c50b0 : (t381 == t383) = false := beq_eq_false_iff_ne.mpr c50
                                                      have c50b1 : (t381 != t383) = true := bne_iff_ne.mpr c50
                                                      (first | rw [c50b0] | (simp only [i64_w, i32_w]; rw [c50b0]) | skip)
                                                      first
                                                      | with_reducible exact toruslaw01_ModpMatches.j0_dead hrt H
                                                      | with_reducible exact toruslaw01_ModpMatches.j1_dead hrt H
                                                      | with_reducible exact toruslaw01_ModpMatches.j2_dead hrt H
                                                      | with_reducible exact toruslaw01_ModpMatches.j3_dead hrt H
                                                      | with_reducible exact toruslaw01_ModpMatches.j4_dead hrt H
                                                      | with_reducible exact toruslaw01_ModpMatches.j5_dead hrt H
                                                      | with_reducible exact toruslaw01_ModpMatches.j6_dead hrt H
                                                      | with_reducible exact toruslaw01_ModpMatches.j7_dead hrt H
                                                      | with_reducible exact toruslaw01_ModpMatches.j8_dead hrt H
                                                      | with_reducible exact toruslaw01_ModpMatches.j9_dead hrt H
                                                      | skip
                                                        have H' := Aside0.mk H
                                                        clear H
                                                        go_wp2
                                                        go_meet
                                                        case rel => exact ⟨_, (true), (by first | rfl | (simp; done) | (simp [*]; done)), H', ⟨by have := HJ4.out; have := HJ13.out; have := HJ18.out; have := HJ23.out; have := HJ28.out; have := HJ33.out; have := HJ38.out; have := HJ43.out; first | omega | exact Nat.le_refl _⟩, by repeat (first | exact Drawn0.refl _ | apply Drawn0.step)⟩
                                                  case rest => as_aux_lemma =>
                                                    clear HC49
                                                    try clear c1
                                                    try clear c2
                                                    try clear p2
                                                    try clear c3
                                                    try clear c4
                                                    try clear c5
                                                    try clear c8
                                                    try clear c8b0
                                                    try clear c8b1
                                                    try clear c8b2
                                                    try clear c9
                                                    try clear c11
                                                    try clear c13
                                                    try clear c15
                                                    try clear c15b0
                                                    try clear c15b1
                                                    try clear c16
                                                    try clear c18
                                                    try clear c20
                                                    try clear c20b0
                                                    try clear c20b1
                                                    try clear c21
                                                    try clear c23
                                                    try clear c25
                                                    try clear c25b0
                                                    try clear c25b1
                                                    try clear c26
                                                    try clear c27
                                                    try clear c28
                                                    try clear c29
                                                    try clear c30
                                                    try clear c30b0
                                                    try clear c30b1
                                                    try clear c31
                                                    try clear c32
                                                    try clear c33
                                                    try clear c34
                                                    try clear c35
                                                    try clear c35b0
                                                    try clear c35b1
                                                    try clear c36
                                                    try clear c37
                                                    try clear c38
                                                    try clear c39
                                                    try clear c40
                                                    try clear c40b0
                                                    try clear c40b1
                                                    try clear c41
                                                    try clear c42
                                                    try clear c43
                                                    try clear c45
                                                    try clear c45b0
                                                    try clear c45b1
                                                    try clear c46
                                                    try clear c50
                                                    try clear c50b0
                                                    try clear c50b1
                                                    try clear p2
                                                    obtain ⟨kq, x194_48, rfl, HA, HJ48, ⟨mc48, rfl⟩⟩ := hcut
                                                    cases kq with
                                                    | zero => exact absurd HA.out (by simp [toruslaw01_ModpMatches.j8])
                                                    | succ kj48 =>
                                                      have H := HA.out
                                                      clear HA
                                                      simp only [toruslaw01_ModpMatches.j8] at H
                                                      by_cases c51 : x194_48 = true
                                                      · subst c51
                                                        have H1 : (some false) = some r := by rw [if_pos rfl] at H; exact H
                                                        clear H
                                                        have H := H1
                                                        clear H1
                                                        first
                                                        | with_reducible exact absurd ((Option.some.inj H).trans hrt.out) Bool.false_ne_true
                                                        | skip
                                                          obtain rfl := Option.some.inj H
                                                          go_wp2
                                                          go_ret
                                                          exact ⟨by first | rfl | (simp; done) | (simp [*]; done), by repeat (first | exact Drawn0.refl _ | apply Drawn0.step)⟩
                                                      · replace c51 := Bool.eq_false_iff.mpr c51
                                                        subst c51
                                                        have H1 : ((modp_Log.f kj48 a0 a1 a2).bind fun bt385 => ((torusref01_Log.f kj48 a0 a1 a2).bind fun bt387 => (if bt385.1 = bt387.1 then (toruslaw01_ModpMatches.j9 kj48 a0 a1 (bt385.2 != bt387.2)) else (toruslaw01_ModpMatches.j9 kj48 a0 a1 true)))) = some r := by rw [if_neg (show ¬ (false = true) by decide)] at H; exact H
                                                        clear H
                                                        have H := H1
                                                        clear H1
                                                        replace H := Option.bind_eq_some_iff.mp H
                                                        obtain ⟨⟨t385, t386⟩, A520, H⟩ := H
                                                        replace H : ((torusref01_Log.f kj48 a0 a1 a2).bind fun bt387 => (if t385 = bt387.1 then (toruslaw01_ModpMatches.j9 kj48 a0 a1 (t386 != bt387.2)) else (toruslaw01_ModpMatches.j9 kj48 a0 a1 true))) = some r := H
                                                        have A52 := Aside0.mk A520
                                                        clear A520
                                                        replace H := Option.bind_eq_some_iff.mp H
                                                        obtain ⟨⟨t387, t388⟩, A530, H⟩ := H
                                                        replace H : (if t385 = t387 then (toruslaw01_ModpMatches.j9 kj48 a0 a1 (t386 != t388)) else (toruslaw01_ModpMatches.j9 kj48 a0 a1 true)) = some r := H
                                                        have A53 := Aside0.mk A530
                                                        clear A530
                                                        have HC54 := Aside0.mk H
                                                        clear H
                                                        go_upto_region 37 with (first | ((with_reducible refine gate_callee (f := 28) rfl ?_); refine goesL_ (some 199) rfl rfl Try.func28 (by kernel_rfl) rfl #[.int .i64 a0, .int .i64 a1, .int .i64 a2] rfl (by (try simp only [List.map_toArray, List.map_cons, List.map_nil]); first | done | rfl | (simp only [List.length_drop, List.length_take]; rfl)) ?_; (with_reducible refine (modp_Log.calls kj48 a0 a1 a2 t385 t386 _ A52.out).mono ?_); rintro e w' ⟨rfl, ⟨nd, rfl⟩⟩; refine ⟨_, rfl, ?_⟩) | ((with_reducible refine gate_callee (f := 44) rfl ?_); refine goesL_ (some 206) rfl rfl Try.func44 (by kernel_rfl) rfl #[.int .i64 a0, .int .i64 a1, .int .i64 a2] rfl (by (try simp only [List.map_toArray, List.map_cons, List.map_nil]); first | done | rfl | (simp only [List.length_drop, List.length_take]; rfl)) ?_; (with_reducible refine (torusref01_Log.calls kj48 a0 a1 a2 t387 t388 _ A53.out).mono ?_); rintro e w' ⟨rfl, ⟨nd, rfl⟩⟩; refine ⟨_, rfl, ?_⟩))
                                                        (try simp only [Act.put, List.setIfInBounds_toArray, List.set_cons_zero, List.set_cons_succ])
                                                        go_cut [216] (fun v216 wc => ∃ (kq : Nat) (x216_53 : Bool), v216 = .bool x216_53 ∧ Aside0 (toruslaw01_ModpMatches.j9 kq a0 a1 x216_53 = some r) ∧ Aside0 (kq ≤ kj48) ∧ Drawn0 w wc)
                                                        case first =>
                                                          have H := HC54.out
                                                          clear HC54
                                                          by_cases c55 : t385 = t387
                                                          · rw [if_pos c55] at H
                                                            have c55b0 : (t385 == t387) = true := beq_iff_eq.mpr c55
                                                            have c55b1 : (t385 != t387) = false := bne_eq_false_iff_eq.mpr c55
                                                            clear c55
                                                            (first | rw [c55b0] | (simp only [i64_w, i32_w]; rw [c55b0]) | skip)
                                                            first
                                                            | with_reducible exact toruslaw01_ModpMatches.j0_dead hrt H
                                                            | with_reducible exact toruslaw01_ModpMatches.j1_dead hrt H
                                                            | with_reducible exact toruslaw01_ModpMatches.j2_dead hrt H
                                                            | with_reducible exact toruslaw01_ModpMatches.j3_dead hrt H
                                                            | with_reducible exact toruslaw01_ModpMatches.j4_dead hrt H
                                                            | with_reducible exact toruslaw01_ModpMatches.j5_dead hrt H
                                                            | with_reducible exact toruslaw01_ModpMatches.j6_dead hrt H
                                                            | with_reducible exact toruslaw01_ModpMatches.j7_dead hrt H
                                                            | with_reducible exact toruslaw01_ModpMatches.j8_dead hrt H
                                                            | with_reducible exact toruslaw01_ModpMatches.j9_dead hrt H
                                                            | skip
                                                              have H' := Aside0.mk H
                                                              clear H
                                                              go_wp2
                                                              go_meet
                                                              case rel => exact ⟨_, ((t386 != t388)), (by first | rfl | (simp; done) | (simp [*]; done)), H', ⟨by have := HJ4.out; have := HJ13.out; have := HJ18.out; have := HJ23.out; have := HJ28.out; have := HJ33.out; have := HJ38.out; have := HJ43.out; have := HJ48.out; first | omega | exact Nat.le_refl _⟩, by repeat (first | exact Drawn0.refl _ | apply Drawn0.step)⟩
                                                          · rw [if_neg c55] at H
                                                            have c55b0 : (t385 == t387) = false := beq_eq_false_iff_ne.mpr c55
                                                            have c55b1 : (t385 != t387) = true := bne_iff_ne.mpr c55
                                                            (first | rw [c55b0] | (simp only [i64_w, i32_w]; rw [c55b0]) | skip)
                                                            first
                                                            | with_reducible exact toruslaw01_ModpMatches.j0_dead hrt H
                                                            | with_reducible exact toruslaw01_ModpMatches.j1_dead hrt H
                                                            | with_reducible exact toruslaw01_ModpMatches.j2_dead hrt H
                                                            | with_reducible exact toruslaw01_ModpMatches.j3_dead hrt H
                                                            | with_reducible exact toruslaw01_ModpMatches.j4_dead hrt H
                                                            | with_reducible exact toruslaw01_ModpMatches.j5_dead hrt H
                                                            | with_reducible exact toruslaw01_ModpMatches.j6_dead hrt H
                                                            | with_reducible exact toruslaw01_ModpMatches.j7_dead hrt H
                                                            | with_reducible exact toruslaw01_ModpMatches.j8_dead hrt H
                                                            | with_reducible exact toruslaw01_ModpMatches.j9_dead hrt H
                                                            | skip
                                                              have H' := Aside0.mk H
                                                              clear H
                                                              go_wp2
                                                              go_meet
                                                              case rel => exact ⟨_, (true), (by first | rfl | (simp; done) | (simp [*]; done)), H', ⟨by have := HJ4.out; have := HJ13.out; have := HJ18.out; have := HJ23.out; have := HJ28.out; have := HJ33.out; have := HJ38.out; have := HJ43.out; have := HJ48.out; first | omega | exact Nat.le_refl _⟩, by repeat (first | exact Drawn0.refl _ | apply Drawn0.step)⟩
                                                        case rest => as_aux_lemma =>
                                                          clear HC54
                                                          try clear c1
                                                          try clear c2
                                                          try clear p2
                                                          try clear c3
                                                          try clear c4
                                                          try clear c5
                                                          try clear c8
                                                          try clear c8b0
                                                          try clear c8b1
                                                          try clear c8b2
                                                          try clear c9
                                                          try clear c11
                                                          try clear c13
                                                          try clear c15
                                                          try clear c15b0
                                                          try clear c15b1
                                                          try clear c16
                                                          try clear c18
                                                          try clear c20
                                                          try clear c20b0
                                                          try clear c20b1
                                                          try clear c21
                                                          try clear c23
                                                          try clear c25
                                                          try clear c25b0
                                                          try clear c25b1
                                                          try clear c26
                                                          try clear c27
                                                          try clear c28
                                                          try clear c29
                                                          try clear c30
                                                          try clear c30b0
                                                          try clear c30b1
                                                          try clear c31
                                                          try clear c32
                                                          try clear c33
                                                          try clear c34
                                                          try clear c35
                                                          try clear c35b0
                                                          try clear c35b1
                                                          try clear c36
                                                          try clear c37
                                                          try clear c38
                                                          try clear c39
                                                          try clear c40
                                                          try clear c40b0
                                                          try clear c40b1
                                                          try clear c41
                                                          try clear c42
                                                          try clear c43
                                                          try clear c44
                                                          try clear c45
                                                          try clear c45b0
                                                          try clear c45b1
                                                          try clear c46
                                                          try clear c48
                                                          try clear c50
                                                          try clear c50b0
                                                          try clear c50b1
                                                          try clear c51
                                                          try clear c55
                                                          try clear c55b0
                                                          try clear c55b1
                                                          try clear p2
                                                          obtain ⟨kq, x216_53, rfl, HA, HJ53, ⟨mc53, rfl⟩⟩ := hcut
                                                          cases kq with
                                                          | zero => exact absurd HA.out (by simp [toruslaw01_ModpMatches.j9])
                                                          | succ kj53 =>
                                                            have H := HA.out
                                                            clear HA
                                                            simp only [toruslaw01_ModpMatches.j9] at H
                                                            by_cases c56 : x216_53 = true
                                                            · subst c56
                                                              have H1 : (some false) = some r := by rw [if_pos rfl] at H; exact H
                                                              clear H
                                                              have H := H1
                                                              clear H1
                                                              first
                                                              | with_reducible exact absurd ((Option.some.inj H).trans hrt.out) Bool.false_ne_true
                                                              | skip
                                                                obtain rfl := Option.some.inj H
                                                                go_wp2
                                                                go_ret
                                                                exact ⟨by first | rfl | (simp; done) | (simp [*]; done), by repeat (first | exact Drawn0.refl _ | apply Drawn0.step)⟩
                                                            · replace c56 := Bool.eq_false_iff.mpr c56
                                                              subst c56
                                                              have H1 : ((modp_Root.f kj53 a0 a1).bind fun bt389 => ((torusref01_Root.f kj53 a0 a1).bind fun bt391 => (if bt389.1 = bt391.1 then (if bt389.2 = bt391.2 then ((toruslaw01_awake.f kj53).bind fun t393 => (some t393)) else (some false)) else (some false)))) = some r := by rw [if_neg (show ¬ (false = true) by decide)] at H; exact H
                                                              clear H
                                                              have H := H1
                                                              clear H1
                                                              replace H := Option.bind_eq_some_iff.mp H
                                                              obtain ⟨⟨t389, t390⟩, A570, H⟩ := H
                                                              replace H : ((torusref01_Root.f kj53 a0 a1).bind fun bt391 => (if t389 = bt391.1 then (if t390 = bt391.2 then ((toruslaw01_awake.f kj53).bind fun t393 => (some t393)) else (some false)) else (some false))) = some r := H
                                                              have A57 := Aside0.mk A570
                                                              clear A570
                                                              replace H := Option.bind_eq_some_iff.mp H
                                                              obtain ⟨⟨t391, t392⟩, A580, H⟩ := H
                                                              replace H : (if t389 = t391 then (if t390 = t392 then ((toruslaw01_awake.f kj53).bind fun t393 => (some t393)) else (some false)) else (some false)) = some r := H
                                                              have A58 := Aside0.mk A580
                                                              clear A580
                                                              by_cases c59 : t389 = t391
                                                              · rw [if_pos c59] at H
                                                                have c59b0 : (t389 == t391) = true := beq_iff_eq.mpr c59
                                                                have c59b1 : (t389 != t391) = false := bne_eq_false_iff_eq.mpr c59
                                                                clear c59
                                                                by_cases c60 : t390 = t392
                                                                · rw [if_pos c60] at H
                                                                  have c60b0 : (t390 == t392) = true := beq_iff_eq.mpr c60
                                                                  have c60b1 : (t390 != t392) = false := bne_eq_false_iff_eq.mpr c60
                                                                  clear c60
                                                                  replace H := Option.bind_eq_some_iff.mp H
                                                                  obtain ⟨t393, A610, H⟩ := H
                                                                  replace H : (some t393) = some r := H
                                                                  have A61 := Aside0.mk A610
                                                                  clear A610
                                                                  first
                                                                  | with_reducible exact absurd ((Option.some.inj H).trans hrt.out) Bool.false_ne_true
                                                                  | skip
                                                                    obtain rfl := Option.some.inj H
                                                                    go_wp2_with (first | ((with_reducible refine gate_callee (f := 23) rfl ?_); refine goesL_ (some 220) rfl rfl Try.func23 (by kernel_rfl) rfl #[.int .i64 a0, .int .i64 a1] rfl (by (try simp only [List.map_toArray, List.map_cons, List.map_nil]); first | done | rfl | (simp only [List.length_drop, List.length_take]; rfl)) ?_; (with_reducible refine (modp_Root.calls kj53 a0 a1 t389 t390 _ A57.out).mono ?_); rintro e w' ⟨rfl, ⟨nd, rfl⟩⟩; refine ⟨_, rfl, ?_⟩) | ((with_reducible refine gate_callee (f := 45) rfl ?_); refine goesL_ (some 226) rfl rfl Try.func45 (by kernel_rfl) rfl #[.int .i64 a0, .int .i64 a1] rfl (by (try simp only [List.map_toArray, List.map_cons, List.map_nil]); first | done | rfl | (simp only [List.length_drop, List.length_take]; rfl)) ?_; (with_reducible refine (torusref01_Root.calls kj53 a0 a1 t391 t392 _ A58.out).mono ?_); rintro e w' ⟨rfl, ⟨nd, rfl⟩⟩; refine ⟨_, rfl, ?_⟩) | (go_at_call 15; (with_reducible refine (toruslaw01_awake.calls kj53  t393 _ A61.out).mono ?_); rintro e w' ⟨rfl, ⟨nd, rfl⟩⟩))
                                                                    go_ret
                                                                    exact ⟨by first | rfl | (simp; done) | (simp [*]; done), by repeat (first | exact Drawn0.refl _ | apply Drawn0.step)⟩
                                                                · rw [if_neg c60] at H
                                                                  have c60b0 : (t390 == t392) = false := beq_eq_false_iff_ne.mpr c60
                                                                  have c60b1 : (t390 != t392) = true := bne_iff_ne.mpr c60
                                                                  first
                                                                  | with_reducible exact absurd ((Option.some.inj H).trans hrt.out) Bool.false_ne_true
                                                                  | skip
                                                                    obtain rfl := Option.some.inj H
                                                                    go_wp2_with (first | ((with_reducible refine gate_callee (f := 23) rfl ?_); refine goesL_ (some 220) rfl rfl Try.func23 (by kernel_rfl) rfl #[.int .i64 a0, .int .i64 a1] rfl (by (try simp only [List.map_toArray, List.map_cons, List.map_nil]); first | done | rfl | (simp only [List.length_drop, List.length_take]; rfl)) ?_; (with_reducible refine (modp_Root.calls kj53 a0 a1 t389 t390 _ A57.out).mono ?_); rintro e w' ⟨rfl, ⟨nd, rfl⟩⟩; refine ⟨_, rfl, ?_⟩) | ((with_reducible refine gate_callee (f := 45) rfl ?_); refine goesL_ (some 226) rfl rfl Try.func45 (by kernel_rfl) rfl #[.int .i64 a0, .int .i64 a1] rfl (by (try simp only [List.map_toArray, List.map_cons, List.map_nil]); first | done | rfl | (simp only [List.length_drop, List.length_take]; rfl)) ?_; (with_reducible refine (torusref01_Root.calls kj53 a0 a1 t391 t392 _ A58.out).mono ?_); rintro e w' ⟨rfl, ⟨nd, rfl⟩⟩; refine ⟨_, rfl, ?_⟩))
                                                                    go_ret
                                                                    exact ⟨by first | rfl | (simp; done) | (simp [*]; done), by repeat (first | exact Drawn0.refl _ | apply Drawn0.step)⟩
                                                              · rw [if_neg c59] at H
                                                                have c59b0 : (t389 == t391) = false := beq_eq_false_iff_ne.mpr c59
                                                                have c59b1 : (t389 != t391) = true := bne_iff_ne.mpr c59
                                                                first
                                                                | with_reducible exact absurd ((Option.some.inj H).trans hrt.out) Bool.false_ne_true
                                                                | skip
                                                                  obtain rfl := Option.some.inj H
                                                                  go_wp2_with (first | ((with_reducible refine gate_callee (f := 23) rfl ?_); refine goesL_ (some 220) rfl rfl Try.func23 (by kernel_rfl) rfl #[.int .i64 a0, .int .i64 a1] rfl (by (try simp only [List.map_toArray, List.map_cons, List.map_nil]); first | done | rfl | (simp only [List.length_drop, List.length_take]; rfl)) ?_; (with_reducible refine (modp_Root.calls kj53 a0 a1 t389 t390 _ A57.out).mono ?_); rintro e w' ⟨rfl, ⟨nd, rfl⟩⟩; refine ⟨_, rfl, ?_⟩) | ((with_reducible refine gate_callee (f := 45) rfl ?_); refine goesL_ (some 226) rfl rfl Try.func45 (by kernel_rfl) rfl #[.int .i64 a0, .int .i64 a1] rfl (by (try simp only [List.map_toArray, List.map_cons, List.map_nil]); first | done | rfl | (simp only [List.length_drop, List.length_take]; rfl)) ?_; (with_reducible refine (torusref01_Root.calls kj53 a0 a1 t391 t392 _ A58.out).mono ?_); rintro e w' ⟨rfl, ⟨nd, rfl⟩⟩; refine ⟨_, rfl, ?_⟩))
                                                                  go_ret
                                                                  exact ⟨by first | rfl | (simp; done) | (simp [*]; done), by repeat (first | exact Drawn0.refl _ | apply Drawn0.step)⟩

/-- THE ONE PURE STATEMENT of toruslaw01_ModpMatches: yours. -/
def toruslaw01_ModpMatches.Pure : Prop := ∀ (a0 : Int) (a1 : Int) (a2 : Int) (a3 : Int), (Lit.int .i64 a0).wf = true → (Lit.int .i64 a1).wf = true → (Lit.int .i64 a2).wf = true → (Lit.int .i64 a3).wf = true → ∃ k, toruslaw01_ModpMatches.f k a0 a1 a2 a3 = some true
theorem toruslaw01_ModpMatches.walk (P : toruslaw01_ModpMatches.Pure) (a0 : Int) (a1 : Int) (a2 : Int) (a3 : Int) (w : World) (w0 : (Lit.int .i64 a0).wf = true) (w1 : (Lit.int .i64 a1).wf = true) (w2 : (Lit.int .i64 a2).wf = true) (w3 : (Lit.int .i64 a3).wf = true) :
    Calls Try.prog 9 #[.int .i64 a0, .int .i64 a1, .int .i64 a2, .int .i64 a3] w fun e w' => e = .returned (.bool true) ∧ Below w.heap.size w w' := by
  obtain ⟨k, h⟩ := P a0 a1 a2 a3 w0 w1 w2 w3
  refine (toruslaw01_ModpMatches.calls k a0 a1 a2 a3 true w ⟨rfl⟩ h).mono ?_
  rintro e w' ⟨rfl, hd⟩
  exact ⟨rfl, hd.below⟩

end Go.Proofs.Ytikbgcpcbhoblaa.PModp
