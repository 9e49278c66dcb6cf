/- Go functions as plain Lean functions, each with a proof that the Go code computes just that, and facts on them; conditions: those that each theorem states. -/
import Derived.Test.YticckanjfdcpaaaDoorQNumbersMatch2
namespace Go.Proofs.YticckanjfdcpaaaDoor.PSimplex
open Go.RowKit Go.Proofs.YticckanjfdcpaaaDoorW.PrintWords Go.Proofs.YticckanjfdcpaaaDoorW.PrintLast Go.Proofs.YticckanjfdcpaaaDoorW.PrintMore
attribute [local go_sem] max2_int min2_int max_two min_two max_three min_three max_four min_four   -- for this text's walks alone
set_option linter.unusedVariables false
set_option linter.unusedSimpArgs false

/-! ### toruslaw07_awake: function 12 -/
def toruslaw07_awake.f (k : Nat)  : Option (Bool) := (simplex_Facets.f k (([2, 5, 7] : List Int))).bind fun bt183 => ((simplex_Faces.f k (([2, 5] : List Int))).bind fun bt190 => ((simplex_Join.f k (([1, 3] : List Int)) (([2] : List Int))).bind fun bt200 => ((simplex_Number.f k (([0, 3] : List Int))).bind fun bt207 => ((simplex_Numbered.f k 1 4).bind fun bt209 => ((simplex_Sort.f k (([1, 3, 2] : List Int))).bind fun bt216 => (if bt183.2 = 0 then ((torusref07_Same.f k bt183.1 (([(([5, 7] : List Int)), (([2, 7] : List Int)), (([2, 5] : List Int))] : List (List Int)))).bind fun t233 => (if t233 = true then (if bt190.2 = 0 then ((torusref07_Same.f k bt190.1 (([(([2] : List Int)), (([5] : List Int)), (([2, 5] : List Int))] : List (List Int)))).bind fun t246 => (if t246 = true then ((toruslaw07_is.f k bt200.1 bt200.2 (([1, 2, 3] : List Int))).bind fun t250 => (if t250 = true then (if bt207.1 = 3 then (if bt207.2 = 0 then ((toruslaw07_is.f k bt209.1 bt209.2 (([1, 3] : List Int))).bind fun t254 => (if t254 = true then ((toruslaw07_is.f k bt216.1 bt216.2.2 (([1, 2, 3] : List Int))).bind fun t258 => (if t258 = true then (if bt216.2.1 = (-1) then ((simplex_Cmp.f k (([5] : List Int)) (([0, 1] : List Int))).bind fun t265 => (some (t265 == (-1)))) else (none)) else (none))) else (none))) else (none)) else (none)) else (none))) else (none))) else (none)) else (none))) else (none)))))))
theorem toruslaw07_awake.mono : ∀ k, LeO (toruslaw07_awake.f k ) (toruslaw07_awake.f (k + 1) ) := by
  intro  k
  unfold toruslaw07_awake.f
  repeat' first
      | (with_reducible exact simplex_Cmp.mono _ _ _)
      | (with_reducible exact simplex_Faces.mono _ _)
      | (with_reducible exact simplex_Facets.mono _ _)
      | (with_reducible exact simplex_Join.mono _ _ _)
      | (with_reducible exact simplex_Number.mono _ _)
      | (with_reducible exact simplex_Numbered.mono _ _ _)
      | (with_reducible exact simplex_Sort.mono _ _)
      | (with_reducible exact toruslaw07_is.mono _ _ _ _)
      | (with_reducible exact torusref07_Same.mono _ _ _)
      | (with_reducible exact LeO.refl _)
      | (with_reducible exact LeO.none _)
      | (with_reducible refine LeO.ite ?_ ?_)
      | (with_reducible refine LeO.bind ?_ (fun _ => ?_))
      | exact simplex_Cmp.mono _ _ _
      | exact simplex_Faces.mono _ _
      | exact simplex_Facets.mono _ _
      | exact simplex_Join.mono _ _ _
      | exact simplex_Number.mono _ _
      | exact simplex_Numbered.mono _ _ _
      | exact simplex_Sort.mono _ _
      | exact toruslaw07_is.mono _ _ _ _
      | exact torusref07_Same.mono _ _ _
      | exact LeO.none _
      | refine LeO.ite ?_ ?_
      | refine LeO.bind ?_ (fun _ => ?_)
set_option maxHeartbeats 8000000 in
set_option maxRecDepth 100000 in
theorem toruslaw07_awake.calls (k : Nat)  (r : Bool) (w : World) (hg : Aside0 (Glob w)) (h : toruslaw07_awake.f k  = some r) :
    Calls Tryd.prog 12 #[] w fun e w' => e = .returned (.bool r) ∧ Below w.heap.size w w' := by
  have HB := Aside0.mk (Below.refl w.heap.size w)
  have H : ((simplex_Facets.f k (([2, 5, 7] : List Int))).bind fun bt183 => ((simplex_Faces.f k (([2, 5] : List Int))).bind fun bt190 => ((simplex_Join.f k (([1, 3] : List Int)) (([2] : List Int))).bind fun bt200 => ((simplex_Number.f k (([0, 3] : List Int))).bind fun bt207 => ((simplex_Numbered.f k 1 4).bind fun bt209 => ((simplex_Sort.f k (([1, 3, 2] : List Int))).bind fun bt216 => (if bt183.2 = 0 then ((torusref07_Same.f k bt183.1 (([(([5, 7] : List Int)), (([2, 7] : List Int)), (([2, 5] : List Int))] : List (List Int)))).bind fun t233 => (if t233 = true then (if bt190.2 = 0 then ((torusref07_Same.f k bt190.1 (([(([2] : List Int)), (([5] : List Int)), (([2, 5] : List Int))] : List (List Int)))).bind fun t246 => (if t246 = true then ((toruslaw07_is.f k bt200.1 bt200.2 (([1, 2, 3] : List Int))).bind fun t250 => (if t250 = true then (if bt207.1 = 3 then (if bt207.2 = 0 then ((toruslaw07_is.f k bt209.1 bt209.2 (([1, 3] : List Int))).bind fun t254 => (if t254 = true then ((toruslaw07_is.f k bt216.1 bt216.2.2 (([1, 2, 3] : List Int))).bind fun t258 => (if t258 = true then (if bt216.2.1 = (-1) then ((simplex_Cmp.f k (([5] : List Int)) (([0, 1] : List Int))).bind fun t265 => (some (t265 == (-1)))) else (none)) else (none))) else (none))) else (none)) else (none)) else (none))) else (none))) else (none)) else (none))) else (none)))))))) = some r := h
  clear h
  obtain ⟨y180, hy180⟩ : ∃ y_ : List Int, y_ = (([2, 5, 7] : List Int)) := ⟨_, rfl⟩
  replace H : ((simplex_Facets.f k y180).bind fun bt183 => ((simplex_Faces.f k (([2, 5] : List Int))).bind fun bt190 => ((simplex_Join.f k (([1, 3] : List Int)) (([2] : List Int))).bind fun bt200 => ((simplex_Number.f k (([0, 3] : List Int))).bind fun bt207 => ((simplex_Numbered.f k 1 4).bind fun bt209 => ((simplex_Sort.f k (([1, 3, 2] : List Int))).bind fun bt216 => (if bt183.2 = 0 then ((torusref07_Same.f k bt183.1 (([(([5, 7] : List Int)), (([2, 7] : List Int)), (([2, 5] : List Int))] : List (List Int)))).bind fun t233 => (if t233 = true then (if bt190.2 = 0 then ((torusref07_Same.f k bt190.1 (([(([2] : List Int)), (([5] : List Int)), (([2, 5] : List Int))] : List (List Int)))).bind fun t246 => (if t246 = true then ((toruslaw07_is.f k bt200.1 bt200.2 (([1, 2, 3] : List Int))).bind fun t250 => (if t250 = true then (if bt207.1 = 3 then (if bt207.2 = 0 then ((toruslaw07_is.f k bt209.1 bt209.2 (([1, 3] : List Int))).bind fun t254 => (if t254 = true then ((toruslaw07_is.f k bt216.1 bt216.2.2 (([1, 2, 3] : List Int))).bind fun t258 => (if t258 = true then (if bt216.2.1 = (-1) then ((simplex_Cmp.f k (([5] : List Int)) (([0, 1] : List Int))).bind fun t265 => (some (t265 == (-1)))) else (none)) else (none))) else (none))) else (none)) else (none)) else (none))) else (none))) else (none)) else (none))) else (none)))))))) = some r := by first | (rw [hy180]; with_reducible exact H) | (have H2_ := (Option.bind_some _ _).symm.trans H; rw [hy180]; with_reducible exact H2_) | (have H2_ := (Option.bind_some _ _).symm.trans H; with_reducible exact H2_) | with_reducible exact H | (rw [hy180]; exact H) | exact H
  have Ny180 := Aside0.mk hy180
  clear hy180
  replace H := Option.bind_eq_some_iff.mp H
  obtain ⟨⟨t183, t184⟩, A10, H⟩ := H
  replace H : ((simplex_Faces.f k (([2, 5] : List Int))).bind fun bt190 => ((simplex_Join.f k (([1, 3] : List Int)) (([2] : List Int))).bind fun bt200 => ((simplex_Number.f k (([0, 3] : List Int))).bind fun bt207 => ((simplex_Numbered.f k 1 4).bind fun bt209 => ((simplex_Sort.f k (([1, 3, 2] : List Int))).bind fun bt216 => (if t184 = 0 then ((torusref07_Same.f k t183 (([(([5, 7] : List Int)), (([2, 7] : List Int)), (([2, 5] : List Int))] : List (List Int)))).bind fun t233 => (if t233 = true then (if bt190.2 = 0 then ((torusref07_Same.f k bt190.1 (([(([2] : List Int)), (([5] : List Int)), (([2, 5] : List Int))] : List (List Int)))).bind fun t246 => (if t246 = true then ((toruslaw07_is.f k bt200.1 bt200.2 (([1, 2, 3] : List Int))).bind fun t250 => (if t250 = true then (if bt207.1 = 3 then (if bt207.2 = 0 then ((toruslaw07_is.f k bt209.1 bt209.2 (([1, 3] : List Int))).bind fun t254 => (if t254 = true then ((toruslaw07_is.f k bt216.1 bt216.2.2 (([1, 2, 3] : List Int))).bind fun t258 => (if t258 = true then (if bt216.2.1 = (-1) then ((simplex_Cmp.f k (([5] : List Int)) (([0, 1] : List Int))).bind fun t265 => (some (t265 == (-1)))) else (none)) else (none))) else (none))) else (none)) else (none)) else (none))) else (none))) else (none)) else (none))) else (none))))))) = some r := H
  have A1 := Aside0.mk A10
  clear A10
  obtain ⟨y187, hy187⟩ : ∃ y_ : List Int, y_ = (([2, 5] : List Int)) := ⟨_, rfl⟩
  replace H : ((simplex_Faces.f k y187).bind fun bt190 => ((simplex_Join.f k (([1, 3] : List Int)) (([2] : List Int))).bind fun bt200 => ((simplex_Number.f k (([0, 3] : List Int))).bind fun bt207 => ((simplex_Numbered.f k 1 4).bind fun bt209 => ((simplex_Sort.f k (([1, 3, 2] : List Int))).bind fun bt216 => (if t184 = 0 then ((torusref07_Same.f k t183 (([(([5, 7] : List Int)), (([2, 7] : List Int)), (([2, 5] : List Int))] : List (List Int)))).bind fun t233 => (if t233 = true then (if bt190.2 = 0 then ((torusref07_Same.f k bt190.1 (([(([2] : List Int)), (([5] : List Int)), (([2, 5] : List Int))] : List (List Int)))).bind fun t246 => (if t246 = true then ((toruslaw07_is.f k bt200.1 bt200.2 (([1, 2, 3] : List Int))).bind fun t250 => (if t250 = true then (if bt207.1 = 3 then (if bt207.2 = 0 then ((toruslaw07_is.f k bt209.1 bt209.2 (([1, 3] : List Int))).bind fun t254 => (if t254 = true then ((toruslaw07_is.f k bt216.1 bt216.2.2 (([1, 2, 3] : List Int))).bind fun t258 => (if t258 = true then (if bt216.2.1 = (-1) then ((simplex_Cmp.f k (([5] : List Int)) (([0, 1] : List Int))).bind fun t265 => (some (t265 == (-1)))) else (none)) else (none))) else (none))) else (none)) else (none)) else (none))) else (none))) else (none)) else (none))) else (none))))))) = some r := by first | (rw [hy187]; with_reducible exact H) | (have H2_ := (Option.bind_some _ _).symm.trans H; rw [hy187]; with_reducible exact H2_) | (have H2_ := (Option.bind_some _ _).symm.trans H; with_reducible exact H2_) | with_reducible exact H | (rw [hy187]; exact H) | exact H
  have Ny187 := Aside0.mk hy187
  clear hy187
  replace H := Option.bind_eq_some_iff.mp H
  obtain ⟨⟨t190, t191⟩, A20, H⟩ := H
  replace H : ((simplex_Join.f k (([1, 3] : List Int)) (([2] : List Int))).bind fun bt200 => ((simplex_Number.f k (([0, 3] : List Int))).bind fun bt207 => ((simplex_Numbered.f k 1 4).bind fun bt209 => ((simplex_Sort.f k (([1, 3, 2] : List Int))).bind fun bt216 => (if t184 = 0 then ((torusref07_Same.f k t183 (([(([5, 7] : List Int)), (([2, 7] : List Int)), (([2, 5] : List Int))] : List (List Int)))).bind fun t233 => (if t233 = true then (if t191 = 0 then ((torusref07_Same.f k t190 (([(([2] : List Int)), (([5] : List Int)), (([2, 5] : List Int))] : List (List Int)))).bind fun t246 => (if t246 = true then ((toruslaw07_is.f k bt200.1 bt200.2 (([1, 2, 3] : List Int))).bind fun t250 => (if t250 = true then (if bt207.1 = 3 then (if bt207.2 = 0 then ((toruslaw07_is.f k bt209.1 bt209.2 (([1, 3] : List Int))).bind fun t254 => (if t254 = true then ((toruslaw07_is.f k bt216.1 bt216.2.2 (([1, 2, 3] : List Int))).bind fun t258 => (if t258 = true then (if bt216.2.1 = (-1) then ((simplex_Cmp.f k (([5] : List Int)) (([0, 1] : List Int))).bind fun t265 => (some (t265 == (-1)))) else (none)) else (none))) else (none))) else (none)) else (none)) else (none))) else (none))) else (none)) else (none))) else (none)))))) = some r := H
  have A2 := Aside0.mk A20
  clear A20
  obtain ⟨y194, hy194⟩ : ∃ y_ : List Int, y_ = (([1, 3] : List Int)) := ⟨_, rfl⟩
  replace H : ((simplex_Join.f k y194 (([2] : List Int))).bind fun bt200 => ((simplex_Number.f k (([0, 3] : List Int))).bind fun bt207 => ((simplex_Numbered.f k 1 4).bind fun bt209 => ((simplex_Sort.f k (([1, 3, 2] : List Int))).bind fun bt216 => (if t184 = 0 then ((torusref07_Same.f k t183 (([(([5, 7] : List Int)), (([2, 7] : List Int)), (([2, 5] : List Int))] : List (List Int)))).bind fun t233 => (if t233 = true then (if t191 = 0 then ((torusref07_Same.f k t190 (([(([2] : List Int)), (([5] : List Int)), (([2, 5] : List Int))] : List (List Int)))).bind fun t246 => (if t246 = true then ((toruslaw07_is.f k bt200.1 bt200.2 (([1, 2, 3] : List Int))).bind fun t250 => (if t250 = true then (if bt207.1 = 3 then (if bt207.2 = 0 then ((toruslaw07_is.f k bt209.1 bt209.2 (([1, 3] : List Int))).bind fun t254 => (if t254 = true then ((toruslaw07_is.f k bt216.1 bt216.2.2 (([1, 2, 3] : List Int))).bind fun t258 => (if t258 = true then (if bt216.2.1 = (-1) then ((simplex_Cmp.f k (([5] : List Int)) (([0, 1] : List Int))).bind fun t265 => (some (t265 == (-1)))) else (none)) else (none))) else (none))) else (none)) else (none)) else (none))) else (none))) else (none)) else (none))) else (none)))))) = some r := by first | (rw [hy194]; with_reducible exact H) | (have H2_ := (Option.bind_some _ _).symm.trans H; rw [hy194]; with_reducible exact H2_) | (have H2_ := (Option.bind_some _ _).symm.trans H; with_reducible exact H2_) | with_reducible exact H | (rw [hy194]; exact H) | exact H
  have Ny194 := Aside0.mk hy194
  clear hy194
  obtain ⟨y197, hy197⟩ : ∃ y_ : List Int, y_ = (([2] : List Int)) := ⟨_, rfl⟩
  replace H : ((simplex_Join.f k y194 y197).bind fun bt200 => ((simplex_Number.f k (([0, 3] : List Int))).bind fun bt207 => ((simplex_Numbered.f k 1 4).bind fun bt209 => ((simplex_Sort.f k (([1, 3, 2] : List Int))).bind fun bt216 => (if t184 = 0 then ((torusref07_Same.f k t183 (([(([5, 7] : List Int)), (([2, 7] : List Int)), (([2, 5] : List Int))] : List (List Int)))).bind fun t233 => (if t233 = true then (if t191 = 0 then ((torusref07_Same.f k t190 (([(([2] : List Int)), (([5] : List Int)), (([2, 5] : List Int))] : List (List Int)))).bind fun t246 => (if t246 = true then ((toruslaw07_is.f k bt200.1 bt200.2 (([1, 2, 3] : List Int))).bind fun t250 => (if t250 = true then (if bt207.1 = 3 then (if bt207.2 = 0 then ((toruslaw07_is.f k bt209.1 bt209.2 (([1, 3] : List Int))).bind fun t254 => (if t254 = true then ((toruslaw07_is.f k bt216.1 bt216.2.2 (([1, 2, 3] : List Int))).bind fun t258 => (if t258 = true then (if bt216.2.1 = (-1) then ((simplex_Cmp.f k (([5] : List Int)) (([0, 1] : List Int))).bind fun t265 => (some (t265 == (-1)))) else (none)) else (none))) else (none))) else (none)) else (none)) else (none))) else (none))) else (none)) else (none))) else (none)))))) = some r := by first | (rw [hy197]; with_reducible exact H) | (have H2_ := (Option.bind_some _ _).symm.trans H; rw [hy197]; with_reducible exact H2_) | (have H2_ := (Option.bind_some _ _).symm.trans H; with_reducible exact H2_) | with_reducible exact H | (rw [hy197]; exact H) | exact H
  have Ny197 := Aside0.mk hy197
  clear hy197
  replace H := Option.bind_eq_some_iff.mp H
  obtain ⟨⟨t200, t203⟩, A30, H⟩ := H
  replace H : ((simplex_Number.f k (([0, 3] : List Int))).bind fun bt207 => ((simplex_Numbered.f k 1 4).bind fun bt209 => ((simplex_Sort.f k (([1, 3, 2] : List Int))).bind fun bt216 => (if t184 = 0 then ((torusref07_Same.f k t183 (([(([5, 7] : List Int)), (([2, 7] : List Int)), (([2, 5] : List Int))] : List (List Int)))).bind fun t233 => (if t233 = true then (if t191 = 0 then ((torusref07_Same.f k t190 (([(([2] : List Int)), (([5] : List Int)), (([2, 5] : List Int))] : List (List Int)))).bind fun t246 => (if t246 = true then ((toruslaw07_is.f k t200 t203 (([1, 2, 3] : List Int))).bind fun t250 => (if t250 = true then (if bt207.1 = 3 then (if bt207.2 = 0 then ((toruslaw07_is.f k bt209.1 bt209.2 (([1, 3] : List Int))).bind fun t254 => (if t254 = true then ((toruslaw07_is.f k bt216.1 bt216.2.2 (([1, 2, 3] : List Int))).bind fun t258 => (if t258 = true then (if bt216.2.1 = (-1) then ((simplex_Cmp.f k (([5] : List Int)) (([0, 1] : List Int))).bind fun t265 => (some (t265 == (-1)))) else (none)) else (none))) else (none))) else (none)) else (none)) else (none))) else (none))) else (none)) else (none))) else (none))))) = some r := H
  have A3 := Aside0.mk A30
  clear A30
  obtain ⟨y204, hy204⟩ : ∃ y_ : List Int, y_ = (([0, 3] : List Int)) := ⟨_, rfl⟩
  replace H : ((simplex_Number.f k y204).bind fun bt207 => ((simplex_Numbered.f k 1 4).bind fun bt209 => ((simplex_Sort.f k (([1, 3, 2] : List Int))).bind fun bt216 => (if t184 = 0 then ((torusref07_Same.f k t183 (([(([5, 7] : List Int)), (([2, 7] : List Int)), (([2, 5] : List Int))] : List (List Int)))).bind fun t233 => (if t233 = true then (if t191 = 0 then ((torusref07_Same.f k t190 (([(([2] : List Int)), (([5] : List Int)), (([2, 5] : List Int))] : List (List Int)))).bind fun t246 => (if t246 = true then ((toruslaw07_is.f k t200 t203 (([1, 2, 3] : List Int))).bind fun t250 => (if t250 = true then (if bt207.1 = 3 then (if bt207.2 = 0 then ((toruslaw07_is.f k bt209.1 bt209.2 (([1, 3] : List Int))).bind fun t254 => (if t254 = true then ((toruslaw07_is.f k bt216.1 bt216.2.2 (([1, 2, 3] : List Int))).bind fun t258 => (if t258 = true then (if bt216.2.1 = (-1) then ((simplex_Cmp.f k (([5] : List Int)) (([0, 1] : List Int))).bind fun t265 => (some (t265 == (-1)))) else (none)) else (none))) else (none))) else (none)) else (none)) else (none))) else (none))) else (none)) else (none))) else (none))))) = some r := by first | (rw [hy204]; with_reducible exact H) | (have H2_ := (Option.bind_some _ _).symm.trans H; rw [hy204]; with_reducible exact H2_) | (have H2_ := (Option.bind_some _ _).symm.trans H; with_reducible exact H2_) | with_reducible exact H | (rw [hy204]; exact H) | exact H
  have Ny204 := Aside0.mk hy204
  clear hy204
  replace H := Option.bind_eq_some_iff.mp H
  obtain ⟨⟨t207, t208⟩, A40, H⟩ := H
  replace H : ((simplex_Numbered.f k 1 4).bind fun bt209 => ((simplex_Sort.f k (([1, 3, 2] : List Int))).bind fun bt216 => (if t184 = 0 then ((torusref07_Same.f k t183 (([(([5, 7] : List Int)), (([2, 7] : List Int)), (([2, 5] : List Int))] : List (List Int)))).bind fun t233 => (if t233 = true then (if t191 = 0 then ((torusref07_Same.f k t190 (([(([2] : List Int)), (([5] : List Int)), (([2, 5] : List Int))] : List (List Int)))).bind fun t246 => (if t246 = true then ((toruslaw07_is.f k t200 t203 (([1, 2, 3] : List Int))).bind fun t250 => (if t250 = true then (if t207 = 3 then (if t208 = 0 then ((toruslaw07_is.f k bt209.1 bt209.2 (([1, 3] : List Int))).bind fun t254 => (if t254 = true then ((toruslaw07_is.f k bt216.1 bt216.2.2 (([1, 2, 3] : List Int))).bind fun t258 => (if t258 = true then (if bt216.2.1 = (-1) then ((simplex_Cmp.f k (([5] : List Int)) (([0, 1] : List Int))).bind fun t265 => (some (t265 == (-1)))) else (none)) else (none))) else (none))) else (none)) else (none)) else (none))) else (none))) else (none)) else (none))) else (none)))) = some r := H
  have A4 := Aside0.mk A40
  clear A40
  replace H := Option.bind_eq_some_iff.mp H
  obtain ⟨⟨t209, t210⟩, A50, H⟩ := H
  replace H : ((simplex_Sort.f k (([1, 3, 2] : List Int))).bind fun bt216 => (if t184 = 0 then ((torusref07_Same.f k t183 (([(([5, 7] : List Int)), (([2, 7] : List Int)), (([2, 5] : List Int))] : List (List Int)))).bind fun t233 => (if t233 = true then (if t191 = 0 then ((torusref07_Same.f k t190 (([(([2] : List Int)), (([5] : List Int)), (([2, 5] : List Int))] : List (List Int)))).bind fun t246 => (if t246 = true then ((toruslaw07_is.f k t200 t203 (([1, 2, 3] : List Int))).bind fun t250 => (if t250 = true then (if t207 = 3 then (if t208 = 0 then ((toruslaw07_is.f k t209 t210 (([1, 3] : List Int))).bind fun t254 => (if t254 = true then ((toruslaw07_is.f k bt216.1 bt216.2.2 (([1, 2, 3] : List Int))).bind fun t258 => (if t258 = true then (if bt216.2.1 = (-1) then ((simplex_Cmp.f k (([5] : List Int)) (([0, 1] : List Int))).bind fun t265 => (some (t265 == (-1)))) else (none)) else (none))) else (none))) else (none)) else (none)) else (none))) else (none))) else (none)) else (none))) else (none))) = some r := H
  have A5 := Aside0.mk A50
  clear A50
  obtain ⟨y213, hy213⟩ : ∃ y_ : List Int, y_ = (([1, 3, 2] : List Int)) := ⟨_, rfl⟩
  replace H : ((simplex_Sort.f k y213).bind fun bt216 => (if t184 = 0 then ((torusref07_Same.f k t183 (([(([5, 7] : List Int)), (([2, 7] : List Int)), (([2, 5] : List Int))] : List (List Int)))).bind fun t233 => (if t233 = true then (if t191 = 0 then ((torusref07_Same.f k t190 (([(([2] : List Int)), (([5] : List Int)), (([2, 5] : List Int))] : List (List Int)))).bind fun t246 => (if t246 = true then ((toruslaw07_is.f k t200 t203 (([1, 2, 3] : List Int))).bind fun t250 => (if t250 = true then (if t207 = 3 then (if t208 = 0 then ((toruslaw07_is.f k t209 t210 (([1, 3] : List Int))).bind fun t254 => (if t254 = true then ((toruslaw07_is.f k bt216.1 bt216.2.2 (([1, 2, 3] : List Int))).bind fun t258 => (if t258 = true then (if bt216.2.1 = (-1) then ((simplex_Cmp.f k (([5] : List Int)) (([0, 1] : List Int))).bind fun t265 => (some (t265 == (-1)))) else (none)) else (none))) else (none))) else (none)) else (none)) else (none))) else (none))) else (none)) else (none))) else (none))) = some r := by first | (rw [hy213]; with_reducible exact H) | (have H2_ := (Option.bind_some _ _).symm.trans H; rw [hy213]; with_reducible exact H2_) | (have H2_ := (Option.bind_some _ _).symm.trans H; with_reducible exact H2_) | with_reducible exact H | (rw [hy213]; exact H) | exact H
  have Ny213 := Aside0.mk hy213
  clear hy213
  replace H := Option.bind_eq_some_iff.mp H
  obtain ⟨⟨t216, t217, t218⟩, A60, H⟩ := H
  replace H : (if t184 = 0 then ((torusref07_Same.f k t183 (([(([5, 7] : List Int)), (([2, 7] : List Int)), (([2, 5] : List Int))] : List (List Int)))).bind fun t233 => (if t233 = true then (if t191 = 0 then ((torusref07_Same.f k t190 (([(([2] : List Int)), (([5] : List Int)), (([2, 5] : List Int))] : List (List Int)))).bind fun t246 => (if t246 = true then ((toruslaw07_is.f k t200 t203 (([1, 2, 3] : List Int))).bind fun t250 => (if t250 = true then (if t207 = 3 then (if t208 = 0 then ((toruslaw07_is.f k t209 t210 (([1, 3] : List Int))).bind fun t254 => (if t254 = true then ((toruslaw07_is.f k t216 t218 (([1, 2, 3] : List Int))).bind fun t258 => (if t258 = true then (if t217 = (-1) then ((simplex_Cmp.f k (([5] : List Int)) (([0, 1] : List Int))).bind fun t265 => (some (t265 == (-1)))) else (none)) else (none))) else (none))) else (none)) else (none)) else (none))) else (none))) else (none)) else (none))) else (none)) = some r := H
  have A6 := Aside0.mk A60
  clear A60
  by_cases c7 : t184 = 0
  · rw [if_pos c7] at H
    have c7b0 : (t184 == 0) = true := beq_iff_eq.mpr c7
    have c7b1 : (t184 != 0) = false := bne_eq_false_iff_eq.mpr c7
    clear c7
    obtain ⟨y221, hy221⟩ : ∃ y_ : List Int, y_ = (([5, 7] : List Int)) := ⟨_, rfl⟩
    replace H : ((torusref07_Same.f k t183 (([y221, (([2, 7] : List Int)), (([2, 5] : List Int))] : List (List Int)))).bind fun t233 => (if t233 = true then (if t191 = 0 then ((torusref07_Same.f k t190 (([(([2] : List Int)), (([5] : List Int)), (([2, 5] : List Int))] : List (List Int)))).bind fun t246 => (if t246 = true then ((toruslaw07_is.f k t200 t203 (([1, 2, 3] : List Int))).bind fun t250 => (if t250 = true then (if t207 = 3 then (if t208 = 0 then ((toruslaw07_is.f k t209 t210 (([1, 3] : List Int))).bind fun t254 => (if t254 = true then ((toruslaw07_is.f k t216 t218 (([1, 2, 3] : List Int))).bind fun t258 => (if t258 = true then (if t217 = (-1) then ((simplex_Cmp.f k (([5] : List Int)) (([0, 1] : List Int))).bind fun t265 => (some (t265 == (-1)))) else (none)) else (none))) else (none))) else (none)) else (none)) else (none))) else (none))) else (none)) else (none))) = some r := by first | (rw [hy221]; with_reducible exact H) | (have H2_ := (Option.bind_some _ _).symm.trans H; rw [hy221]; with_reducible exact H2_) | (have H2_ := (Option.bind_some _ _).symm.trans H; with_reducible exact H2_) | with_reducible exact H | (rw [hy221]; exact H) | exact H
    have Ny221 := Aside0.mk hy221
    clear hy221
    obtain ⟨y224, hy224⟩ : ∃ y_ : List Int, y_ = (([2, 7] : List Int)) := ⟨_, rfl⟩
    replace H : ((torusref07_Same.f k t183 (([y221, y224, (([2, 5] : List Int))] : List (List Int)))).bind fun t233 => (if t233 = true then (if t191 = 0 then ((torusref07_Same.f k t190 (([(([2] : List Int)), (([5] : List Int)), (([2, 5] : List Int))] : List (List Int)))).bind fun t246 => (if t246 = true then ((toruslaw07_is.f k t200 t203 (([1, 2, 3] : List Int))).bind fun t250 => (if t250 = true then (if t207 = 3 then (if t208 = 0 then ((toruslaw07_is.f k t209 t210 (([1, 3] : List Int))).bind fun t254 => (if t254 = true then ((toruslaw07_is.f k t216 t218 (([1, 2, 3] : List Int))).bind fun t258 => (if t258 = true then (if t217 = (-1) then ((simplex_Cmp.f k (([5] : List Int)) (([0, 1] : List Int))).bind fun t265 => (some (t265 == (-1)))) else (none)) else (none))) else (none))) else (none)) else (none)) else (none))) else (none))) else (none)) else (none))) = some r := by first | (rw [hy224]; with_reducible exact H) | (have H2_ := (Option.bind_some _ _).symm.trans H; rw [hy224]; with_reducible exact H2_) | (have H2_ := (Option.bind_some _ _).symm.trans H; with_reducible exact H2_) | with_reducible exact H | (rw [hy224]; exact H) | exact H
    have Ny224 := Aside0.mk hy224
    clear hy224
    obtain ⟨y227, hy227⟩ : ∃ y_ : List Int, y_ = (([2, 5] : List Int)) := ⟨_, rfl⟩
    replace H : ((torusref07_Same.f k t183 (([y221, y224, y227] : List (List Int)))).bind fun t233 => (if t233 = true then (if t191 = 0 then ((torusref07_Same.f k t190 (([(([2] : List Int)), (([5] : List Int)), (([2, 5] : List Int))] : List (List Int)))).bind fun t246 => (if t246 = true then ((toruslaw07_is.f k t200 t203 (([1, 2, 3] : List Int))).bind fun t250 => (if t250 = true then (if t207 = 3 then (if t208 = 0 then ((toruslaw07_is.f k t209 t210 (([1, 3] : List Int))).bind fun t254 => (if t254 = true then ((toruslaw07_is.f k t216 t218 (([1, 2, 3] : List Int))).bind fun t258 => (if t258 = true then (if t217 = (-1) then ((simplex_Cmp.f k (([5] : List Int)) (([0, 1] : List Int))).bind fun t265 => (some (t265 == (-1)))) else (none)) else (none))) else (none))) else (none)) else (none)) else (none))) else (none))) else (none)) else (none))) = some r := by first | (rw [hy227]; with_reducible exact H) | (have H2_ := (Option.bind_some _ _).symm.trans H; rw [hy227]; with_reducible exact H2_) | (have H2_ := (Option.bind_some _ _).symm.trans H; with_reducible exact H2_) | with_reducible exact H | (rw [hy227]; exact H) | exact H
    have Ny227 := Aside0.mk hy227
    clear hy227
    obtain ⟨y230, hy230⟩ : ∃ y_ : List (List Int), y_ = (([y221, y224, y227] : List (List Int))) := ⟨_, rfl⟩
    replace H : ((torusref07_Same.f k t183 y230).bind fun t233 => (if t233 = true then (if t191 = 0 then ((torusref07_Same.f k t190 (([(([2] : List Int)), (([5] : List Int)), (([2, 5] : List Int))] : List (List Int)))).bind fun t246 => (if t246 = true then ((toruslaw07_is.f k t200 t203 (([1, 2, 3] : List Int))).bind fun t250 => (if t250 = true then (if t207 = 3 then (if t208 = 0 then ((toruslaw07_is.f k t209 t210 (([1, 3] : List Int))).bind fun t254 => (if t254 = true then ((toruslaw07_is.f k t216 t218 (([1, 2, 3] : List Int))).bind fun t258 => (if t258 = true then (if t217 = (-1) then ((simplex_Cmp.f k (([5] : List Int)) (([0, 1] : List Int))).bind fun t265 => (some (t265 == (-1)))) else (none)) else (none))) else (none))) else (none)) else (none)) else (none))) else (none))) else (none)) else (none))) = some r := by first | (rw [hy230]; with_reducible exact H) | (have H2_ := (Option.bind_some _ _).symm.trans H; rw [hy230]; with_reducible exact H2_) | (have H2_ := (Option.bind_some _ _).symm.trans H; with_reducible exact H2_) | with_reducible exact H | (rw [hy230]; exact H) | exact H
    have Ny230 := Aside0.mk hy230
    clear hy230
    replace H := Option.bind_eq_some_iff.mp H
    obtain ⟨t233, A80, H⟩ := H
    replace H : (if t233 = true then (if t191 = 0 then ((torusref07_Same.f k t190 (([(([2] : List Int)), (([5] : List Int)), (([2, 5] : List Int))] : List (List Int)))).bind fun t246 => (if t246 = true then ((toruslaw07_is.f k t200 t203 (([1, 2, 3] : List Int))).bind fun t250 => (if t250 = true then (if t207 = 3 then (if t208 = 0 then ((toruslaw07_is.f k t209 t210 (([1, 3] : List Int))).bind fun t254 => (if t254 = true then ((toruslaw07_is.f k t216 t218 (([1, 2, 3] : List Int))).bind fun t258 => (if t258 = true then (if t217 = (-1) then ((simplex_Cmp.f k (([5] : List Int)) (([0, 1] : List Int))).bind fun t265 => (some (t265 == (-1)))) else (none)) else (none))) else (none))) else (none)) else (none)) else (none))) else (none))) else (none)) else (none)) = some r := H
    have A8 := Aside0.mk A80
    clear A80
    by_cases c9 : t233 = true
    · subst c9
      have H1 : (if t191 = 0 then ((torusref07_Same.f k t190 (([(([2] : List Int)), (([5] : List Int)), (([2, 5] : List Int))] : List (List Int)))).bind fun t246 => (if t246 = true then ((toruslaw07_is.f k t200 t203 (([1, 2, 3] : List Int))).bind fun t250 => (if t250 = true then (if t207 = 3 then (if t208 = 0 then ((toruslaw07_is.f k t209 t210 (([1, 3] : List Int))).bind fun t254 => (if t254 = true then ((toruslaw07_is.f k t216 t218 (([1, 2, 3] : List Int))).bind fun t258 => (if t258 = true then (if t217 = (-1) then ((simplex_Cmp.f k (([5] : List Int)) (([0, 1] : List Int))).bind fun t265 => (some (t265 == (-1)))) else (none)) else (none))) else (none))) else (none)) else (none)) else (none))) else (none))) else (none)) = some r := by rw [if_pos rfl] at H; exact H
      clear H
      have H := H1
      clear H1
      by_cases c10 : t191 = 0
      · rw [if_pos c10] at H
        have c10b0 : (t191 == 0) = true := beq_iff_eq.mpr c10
        have c10b1 : (t191 != 0) = false := bne_eq_false_iff_eq.mpr c10
        clear c10
        obtain ⟨y234, hy234⟩ : ∃ y_ : List Int, y_ = (([2] : List Int)) := ⟨_, rfl⟩
        replace H : ((torusref07_Same.f k t190 (([y234, (([5] : List Int)), (([2, 5] : List Int))] : List (List Int)))).bind fun t246 => (if t246 = true then ((toruslaw07_is.f k t200 t203 (([1, 2, 3] : List Int))).bind fun t250 => (if t250 = true then (if t207 = 3 then (if t208 = 0 then ((toruslaw07_is.f k t209 t210 (([1, 3] : List Int))).bind fun t254 => (if t254 = true then ((toruslaw07_is.f k t216 t218 (([1, 2, 3] : List Int))).bind fun t258 => (if t258 = true then (if t217 = (-1) then ((simplex_Cmp.f k (([5] : List Int)) (([0, 1] : List Int))).bind fun t265 => (some (t265 == (-1)))) else (none)) else (none))) else (none))) else (none)) else (none)) else (none))) else (none))) = some r := by first | (rw [hy234]; with_reducible exact H) | (have H2_ := (Option.bind_some _ _).symm.trans H; rw [hy234]; with_reducible exact H2_) | (have H2_ := (Option.bind_some _ _).symm.trans H; with_reducible exact H2_) | with_reducible exact H | (rw [hy234]; exact H) | exact H
        have Ny234 := Aside0.mk hy234
        clear hy234
        obtain ⟨y237, hy237⟩ : ∃ y_ : List Int, y_ = (([5] : List Int)) := ⟨_, rfl⟩
        replace H : ((torusref07_Same.f k t190 (([y234, y237, (([2, 5] : List Int))] : List (List Int)))).bind fun t246 => (if t246 = true then ((toruslaw07_is.f k t200 t203 (([1, 2, 3] : List Int))).bind fun t250 => (if t250 = true then (if t207 = 3 then (if t208 = 0 then ((toruslaw07_is.f k t209 t210 (([1, 3] : List Int))).bind fun t254 => (if t254 = true then ((toruslaw07_is.f k t216 t218 (([1, 2, 3] : List Int))).bind fun t258 => (if t258 = true then (if t217 = (-1) then ((simplex_Cmp.f k (([5] : List Int)) (([0, 1] : List Int))).bind fun t265 => (some (t265 == (-1)))) else (none)) else (none))) else (none))) else (none)) else (none)) else (none))) else (none))) = some r := by first | (rw [hy237]; with_reducible exact H) | (have H2_ := (Option.bind_some _ _).symm.trans H; rw [hy237]; with_reducible exact H2_) | (have H2_ := (Option.bind_some _ _).symm.trans H; with_reducible exact H2_) | with_reducible exact H | (rw [hy237]; exact H) | exact H
        have Ny237 := Aside0.mk hy237
        clear hy237
        obtain ⟨y240, hy240⟩ : ∃ y_ : List Int, y_ = (([2, 5] : List Int)) := ⟨_, rfl⟩
        replace H : ((torusref07_Same.f k t190 (([y234, y237, y240] : List (List Int)))).bind fun t246 => (if t246 = true then ((toruslaw07_is.f k t200 t203 (([1, 2, 3] : List Int))).bind fun t250 => (if t250 = true then (if t207 = 3 then (if t208 = 0 then ((toruslaw07_is.f k t209 t210 (([1, 3] : List Int))).bind fun t254 => (if t254 = true then ((toruslaw07_is.f k t216 t218 (([1, 2, 3] : List Int))).bind fun t258 => (if t258 = true then (if t217 = (-1) then ((simplex_Cmp.f k (([5] : List Int)) (([0, 1] : List Int))).bind fun t265 => (some (t265 == (-1)))) else (none)) else (none))) else (none))) else (none)) else (none)) else (none))) else (none))) = some r := by first | (rw [hy240]; with_reducible exact H) | (have H2_ := (Option.bind_some _ _).symm.trans H; rw [hy240]; with_reducible exact H2_) | (have H2_ := (Option.bind_some _ _).symm.trans H; with_reducible exact H2_) | with_reducible exact H | (rw [hy240]; exact H) | exact H
        have Ny240 := Aside0.mk hy240
        clear hy240
        obtain ⟨y243, hy243⟩ : ∃ y_ : List (List Int), y_ = (([y234, y237, y240] : List (List Int))) := ⟨_, rfl⟩
        replace H : ((torusref07_Same.f k t190 y243).bind fun t246 => (if t246 = true then ((toruslaw07_is.f k t200 t203 (([1, 2, 3] : List Int))).bind fun t250 => (if t250 = true then (if t207 = 3 then (if t208 = 0 then ((toruslaw07_is.f k t209 t210 (([1, 3] : List Int))).bind fun t254 => (if t254 = true then ((toruslaw07_is.f k t216 t218 (([1, 2, 3] : List Int))).bind fun t258 => (if t258 = true then (if t217 = (-1) then ((simplex_Cmp.f k (([5] : List Int)) (([0, 1] : List Int))).bind fun t265 => (some (t265 == (-1)))) else (none)) else (none))) else (none))) else (none)) else (none)) else (none))) else (none))) = some r := by first | (rw [hy243]; with_reducible exact H) | (have H2_ := (Option.bind_some _ _).symm.trans H; rw [hy243]; with_reducible exact H2_) | (have H2_ := (Option.bind_some _ _).symm.trans H; with_reducible exact H2_) | with_reducible exact H | (rw [hy243]; exact H) | exact H
        have Ny243 := Aside0.mk hy243
        clear hy243
        replace H := Option.bind_eq_some_iff.mp H
        obtain ⟨t246, A110, H⟩ := H
        replace H : (if t246 = true then ((toruslaw07_is.f k t200 t203 (([1, 2, 3] : List Int))).bind fun t250 => (if t250 = true then (if t207 = 3 then (if t208 = 0 then ((toruslaw07_is.f k t209 t210 (([1, 3] : List Int))).bind fun t254 => (if t254 = true then ((toruslaw07_is.f k t216 t218 (([1, 2, 3] : List Int))).bind fun t258 => (if t258 = true then (if t217 = (-1) then ((simplex_Cmp.f k (([5] : List Int)) (([0, 1] : List Int))).bind fun t265 => (some (t265 == (-1)))) else (none)) else (none))) else (none))) else (none)) else (none)) else (none))) else (none)) = some r := H
        have A11 := Aside0.mk A110
        clear A110
        by_cases c12 : t246 = true
        · subst c12
          have H1 : ((toruslaw07_is.f k t200 t203 (([1, 2, 3] : List Int))).bind fun t250 => (if t250 = true then (if t207 = 3 then (if t208 = 0 then ((toruslaw07_is.f k t209 t210 (([1, 3] : List Int))).bind fun t254 => (if t254 = true then ((toruslaw07_is.f k t216 t218 (([1, 2, 3] : List Int))).bind fun t258 => (if t258 = true then (if t217 = (-1) then ((simplex_Cmp.f k (([5] : List Int)) (([0, 1] : List Int))).bind fun t265 => (some (t265 == (-1)))) else (none)) else (none))) else (none))) else (none)) else (none)) else (none))) = some r := by rw [if_pos rfl] at H; exact H
          clear H
          have H := H1
          clear H1
          obtain ⟨y247, hy247⟩ : ∃ y_ : List Int, y_ = (([1, 2, 3] : List Int)) := ⟨_, rfl⟩
          replace H : ((toruslaw07_is.f k t200 t203 y247).bind fun t250 => (if t250 = true then (if t207 = 3 then (if t208 = 0 then ((toruslaw07_is.f k t209 t210 (([1, 3] : List Int))).bind fun t254 => (if t254 = true then ((toruslaw07_is.f k t216 t218 (([1, 2, 3] : List Int))).bind fun t258 => (if t258 = true then (if t217 = (-1) then ((simplex_Cmp.f k (([5] : List Int)) (([0, 1] : List Int))).bind fun t265 => (some (t265 == (-1)))) else (none)) else (none))) else (none))) else (none)) else (none)) else (none))) = some r := by first | (rw [hy247]; with_reducible exact H) | (have H2_ := (Option.bind_some _ _).symm.trans H; rw [hy247]; with_reducible exact H2_) | (have H2_ := (Option.bind_some _ _).symm.trans H; with_reducible exact H2_) | with_reducible exact H | (rw [hy247]; exact H) | exact H
          have Ny247 := Aside0.mk hy247
          clear hy247
          replace H := Option.bind_eq_some_iff.mp H
          obtain ⟨t250, A130, H⟩ := H
          replace H : (if t250 = true then (if t207 = 3 then (if t208 = 0 then ((toruslaw07_is.f k t209 t210 (([1, 3] : List Int))).bind fun t254 => (if t254 = true then ((toruslaw07_is.f k t216 t218 (([1, 2, 3] : List Int))).bind fun t258 => (if t258 = true then (if t217 = (-1) then ((simplex_Cmp.f k (([5] : List Int)) (([0, 1] : List Int))).bind fun t265 => (some (t265 == (-1)))) else (none)) else (none))) else (none))) else (none)) else (none)) else (none)) = some r := H
          have A13 := Aside0.mk A130
          clear A130
          by_cases c14 : t250 = true
          · subst c14
            have H1 : (if t207 = 3 then (if t208 = 0 then ((toruslaw07_is.f k t209 t210 (([1, 3] : List Int))).bind fun t254 => (if t254 = true then ((toruslaw07_is.f k t216 t218 (([1, 2, 3] : List Int))).bind fun t258 => (if t258 = true then (if t217 = (-1) then ((simplex_Cmp.f k (([5] : List Int)) (([0, 1] : List Int))).bind fun t265 => (some (t265 == (-1)))) else (none)) else (none))) else (none))) else (none)) else (none)) = some r := by rw [if_pos rfl] at H; exact H
            clear H
            have H := H1
            clear H1
            by_cases c15 : t207 = 3
            · rw [if_pos c15] at H
              have c15b0 : (t207 == 3) = true := beq_iff_eq.mpr c15
              have c15b1 : (t207 != 3) = false := bne_eq_false_iff_eq.mpr c15
              clear c15
              by_cases c16 : t208 = 0
              · rw [if_pos c16] at H
                have c16b0 : (t208 == 0) = true := beq_iff_eq.mpr c16
                have c16b1 : (t208 != 0) = false := bne_eq_false_iff_eq.mpr c16
                clear c16
                obtain ⟨y251, hy251⟩ : ∃ y_ : List Int, y_ = (([1, 3] : List Int)) := ⟨_, rfl⟩
                replace H : ((toruslaw07_is.f k t209 t210 y251).bind fun t254 => (if t254 = true then ((toruslaw07_is.f k t216 t218 (([1, 2, 3] : List Int))).bind fun t258 => (if t258 = true then (if t217 = (-1) then ((simplex_Cmp.f k (([5] : List Int)) (([0, 1] : List Int))).bind fun t265 => (some (t265 == (-1)))) else (none)) else (none))) else (none))) = some r := by first | (rw [hy251]; with_reducible exact H) | (have H2_ := (Option.bind_some _ _).symm.trans H; rw [hy251]; with_reducible exact H2_) | (have H2_ := (Option.bind_some _ _).symm.trans H; with_reducible exact H2_) | with_reducible exact H | (rw [hy251]; exact H) | exact H
                have Ny251 := Aside0.mk hy251
                clear hy251
                replace H := Option.bind_eq_some_iff.mp H
                obtain ⟨t254, A170, H⟩ := H
                replace H : (if t254 = true then ((toruslaw07_is.f k t216 t218 (([1, 2, 3] : List Int))).bind fun t258 => (if t258 = true then (if t217 = (-1) then ((simplex_Cmp.f k (([5] : List Int)) (([0, 1] : List Int))).bind fun t265 => (some (t265 == (-1)))) else (none)) else (none))) else (none)) = some r := H
                have A17 := Aside0.mk A170
                clear A170
                by_cases c18 : t254 = true
                · subst c18
                  have H1 : ((toruslaw07_is.f k t216 t218 (([1, 2, 3] : List Int))).bind fun t258 => (if t258 = true then (if t217 = (-1) then ((simplex_Cmp.f k (([5] : List Int)) (([0, 1] : List Int))).bind fun t265 => (some (t265 == (-1)))) else (none)) else (none))) = some r := by rw [if_pos rfl] at H; exact H
                  clear H
                  have H := H1
                  clear H1
                  obtain ⟨y255, hy255⟩ : ∃ y_ : List Int, y_ = (([1, 2, 3] : List Int)) := ⟨_, rfl⟩
                  replace H : ((toruslaw07_is.f k t216 t218 y255).bind fun t258 => (if t258 = true then (if t217 = (-1) then ((simplex_Cmp.f k (([5] : List Int)) (([0, 1] : List Int))).bind fun t265 => (some (t265 == (-1)))) else (none)) else (none))) = some r := by first | (rw [hy255]; with_reducible exact H) | (have H2_ := (Option.bind_some _ _).symm.trans H; rw [hy255]; with_reducible exact H2_) | (have H2_ := (Option.bind_some _ _).symm.trans H; with_reducible exact H2_) | with_reducible exact H | (rw [hy255]; exact H) | exact H
                  have Ny255 := Aside0.mk hy255
                  clear hy255
                  replace H := Option.bind_eq_some_iff.mp H
                  obtain ⟨t258, A190, H⟩ := H
                  replace H : (if t258 = true then (if t217 = (-1) then ((simplex_Cmp.f k (([5] : List Int)) (([0, 1] : List Int))).bind fun t265 => (some (t265 == (-1)))) else (none)) else (none)) = some r := H
                  have A19 := Aside0.mk A190
                  clear A190
                  by_cases c20 : t258 = true
                  · subst c20
                    have H1 : (if t217 = (-1) then ((simplex_Cmp.f k (([5] : List Int)) (([0, 1] : List Int))).bind fun t265 => (some (t265 == (-1)))) else (none)) = some r := by rw [if_pos rfl] at H; exact H
                    clear H
                    have H := H1
                    clear H1
                    by_cases c21 : t217 = (-1)
                    · rw [if_pos c21] at H
                      have c21b0 : (t217 == (-1)) = true := beq_iff_eq.mpr c21
                      have c21b1 : (t217 != (-1)) = false := bne_eq_false_iff_eq.mpr c21
                      clear c21
                      obtain ⟨y259, hy259⟩ : ∃ y_ : List Int, y_ = (([5] : List Int)) := ⟨_, rfl⟩
                      replace H : ((simplex_Cmp.f k y259 (([0, 1] : List Int))).bind fun t265 => (some (t265 == (-1)))) = some r := by first | (rw [hy259]; with_reducible exact H) | (have H2_ := (Option.bind_some _ _).symm.trans H; rw [hy259]; with_reducible exact H2_) | (have H2_ := (Option.bind_some _ _).symm.trans H; with_reducible exact H2_) | with_reducible exact H | (rw [hy259]; exact H) | exact H
                      have Ny259 := Aside0.mk hy259
                      clear hy259
                      obtain ⟨y262, hy262⟩ : ∃ y_ : List Int, y_ = (([0, 1] : List Int)) := ⟨_, rfl⟩
                      replace H : ((simplex_Cmp.f k y259 y262).bind fun t265 => (some (t265 == (-1)))) = some r := by first | (rw [hy262]; with_reducible exact H) | (have H2_ := (Option.bind_some _ _).symm.trans H; rw [hy262]; with_reducible exact H2_) | (have H2_ := (Option.bind_some _ _).symm.trans H; with_reducible exact H2_) | with_reducible exact H | (rw [hy262]; exact H) | exact H
                      have Ny262 := Aside0.mk hy262
                      clear hy262
                      replace H := Option.bind_eq_some_iff.mp H
                      obtain ⟨t265, A220, H⟩ := H
                      replace H : (some (t265 == (-1))) = some r := H
                      have A22 := Aside0.mk A220
                      clear A220
                      obtain rfl := Option.some.inj H
                      go_enter Tryd.func12, Tryd.ntmps12
                      go_wp2_with (first | ((with_reducible refine gate_dst (N := 15) rfl ?_); (try (refine gate_guard (by rfl) ?_; dsimp only)); refine Kd.R_lit (Kd.int .i64) _ 3 ?hg (N := 15) ?hd (xs := ([2, 5, 7] : List Int)) (inner := [.int .i64 2, .int .i64 5, .int .i64 7]) (ok := fun _ => True) (okp := fun _ => True) ?hr ?hp (fun _ hk => hk) trivial (Below.refl _ _) (Nat.le_refl _) (by simp) ?_; (case hd => rfl); (case hg => rfl); (case hr => first | (go_simp; done) | (go_simp; rfl)); (case hp => exact (Reps.one (show Kd.M (Kd.int .i64) _ _ _ 2 [.int .i64 2] from rfl) (Reps.one (show Kd.M (Kd.int .i64) _ _ _ 5 [.int .i64 5] from rfl) (Reps.one (show Kd.M (Kd.int .i64) _ _ _ 7 [.int .i64 7] from rfl) (Reps.none _ _))))); intro v181 w23 ho24 hb hg_ hnew_; clear hg_ hnew_; (first | rw [← Ny180.out] at ho24 | (simp only [Int.reduceToNat] at ho24; rw [← Ny180.out] at ho24)); have n0_ := Aside0.mk (Kd.R_lower ho24 (below_size (by repeat (first | (with_reducible first | exact HB.out | apply below_alloc | apply pw_below_drewN | apply below_drew1) | exact HB.out)))); have n1_ := Aside0.mk (below_step (by repeat (first | (with_reducible first | exact HB.out | apply below_alloc | apply pw_below_drewN | apply below_drew1) | exact HB.out)) hb); clear HB; have HO182 := n0_; have HB := n1_; clear n0_ n1_; clear hb ho24; obtain ⟨Ao25, co25, eo25⟩ := Kd.R_slice HO182.out; subst eo25) | ((with_reducible refine gate_callee (f := 33) rfl ?_); refine goesL_ (some 16) rfl rfl Tryd.func33 (by kernel_rfl) rfl #[.slice Ao25 y180.length co25] rfl (by (try simp only [List.map_toArray, List.map_cons, List.map_nil]); first | done | rfl | (simp only [List.length_drop, List.length_take]; rfl)) ?_; (with_reducible refine (simplex_Facets.calls k _ _ y180 t183 t184 _ ?side1 ?side2 A1.out).mono ?_); (case side1 => repeat (first | exact (Kd.R_reads' HO182.out).2.2 | (with_reducible refine Kd.C_alloc ?_ _) | (with_reducible refine Kd.C_drewN ?_ _) | (with_reducible refine Kd.C_drew ?_))); (case side2 => exact (Kd.R_reads' HO182.out).2.1); rintro e w26 ⟨v185, rfl, ho0, hb⟩; refine ⟨_, rfl, ?_⟩; have n0_ := Aside0.mk (Kd.R_below (by (with_reducible repeat (first | apply Kd.R_alloc | apply Kd.R_drewN | apply Kd.R_drew)); exact HO182.out) hb); have n1_ := Aside0.mk (Kd.N_lower (Kd.N_mono (ok' := fun k_ => some k_ ≠ (.slice Ao25 y180.length co25 : Value).ownBlock) (Kd.S_N (Kd.S_bound ho0)) (fun k_ hk_ => (Kd.fresh' (Kd.R_lt (by (with_reducible repeat (first | apply Kd.R_alloc | apply Kd.R_drewN | apply Kd.R_drew)); exact HO182.out)) k_ hk_.2.1))) (below_size (by repeat (first | (with_reducible first | exact HB.out | apply below_alloc | apply pw_below_drewN | apply below_drew1) | exact HB.out)))); have n2_ := Aside0.mk (below_step (by repeat (first | (with_reducible first | exact HB.out | apply below_alloc | apply pw_below_drewN | apply below_drew1) | exact HB.out)) hb); clear HO182; clear HB; have HO182 := n0_; have HO186 := n1_; have HB := n2_; clear n0_ n1_ n2_; (try clear hb); (try clear hb2); (try clear hk); (try clear hi); (try clear ho0)) | ((with_reducible refine gate_dst (N := 20) rfl ?_); (try (refine gate_guard (by rfl) ?_; dsimp only)); refine Kd.R_lit (Kd.int .i64) _ 3 ?hg (N := 20) ?hd (xs := ([2, 5] : List Int)) (inner := [.int .i64 2, .int .i64 5]) (ok := fun _ => True) (okp := fun _ => True) ?hr ?hp (fun _ hk => hk) trivial (Below.refl _ _) (Nat.le_refl _) (by simp) ?_; (case hd => rfl); (case hg => rfl); (case hr => first | (go_simp; done) | (go_simp; rfl)); (case hp => exact (Reps.one (show Kd.M (Kd.int .i64) _ _ _ 2 [.int .i64 2] from rfl) (Reps.one (show Kd.M (Kd.int .i64) _ _ _ 5 [.int .i64 5] from rfl) (Reps.none _ _)))); intro v188 w27 ho28 hb hg_ hnew_; clear hg_ hnew_; (first | rw [← Ny187.out] at ho28 | (simp only [Int.reduceToNat] at ho28; rw [← Ny187.out] at ho28)); have n0_ := Aside0.mk (Kd.R_elder' (by (with_reducible repeat (first | apply Kd.R_alloc | apply Kd.R_drewN | apply Kd.R_drew)); exact HO182.out) (Kd.R_base ho28) hb); have n1_ := Aside0.mk (Kd.N_elder' (by (with_reducible repeat (first | apply Kd.N_alloc | apply Kd.N_drewN | apply Kd.N_drew)); exact HO186.out) (Kd.R_base ho28) hb); have n2_ := Aside0.mk (Kd.R_lower (Kd.R_new' ho28 (Kd.R_lt (by (with_reducible repeat (first | apply Kd.R_alloc | apply Kd.R_drewN | apply Kd.R_drew)); exact HO182.out))) (below_size (by repeat (first | (with_reducible first | exact HB.out | apply below_alloc | apply pw_below_drewN | apply below_drew1) | exact HB.out)))); have n3_ := Aside0.mk (below_step (by repeat (first | (with_reducible first | exact HB.out | apply below_alloc | apply pw_below_drewN | apply below_drew1) | exact HB.out)) hb); clear HO182; clear HO186; clear HB; have HO182 := n0_; have HO186 := n1_; have HO189 := n2_; have HB := n3_; clear n0_ n1_ n2_ n3_; clear hb ho28; obtain ⟨Ao29, co29, eo29⟩ := Kd.R_slice HO189.out; subst eo29) | ((with_reducible refine gate_callee (f := 34) rfl ?_); refine goesL_ (some 21) rfl rfl Tryd.func34 (by kernel_rfl) rfl #[.slice Ao29 y187.length co29] rfl (by (try simp only [List.map_toArray, List.map_cons, List.map_nil]); first | done | rfl | (simp only [List.length_drop, List.length_take]; rfl)) ?_; (with_reducible refine (simplex_Faces.calls k _ _ y187 t190 t191 _ ?side1 ?side2 A2.out).mono ?_); (case side1 => repeat (first | exact (Kd.R_reads' HO189.out).2.2 | (with_reducible refine Kd.C_alloc ?_ _) | (with_reducible refine Kd.C_drewN ?_ _) | (with_reducible refine Kd.C_drew ?_))); (case side2 => exact (Kd.R_reads' HO189.out).2.1); rintro e w30 ⟨v192, rfl, ho0, hb⟩; refine ⟨_, rfl, ?_⟩; have n0_ := Aside0.mk (Kd.R_below (by (with_reducible repeat (first | apply Kd.R_alloc | apply Kd.R_drewN | apply Kd.R_drew)); exact HO182.out) hb); have n1_ := Aside0.mk (Kd.N_elder' (by (with_reducible repeat (first | apply Kd.N_alloc | apply Kd.N_drewN | apply Kd.N_drew)); exact HO186.out) (by first | exact Kd.N_base ho0 | exact Kd.S_base ho0) hb); have n2_ := Aside0.mk (Kd.R_below (by (with_reducible repeat (first | apply Kd.R_alloc | apply Kd.R_drewN | apply Kd.R_drew)); exact HO189.out) hb); have n3_ := Aside0.mk (Kd.N_lower (Kd.N_mono (ok' := fun k_ => some k_ ≠ (.slice Ao25 y180.length co25 : Value).ownBlock ∧ some k_ ≠ (v185 : Value).ownBlock ∧ some k_ ≠ (.slice Ao29 y187.length co29 : Value).ownBlock) (Kd.S_N (Kd.S_bound ho0)) (fun k_ hk_ => ⟨(Kd.fresh' (Kd.R_lt (by (with_reducible repeat (first | apply Kd.R_alloc | apply Kd.R_drewN | apply Kd.R_drew)); exact HO182.out)) k_ hk_.2.1), (Kd.fresh' (Kd.N_lt (by (with_reducible repeat (first | apply Kd.N_alloc | apply Kd.N_drewN | apply Kd.N_drew)); exact HO186.out)) k_ hk_.2.1), (Kd.fresh' (Kd.R_lt (by (with_reducible repeat (first | apply Kd.R_alloc | apply Kd.R_drewN | apply Kd.R_drew)); exact HO189.out)) k_ hk_.2.1)⟩)) (below_size (by repeat (first | (with_reducible first | exact HB.out | apply below_alloc | apply pw_below_drewN | apply below_drew1) | exact HB.out)))); have n4_ := Aside0.mk (below_step (by repeat (first | (with_reducible first | exact HB.out | apply below_alloc | apply pw_below_drewN | apply below_drew1) | exact HB.out)) hb); clear HO182; clear HO186; clear HO189; clear HB; have HO182 := n0_; have HO186 := n1_; have HO189 := n2_; have HO193 := n3_; have HB := n4_; clear n0_ n1_ n2_ n3_ n4_; (try clear hb); (try clear hb2); (try clear hk); (try clear hi); (try clear ho0)) | ((with_reducible refine gate_dst (N := 25) rfl ?_); (try (refine gate_guard (by rfl) ?_; dsimp only)); refine Kd.R_lit (Kd.int .i64) _ 3 ?hg (N := 25) ?hd (xs := ([1, 3] : List Int)) (inner := [.int .i64 1, .int .i64 3]) (ok := fun _ => True) (okp := fun _ => True) ?hr ?hp (fun _ hk => hk) trivial (Below.refl _ _) (Nat.le_refl _) (by simp) ?_; (case hd => rfl); (case hg => rfl); (case hr => first | (go_simp; done) | (go_simp; rfl)); (case hp => exact (Reps.one (show Kd.M (Kd.int .i64) _ _ _ 1 [.int .i64 1] from rfl) (Reps.one (show Kd.M (Kd.int .i64) _ _ _ 3 [.int .i64 3] from rfl) (Reps.none _ _)))); intro v195 w31 ho32 hb hg_ hnew_; clear hg_ hnew_; (first | rw [← Ny194.out] at ho32 | (simp only [Int.reduceToNat] at ho32; rw [← Ny194.out] at ho32)); have n0_ := Aside0.mk (Kd.R_elder' (by (with_reducible repeat (first | apply Kd.R_alloc | apply Kd.R_drewN | apply Kd.R_drew)); exact HO182.out) (Kd.R_base ho32) hb); have n1_ := Aside0.mk (Kd.N_elder' (by (with_reducible repeat (first | apply Kd.N_alloc | apply Kd.N_drewN | apply Kd.N_drew)); exact HO186.out) (Kd.R_base ho32) hb); have n2_ := Aside0.mk (Kd.R_elder' (by (with_reducible repeat (first | apply Kd.R_alloc | apply Kd.R_drewN | apply Kd.R_drew)); exact HO189.out) (Kd.R_base ho32) hb); have n3_ := Aside0.mk (Kd.N_elder' (by (with_reducible repeat (first | apply Kd.N_alloc | apply Kd.N_drewN | apply Kd.N_drew)); exact HO193.out) (Kd.R_base ho32) hb); have n4_ := Aside0.mk (Kd.R_lower (Kd.R_new' (Kd.R_new' ho32 (Kd.R_lt (by (with_reducible repeat (first | apply Kd.R_alloc | apply Kd.R_drewN | apply Kd.R_drew)); exact HO182.out))) (Kd.R_lt (by (with_reducible repeat (first | apply Kd.R_alloc | apply Kd.R_drewN | apply Kd.R_drew)); exact HO189.out))) (below_size (by repeat (first | (with_reducible first | exact HB.out | apply below_alloc | apply pw_below_drewN | apply below_drew1) | exact HB.out)))); have n5_ := Aside0.mk (below_step (by repeat (first | (with_reducible first | exact HB.out | apply below_alloc | apply pw_below_drewN | apply below_drew1) | exact HB.out)) hb); clear HO182; clear HO186; clear HO189; clear HO193; clear HB; have HO182 := n0_; have HO186 := n1_; have HO189 := n2_; have HO193 := n3_; have HO196 := n4_; have HB := n5_; clear n0_ n1_ n2_ n3_ n4_ n5_; clear hb ho32) | ((with_reducible refine gate_dst (N := 26) rfl ?_); (try (refine gate_guard (by rfl) ?_; dsimp only)); refine Kd.R_lit (Kd.int .i64) _ 3 ?hg (N := 26) ?hd (xs := ([2] : List Int)) (inner := [.int .i64 2]) (ok := fun _ => True) (okp := fun _ => True) ?hr ?hp (fun _ hk => hk) trivial (Below.refl _ _) (Nat.le_refl _) (by simp) ?_; (case hd => rfl); (case hg => rfl); (case hr => first | (go_simp; done) | (go_simp; rfl)); (case hp => exact (Reps.one (show Kd.M (Kd.int .i64) _ _ _ 2 [.int .i64 2] from rfl) (Reps.none _ _))); intro v198 w33 ho34 hb hg_ hnew_; clear hg_ hnew_; (first | rw [← Ny197.out] at ho34 | (simp only [Int.reduceToNat] at ho34; rw [← Ny197.out] at ho34)); have n0_ := Aside0.mk (Kd.R_elder' (by (with_reducible repeat (first | apply Kd.R_alloc | apply Kd.R_drewN | apply Kd.R_drew)); exact HO182.out) (Kd.R_base ho34) hb); have n1_ := Aside0.mk (Kd.N_elder' (by (with_reducible repeat (first | apply Kd.N_alloc | apply Kd.N_drewN | apply Kd.N_drew)); exact HO186.out) (Kd.R_base ho34) hb); have n2_ := Aside0.mk (Kd.R_elder' (by (with_reducible repeat (first | apply Kd.R_alloc | apply Kd.R_drewN | apply Kd.R_drew)); exact HO189.out) (Kd.R_base ho34) hb); have n3_ := Aside0.mk (Kd.N_elder' (by (with_reducible repeat (first | apply Kd.N_alloc | apply Kd.N_drewN | apply Kd.N_drew)); exact HO193.out) (Kd.R_base ho34) hb); have n4_ := Aside0.mk (Kd.R_elder' (by (with_reducible repeat (first | apply Kd.R_alloc | apply Kd.R_drewN | apply Kd.R_drew)); exact HO196.out) (Kd.R_base ho34) hb); have n5_ := Aside0.mk (Kd.R_lower (Kd.R_new' (Kd.R_new' (Kd.R_new' ho34 (Kd.R_lt (by (with_reducible repeat (first | apply Kd.R_alloc | apply Kd.R_drewN | apply Kd.R_drew)); exact HO182.out))) (Kd.R_lt (by (with_reducible repeat (first | apply Kd.R_alloc | apply Kd.R_drewN | apply Kd.R_drew)); exact HO189.out))) (Kd.R_lt (by (with_reducible repeat (first | apply Kd.R_alloc | apply Kd.R_drewN | apply Kd.R_drew)); exact HO196.out))) (below_size (by repeat (first | (with_reducible first | exact HB.out | apply below_alloc | apply pw_below_drewN | apply below_drew1) | exact HB.out)))); have n6_ := Aside0.mk (below_step (by repeat (first | (with_reducible first | exact HB.out | apply below_alloc | apply pw_below_drewN | apply below_drew1) | exact HB.out)) hb); clear HO182; clear HO186; clear HO189; clear HO193; clear HO196; clear HB; have HO182 := n0_; have HO186 := n1_; have HO189 := n2_; have HO193 := n3_; have HO196 := n4_; have HO199 := n5_; have HB := n6_; clear n0_ n1_ n2_ n3_ n4_ n5_ n6_; clear hb ho34; obtain ⟨Ao35, co35, eo35⟩ := Kd.R_slice HO196.out; subst eo35; obtain ⟨Ao36, co36, eo36⟩ := Kd.R_slice HO199.out; subst eo36) | ((with_reducible refine gate_callee (f := 36) rfl ?_); refine goesL_ (some 27) rfl rfl Tryd.func36 (by kernel_rfl) rfl #[.slice Ao35 y194.length co35, .slice Ao36 y197.length co36] rfl (by (try simp only [List.map_toArray, List.map_cons, List.map_nil]); first | done | rfl | (simp only [List.length_drop, List.length_take]; rfl)) ?_; (with_reducible refine (simplex_Join.calls k (fun k_ => some k_ = (.slice Ao35 y194.length co35 : Value).ownBlock) _ _ y194 (fun k_ => some k_ = (.slice Ao36 y197.length co36 : Value).ownBlock) _ _ y197 t200 t203 _ ?side1 ?side2 A3.out).mono ?_); (case side1 => exact Kd.R_V (Kd.R_tight rfl (Kd.R_apart' (Kd.R_apart' (HO196.out) (Kd.N_typed HO186.out) (by decide)) (Kd.N_typed HO193.out) (by decide)))); (case side2 => exact Kd.R_V (Kd.R_tight rfl (Kd.R_apart' (Kd.R_apart' (HO199.out) (Kd.N_typed HO186.out) (by decide)) (Kd.N_typed HO193.out) (by decide)))); rintro e w37 ⟨v201, rfl, ho0, hb⟩; refine ⟨_, rfl, ?_⟩; have n0_ := Aside0.mk (Kd.R_elder' (by (with_reducible repeat (first | apply Kd.R_alloc | apply Kd.R_drewN | apply Kd.R_drew)); exact HO182.out) (Kd.R_base ho0) hb); have n1_ := Aside0.mk (Kd.N_elder' (by (with_reducible repeat (first | apply Kd.N_alloc | apply Kd.N_drewN | apply Kd.N_drew)); exact HO186.out) (Kd.R_base ho0) hb); have n2_ := Aside0.mk (Kd.R_elder' (by (with_reducible repeat (first | apply Kd.R_alloc | apply Kd.R_drewN | apply Kd.R_drew)); exact HO189.out) (Kd.R_base ho0) hb); have n3_ := Aside0.mk (Kd.N_elder' (by (with_reducible repeat (first | apply Kd.N_alloc | apply Kd.N_drewN | apply Kd.N_drew)); exact HO193.out) (Kd.R_base ho0) hb); have n4_ := Aside0.mk (Kd.R_elder' (by (with_reducible repeat (first | apply Kd.R_alloc | apply Kd.R_drewN | apply Kd.R_drew)); exact HO196.out) (Kd.R_base ho0) hb); have n5_ := Aside0.mk (Kd.R_elder' (by (with_reducible repeat (first | apply Kd.R_alloc | apply Kd.R_drewN | apply Kd.R_drew)); exact HO199.out) (Kd.R_base ho0) hb); have n6_ := Aside0.mk (Kd.R_lower (Kd.R_new' (Kd.R_new' (Kd.R_new' (Kd.R_new' (Kd.R_mono (ok' := fun k_ => True) ho0 (fun _ hk_ => trivial)) (Kd.R_lt (by (with_reducible repeat (first | apply Kd.R_alloc | apply Kd.R_drewN | apply Kd.R_drew)); exact HO182.out))) (Kd.R_lt (by (with_reducible repeat (first | apply Kd.R_alloc | apply Kd.R_drewN | apply Kd.R_drew)); exact HO189.out))) (Kd.R_lt (by (with_reducible repeat (first | apply Kd.R_alloc | apply Kd.R_drewN | apply Kd.R_drew)); exact HO196.out))) (Kd.R_lt (by (with_reducible repeat (first | apply Kd.R_alloc | apply Kd.R_drewN | apply Kd.R_drew)); exact HO199.out))) (below_size (by repeat (first | (with_reducible first | exact HB.out | apply below_alloc | apply pw_below_drewN | apply below_drew1) | exact HB.out)))); have n7_ := Aside0.mk (below_step (by repeat (first | (with_reducible first | exact HB.out | apply below_alloc | apply pw_below_drewN | apply below_drew1) | exact HB.out)) hb); clear HO182; clear HO186; clear HO189; clear HO193; clear HO196; clear HO199; clear HB; have HO182 := n0_; have HO186 := n1_; have HO189 := n2_; have HO193 := n3_; have HO196 := n4_; have HO199 := n5_; have HO202 := n6_; have HB := n7_; clear n0_ n1_ n2_ n3_ n4_ n5_ n6_ n7_; (try clear hb); (try clear hb2); (try clear hk); (try clear hi); (try clear ho0)) | ((with_reducible refine gate_dst (N := 31) rfl ?_); (try (refine gate_guard (by rfl) ?_; dsimp only)); refine Kd.R_lit (Kd.int .i64) _ 3 ?hg (N := 31) ?hd (xs := ([0, 3] : List Int)) (inner := [.int .i64 0, .int .i64 3]) (ok := fun _ => True) (okp := fun _ => True) ?hr ?hp (fun _ hk => hk) trivial (Below.refl _ _) (Nat.le_refl _) (by simp) ?_; (case hd => rfl); (case hg => rfl); (case hr => first | (go_simp; done) | (go_simp; rfl)); (case hp => exact (Reps.one (show Kd.M (Kd.int .i64) _ _ _ 0 [.int .i64 0] from rfl) (Reps.one (show Kd.M (Kd.int .i64) _ _ _ 3 [.int .i64 3] from rfl) (Reps.none _ _)))); intro v205 w38 ho39 hb hg_ hnew_; clear hg_ hnew_; (first | rw [← Ny204.out] at ho39 | (simp only [Int.reduceToNat] at ho39; rw [← Ny204.out] at ho39)); have n0_ := Aside0.mk (Kd.R_elder' (by (with_reducible repeat (first | apply Kd.R_alloc | apply Kd.R_drewN | apply Kd.R_drew)); exact HO182.out) (Kd.R_base ho39) hb); have n1_ := Aside0.mk (Kd.N_elder' (by (with_reducible repeat (first | apply Kd.N_alloc | apply Kd.N_drewN | apply Kd.N_drew)); exact HO186.out) (Kd.R_base ho39) hb); have n2_ := Aside0.mk (Kd.R_elder' (by (with_reducible repeat (first | apply Kd.R_alloc | apply Kd.R_drewN | apply Kd.R_drew)); exact HO189.out) (Kd.R_base ho39) hb); have n3_ := Aside0.mk (Kd.N_elder' (by (with_reducible repeat (first | apply Kd.N_alloc | apply Kd.N_drewN | apply Kd.N_drew)); exact HO193.out) (Kd.R_base ho39) hb); have n4_ := Aside0.mk (Kd.R_elder' (by (with_reducible repeat (first | apply Kd.R_alloc | apply Kd.R_drewN | apply Kd.R_drew)); exact HO196.out) (Kd.R_base ho39) hb); have n5_ := Aside0.mk (Kd.R_elder' (by (with_reducible repeat (first | apply Kd.R_alloc | apply Kd.R_drewN | apply Kd.R_drew)); exact HO199.out) (Kd.R_base ho39) hb); have n6_ := Aside0.mk (Kd.R_elder' (by (with_reducible repeat (first | apply Kd.R_alloc | apply Kd.R_drewN | apply Kd.R_drew)); exact HO202.out) (Kd.R_base ho39) hb); have n7_ := Aside0.mk (Kd.R_lower (Kd.R_new' (Kd.R_new' (Kd.R_new' (Kd.R_new' (Kd.R_new' ho39 (Kd.R_lt (by (with_reducible repeat (first | apply Kd.R_alloc | apply Kd.R_drewN | apply Kd.R_drew)); exact HO182.out))) (Kd.R_lt (by (with_reducible repeat (first | apply Kd.R_alloc | apply Kd.R_drewN | apply Kd.R_drew)); exact HO189.out))) (Kd.R_lt (by (with_reducible repeat (first | apply Kd.R_alloc | apply Kd.R_drewN | apply Kd.R_drew)); exact HO196.out))) (Kd.R_lt (by (with_reducible repeat (first | apply Kd.R_alloc | apply Kd.R_drewN | apply Kd.R_drew)); exact HO199.out))) (Kd.R_lt (by (with_reducible repeat (first | apply Kd.R_alloc | apply Kd.R_drewN | apply Kd.R_drew)); exact HO202.out))) (below_size (by repeat (first | (with_reducible first | exact HB.out | apply below_alloc | apply pw_below_drewN | apply below_drew1) | exact HB.out)))); have n8_ := Aside0.mk (below_step (by repeat (first | (with_reducible first | exact HB.out | apply below_alloc | apply pw_below_drewN | apply below_drew1) | exact HB.out)) hb); clear HO182; clear HO186; clear HO189; clear HO193; clear HO196; clear HO199; clear HO202; clear HB; have HO182 := n0_; have HO186 := n1_; have HO189 := n2_; have HO193 := n3_; have HO196 := n4_; have HO199 := n5_; have HO202 := n6_; have HO206 := n7_; have HB := n8_; clear n0_ n1_ n2_ n3_ n4_ n5_ n6_ n7_ n8_; clear hb ho39; obtain ⟨Ao40, co40, eo40⟩ := Kd.R_slice HO206.out; subst eo40) | ((with_reducible refine gate_callee (f := 13) rfl ?_); refine goesL_ (some 32) rfl rfl Tryd.func13 (by kernel_rfl) rfl #[.slice Ao40 y204.length co40] rfl (by (try simp only [List.map_toArray, List.map_cons, List.map_nil]); first | done | rfl | (simp only [List.length_drop, List.length_take]; rfl)) ?_; (with_reducible refine (simplex_Number.calls k _ _ y204 t207 t208 _ ?side1 ?side2 ?side3 A4.out).mono ?_); (case side1 => repeat (first | exact (Kd.R_reads' HO206.out).2.2 | (with_reducible refine Kd.C_alloc ?_ _) | (with_reducible refine Kd.C_drewN ?_ _) | (with_reducible refine Kd.C_drew ?_))); (case side2 => exact (Kd.R_reads' HO206.out).2.1); (case side3 => first | exact hg | exact ⟨Glob.below hg.out (by repeat (first | (with_reducible first | exact HB.out | apply below_alloc | apply pw_below_drewN | apply below_drew1) | exact HB.out))⟩); rintro e w41 ⟨rfl, hb⟩; refine ⟨_, rfl, ?_⟩; have n0_ := Aside0.mk (Kd.R_below (by (with_reducible repeat (first | apply Kd.R_alloc | apply Kd.R_drewN | apply Kd.R_drew)); exact HO182.out) hb); have n1_ := Aside0.mk (Kd.N_below (by (with_reducible repeat (first | apply Kd.N_alloc | apply Kd.N_drewN | apply Kd.N_drew)); exact HO186.out) hb); have n2_ := Aside0.mk (Kd.R_below (by (with_reducible repeat (first | apply Kd.R_alloc | apply Kd.R_drewN | apply Kd.R_drew)); exact HO189.out) hb); have n3_ := Aside0.mk (Kd.N_below (by (with_reducible repeat (first | apply Kd.N_alloc | apply Kd.N_drewN | apply Kd.N_drew)); exact HO193.out) hb); have n4_ := Aside0.mk (Kd.R_below (by (with_reducible repeat (first | apply Kd.R_alloc | apply Kd.R_drewN | apply Kd.R_drew)); exact HO196.out) hb); have n5_ := Aside0.mk (Kd.R_below (by (with_reducible repeat (first | apply Kd.R_alloc | apply Kd.R_drewN | apply Kd.R_drew)); exact HO199.out) hb); have n6_ := Aside0.mk (Kd.R_below (by (with_reducible repeat (first | apply Kd.R_alloc | apply Kd.R_drewN | apply Kd.R_drew)); exact HO202.out) hb); have n7_ := Aside0.mk (Kd.R_below (by (with_reducible repeat (first | apply Kd.R_alloc | apply Kd.R_drewN | apply Kd.R_drew)); exact HO206.out) hb); have n8_ := Aside0.mk (below_step (by repeat (first | (with_reducible first | exact HB.out | apply below_alloc | apply pw_below_drewN | apply below_drew1) | exact HB.out)) hb); clear HO182; clear HO186; clear HO189; clear HO193; clear HO196; clear HO199; clear HO202; clear HO206; clear HB; have HO182 := n0_; have HO186 := n1_; have HO189 := n2_; have HO193 := n3_; have HO196 := n4_; have HO199 := n5_; have HO202 := n6_; have HO206 := n7_; have HB := n8_; clear n0_ n1_ n2_ n3_ n4_ n5_ n6_ n7_ n8_; (try clear hb); (try clear hb2); (try clear hk); (try clear hi)) | ((with_reducible refine gate_callee (f := 15) rfl ?_); refine goesL_ (some 36) rfl rfl Tryd.func15 (by kernel_rfl) rfl #[.int .i64 1, .int .i64 4] rfl (by (try simp only [List.map_toArray, List.map_cons, List.map_nil]); first | done | rfl | (simp only [List.length_drop, List.length_take]; rfl)) ?_; (with_reducible refine (simplex_Numbered.calls k 1 4 t209 t210 _ ?side1 A5.out).mono ?_); (case side1 => first | exact hg | exact ⟨Glob.below hg.out (by repeat (first | (with_reducible first | exact HB.out | apply below_alloc | apply pw_below_drewN | apply below_drew1) | exact HB.out))⟩); rintro e w42 ⟨v211, rfl, ho0, hb⟩; refine ⟨_, rfl, ?_⟩; have n0_ := Aside0.mk (Kd.R_elder' (by (with_reducible repeat (first | apply Kd.R_alloc | apply Kd.R_drewN | apply Kd.R_drew)); exact HO182.out) (Kd.R_base ho0) hb); have n1_ := Aside0.mk (Kd.N_elder' (by (with_reducible repeat (first | apply Kd.N_alloc | apply Kd.N_drewN | apply Kd.N_drew)); exact HO186.out) (Kd.R_base ho0) hb); have n2_ := Aside0.mk (Kd.R_elder' (by (with_reducible repeat (first | apply Kd.R_alloc | apply Kd.R_drewN | apply Kd.R_drew)); exact HO189.out) (Kd.R_base ho0) hb); have n3_ := Aside0.mk (Kd.N_elder' (by (with_reducible repeat (first | apply Kd.N_alloc | apply Kd.N_drewN | apply Kd.N_drew)); exact HO193.out) (Kd.R_base ho0) hb); have n4_ := Aside0.mk (Kd.R_elder' (by (with_reducible repeat (first | apply Kd.R_alloc | apply Kd.R_drewN | apply Kd.R_drew)); exact HO196.out) (Kd.R_base ho0) hb); have n5_ := Aside0.mk (Kd.R_elder' (by (with_reducible repeat (first | apply Kd.R_alloc | apply Kd.R_drewN | apply Kd.R_drew)); exact HO199.out) (Kd.R_base ho0) hb); have n6_ := Aside0.mk (Kd.R_elder' (by (with_reducible repeat (first | apply Kd.R_alloc | apply Kd.R_drewN | apply Kd.R_drew)); exact HO202.out) (Kd.R_base ho0) hb); have n7_ := Aside0.mk (Kd.R_elder' (by (with_reducible repeat (first | apply Kd.R_alloc | apply Kd.R_drewN | apply Kd.R_drew)); exact HO206.out) (Kd.R_base ho0) hb); have n8_ := Aside0.mk (Kd.R_lower (Kd.R_new' (Kd.R_new' (Kd.R_new' (Kd.R_new' (Kd.R_new' (Kd.R_new' ho0 (Kd.R_lt (by (with_reducible repeat (first | apply Kd.R_alloc | apply Kd.R_drewN | apply Kd.R_drew)); exact HO182.out))) (Kd.R_lt (by (with_reducible repeat (first | apply Kd.R_alloc | apply Kd.R_drewN | apply Kd.R_drew)); exact HO189.out))) (Kd.R_lt (by (with_reducible repeat (first | apply Kd.R_alloc | apply Kd.R_drewN | apply Kd.R_drew)); exact HO196.out))) (Kd.R_lt (by (with_reducible repeat (first | apply Kd.R_alloc | apply Kd.R_drewN | apply Kd.R_drew)); exact HO199.out))) (Kd.R_lt (by (with_reducible repeat (first | apply Kd.R_alloc | apply Kd.R_drewN | apply Kd.R_drew)); exact HO202.out))) (Kd.R_lt (by (with_reducible repeat (first | apply Kd.R_alloc | apply Kd.R_drewN | apply Kd.R_drew)); exact HO206.out))) (below_size (by repeat (first | (with_reducible first | exact HB.out | apply below_alloc | apply pw_below_drewN | apply below_drew1) | exact HB.out)))); have n9_ := Aside0.mk (below_step (by repeat (first | (with_reducible first | exact HB.out | apply below_alloc | apply pw_below_drewN | apply below_drew1) | exact HB.out)) hb); clear HO182; clear HO186; clear HO189; clear HO193; clear HO196; clear HO199; clear HO202; clear HO206; clear HB; have HO182 := n0_; have HO186 := n1_; have HO189 := n2_; have HO193 := n3_; have HO196 := n4_; have HO199 := n5_; have HO202 := n6_; have HO206 := n7_; have HO212 := n8_; have HB := n9_; clear n0_ n1_ n2_ n3_ n4_ n5_ n6_ n7_ n8_ n9_; (try clear hb); (try clear hb2); (try clear hk); (try clear hi); (try clear ho0)) | ((with_reducible refine gate_dst (N := 40) rfl ?_); (try (refine gate_guard (by rfl) ?_; dsimp only)); refine Kd.R_lit (Kd.int .i64) _ 3 ?hg (N := 40) ?hd (xs := ([1, 3, 2] : List Int)) (inner := [.int .i64 1, .int .i64 3, .int .i64 2]) (ok := fun _ => True) (okp := fun _ => True) ?hr ?hp (fun _ hk => hk) trivial (Below.refl _ _) (Nat.le_refl _) (by simp) ?_; (case hd => rfl); (case hg => rfl); (case hr => first | (go_simp; done) | (go_simp; rfl)); (case hp => exact (Reps.one (show Kd.M (Kd.int .i64) _ _ _ 1 [.int .i64 1] from rfl) (Reps.one (show Kd.M (Kd.int .i64) _ _ _ 3 [.int .i64 3] from rfl) (Reps.one (show Kd.M (Kd.int .i64) _ _ _ 2 [.int .i64 2] from rfl) (Reps.none _ _))))); intro v214 w43 ho44 hb hg_ hnew_; clear hg_ hnew_; (first | rw [← Ny213.out] at ho44 | (simp only [Int.reduceToNat] at ho44; rw [← Ny213.out] at ho44)); have n0_ := Aside0.mk (Kd.R_elder' (by (with_reducible repeat (first | apply Kd.R_alloc | apply Kd.R_drewN | apply Kd.R_drew)); exact HO182.out) (Kd.R_base ho44) hb); have n1_ := Aside0.mk (Kd.N_elder' (by (with_reducible repeat (first | apply Kd.N_alloc | apply Kd.N_drewN | apply Kd.N_drew)); exact HO186.out) (Kd.R_base ho44) hb); have n2_ := Aside0.mk (Kd.R_elder' (by (with_reducible repeat (first | apply Kd.R_alloc | apply Kd.R_drewN | apply Kd.R_drew)); exact HO189.out) (Kd.R_base ho44) hb); have n3_ := Aside0.mk (Kd.N_elder' (by (with_reducible repeat (first | apply Kd.N_alloc | apply Kd.N_drewN | apply Kd.N_drew)); exact HO193.out) (Kd.R_base ho44) hb); have n4_ := Aside0.mk (Kd.R_elder' (by (with_reducible repeat (first | apply Kd.R_alloc | apply Kd.R_drewN | apply Kd.R_drew)); exact HO196.out) (Kd.R_base ho44) hb); have n5_ := Aside0.mk (Kd.R_elder' (by (with_reducible repeat (first | apply Kd.R_alloc | apply Kd.R_drewN | apply Kd.R_drew)); exact HO199.out) (Kd.R_base ho44) hb); have n6_ := Aside0.mk (Kd.R_elder' (by (with_reducible repeat (first | apply Kd.R_alloc | apply Kd.R_drewN | apply Kd.R_drew)); exact HO202.out) (Kd.R_base ho44) hb); have n7_ := Aside0.mk (Kd.R_elder' (by (with_reducible repeat (first | apply Kd.R_alloc | apply Kd.R_drewN | apply Kd.R_drew)); exact HO206.out) (Kd.R_base ho44) hb); have n8_ := Aside0.mk (Kd.R_elder' (by (with_reducible repeat (first | apply Kd.R_alloc | apply Kd.R_drewN | apply Kd.R_drew)); exact HO212.out) (Kd.R_base ho44) hb); have n9_ := Aside0.mk (Kd.R_lower (Kd.R_new' (Kd.R_new' (Kd.R_new' (Kd.R_new' (Kd.R_new' (Kd.R_new' (Kd.R_new' ho44 (Kd.R_lt (by (with_reducible repeat (first | apply Kd.R_alloc | apply Kd.R_drewN | apply Kd.R_drew)); exact HO182.out))) (Kd.R_lt (by (with_reducible repeat (first | apply Kd.R_alloc | apply Kd.R_drewN | apply Kd.R_drew)); exact HO189.out))) (Kd.R_lt (by (with_reducible repeat (first | apply Kd.R_alloc | apply Kd.R_drewN | apply Kd.R_drew)); exact HO196.out))) (Kd.R_lt (by (with_reducible repeat (first | apply Kd.R_alloc | apply Kd.R_drewN | apply Kd.R_drew)); exact HO199.out))) (Kd.R_lt (by (with_reducible repeat (first | apply Kd.R_alloc | apply Kd.R_drewN | apply Kd.R_drew)); exact HO202.out))) (Kd.R_lt (by (with_reducible repeat (first | apply Kd.R_alloc | apply Kd.R_drewN | apply Kd.R_drew)); exact HO206.out))) (Kd.R_lt (by (with_reducible repeat (first | apply Kd.R_alloc | apply Kd.R_drewN | apply Kd.R_drew)); exact HO212.out))) (below_size (by repeat (first | (with_reducible first | exact HB.out | apply below_alloc | apply pw_below_drewN | apply below_drew1) | exact HB.out)))); have n10_ := Aside0.mk (below_step (by repeat (first | (with_reducible first | exact HB.out | apply below_alloc | apply pw_below_drewN | apply below_drew1) | exact HB.out)) hb); clear HO182; clear HO186; clear HO189; clear HO193; clear HO196; clear HO199; clear HO202; clear HO206; clear HO212; clear HB; have HO182 := n0_; have HO186 := n1_; have HO189 := n2_; have HO193 := n3_; have HO196 := n4_; have HO199 := n5_; have HO202 := n6_; have HO206 := n7_; have HO212 := n8_; have HO215 := n9_; have HB := n10_; clear n0_ n1_ n2_ n3_ n4_ n5_ n6_ n7_ n8_ n9_ n10_; clear hb ho44; obtain ⟨Ao45, co45, eo45⟩ := Kd.R_slice HO215.out; subst eo45) | ((with_reducible refine gate_callee (f := 18) rfl ?_); refine goesL_ (some 41) rfl rfl Tryd.func18 (by kernel_rfl) rfl #[.slice Ao45 y213.length co45] rfl (by (try simp only [List.map_toArray, List.map_cons, List.map_nil]); first | done | rfl | (simp only [List.length_drop, List.length_take]; rfl)) ?_; (with_reducible refine (simplex_Sort.calls k _ _ y213 t216 t217 t218 _ ?side1 ?side2 A6.out).mono ?_); (case side1 => repeat (first | exact (Kd.R_reads' HO215.out).2.2 | (with_reducible refine Kd.C_alloc ?_ _) | (with_reducible refine Kd.C_drewN ?_ _) | (with_reducible refine Kd.C_drew ?_))); (case side2 => exact (Kd.R_reads' HO215.out).2.1); rintro e w46 ⟨v219, rfl, ho0, hb⟩; refine ⟨_, rfl, ?_⟩; have n0_ := Aside0.mk (Kd.R_elder' (by (with_reducible repeat (first | apply Kd.R_alloc | apply Kd.R_drewN | apply Kd.R_drew)); exact HO182.out) (Kd.R_base ho0) hb); have n1_ := Aside0.mk (Kd.N_elder' (by (with_reducible repeat (first | apply Kd.N_alloc | apply Kd.N_drewN | apply Kd.N_drew)); exact HO186.out) (Kd.R_base ho0) hb); have n2_ := Aside0.mk (Kd.R_elder' (by (with_reducible repeat (first | apply Kd.R_alloc | apply Kd.R_drewN | apply Kd.R_drew)); exact HO189.out) (Kd.R_base ho0) hb); have n3_ := Aside0.mk (Kd.N_elder' (by (with_reducible repeat (first | apply Kd.N_alloc | apply Kd.N_drewN | apply Kd.N_drew)); exact HO193.out) (Kd.R_base ho0) hb); have n4_ := Aside0.mk (Kd.R_elder' (by (with_reducible repeat (first | apply Kd.R_alloc | apply Kd.R_drewN | apply Kd.R_drew)); exact HO196.out) (Kd.R_base ho0) hb); have n5_ := Aside0.mk (Kd.R_elder' (by (with_reducible repeat (first | apply Kd.R_alloc | apply Kd.R_drewN | apply Kd.R_drew)); exact HO199.out) (Kd.R_base ho0) hb); have n6_ := Aside0.mk (Kd.R_elder' (by (with_reducible repeat (first | apply Kd.R_alloc | apply Kd.R_drewN | apply Kd.R_drew)); exact HO202.out) (Kd.R_base ho0) hb); have n7_ := Aside0.mk (Kd.R_elder' (by (with_reducible repeat (first | apply Kd.R_alloc | apply Kd.R_drewN | apply Kd.R_drew)); exact HO206.out) (Kd.R_base ho0) hb); have n8_ := Aside0.mk (Kd.R_elder' (by (with_reducible repeat (first | apply Kd.R_alloc | apply Kd.R_drewN | apply Kd.R_drew)); exact HO212.out) (Kd.R_base ho0) hb); have n9_ := Aside0.mk (Kd.R_elder' (by (with_reducible repeat (first | apply Kd.R_alloc | apply Kd.R_drewN | apply Kd.R_drew)); exact HO215.out) (Kd.R_base ho0) hb); have n10_ := Aside0.mk (Kd.R_lower (Kd.R_new' (Kd.R_new' (Kd.R_new' (Kd.R_new' (Kd.R_new' (Kd.R_new' (Kd.R_new' (Kd.R_new' ho0 (Kd.R_lt (by (with_reducible repeat (first | apply Kd.R_alloc | apply Kd.R_drewN | apply Kd.R_drew)); exact HO182.out))) (Kd.R_lt (by (with_reducible repeat (first | apply Kd.R_alloc | apply Kd.R_drewN | apply Kd.R_drew)); exact HO189.out))) (Kd.R_lt (by (with_reducible repeat (first | apply Kd.R_alloc | apply Kd.R_drewN | apply Kd.R_drew)); exact HO196.out))) (Kd.R_lt (by (with_reducible repeat (first | apply Kd.R_alloc | apply Kd.R_drewN | apply Kd.R_drew)); exact HO199.out))) (Kd.R_lt (by (with_reducible repeat (first | apply Kd.R_alloc | apply Kd.R_drewN | apply Kd.R_drew)); exact HO202.out))) (Kd.R_lt (by (with_reducible repeat (first | apply Kd.R_alloc | apply Kd.R_drewN | apply Kd.R_drew)); exact HO206.out))) (Kd.R_lt (by (with_reducible repeat (first | apply Kd.R_alloc | apply Kd.R_drewN | apply Kd.R_drew)); exact HO212.out))) (Kd.R_lt (by (with_reducible repeat (first | apply Kd.R_alloc | apply Kd.R_drewN | apply Kd.R_drew)); exact HO215.out))) (below_size (by repeat (first | (with_reducible first | exact HB.out | apply below_alloc | apply pw_below_drewN | apply below_drew1) | exact HB.out)))); have n11_ := Aside0.mk (below_step (by repeat (first | (with_reducible first | exact HB.out | apply below_alloc | apply pw_below_drewN | apply below_drew1) | exact HB.out)) hb); clear HO182; clear HO186; clear HO189; clear HO193; clear HO196; clear HO199; clear HO202; clear HO206; clear HO212; clear HO215; clear HB; have HO182 := n0_; have HO186 := n1_; have HO189 := n2_; have HO193 := n3_; have HO196 := n4_; have HO199 := n5_; have HO202 := n6_; have HO206 := n7_; have HO212 := n8_; have HO215 := n9_; have HO220 := n10_; have HB := n11_; clear n0_ n1_ n2_ n3_ n4_ n5_ n6_ n7_ n8_ n9_ n10_ n11_; (try clear hb); (try clear hb2); (try clear hk); (try clear hi); (try clear ho0)) | ((with_reducible refine gate_dst (N := 49) rfl ?_); (try (refine gate_guard (by rfl) ?_; dsimp only)); refine Kd.R_lit (Kd.int .i64) _ 3 ?hg (N := 49) ?hd (xs := ([5, 7] : List Int)) (inner := [.int .i64 5, .int .i64 7]) (ok := fun _ => True) (okp := fun _ => True) ?hr ?hp (fun _ hk => hk) trivial (Below.refl _ _) (Nat.le_refl _) (by simp) ?_; (case hd => rfl); (case hg => rfl); (case hr => first | (go_simp; done) | (go_simp; rfl)); (case hp => exact (Reps.one (show Kd.M (Kd.int .i64) _ _ _ 5 [.int .i64 5] from rfl) (Reps.one (show Kd.M (Kd.int .i64) _ _ _ 7 [.int .i64 7] from rfl) (Reps.none _ _)))); intro v222 w47 ho48 hb hg_ hnew_; clear hg_ hnew_; (first | rw [← Ny221.out] at ho48 | (simp only [Int.reduceToNat] at ho48; rw [← Ny221.out] at ho48)); have n0_ := Aside0.mk (Kd.R_elder' (by (with_reducible repeat (first | apply Kd.R_alloc | apply Kd.R_drewN | apply Kd.R_drew)); exact HO182.out) (Kd.R_base ho48) hb); have n1_ := Aside0.mk (Kd.N_elder' (by (with_reducible repeat (first | apply Kd.N_alloc | apply Kd.N_drewN | apply Kd.N_drew)); exact HO186.out) (Kd.R_base ho48) hb); have n2_ := Aside0.mk (Kd.R_elder' (by (with_reducible repeat (first | apply Kd.R_alloc | apply Kd.R_drewN | apply Kd.R_drew)); exact HO189.out) (Kd.R_base ho48) hb); have n3_ := Aside0.mk (Kd.N_elder' (by (with_reducible repeat (first | apply Kd.N_alloc | apply Kd.N_drewN | apply Kd.N_drew)); exact HO193.out) (Kd.R_base ho48) hb); have n4_ := Aside0.mk (Kd.R_elder' (by (with_reducible repeat (first | apply Kd.R_alloc | apply Kd.R_drewN | apply Kd.R_drew)); exact HO196.out) (Kd.R_base ho48) hb); have n5_ := Aside0.mk (Kd.R_elder' (by (with_reducible repeat (first | apply Kd.R_alloc | apply Kd.R_drewN | apply Kd.R_drew)); exact HO199.out) (Kd.R_base ho48) hb); have n6_ := Aside0.mk (Kd.R_elder' (by (with_reducible repeat (first | apply Kd.R_alloc | apply Kd.R_drewN | apply Kd.R_drew)); exact HO202.out) (Kd.R_base ho48) hb); have n7_ := Aside0.mk (Kd.R_elder' (by (with_reducible repeat (first | apply Kd.R_alloc | apply Kd.R_drewN | apply Kd.R_drew)); exact HO206.out) (Kd.R_base ho48) hb); have n8_ := Aside0.mk (Kd.R_elder' (by (with_reducible repeat (first | apply Kd.R_alloc | apply Kd.R_drewN | apply Kd.R_drew)); exact HO212.out) (Kd.R_base ho48) hb); have n9_ := Aside0.mk (Kd.R_elder' (by (with_reducible repeat (first | apply Kd.R_alloc | apply Kd.R_drewN | apply Kd.R_drew)); exact HO215.out) (Kd.R_base ho48) hb); have n10_ := Aside0.mk (Kd.R_elder' (by (with_reducible repeat (first | apply Kd.R_alloc | apply Kd.R_drewN | apply Kd.R_drew)); exact HO220.out) (Kd.R_base ho48) hb); have n11_ := Aside0.mk (Kd.R_lower (Kd.R_new' (Kd.R_new' (Kd.R_new' (Kd.R_new' (Kd.R_new' (Kd.R_new' (Kd.R_new' (Kd.R_new' (Kd.R_new' ho48 (Kd.R_lt (by (with_reducible repeat (first | apply Kd.R_alloc | apply Kd.R_drewN | apply Kd.R_drew)); exact HO182.out))) (Kd.R_lt (by (with_reducible repeat (first | apply Kd.R_alloc | apply Kd.R_drewN | apply Kd.R_drew)); exact HO189.out))) (Kd.R_lt (by (with_reducible repeat (first | apply Kd.R_alloc | apply Kd.R_drewN | apply Kd.R_drew)); exact HO196.out))) (Kd.R_lt (by (with_reducible repeat (first | apply Kd.R_alloc | apply Kd.R_drewN | apply Kd.R_drew)); exact HO199.out))) (Kd.R_lt (by (with_reducible repeat (first | apply Kd.R_alloc | apply Kd.R_drewN | apply Kd.R_drew)); exact HO202.out))) (Kd.R_lt (by (with_reducible repeat (first | apply Kd.R_alloc | apply Kd.R_drewN | apply Kd.R_drew)); exact HO206.out))) (Kd.R_lt (by (with_reducible repeat (first | apply Kd.R_alloc | apply Kd.R_drewN | apply Kd.R_drew)); exact HO212.out))) (Kd.R_lt (by (with_reducible repeat (first | apply Kd.R_alloc | apply Kd.R_drewN | apply Kd.R_drew)); exact HO215.out))) (Kd.R_lt (by (with_reducible repeat (first | apply Kd.R_alloc | apply Kd.R_drewN | apply Kd.R_drew)); exact HO220.out))) (below_size (by repeat (first | (with_reducible first | exact HB.out | apply below_alloc | apply pw_below_drewN | apply below_drew1) | exact HB.out)))); have n12_ := Aside0.mk (below_step (by repeat (first | (with_reducible first | exact HB.out | apply below_alloc | apply pw_below_drewN | apply below_drew1) | exact HB.out)) hb); clear HO182; clear HO186; clear HO189; clear HO193; clear HO196; clear HO199; clear HO202; clear HO206; clear HO212; clear HO215; clear HO220; clear HB; have HO182 := n0_; have HO186 := n1_; have HO189 := n2_; have HO193 := n3_; have HO196 := n4_; have HO199 := n5_; have HO202 := n6_; have HO206 := n7_; have HO212 := n8_; have HO215 := n9_; have HO220 := n10_; have HO223 := n11_; have HB := n12_; clear n0_ n1_ n2_ n3_ n4_ n5_ n6_ n7_ n8_ n9_ n10_ n11_ n12_; clear hb ho48) | ((with_reducible refine gate_dst (N := 50) rfl ?_); (try (refine gate_guard (by rfl) ?_; dsimp only)); refine Kd.R_lit (Kd.int .i64) _ 3 ?hg (N := 50) ?hd (xs := ([2, 7] : List Int)) (inner := [.int .i64 2, .int .i64 7]) (ok := fun _ => True) (okp := fun _ => True) ?hr ?hp (fun _ hk => hk) trivial (Below.refl _ _) (Nat.le_refl _) (by simp) ?_; (case hd => rfl); (case hg => rfl); (case hr => first | (go_simp; done) | (go_simp; rfl)); (case hp => exact (Reps.one (show Kd.M (Kd.int .i64) _ _ _ 2 [.int .i64 2] from rfl) (Reps.one (show Kd.M (Kd.int .i64) _ _ _ 7 [.int .i64 7] from rfl) (Reps.none _ _)))); intro v225 w49 ho50 hb hg_ hnew_; clear hg_ hnew_; (first | rw [← Ny224.out] at ho50 | (simp only [Int.reduceToNat] at ho50; rw [← Ny224.out] at ho50)); have n0_ := Aside0.mk (Kd.R_elder' (by (with_reducible repeat (first | apply Kd.R_alloc | apply Kd.R_drewN | apply Kd.R_drew)); exact HO182.out) (Kd.R_base ho50) hb); have n1_ := Aside0.mk (Kd.N_elder' (by (with_reducible repeat (first | apply Kd.N_alloc | apply Kd.N_drewN | apply Kd.N_drew)); exact HO186.out) (Kd.R_base ho50) hb); have n2_ := Aside0.mk (Kd.R_elder' (by (with_reducible repeat (first | apply Kd.R_alloc | apply Kd.R_drewN | apply Kd.R_drew)); exact HO189.out) (Kd.R_base ho50) hb); have n3_ := Aside0.mk (Kd.N_elder' (by (with_reducible repeat (first | apply Kd.N_alloc | apply Kd.N_drewN | apply Kd.N_drew)); exact HO193.out) (Kd.R_base ho50) hb); have n4_ := Aside0.mk (Kd.R_elder' (by (with_reducible repeat (first | apply Kd.R_alloc | apply Kd.R_drewN | apply Kd.R_drew)); exact HO196.out) (Kd.R_base ho50) hb); have n5_ := Aside0.mk (Kd.R_elder' (by (with_reducible repeat (first | apply Kd.R_alloc | apply Kd.R_drewN | apply Kd.R_drew)); exact HO199.out) (Kd.R_base ho50) hb); have n6_ := Aside0.mk (Kd.R_elder' (by (with_reducible repeat (first | apply Kd.R_alloc | apply Kd.R_drewN | apply Kd.R_drew)); exact HO202.out) (Kd.R_base ho50) hb); have n7_ := Aside0.mk (Kd.R_elder' (by (with_reducible repeat (first | apply Kd.R_alloc | apply Kd.R_drewN | apply Kd.R_drew)); exact HO206.out) (Kd.R_base ho50) hb); have n8_ := Aside0.mk (Kd.R_elder' (by (with_reducible repeat (first | apply Kd.R_alloc | apply Kd.R_drewN | apply Kd.R_drew)); exact HO212.out) (Kd.R_base ho50) hb); have n9_ := Aside0.mk (Kd.R_elder' (by (with_reducible repeat (first | apply Kd.R_alloc | apply Kd.R_drewN | apply Kd.R_drew)); exact HO215.out) (Kd.R_base ho50) hb); have n10_ := Aside0.mk (Kd.R_elder' (by (with_reducible repeat (first | apply Kd.R_alloc | apply Kd.R_drewN | apply Kd.R_drew)); exact HO220.out) (Kd.R_base ho50) hb); have n11_ := Aside0.mk (Kd.R_elder' (by (with_reducible repeat (first | apply Kd.R_alloc | apply Kd.R_drewN | apply Kd.R_drew)); exact HO223.out) (Kd.R_base ho50) hb); have n12_ := Aside0.mk (Kd.R_lower (Kd.R_new' (Kd.R_new' (Kd.R_new' (Kd.R_new' (Kd.R_new' (Kd.R_new' (Kd.R_new' (Kd.R_new' (Kd.R_new' (Kd.R_new' ho50 (Kd.R_lt (by (with_reducible repeat (first | apply Kd.R_alloc | apply Kd.R_drewN | apply Kd.R_drew)); exact HO182.out))) (Kd.R_lt (by (with_reducible repeat (first | apply Kd.R_alloc | apply Kd.R_drewN | apply Kd.R_drew)); exact HO189.out))) (Kd.R_lt (by (with_reducible repeat (first | apply Kd.R_alloc | apply Kd.R_drewN | apply Kd.R_drew)); exact HO196.out))) (Kd.R_lt (by (with_reducible repeat (first | apply Kd.R_alloc | apply Kd.R_drewN | apply Kd.R_drew)); exact HO199.out))) (Kd.R_lt (by (with_reducible repeat (first | apply Kd.R_alloc | apply Kd.R_drewN | apply Kd.R_drew)); exact HO202.out))) (Kd.R_lt (by (with_reducible repeat (first | apply Kd.R_alloc | apply Kd.R_drewN | apply Kd.R_drew)); exact HO206.out))) (Kd.R_lt (by (with_reducible repeat (first | apply Kd.R_alloc | apply Kd.R_drewN | apply Kd.R_drew)); exact HO212.out))) (Kd.R_lt (by (with_reducible repeat (first | apply Kd.R_alloc | apply Kd.R_drewN | apply Kd.R_drew)); exact HO215.out))) (Kd.R_lt (by (with_reducible repeat (first | apply Kd.R_alloc | apply Kd.R_drewN | apply Kd.R_drew)); exact HO220.out))) (Kd.R_lt (by (with_reducible repeat (first | apply Kd.R_alloc | apply Kd.R_drewN | apply Kd.R_drew)); exact HO223.out))) (below_size (by repeat (first | (with_reducible first | exact HB.out | apply below_alloc | apply pw_below_drewN | apply below_drew1) | exact HB.out)))); have n13_ := Aside0.mk (below_step (by repeat (first | (with_reducible first | exact HB.out | apply below_alloc | apply pw_below_drewN | apply below_drew1) | exact HB.out)) hb); clear HO182; clear HO186; clear HO189; clear HO193; clear HO196; clear HO199; clear HO202; clear HO206; clear HO212; clear HO215; clear HO220; clear HO223; clear HB; have HO182 := n0_; have HO186 := n1_; have HO189 := n2_; have HO193 := n3_; have HO196 := n4_; have HO199 := n5_; have HO202 := n6_; have HO206 := n7_; have HO212 := n8_; have HO215 := n9_; have HO220 := n10_; have HO223 := n11_; have HO226 := n12_; have HB := n13_; clear n0_ n1_ n2_ n3_ n4_ n5_ n6_ n7_ n8_ n9_ n10_ n11_ n12_ n13_; clear hb ho50) | ((with_reducible refine gate_dst (N := 51) rfl ?_); (try (refine gate_guard (by rfl) ?_; dsimp only)); refine Kd.R_lit (Kd.int .i64) _ 3 ?hg (N := 51) ?hd (xs := ([2, 5] : List Int)) (inner := [.int .i64 2, .int .i64 5]) (ok := fun _ => True) (okp := fun _ => True) ?hr ?hp (fun _ hk => hk) trivial (Below.refl _ _) (Nat.le_refl _) (by simp) ?_; (case hd => rfl); (case hg => rfl); (case hr => first | (go_simp; done) | (go_simp; rfl)); (case hp => exact (Reps.one (show Kd.M (Kd.int .i64) _ _ _ 2 [.int .i64 2] from rfl) (Reps.one (show Kd.M (Kd.int .i64) _ _ _ 5 [.int .i64 5] from rfl) (Reps.none _ _)))); intro v228 w51 ho52 hb hg_ hnew_; clear hg_ hnew_; (first | rw [← Ny227.out] at ho52 | (simp only [Int.reduceToNat] at ho52; rw [← Ny227.out] at ho52)); have n0_ := Aside0.mk (Kd.R_elder' (by (with_reducible repeat (first | apply Kd.R_alloc | apply Kd.R_drewN | apply Kd.R_drew)); exact HO182.out) (Kd.R_base ho52) hb); have n1_ := Aside0.mk (Kd.N_elder' (by (with_reducible repeat (first | apply Kd.N_alloc | apply Kd.N_drewN | apply Kd.N_drew)); exact HO186.out) (Kd.R_base ho52) hb); have n2_ := Aside0.mk (Kd.R_elder' (by (with_reducible repeat (first | apply Kd.R_alloc | apply Kd.R_drewN | apply Kd.R_drew)); exact HO189.out) (Kd.R_base ho52) hb); have n3_ := Aside0.mk (Kd.N_elder' (by (with_reducible repeat (first | apply Kd.N_alloc | apply Kd.N_drewN | apply Kd.N_drew)); exact HO193.out) (Kd.R_base ho52) hb); have n4_ := Aside0.mk (Kd.R_elder' (by (with_reducible repeat (first | apply Kd.R_alloc | apply Kd.R_drewN | apply Kd.R_drew)); exact HO196.out) (Kd.R_base ho52) hb); have n5_ := Aside0.mk (Kd.R_elder' (by (with_reducible repeat (first | apply Kd.R_alloc | apply Kd.R_drewN | apply Kd.R_drew)); exact HO199.out) (Kd.R_base ho52) hb); have n6_ := Aside0.mk (Kd.R_elder' (by (with_reducible repeat (first | apply Kd.R_alloc | apply Kd.R_drewN | apply Kd.R_drew)); exact HO202.out) (Kd.R_base ho52) hb); have n7_ := Aside0.mk (Kd.R_elder' (by (with_reducible repeat (first | apply Kd.R_alloc | apply Kd.R_drewN | apply Kd.R_drew)); exact HO206.out) (Kd.R_base ho52) hb); have n8_ := Aside0.mk (Kd.R_elder' (by (with_reducible repeat (first | apply Kd.R_alloc | apply Kd.R_drewN | apply Kd.R_drew)); exact HO212.out) (Kd.R_base ho52) hb); have n9_ := Aside0.mk (Kd.R_elder' (by (with_reducible repeat (first | apply Kd.R_alloc | apply Kd.R_drewN | apply Kd.R_drew)); exact HO215.out) (Kd.R_base ho52) hb); have n10_ := Aside0.mk (Kd.R_elder' (by (with_reducible repeat (first | apply Kd.R_alloc | apply Kd.R_drewN | apply Kd.R_drew)); exact HO220.out) (Kd.R_base ho52) hb); have n11_ := Aside0.mk (Kd.R_elder' (by (with_reducible repeat (first | apply Kd.R_alloc | apply Kd.R_drewN | apply Kd.R_drew)); exact HO223.out) (Kd.R_base ho52) hb); have n12_ := Aside0.mk (Kd.R_elder' (by (with_reducible repeat (first | apply Kd.R_alloc | apply Kd.R_drewN | apply Kd.R_drew)); exact HO226.out) (Kd.R_base ho52) hb); have n13_ := Aside0.mk (Kd.R_lower (Kd.R_new' (Kd.R_new' (Kd.R_new' (Kd.R_new' (Kd.R_new' (Kd.R_new' (Kd.R_new' (Kd.R_new' (Kd.R_new' (Kd.R_new' (Kd.R_new' ho52 (Kd.R_lt (by (with_reducible repeat (first | apply Kd.R_alloc | apply Kd.R_drewN | apply Kd.R_drew)); exact HO182.out))) (Kd.R_lt (by (with_reducible repeat (first | apply Kd.R_alloc | apply Kd.R_drewN | apply Kd.R_drew)); exact HO189.out))) (Kd.R_lt (by (with_reducible repeat (first | apply Kd.R_alloc | apply Kd.R_drewN | apply Kd.R_drew)); exact HO196.out))) (Kd.R_lt (by (with_reducible repeat (first | apply Kd.R_alloc | apply Kd.R_drewN | apply Kd.R_drew)); exact HO199.out))) (Kd.R_lt (by (with_reducible repeat (first | apply Kd.R_alloc | apply Kd.R_drewN | apply Kd.R_drew)); exact HO202.out))) (Kd.R_lt (by (with_reducible repeat (first | apply Kd.R_alloc | apply Kd.R_drewN | apply Kd.R_drew)); exact HO206.out))) (Kd.R_lt (by (with_reducible repeat (first | apply Kd.R_alloc | apply Kd.R_drewN | apply Kd.R_drew)); exact HO212.out))) (Kd.R_lt (by (with_reducible repeat (first | apply Kd.R_alloc | apply Kd.R_drewN | apply Kd.R_drew)); exact HO215.out))) (Kd.R_lt (by (with_reducible repeat (first | apply Kd.R_alloc | apply Kd.R_drewN | apply Kd.R_drew)); exact HO220.out))) (Kd.R_lt (by (with_reducible repeat (first | apply Kd.R_alloc | apply Kd.R_drewN | apply Kd.R_drew)); exact HO223.out))) (Kd.R_lt (by (with_reducible repeat (first | apply Kd.R_alloc | apply Kd.R_drewN | apply Kd.R_drew)); exact HO226.out))) (below_size (by repeat (first | (with_reducible first | exact HB.out | apply below_alloc | apply pw_below_drewN | apply below_drew1) | exact HB.out)))); have n14_ := Aside0.mk (below_step (by repeat (first | (with_reducible first | exact HB.out | apply below_alloc | apply pw_below_drewN | apply below_drew1) | exact HB.out)) hb); clear HO182; clear HO186; clear HO189; clear HO193; clear HO196; clear HO199; clear HO202; clear HO206; clear HO212; clear HO215; clear HO220; clear HO223; clear HO226; clear HB; have HO182 := n0_; have HO186 := n1_; have HO189 := n2_; have HO193 := n3_; have HO196 := n4_; have HO199 := n5_; have HO202 := n6_; have HO206 := n7_; have HO212 := n8_; have HO215 := n9_; have HO220 := n10_; have HO223 := n11_; have HO226 := n12_; have HO229 := n13_; have HB := n14_; clear n0_ n1_ n2_ n3_ n4_ n5_ n6_ n7_ n8_ n9_ n10_ n11_ n12_ n13_ n14_; clear hb ho52; obtain ⟨Ao53, co53, eo53⟩ := Kd.R_slice HO223.out; subst eo53; obtain ⟨Ao54, co54, eo54⟩ := Kd.R_slice HO226.out; subst eo54; obtain ⟨Ao55, co55, eo55⟩ := Kd.R_slice HO229.out; subst eo55) | ((with_reducible refine gate_dst (N := 52) rfl ?_); (try (refine gate_guard (by rfl) ?_; dsimp only)); refine Kd.N_lit (Kd.slice 3 (Kd.int .i64)) _ 22 ?hg (N' := 52) ?hd (xs := ([y221, y224, y227] : List (List Int))) (inner := [.slice Ao53 y221.length co53, .slice Ao54 y224.length co54, .slice Ao55 y227.length co55]) (ok := (fun k_ => some k_ ≠ (.slice Ao25 y180.length co25 : Value).ownBlock ∧ some k_ ≠ (v185 : Value).ownBlock ∧ some k_ ≠ (.slice Ao29 y187.length co29 : Value).ownBlock ∧ some k_ ≠ (v192 : Value).ownBlock ∧ some k_ ≠ (.slice Ao35 y194.length co35 : Value).ownBlock ∧ some k_ ≠ (.slice Ao36 y197.length co36 : Value).ownBlock ∧ some k_ ≠ (v201 : Value).ownBlock ∧ some k_ ≠ (.slice Ao40 y204.length co40 : Value).ownBlock ∧ some k_ ≠ (v211 : Value).ownBlock ∧ some k_ ≠ (.slice Ao45 y213.length co45 : Value).ownBlock ∧ some k_ ≠ (v219 : Value).ownBlock)) (okp := (fun k_ => some k_ ≠ (.slice Ao25 y180.length co25 : Value).ownBlock ∧ some k_ ≠ (v185 : Value).ownBlock ∧ some k_ ≠ (.slice Ao29 y187.length co29 : Value).ownBlock ∧ some k_ ≠ (v192 : Value).ownBlock ∧ some k_ ≠ (.slice Ao35 y194.length co35 : Value).ownBlock ∧ some k_ ≠ (.slice Ao36 y197.length co36 : Value).ownBlock ∧ some k_ ≠ (v201 : Value).ownBlock ∧ some k_ ≠ (.slice Ao40 y204.length co40 : Value).ownBlock ∧ some k_ ≠ (v211 : Value).ownBlock ∧ some k_ ≠ (.slice Ao45 y213.length co45 : Value).ownBlock ∧ some k_ ≠ (v219 : Value).ownBlock)) ?hr ?hp (fun _ hk => hk) ((show ∀ k_, w51.heap.size ≤ k_ → (fun k_ => some k_ ≠ (.slice Ao25 y180.length co25 : Value).ownBlock ∧ some k_ ≠ (v185 : Value).ownBlock ∧ some k_ ≠ (.slice Ao29 y187.length co29 : Value).ownBlock ∧ some k_ ≠ (v192 : Value).ownBlock ∧ some k_ ≠ (.slice Ao35 y194.length co35 : Value).ownBlock ∧ some k_ ≠ (.slice Ao36 y197.length co36 : Value).ownBlock ∧ some k_ ≠ (v201 : Value).ownBlock ∧ some k_ ≠ (.slice Ao40 y204.length co40 : Value).ownBlock ∧ some k_ ≠ (v211 : Value).ownBlock ∧ some k_ ≠ (.slice Ao45 y213.length co45 : Value).ownBlock ∧ some k_ ≠ (v219 : Value).ownBlock) k_ from fun k_ hk => ⟨Kd.fresh' (Kd.R_lt (by (with_reducible repeat (first | apply Kd.R_alloc | apply Kd.R_drewN | apply Kd.R_drew)); exact HO182.out)) k_ hk, Kd.fresh' (Kd.N_lt (by (with_reducible repeat (first | apply Kd.N_alloc | apply Kd.N_drewN | apply Kd.N_drew)); exact HO186.out)) k_ hk, Kd.fresh' (Kd.R_lt (by (with_reducible repeat (first | apply Kd.R_alloc | apply Kd.R_drewN | apply Kd.R_drew)); exact HO189.out)) k_ hk, Kd.fresh' (Kd.N_lt (by (with_reducible repeat (first | apply Kd.N_alloc | apply Kd.N_drewN | apply Kd.N_drew)); exact HO193.out)) k_ hk, Kd.fresh' (Kd.R_lt (by (with_reducible repeat (first | apply Kd.R_alloc | apply Kd.R_drewN | apply Kd.R_drew)); exact HO196.out)) k_ hk, Kd.fresh' (Kd.R_lt (by (with_reducible repeat (first | apply Kd.R_alloc | apply Kd.R_drewN | apply Kd.R_drew)); exact HO199.out)) k_ hk, Kd.fresh' (Kd.R_lt (by (with_reducible repeat (first | apply Kd.R_alloc | apply Kd.R_drewN | apply Kd.R_drew)); exact HO202.out)) k_ hk, Kd.fresh' (Kd.R_lt (by (with_reducible repeat (first | apply Kd.R_alloc | apply Kd.R_drewN | apply Kd.R_drew)); exact HO206.out)) k_ hk, Kd.fresh' (Kd.R_lt (by (with_reducible repeat (first | apply Kd.R_alloc | apply Kd.R_drewN | apply Kd.R_drew)); exact HO212.out)) k_ hk, Kd.fresh' (Kd.R_lt (by (with_reducible repeat (first | apply Kd.R_alloc | apply Kd.R_drewN | apply Kd.R_drew)); exact HO215.out)) k_ hk, Kd.fresh' (Kd.R_lt (by (with_reducible repeat (first | apply Kd.R_alloc | apply Kd.R_drewN | apply Kd.R_drew)); exact HO220.out)) k_ hk⟩) _ (Nat.le_refl _)) (Below.refl _ _) (Nat.le_refl _) (by simp) ?_; (case hd => rfl); (case hg => rfl); (case hr => first | (go_simp; done) | (go_simp; rfl)); (case hp => exact (Reps.one (show Kd.FK (Kd.slice 3 (Kd.int .i64)) _ _ y221 [.slice Ao53 y221.length co53] from (Kd.FK_slice_mk (Kd.R_reads' (Kd.R_mono (ok' := (fun k_ => some k_ ≠ (.slice Ao25 y180.length co25 : Value).ownBlock ∧ some k_ ≠ (v185 : Value).ownBlock ∧ some k_ ≠ (.slice Ao29 y187.length co29 : Value).ownBlock ∧ some k_ ≠ (v192 : Value).ownBlock ∧ some k_ ≠ (.slice Ao35 y194.length co35 : Value).ownBlock ∧ some k_ ≠ (.slice Ao36 y197.length co36 : Value).ownBlock ∧ some k_ ≠ (v201 : Value).ownBlock ∧ some k_ ≠ (.slice Ao40 y204.length co40 : Value).ownBlock ∧ some k_ ≠ (v211 : Value).ownBlock ∧ some k_ ≠ (.slice Ao45 y213.length co45 : Value).ownBlock ∧ some k_ ≠ (v219 : Value).ownBlock)) (Kd.R_apart' (Kd.R_apart' (HO223.out) (Kd.N_typed HO186.out) (by decide)) (Kd.N_typed HO193.out) (by decide)) (fun k_ hk => ⟨hk.1.1.1.1.1.1.1.1.1.1.1.1.2, ⟨hk.1.2, ⟨hk.1.1.1.1.1.1.1.1.1.1.1.2, ⟨hk.2, ⟨hk.1.1.1.1.1.1.1.1.1.1.2, ⟨hk.1.1.1.1.1.1.1.1.1.2, ⟨hk.1.1.1.1.1.1.1.1.2, ⟨hk.1.1.1.1.1.1.1.2, ⟨hk.1.1.1.1.1.1.2, ⟨hk.1.1.1.1.1.2, hk.1.1.1.1.2⟩⟩⟩⟩⟩⟩⟩⟩⟩⟩))).2.1 (Kd.R_F (Kd.R_mono (ok' := (fun k_ => some k_ ≠ (.slice Ao25 y180.length co25 : Value).ownBlock ∧ some k_ ≠ (v185 : Value).ownBlock ∧ some k_ ≠ (.slice Ao29 y187.length co29 : Value).ownBlock ∧ some k_ ≠ (v192 : Value).ownBlock ∧ some k_ ≠ (.slice Ao35 y194.length co35 : Value).ownBlock ∧ some k_ ≠ (.slice Ao36 y197.length co36 : Value).ownBlock ∧ some k_ ≠ (v201 : Value).ownBlock ∧ some k_ ≠ (.slice Ao40 y204.length co40 : Value).ownBlock ∧ some k_ ≠ (v211 : Value).ownBlock ∧ some k_ ≠ (.slice Ao45 y213.length co45 : Value).ownBlock ∧ some k_ ≠ (v219 : Value).ownBlock)) (Kd.R_apart' (Kd.R_apart' (HO223.out) (Kd.N_typed HO186.out) (by decide)) (Kd.N_typed HO193.out) (by decide)) (fun k_ hk => ⟨hk.1.1.1.1.1.1.1.1.1.1.1.1.2, ⟨hk.1.2, ⟨hk.1.1.1.1.1.1.1.1.1.1.1.2, ⟨hk.2, ⟨hk.1.1.1.1.1.1.1.1.1.1.2, ⟨hk.1.1.1.1.1.1.1.1.1.2, ⟨hk.1.1.1.1.1.1.1.1.2, ⟨hk.1.1.1.1.1.1.1.2, ⟨hk.1.1.1.1.1.1.2, ⟨hk.1.1.1.1.1.2, hk.1.1.1.1.2⟩⟩⟩⟩⟩⟩⟩⟩⟩⟩))))) (Reps.one (show Kd.FK (Kd.slice 3 (Kd.int .i64)) _ _ y224 [.slice Ao54 y224.length co54] from (Kd.FK_slice_mk (Kd.R_reads' (Kd.R_mono (ok' := (fun k_ => some k_ ≠ (.slice Ao25 y180.length co25 : Value).ownBlock ∧ some k_ ≠ (v185 : Value).ownBlock ∧ some k_ ≠ (.slice Ao29 y187.length co29 : Value).ownBlock ∧ some k_ ≠ (v192 : Value).ownBlock ∧ some k_ ≠ (.slice Ao35 y194.length co35 : Value).ownBlock ∧ some k_ ≠ (.slice Ao36 y197.length co36 : Value).ownBlock ∧ some k_ ≠ (v201 : Value).ownBlock ∧ some k_ ≠ (.slice Ao40 y204.length co40 : Value).ownBlock ∧ some k_ ≠ (v211 : Value).ownBlock ∧ some k_ ≠ (.slice Ao45 y213.length co45 : Value).ownBlock ∧ some k_ ≠ (v219 : Value).ownBlock)) (Kd.R_apart' (Kd.R_apart' (HO226.out) (Kd.N_typed HO186.out) (by decide)) (Kd.N_typed HO193.out) (by decide)) (fun k_ hk => ⟨hk.1.1.1.1.1.1.1.1.1.1.1.1.2, ⟨hk.1.2, ⟨hk.1.1.1.1.1.1.1.1.1.1.1.2, ⟨hk.2, ⟨hk.1.1.1.1.1.1.1.1.1.1.2, ⟨hk.1.1.1.1.1.1.1.1.1.2, ⟨hk.1.1.1.1.1.1.1.1.2, ⟨hk.1.1.1.1.1.1.1.2, ⟨hk.1.1.1.1.1.1.2, ⟨hk.1.1.1.1.1.2, hk.1.1.1.1.2⟩⟩⟩⟩⟩⟩⟩⟩⟩⟩))).2.1 (Kd.R_F (Kd.R_mono (ok' := (fun k_ => some k_ ≠ (.slice Ao25 y180.length co25 : Value).ownBlock ∧ some k_ ≠ (v185 : Value).ownBlock ∧ some k_ ≠ (.slice Ao29 y187.length co29 : Value).ownBlock ∧ some k_ ≠ (v192 : Value).ownBlock ∧ some k_ ≠ (.slice Ao35 y194.length co35 : Value).ownBlock ∧ some k_ ≠ (.slice Ao36 y197.length co36 : Value).ownBlock ∧ some k_ ≠ (v201 : Value).ownBlock ∧ some k_ ≠ (.slice Ao40 y204.length co40 : Value).ownBlock ∧ some k_ ≠ (v211 : Value).ownBlock ∧ some k_ ≠ (.slice Ao45 y213.length co45 : Value).ownBlock ∧ some k_ ≠ (v219 : Value).ownBlock)) (Kd.R_apart' (Kd.R_apart' (HO226.out) (Kd.N_typed HO186.out) (by decide)) (Kd.N_typed HO193.out) (by decide)) (fun k_ hk => ⟨hk.1.1.1.1.1.1.1.1.1.1.1.1.2, ⟨hk.1.2, ⟨hk.1.1.1.1.1.1.1.1.1.1.1.2, ⟨hk.2, ⟨hk.1.1.1.1.1.1.1.1.1.1.2, ⟨hk.1.1.1.1.1.1.1.1.1.2, ⟨hk.1.1.1.1.1.1.1.1.2, ⟨hk.1.1.1.1.1.1.1.2, ⟨hk.1.1.1.1.1.1.2, ⟨hk.1.1.1.1.1.2, hk.1.1.1.1.2⟩⟩⟩⟩⟩⟩⟩⟩⟩⟩))))) (Reps.one (show Kd.FK (Kd.slice 3 (Kd.int .i64)) _ _ y227 [.slice Ao55 y227.length co55] from (Kd.FK_slice_mk (Kd.R_reads' (Kd.R_mono (ok' := (fun k_ => some k_ ≠ (.slice Ao25 y180.length co25 : Value).ownBlock ∧ some k_ ≠ (v185 : Value).ownBlock ∧ some k_ ≠ (.slice Ao29 y187.length co29 : Value).ownBlock ∧ some k_ ≠ (v192 : Value).ownBlock ∧ some k_ ≠ (.slice Ao35 y194.length co35 : Value).ownBlock ∧ some k_ ≠ (.slice Ao36 y197.length co36 : Value).ownBlock ∧ some k_ ≠ (v201 : Value).ownBlock ∧ some k_ ≠ (.slice Ao40 y204.length co40 : Value).ownBlock ∧ some k_ ≠ (v211 : Value).ownBlock ∧ some k_ ≠ (.slice Ao45 y213.length co45 : Value).ownBlock ∧ some k_ ≠ (v219 : Value).ownBlock)) (Kd.R_apart' (Kd.R_apart' (HO229.out) (Kd.N_typed HO186.out) (by decide)) (Kd.N_typed HO193.out) (by decide)) (fun k_ hk => ⟨hk.1.1.1.1.1.1.1.1.1.1.1.1.2, ⟨hk.1.2, ⟨hk.1.1.1.1.1.1.1.1.1.1.1.2, ⟨hk.2, ⟨hk.1.1.1.1.1.1.1.1.1.1.2, ⟨hk.1.1.1.1.1.1.1.1.1.2, ⟨hk.1.1.1.1.1.1.1.1.2, ⟨hk.1.1.1.1.1.1.1.2, ⟨hk.1.1.1.1.1.1.2, ⟨hk.1.1.1.1.1.2, hk.1.1.1.1.2⟩⟩⟩⟩⟩⟩⟩⟩⟩⟩))).2.1 (Kd.R_F (Kd.R_mono (ok' := (fun k_ => some k_ ≠ (.slice Ao25 y180.length co25 : Value).ownBlock ∧ some k_ ≠ (v185 : Value).ownBlock ∧ some k_ ≠ (.slice Ao29 y187.length co29 : Value).ownBlock ∧ some k_ ≠ (v192 : Value).ownBlock ∧ some k_ ≠ (.slice Ao35 y194.length co35 : Value).ownBlock ∧ some k_ ≠ (.slice Ao36 y197.length co36 : Value).ownBlock ∧ some k_ ≠ (v201 : Value).ownBlock ∧ some k_ ≠ (.slice Ao40 y204.length co40 : Value).ownBlock ∧ some k_ ≠ (v211 : Value).ownBlock ∧ some k_ ≠ (.slice Ao45 y213.length co45 : Value).ownBlock ∧ some k_ ≠ (v219 : Value).ownBlock)) (Kd.R_apart' (Kd.R_apart' (HO229.out) (Kd.N_typed HO186.out) (by decide)) (Kd.N_typed HO193.out) (by decide)) (fun k_ hk => ⟨hk.1.1.1.1.1.1.1.1.1.1.1.1.2, ⟨hk.1.2, ⟨hk.1.1.1.1.1.1.1.1.1.1.1.2, ⟨hk.2, ⟨hk.1.1.1.1.1.1.1.1.1.1.2, ⟨hk.1.1.1.1.1.1.1.1.1.2, ⟨hk.1.1.1.1.1.1.1.1.2, ⟨hk.1.1.1.1.1.1.1.2, ⟨hk.1.1.1.1.1.1.2, ⟨hk.1.1.1.1.1.2, hk.1.1.1.1.2⟩⟩⟩⟩⟩⟩⟩⟩⟩⟩))))) (Reps.none _ _))))); intro v231 w56 ho57 hb hg_ hnew_; clear hg_ hnew_; (first | rw [← Ny230.out] at ho57 | (simp only [Int.reduceToNat] at ho57; rw [← Ny230.out] at ho57)); have n0_ := Aside0.mk (Kd.R_below (by (with_reducible repeat (first | apply Kd.R_alloc | apply Kd.R_drewN | apply Kd.R_drew)); exact HO182.out) hb); have n1_ := Aside0.mk (Kd.N_elder' (by (with_reducible repeat (first | apply Kd.N_alloc | apply Kd.N_drewN | apply Kd.N_drew)); exact HO186.out) (by first | exact Kd.N_base ho57 | exact Kd.S_base ho57) hb); have n2_ := Aside0.mk (Kd.R_below (by (with_reducible repeat (first | apply Kd.R_alloc | apply Kd.R_drewN | apply Kd.R_drew)); exact HO189.out) hb); have n3_ := Aside0.mk (Kd.N_elder' (by (with_reducible repeat (first | apply Kd.N_alloc | apply Kd.N_drewN | apply Kd.N_drew)); exact HO193.out) (by first | exact Kd.N_base ho57 | exact Kd.S_base ho57) hb); have n4_ := Aside0.mk (Kd.R_below (by (with_reducible repeat (first | apply Kd.R_alloc | apply Kd.R_drewN | apply Kd.R_drew)); exact HO196.out) hb); have n5_ := Aside0.mk (Kd.R_below (by (with_reducible repeat (first | apply Kd.R_alloc | apply Kd.R_drewN | apply Kd.R_drew)); exact HO199.out) hb); have n6_ := Aside0.mk (Kd.R_below (by (with_reducible repeat (first | apply Kd.R_alloc | apply Kd.R_drewN | apply Kd.R_drew)); exact HO202.out) hb); have n7_ := Aside0.mk (Kd.R_below (by (with_reducible repeat (first | apply Kd.R_alloc | apply Kd.R_drewN | apply Kd.R_drew)); exact HO206.out) hb); have n8_ := Aside0.mk (Kd.R_below (by (with_reducible repeat (first | apply Kd.R_alloc | apply Kd.R_drewN | apply Kd.R_drew)); exact HO212.out) hb); have n9_ := Aside0.mk (Kd.R_below (by (with_reducible repeat (first | apply Kd.R_alloc | apply Kd.R_drewN | apply Kd.R_drew)); exact HO215.out) hb); have n10_ := Aside0.mk (Kd.R_below (by (with_reducible repeat (first | apply Kd.R_alloc | apply Kd.R_drewN | apply Kd.R_drew)); exact HO220.out) hb); have n11_ := Aside0.mk (Kd.N_lower ho57 (below_size (by repeat (first | (with_reducible first | exact HB.out | apply below_alloc | apply pw_below_drewN | apply below_drew1) | exact HB.out)))); have n12_ := Aside0.mk (below_step (by repeat (first | (with_reducible first | exact HB.out | apply below_alloc | apply pw_below_drewN | apply below_drew1) | exact HB.out)) hb); clear HO182; clear HO186; clear HO189; clear HO193; clear HO196; clear HO199; clear HO202; clear HO206; clear HO212; clear HO215; clear HO220; clear HB; clear HO223; clear HO226; clear HO229; have HO182 := n0_; have HO186 := n1_; have HO189 := n2_; have HO193 := n3_; have HO196 := n4_; have HO199 := n5_; have HO202 := n6_; have HO206 := n7_; have HO212 := n8_; have HO215 := n9_; have HO220 := n10_; have HO232 := n11_; have HB := n12_; clear n0_ n1_ n2_ n3_ n4_ n5_ n6_ n7_ n8_ n9_ n10_ n11_ n12_; clear hb ho57; obtain ⟨Ao58, co58, eo58⟩ := Kd.N_slice HO186.out; subst eo58; obtain ⟨Ao59, co59, eo59⟩ := Kd.N_slice HO232.out; subst eo59) | (go_at_call 37; (with_reducible refine (torusref07_Same.calls k _ _ t183 _ _ y230 true _ ?side1 ?side2 ?side3 ?side4 A8.out).mono ?_); (case side1 => repeat (first | exact (Kd.N_reads' HO186.out).2.2 | (with_reducible refine Kd.C_alloc ?_ _) | (with_reducible refine Kd.C_drewN ?_ _) | (with_reducible refine Kd.C_drew ?_))); (case side2 => exact (Kd.N_reads' HO186.out).2.1); (case side3 => repeat (first | exact (Kd.N_reads' HO232.out).2.2 | (with_reducible refine Kd.C_alloc ?_ _) | (with_reducible refine Kd.C_drewN ?_ _) | (with_reducible refine Kd.C_drew ?_))); (case side4 => exact (Kd.N_reads' HO232.out).2.1); rintro e w' ⟨rfl, ⟨nd, rfl⟩⟩) | ((with_reducible refine gate_dst (N := 61) rfl ?_); (try (refine gate_guard (by rfl) ?_; dsimp only)); refine Kd.R_lit (Kd.int .i64) _ 3 ?hg (N := 61) ?hd (xs := ([2] : List Int)) (inner := [.int .i64 2]) (ok := fun _ => True) (okp := fun _ => True) ?hr ?hp (fun _ hk => hk) trivial (Below.refl _ _) (Nat.le_refl _) (by simp) ?_; (case hd => rfl); (case hg => rfl); (case hr => first | (go_simp; done) | (go_simp; rfl)); (case hp => exact (Reps.one (show Kd.M (Kd.int .i64) _ _ _ 2 [.int .i64 2] from rfl) (Reps.none _ _))); intro v235 w60 ho61 hb hg_ hnew_; clear hg_ hnew_; (first | rw [← Ny234.out] at ho61 | (simp only [Int.reduceToNat] at ho61; rw [← Ny234.out] at ho61)); have n0_ := Aside0.mk (Kd.R_elder' (by (with_reducible repeat (first | apply Kd.R_alloc | apply Kd.R_drewN | apply Kd.R_drew)); exact HO182.out) (Kd.R_base ho61) hb); have n1_ := Aside0.mk (Kd.N_elder' (by (with_reducible repeat (first | apply Kd.N_alloc | apply Kd.N_drewN | apply Kd.N_drew)); exact HO186.out) (Kd.R_base ho61) hb); have n2_ := Aside0.mk (Kd.R_elder' (by (with_reducible repeat (first | apply Kd.R_alloc | apply Kd.R_drewN | apply Kd.R_drew)); exact HO189.out) (Kd.R_base ho61) hb); have n3_ := Aside0.mk (Kd.N_elder' (by (with_reducible repeat (first | apply Kd.N_alloc | apply Kd.N_drewN | apply Kd.N_drew)); exact HO193.out) (Kd.R_base ho61) hb); have n4_ := Aside0.mk (Kd.R_elder' (by (with_reducible repeat (first | apply Kd.R_alloc | apply Kd.R_drewN | apply Kd.R_drew)); exact HO196.out) (Kd.R_base ho61) hb); have n5_ := Aside0.mk (Kd.R_elder' (by (with_reducible repeat (first | apply Kd.R_alloc | apply Kd.R_drewN | apply Kd.R_drew)); exact HO199.out) (Kd.R_base ho61) hb); have n6_ := Aside0.mk (Kd.R_elder' (by (with_reducible repeat (first | apply Kd.R_alloc | apply Kd.R_drewN | apply Kd.R_drew)); exact HO202.out) (Kd.R_base ho61) hb); have n7_ := Aside0.mk (Kd.R_elder' (by (with_reducible repeat (first | apply Kd.R_alloc | apply Kd.R_drewN | apply Kd.R_drew)); exact HO206.out) (Kd.R_base ho61) hb); have n8_ := Aside0.mk (Kd.R_elder' (by (with_reducible repeat (first | apply Kd.R_alloc | apply Kd.R_drewN | apply Kd.R_drew)); exact HO212.out) (Kd.R_base ho61) hb); have n9_ := Aside0.mk (Kd.R_elder' (by (with_reducible repeat (first | apply Kd.R_alloc | apply Kd.R_drewN | apply Kd.R_drew)); exact HO215.out) (Kd.R_base ho61) hb); have n10_ := Aside0.mk (Kd.R_elder' (by (with_reducible repeat (first | apply Kd.R_alloc | apply Kd.R_drewN | apply Kd.R_drew)); exact HO220.out) (Kd.R_base ho61) hb); have n11_ := Aside0.mk (Kd.N_elder' (by (with_reducible repeat (first | apply Kd.N_alloc | apply Kd.N_drewN | apply Kd.N_drew)); exact HO232.out) (Kd.R_base ho61) hb); have n12_ := Aside0.mk (Kd.R_lower (Kd.R_new' (Kd.R_new' (Kd.R_new' (Kd.R_new' (Kd.R_new' (Kd.R_new' (Kd.R_new' (Kd.R_new' (Kd.R_new' ho61 (Kd.R_lt (by (with_reducible repeat (first | apply Kd.R_alloc | apply Kd.R_drewN | apply Kd.R_drew)); exact HO182.out))) (Kd.R_lt (by (with_reducible repeat (first | apply Kd.R_alloc | apply Kd.R_drewN | apply Kd.R_drew)); exact HO189.out))) (Kd.R_lt (by (with_reducible repeat (first | apply Kd.R_alloc | apply Kd.R_drewN | apply Kd.R_drew)); exact HO196.out))) (Kd.R_lt (by (with_reducible repeat (first | apply Kd.R_alloc | apply Kd.R_drewN | apply Kd.R_drew)); exact HO199.out))) (Kd.R_lt (by (with_reducible repeat (first | apply Kd.R_alloc | apply Kd.R_drewN | apply Kd.R_drew)); exact HO202.out))) (Kd.R_lt (by (with_reducible repeat (first | apply Kd.R_alloc | apply Kd.R_drewN | apply Kd.R_drew)); exact HO206.out))) (Kd.R_lt (by (with_reducible repeat (first | apply Kd.R_alloc | apply Kd.R_drewN | apply Kd.R_drew)); exact HO212.out))) (Kd.R_lt (by (with_reducible repeat (first | apply Kd.R_alloc | apply Kd.R_drewN | apply Kd.R_drew)); exact HO215.out))) (Kd.R_lt (by (with_reducible repeat (first | apply Kd.R_alloc | apply Kd.R_drewN | apply Kd.R_drew)); exact HO220.out))) (below_size (by repeat (first | (with_reducible first | exact HB.out | apply below_alloc | apply pw_below_drewN | apply below_drew1) | exact HB.out)))); have n13_ := Aside0.mk (below_step (by repeat (first | (with_reducible first | exact HB.out | apply below_alloc | apply pw_below_drewN | apply below_drew1) | exact HB.out)) hb); clear HO182; clear HO186; clear HO189; clear HO193; clear HO196; clear HO199; clear HO202; clear HO206; clear HO212; clear HO215; clear HO220; clear HO232; clear HB; have HO182 := n0_; have HO186 := n1_; have HO189 := n2_; have HO193 := n3_; have HO196 := n4_; have HO199 := n5_; have HO202 := n6_; have HO206 := n7_; have HO212 := n8_; have HO215 := n9_; have HO220 := n10_; have HO232 := n11_; have HO236 := n12_; have HB := n13_; clear n0_ n1_ n2_ n3_ n4_ n5_ n6_ n7_ n8_ n9_ n10_ n11_ n12_ n13_; clear hb ho61) | ((with_reducible refine gate_dst (N := 62) rfl ?_); (try (refine gate_guard (by rfl) ?_; dsimp only)); refine Kd.R_lit (Kd.int .i64) _ 3 ?hg (N := 62) ?hd (xs := ([5] : List Int)) (inner := [.int .i64 5]) (ok := fun _ => True) (okp := fun _ => True) ?hr ?hp (fun _ hk => hk) trivial (Below.refl _ _) (Nat.le_refl _) (by simp) ?_; (case hd => rfl); (case hg => rfl); (case hr => first | (go_simp; done) | (go_simp; rfl)); (case hp => exact (Reps.one (show Kd.M (Kd.int .i64) _ _ _ 5 [.int .i64 5] from rfl) (Reps.none _ _))); intro v238 w62 ho63 hb hg_ hnew_; clear hg_ hnew_; (first | rw [← Ny237.out] at ho63 | (simp only [Int.reduceToNat] at ho63; rw [← Ny237.out] at ho63)); have n0_ := Aside0.mk (Kd.R_elder' (by (with_reducible repeat (first | apply Kd.R_alloc | apply Kd.R_drewN | apply Kd.R_drew)); exact HO182.out) (Kd.R_base ho63) hb); have n1_ := Aside0.mk (Kd.N_elder' (by (with_reducible repeat (first | apply Kd.N_alloc | apply Kd.N_drewN | apply Kd.N_drew)); exact HO186.out) (Kd.R_base ho63) hb); have n2_ := Aside0.mk (Kd.R_elder' (by (with_reducible repeat (first | apply Kd.R_alloc | apply Kd.R_drewN | apply Kd.R_drew)); exact HO189.out) (Kd.R_base ho63) hb); have n3_ := Aside0.mk (Kd.N_elder' (by (with_reducible repeat (first | apply Kd.N_alloc | apply Kd.N_drewN | apply Kd.N_drew)); exact HO193.out) (Kd.R_base ho63) hb); have n4_ := Aside0.mk (Kd.R_elder' (by (with_reducible repeat (first | apply Kd.R_alloc | apply Kd.R_drewN | apply Kd.R_drew)); exact HO196.out) (Kd.R_base ho63) hb); have n5_ := Aside0.mk (Kd.R_elder' (by (with_reducible repeat (first | apply Kd.R_alloc | apply Kd.R_drewN | apply Kd.R_drew)); exact HO199.out) (Kd.R_base ho63) hb); have n6_ := Aside0.mk (Kd.R_elder' (by (with_reducible repeat (first | apply Kd.R_alloc | apply Kd.R_drewN | apply Kd.R_drew)); exact HO202.out) (Kd.R_base ho63) hb); have n7_ := Aside0.mk (Kd.R_elder' (by (with_reducible repeat (first | apply Kd.R_alloc | apply Kd.R_drewN | apply Kd.R_drew)); exact HO206.out) (Kd.R_base ho63) hb); have n8_ := Aside0.mk (Kd.R_elder' (by (with_reducible repeat (first | apply Kd.R_alloc | apply Kd.R_drewN | apply Kd.R_drew)); exact HO212.out) (Kd.R_base ho63) hb); have n9_ := Aside0.mk (Kd.R_elder' (by (with_reducible repeat (first | apply Kd.R_alloc | apply Kd.R_drewN | apply Kd.R_drew)); exact HO215.out) (Kd.R_base ho63) hb); have n10_ := Aside0.mk (Kd.R_elder' (by (with_reducible repeat (first | apply Kd.R_alloc | apply Kd.R_drewN | apply Kd.R_drew)); exact HO220.out) (Kd.R_base ho63) hb); have n11_ := Aside0.mk (Kd.N_elder' (by (with_reducible repeat (first | apply Kd.N_alloc | apply Kd.N_drewN | apply Kd.N_drew)); exact HO232.out) (Kd.R_base ho63) hb); have n12_ := Aside0.mk (Kd.R_elder' (by (with_reducible repeat (first | apply Kd.R_alloc | apply Kd.R_drewN | apply Kd.R_drew)); exact HO236.out) (Kd.R_base ho63) hb); have n13_ := Aside0.mk (Kd.R_lower (Kd.R_new' (Kd.R_new' (Kd.R_new' (Kd.R_new' (Kd.R_new' (Kd.R_new' (Kd.R_new' (Kd.R_new' (Kd.R_new' (Kd.R_new' ho63 (Kd.R_lt (by (with_reducible repeat (first | apply Kd.R_alloc | apply Kd.R_drewN | apply Kd.R_drew)); exact HO182.out))) (Kd.R_lt (by (with_reducible repeat (first | apply Kd.R_alloc | apply Kd.R_drewN | apply Kd.R_drew)); exact HO189.out))) (Kd.R_lt (by (with_reducible repeat (first | apply Kd.R_alloc | apply Kd.R_drewN | apply Kd.R_drew)); exact HO196.out))) (Kd.R_lt (by (with_reducible repeat (first | apply Kd.R_alloc | apply Kd.R_drewN | apply Kd.R_drew)); exact HO199.out))) (Kd.R_lt (by (with_reducible repeat (first | apply Kd.R_alloc | apply Kd.R_drewN | apply Kd.R_drew)); exact HO202.out))) (Kd.R_lt (by (with_reducible repeat (first | apply Kd.R_alloc | apply Kd.R_drewN | apply Kd.R_drew)); exact HO206.out))) (Kd.R_lt (by (with_reducible repeat (first | apply Kd.R_alloc | apply Kd.R_drewN | apply Kd.R_drew)); exact HO212.out))) (Kd.R_lt (by (with_reducible repeat (first | apply Kd.R_alloc | apply Kd.R_drewN | apply Kd.R_drew)); exact HO215.out))) (Kd.R_lt (by (with_reducible repeat (first | apply Kd.R_alloc | apply Kd.R_drewN | apply Kd.R_drew)); exact HO220.out))) (Kd.R_lt (by (with_reducible repeat (first | apply Kd.R_alloc | apply Kd.R_drewN | apply Kd.R_drew)); exact HO236.out))) (below_size (by repeat (first | (with_reducible first | exact HB.out | apply below_alloc | apply pw_below_drewN | apply below_drew1) | exact HB.out)))); have n14_ := Aside0.mk (below_step (by repeat (first | (with_reducible first | exact HB.out | apply below_alloc | apply pw_below_drewN | apply below_drew1) | exact HB.out)) hb); clear HO182; clear HO186; clear HO189; clear HO193; clear HO196; clear HO199; clear HO202; clear HO206; clear HO212; clear HO215; clear HO220; clear HO232; clear HO236; clear HB; have HO182 := n0_; have HO186 := n1_; have HO189 := n2_; have HO193 := n3_; have HO196 := n4_; have HO199 := n5_; have HO202 := n6_; have HO206 := n7_; have HO212 := n8_; have HO215 := n9_; have HO220 := n10_; have HO232 := n11_; have HO236 := n12_; have HO239 := n13_; have HB := n14_; clear n0_ n1_ n2_ n3_ n4_ n5_ n6_ n7_ n8_ n9_ n10_ n11_ n12_ n13_ n14_; clear hb ho63) | ((with_reducible refine gate_dst (N := 63) rfl ?_); (try (refine gate_guard (by rfl) ?_; dsimp only)); refine Kd.R_lit (Kd.int .i64) _ 3 ?hg (N := 63) ?hd (xs := ([2, 5] : List Int)) (inner := [.int .i64 2, .int .i64 5]) (ok := fun _ => True) (okp := fun _ => True) ?hr ?hp (fun _ hk => hk) trivial (Below.refl _ _) (Nat.le_refl _) (by simp) ?_; (case hd => rfl); (case hg => rfl); (case hr => first | (go_simp; done) | (go_simp; rfl)); (case hp => exact (Reps.one (show Kd.M (Kd.int .i64) _ _ _ 2 [.int .i64 2] from rfl) (Reps.one (show Kd.M (Kd.int .i64) _ _ _ 5 [.int .i64 5] from rfl) (Reps.none _ _)))); intro v241 w64 ho65 hb hg_ hnew_; clear hg_ hnew_; (first | rw [← Ny240.out] at ho65 | (simp only [Int.reduceToNat] at ho65; rw [← Ny240.out] at ho65)); have n0_ := Aside0.mk (Kd.R_elder' (by (with_reducible repeat (first | apply Kd.R_alloc | apply Kd.R_drewN | apply Kd.R_drew)); exact HO182.out) (Kd.R_base ho65) hb); have n1_ := Aside0.mk (Kd.N_elder' (by (with_reducible repeat (first | apply Kd.N_alloc | apply Kd.N_drewN | apply Kd.N_drew)); exact HO186.out) (Kd.R_base ho65) hb); have n2_ := Aside0.mk (Kd.R_elder' (by (with_reducible repeat (first | apply Kd.R_alloc | apply Kd.R_drewN | apply Kd.R_drew)); exact HO189.out) (Kd.R_base ho65) hb); have n3_ := Aside0.mk (Kd.N_elder' (by (with_reducible repeat (first | apply Kd.N_alloc | apply Kd.N_drewN | apply Kd.N_drew)); exact HO193.out) (Kd.R_base ho65) hb); have n4_ := Aside0.mk (Kd.R_elder' (by (with_reducible repeat (first | apply Kd.R_alloc | apply Kd.R_drewN | apply Kd.R_drew)); exact HO196.out) (Kd.R_base ho65) hb); have n5_ := Aside0.mk (Kd.R_elder' (by (with_reducible repeat (first | apply Kd.R_alloc | apply Kd.R_drewN | apply Kd.R_drew)); exact HO199.out) (Kd.R_base ho65) hb); have n6_ := Aside0.mk (Kd.R_elder' (by (with_reducible repeat (first | apply Kd.R_alloc | apply Kd.R_drewN | apply Kd.R_drew)); exact HO202.out) (Kd.R_base ho65) hb); have n7_ := Aside0.mk (Kd.R_elder' (by (with_reducible repeat (first | apply Kd.R_alloc | apply Kd.R_drewN | apply Kd.R_drew)); exact HO206.out) (Kd.R_base ho65) hb); have n8_ := Aside0.mk (Kd.R_elder' (by (with_reducible repeat (first | apply Kd.R_alloc | apply Kd.R_drewN | apply Kd.R_drew)); exact HO212.out) (Kd.R_base ho65) hb); have n9_ := Aside0.mk (Kd.R_elder' (by (with_reducible repeat (first | apply Kd.R_alloc | apply Kd.R_drewN | apply Kd.R_drew)); exact HO215.out) (Kd.R_base ho65) hb); have n10_ := Aside0.mk (Kd.R_elder' (by (with_reducible repeat (first | apply Kd.R_alloc | apply Kd.R_drewN | apply Kd.R_drew)); exact HO220.out) (Kd.R_base ho65) hb); have n11_ := Aside0.mk (Kd.N_elder' (by (with_reducible repeat (first | apply Kd.N_alloc | apply Kd.N_drewN | apply Kd.N_drew)); exact HO232.out) (Kd.R_base ho65) hb); have n12_ := Aside0.mk (Kd.R_elder' (by (with_reducible repeat (first | apply Kd.R_alloc | apply Kd.R_drewN | apply Kd.R_drew)); exact HO236.out) (Kd.R_base ho65) hb); have n13_ := Aside0.mk (Kd.R_elder' (by (with_reducible repeat (first | apply Kd.R_alloc | apply Kd.R_drewN | apply Kd.R_drew)); exact HO239.out) (Kd.R_base ho65) hb); have n14_ := Aside0.mk (Kd.R_lower (Kd.R_new' (Kd.R_new' (Kd.R_new' (Kd.R_new' (Kd.R_new' (Kd.R_new' (Kd.R_new' (Kd.R_new' (Kd.R_new' (Kd.R_new' (Kd.R_new' ho65 (Kd.R_lt (by (with_reducible repeat (first | apply Kd.R_alloc | apply Kd.R_drewN | apply Kd.R_drew)); exact HO182.out))) (Kd.R_lt (by (with_reducible repeat (first | apply Kd.R_alloc | apply Kd.R_drewN | apply Kd.R_drew)); exact HO189.out))) (Kd.R_lt (by (with_reducible repeat (first | apply Kd.R_alloc | apply Kd.R_drewN | apply Kd.R_drew)); exact HO196.out))) (Kd.R_lt (by (with_reducible repeat (first | apply Kd.R_alloc | apply Kd.R_drewN | apply Kd.R_drew)); exact HO199.out))) (Kd.R_lt (by (with_reducible repeat (first | apply Kd.R_alloc | apply Kd.R_drewN | apply Kd.R_drew)); exact HO202.out))) (Kd.R_lt (by (with_reducible repeat (first | apply Kd.R_alloc | apply Kd.R_drewN | apply Kd.R_drew)); exact HO206.out))) (Kd.R_lt (by (with_reducible repeat (first | apply Kd.R_alloc | apply Kd.R_drewN | apply Kd.R_drew)); exact HO212.out))) (Kd.R_lt (by (with_reducible repeat (first | apply Kd.R_alloc | apply Kd.R_drewN | apply Kd.R_drew)); exact HO215.out))) (Kd.R_lt (by (with_reducible repeat (first | apply Kd.R_alloc | apply Kd.R_drewN | apply Kd.R_drew)); exact HO220.out))) (Kd.R_lt (by (with_reducible repeat (first | apply Kd.R_alloc | apply Kd.R_drewN | apply Kd.R_drew)); exact HO236.out))) (Kd.R_lt (by (with_reducible repeat (first | apply Kd.R_alloc | apply Kd.R_drewN | apply Kd.R_drew)); exact HO239.out))) (below_size (by repeat (first | (with_reducible first | exact HB.out | apply below_alloc | apply pw_below_drewN | apply below_drew1) | exact HB.out)))); have n15_ := Aside0.mk (below_step (by repeat (first | (with_reducible first | exact HB.out | apply below_alloc | apply pw_below_drewN | apply below_drew1) | exact HB.out)) hb); clear HO182; clear HO186; clear HO189; clear HO193; clear HO196; clear HO199; clear HO202; clear HO206; clear HO212; clear HO215; clear HO220; clear HO232; clear HO236; clear HO239; clear HB; have HO182 := n0_; have HO186 := n1_; have HO189 := n2_; have HO193 := n3_; have HO196 := n4_; have HO199 := n5_; have HO202 := n6_; have HO206 := n7_; have HO212 := n8_; have HO215 := n9_; have HO220 := n10_; have HO232 := n11_; have HO236 := n12_; have HO239 := n13_; have HO242 := n14_; have HB := n15_; clear n0_ n1_ n2_ n3_ n4_ n5_ n6_ n7_ n8_ n9_ n10_ n11_ n12_ n13_ n14_ n15_; clear hb ho65; obtain ⟨Ao66, co66, eo66⟩ := Kd.R_slice HO236.out; subst eo66; obtain ⟨Ao67, co67, eo67⟩ := Kd.R_slice HO239.out; subst eo67; obtain ⟨Ao68, co68, eo68⟩ := Kd.R_slice HO242.out; subst eo68) | ((with_reducible refine gate_dst (N := 64) rfl ?_); (try (refine gate_guard (by rfl) ?_; dsimp only)); refine Kd.N_lit (Kd.slice 3 (Kd.int .i64)) _ 22 ?hg (N' := 64) ?hd (xs := ([y234, y237, y240] : List (List Int))) (inner := [.slice Ao66 y234.length co66, .slice Ao67 y237.length co67, .slice Ao68 y240.length co68]) (ok := (fun k_ => some k_ ≠ (.slice Ao25 y180.length co25 : Value).ownBlock ∧ some k_ ≠ (.slice Ao58 t183.length co58 : Value).ownBlock ∧ some k_ ≠ (.slice Ao29 y187.length co29 : Value).ownBlock ∧ some k_ ≠ (v192 : Value).ownBlock ∧ some k_ ≠ (.slice Ao35 y194.length co35 : Value).ownBlock ∧ some k_ ≠ (.slice Ao36 y197.length co36 : Value).ownBlock ∧ some k_ ≠ (v201 : Value).ownBlock ∧ some k_ ≠ (.slice Ao40 y204.length co40 : Value).ownBlock ∧ some k_ ≠ (v211 : Value).ownBlock ∧ some k_ ≠ (.slice Ao45 y213.length co45 : Value).ownBlock ∧ some k_ ≠ (v219 : Value).ownBlock ∧ some k_ ≠ (.slice Ao59 y230.length co59 : Value).ownBlock)) (okp := (fun k_ => some k_ ≠ (.slice Ao25 y180.length co25 : Value).ownBlock ∧ some k_ ≠ (.slice Ao58 t183.length co58 : Value).ownBlock ∧ some k_ ≠ (.slice Ao29 y187.length co29 : Value).ownBlock ∧ some k_ ≠ (v192 : Value).ownBlock ∧ some k_ ≠ (.slice Ao35 y194.length co35 : Value).ownBlock ∧ some k_ ≠ (.slice Ao36 y197.length co36 : Value).ownBlock ∧ some k_ ≠ (v201 : Value).ownBlock ∧ some k_ ≠ (.slice Ao40 y204.length co40 : Value).ownBlock ∧ some k_ ≠ (v211 : Value).ownBlock ∧ some k_ ≠ (.slice Ao45 y213.length co45 : Value).ownBlock ∧ some k_ ≠ (v219 : Value).ownBlock ∧ some k_ ≠ (.slice Ao59 y230.length co59 : Value).ownBlock)) ?hr ?hp (fun _ hk => hk) ((show ∀ k_, w64.heap.size ≤ k_ → (fun k_ => some k_ ≠ (.slice Ao25 y180.length co25 : Value).ownBlock ∧ some k_ ≠ (.slice Ao58 t183.length co58 : Value).ownBlock ∧ some k_ ≠ (.slice Ao29 y187.length co29 : Value).ownBlock ∧ some k_ ≠ (v192 : Value).ownBlock ∧ some k_ ≠ (.slice Ao35 y194.length co35 : Value).ownBlock ∧ some k_ ≠ (.slice Ao36 y197.length co36 : Value).ownBlock ∧ some k_ ≠ (v201 : Value).ownBlock ∧ some k_ ≠ (.slice Ao40 y204.length co40 : Value).ownBlock ∧ some k_ ≠ (v211 : Value).ownBlock ∧ some k_ ≠ (.slice Ao45 y213.length co45 : Value).ownBlock ∧ some k_ ≠ (v219 : Value).ownBlock ∧ some k_ ≠ (.slice Ao59 y230.length co59 : Value).ownBlock) k_ from fun k_ hk => ⟨Kd.fresh' (Kd.R_lt (by (with_reducible repeat (first | apply Kd.R_alloc | apply Kd.R_drewN | apply Kd.R_drew)); exact HO182.out)) k_ hk, Kd.fresh' (Kd.N_lt (by (with_reducible repeat (first | apply Kd.N_alloc | apply Kd.N_drewN | apply Kd.N_drew)); exact HO186.out)) k_ hk, Kd.fresh' (Kd.R_lt (by (with_reducible repeat (first | apply Kd.R_alloc | apply Kd.R_drewN | apply Kd.R_drew)); exact HO189.out)) k_ hk, Kd.fresh' (Kd.N_lt (by (with_reducible repeat (first | apply Kd.N_alloc | apply Kd.N_drewN | apply Kd.N_drew)); exact HO193.out)) k_ hk, Kd.fresh' (Kd.R_lt (by (with_reducible repeat (first | apply Kd.R_alloc | apply Kd.R_drewN | apply Kd.R_drew)); exact HO196.out)) k_ hk, Kd.fresh' (Kd.R_lt (by (with_reducible repeat (first | apply Kd.R_alloc | apply Kd.R_drewN | apply Kd.R_drew)); exact HO199.out)) k_ hk, Kd.fresh' (Kd.R_lt (by (with_reducible repeat (first | apply Kd.R_alloc | apply Kd.R_drewN | apply Kd.R_drew)); exact HO202.out)) k_ hk, Kd.fresh' (Kd.R_lt (by (with_reducible repeat (first | apply Kd.R_alloc | apply Kd.R_drewN | apply Kd.R_drew)); exact HO206.out)) k_ hk, Kd.fresh' (Kd.R_lt (by (with_reducible repeat (first | apply Kd.R_alloc | apply Kd.R_drewN | apply Kd.R_drew)); exact HO212.out)) k_ hk, Kd.fresh' (Kd.R_lt (by (with_reducible repeat (first | apply Kd.R_alloc | apply Kd.R_drewN | apply Kd.R_drew)); exact HO215.out)) k_ hk, Kd.fresh' (Kd.R_lt (by (with_reducible repeat (first | apply Kd.R_alloc | apply Kd.R_drewN | apply Kd.R_drew)); exact HO220.out)) k_ hk, Kd.fresh' (Kd.N_lt (by (with_reducible repeat (first | apply Kd.N_alloc | apply Kd.N_drewN | apply Kd.N_drew)); exact HO232.out)) k_ hk⟩) _ (Nat.le_refl _)) (Below.refl _ _) (Nat.le_refl _) (by simp) ?_; (case hd => rfl); (case hg => rfl); (case hr => first | (go_simp; done) | (go_simp; rfl)); (case hp => exact (Reps.one (show Kd.FK (Kd.slice 3 (Kd.int .i64)) _ _ y234 [.slice Ao66 y234.length co66] from (Kd.FK_slice_mk (Kd.R_reads' (Kd.R_mono (ok' := (fun k_ => some k_ ≠ (.slice Ao25 y180.length co25 : Value).ownBlock ∧ some k_ ≠ (.slice Ao58 t183.length co58 : Value).ownBlock ∧ some k_ ≠ (.slice Ao29 y187.length co29 : Value).ownBlock ∧ some k_ ≠ (v192 : Value).ownBlock ∧ some k_ ≠ (.slice Ao35 y194.length co35 : Value).ownBlock ∧ some k_ ≠ (.slice Ao36 y197.length co36 : Value).ownBlock ∧ some k_ ≠ (v201 : Value).ownBlock ∧ some k_ ≠ (.slice Ao40 y204.length co40 : Value).ownBlock ∧ some k_ ≠ (v211 : Value).ownBlock ∧ some k_ ≠ (.slice Ao45 y213.length co45 : Value).ownBlock ∧ some k_ ≠ (v219 : Value).ownBlock ∧ some k_ ≠ (.slice Ao59 y230.length co59 : Value).ownBlock)) (Kd.R_apart' (Kd.R_apart' (Kd.R_apart' (HO236.out) (Kd.N_typed HO186.out) (by decide)) (Kd.N_typed HO193.out) (by decide)) (Kd.N_typed HO232.out) (by decide)) (fun k_ hk => ⟨hk.1.1.1.1.1.1.1.1.1.1.1.1.1.2, ⟨hk.1.1.2, ⟨hk.1.1.1.1.1.1.1.1.1.1.1.1.2, ⟨hk.1.2, ⟨hk.1.1.1.1.1.1.1.1.1.1.1.2, ⟨hk.1.1.1.1.1.1.1.1.1.1.2, ⟨hk.1.1.1.1.1.1.1.1.1.2, ⟨hk.1.1.1.1.1.1.1.1.2, ⟨hk.1.1.1.1.1.1.1.2, ⟨hk.1.1.1.1.1.1.2, ⟨hk.1.1.1.1.1.2, hk.2⟩⟩⟩⟩⟩⟩⟩⟩⟩⟩⟩))).2.1 (Kd.R_F (Kd.R_mono (ok' := (fun k_ => some k_ ≠ (.slice Ao25 y180.length co25 : Value).ownBlock ∧ some k_ ≠ (.slice Ao58 t183.length co58 : Value).ownBlock ∧ some k_ ≠ (.slice Ao29 y187.length co29 : Value).ownBlock ∧ some k_ ≠ (v192 : Value).ownBlock ∧ some k_ ≠ (.slice Ao35 y194.length co35 : Value).ownBlock ∧ some k_ ≠ (.slice Ao36 y197.length co36 : Value).ownBlock ∧ some k_ ≠ (v201 : Value).ownBlock ∧ some k_ ≠ (.slice Ao40 y204.length co40 : Value).ownBlock ∧ some k_ ≠ (v211 : Value).ownBlock ∧ some k_ ≠ (.slice Ao45 y213.length co45 : Value).ownBlock ∧ some k_ ≠ (v219 : Value).ownBlock ∧ some k_ ≠ (.slice Ao59 y230.length co59 : Value).ownBlock)) (Kd.R_apart' (Kd.R_apart' (Kd.R_apart' (HO236.out) (Kd.N_typed HO186.out) (by decide)) (Kd.N_typed HO193.out) (by decide)) (Kd.N_typed HO232.out) (by decide)) (fun k_ hk => ⟨hk.1.1.1.1.1.1.1.1.1.1.1.1.1.2, ⟨hk.1.1.2, ⟨hk.1.1.1.1.1.1.1.1.1.1.1.1.2, ⟨hk.1.2, ⟨hk.1.1.1.1.1.1.1.1.1.1.1.2, ⟨hk.1.1.1.1.1.1.1.1.1.1.2, ⟨hk.1.1.1.1.1.1.1.1.1.2, ⟨hk.1.1.1.1.1.1.1.1.2, ⟨hk.1.1.1.1.1.1.1.2, ⟨hk.1.1.1.1.1.1.2, ⟨hk.1.1.1.1.1.2, hk.2⟩⟩⟩⟩⟩⟩⟩⟩⟩⟩⟩))))) (Reps.one (show Kd.FK (Kd.slice 3 (Kd.int .i64)) _ _ y237 [.slice Ao67 y237.length co67] from (Kd.FK_slice_mk (Kd.R_reads' (Kd.R_mono (ok' := (fun k_ => some k_ ≠ (.slice Ao25 y180.length co25 : Value).ownBlock ∧ some k_ ≠ (.slice Ao58 t183.length co58 : Value).ownBlock ∧ some k_ ≠ (.slice Ao29 y187.length co29 : Value).ownBlock ∧ some k_ ≠ (v192 : Value).ownBlock ∧ some k_ ≠ (.slice Ao35 y194.length co35 : Value).ownBlock ∧ some k_ ≠ (.slice Ao36 y197.length co36 : Value).ownBlock ∧ some k_ ≠ (v201 : Value).ownBlock ∧ some k_ ≠ (.slice Ao40 y204.length co40 : Value).ownBlock ∧ some k_ ≠ (v211 : Value).ownBlock ∧ some k_ ≠ (.slice Ao45 y213.length co45 : Value).ownBlock ∧ some k_ ≠ (v219 : Value).ownBlock ∧ some k_ ≠ (.slice Ao59 y230.length co59 : Value).ownBlock)) (Kd.R_apart' (Kd.R_apart' (Kd.R_apart' (HO239.out) (Kd.N_typed HO186.out) (by decide)) (Kd.N_typed HO193.out) (by decide)) (Kd.N_typed HO232.out) (by decide)) (fun k_ hk => ⟨hk.1.1.1.1.1.1.1.1.1.1.1.1.1.2, ⟨hk.1.1.2, ⟨hk.1.1.1.1.1.1.1.1.1.1.1.1.2, ⟨hk.1.2, ⟨hk.1.1.1.1.1.1.1.1.1.1.1.2, ⟨hk.1.1.1.1.1.1.1.1.1.1.2, ⟨hk.1.1.1.1.1.1.1.1.1.2, ⟨hk.1.1.1.1.1.1.1.1.2, ⟨hk.1.1.1.1.1.1.1.2, ⟨hk.1.1.1.1.1.1.2, ⟨hk.1.1.1.1.1.2, hk.2⟩⟩⟩⟩⟩⟩⟩⟩⟩⟩⟩))).2.1 (Kd.R_F (Kd.R_mono (ok' := (fun k_ => some k_ ≠ (.slice Ao25 y180.length co25 : Value).ownBlock ∧ some k_ ≠ (.slice Ao58 t183.length co58 : Value).ownBlock ∧ some k_ ≠ (.slice Ao29 y187.length co29 : Value).ownBlock ∧ some k_ ≠ (v192 : Value).ownBlock ∧ some k_ ≠ (.slice Ao35 y194.length co35 : Value).ownBlock ∧ some k_ ≠ (.slice Ao36 y197.length co36 : Value).ownBlock ∧ some k_ ≠ (v201 : Value).ownBlock ∧ some k_ ≠ (.slice Ao40 y204.length co40 : Value).ownBlock ∧ some k_ ≠ (v211 : Value).ownBlock ∧ some k_ ≠ (.slice Ao45 y213.length co45 : Value).ownBlock ∧ some k_ ≠ (v219 : Value).ownBlock ∧ some k_ ≠ (.slice Ao59 y230.length co59 : Value).ownBlock)) (Kd.R_apart' (Kd.R_apart' (Kd.R_apart' (HO239.out) (Kd.N_typed HO186.out) (by decide)) (Kd.N_typed HO193.out) (by decide)) (Kd.N_typed HO232.out) (by decide)) (fun k_ hk => ⟨hk.1.1.1.1.1.1.1.1.1.1.1.1.1.2, ⟨hk.1.1.2, ⟨hk.1.1.1.1.1.1.1.1.1.1.1.1.2, ⟨hk.1.2, ⟨hk.1.1.1.1.1.1.1.1.1.1.1.2, ⟨hk.1.1.1.1.1.1.1.1.1.1.2, ⟨hk.1.1.1.1.1.1.1.1.1.2, ⟨hk.1.1.1.1.1.1.1.1.2, ⟨hk.1.1.1.1.1.1.1.2, ⟨hk.1.1.1.1.1.1.2, ⟨hk.1.1.1.1.1.2, hk.2⟩⟩⟩⟩⟩⟩⟩⟩⟩⟩⟩))))) (Reps.one (show Kd.FK (Kd.slice 3 (Kd.int .i64)) _ _ y240 [.slice Ao68 y240.length co68] from (Kd.FK_slice_mk (Kd.R_reads' (Kd.R_mono (ok' := (fun k_ => some k_ ≠ (.slice Ao25 y180.length co25 : Value).ownBlock ∧ some k_ ≠ (.slice Ao58 t183.length co58 : Value).ownBlock ∧ some k_ ≠ (.slice Ao29 y187.length co29 : Value).ownBlock ∧ some k_ ≠ (v192 : Value).ownBlock ∧ some k_ ≠ (.slice Ao35 y194.length co35 : Value).ownBlock ∧ some k_ ≠ (.slice Ao36 y197.length co36 : Value).ownBlock ∧ some k_ ≠ (v201 : Value).ownBlock ∧ some k_ ≠ (.slice Ao40 y204.length co40 : Value).ownBlock ∧ some k_ ≠ (v211 : Value).ownBlock ∧ some k_ ≠ (.slice Ao45 y213.length co45 : Value).ownBlock ∧ some k_ ≠ (v219 : Value).ownBlock ∧ some k_ ≠ (.slice Ao59 y230.length co59 : Value).ownBlock)) (Kd.R_apart' (Kd.R_apart' (Kd.R_apart' (HO242.out) (Kd.N_typed HO186.out) (by decide)) (Kd.N_typed HO193.out) (by decide)) (Kd.N_typed HO232.out) (by decide)) (fun k_ hk => ⟨hk.1.1.1.1.1.1.1.1.1.1.1.1.1.2, ⟨hk.1.1.2, ⟨hk.1.1.1.1.1.1.1.1.1.1.1.1.2, ⟨hk.1.2, ⟨hk.1.1.1.1.1.1.1.1.1.1.1.2, ⟨hk.1.1.1.1.1.1.1.1.1.1.2, ⟨hk.1.1.1.1.1.1.1.1.1.2, ⟨hk.1.1.1.1.1.1.1.1.2, ⟨hk.1.1.1.1.1.1.1.2, ⟨hk.1.1.1.1.1.1.2, ⟨hk.1.1.1.1.1.2, hk.2⟩⟩⟩⟩⟩⟩⟩⟩⟩⟩⟩))).2.1 (Kd.R_F (Kd.R_mono (ok' := (fun k_ => some k_ ≠ (.slice Ao25 y180.length co25 : Value).ownBlock ∧ some k_ ≠ (.slice Ao58 t183.length co58 : Value).ownBlock ∧ some k_ ≠ (.slice Ao29 y187.length co29 : Value).ownBlock ∧ some k_ ≠ (v192 : Value).ownBlock ∧ some k_ ≠ (.slice Ao35 y194.length co35 : Value).ownBlock ∧ some k_ ≠ (.slice Ao36 y197.length co36 : Value).ownBlock ∧ some k_ ≠ (v201 : Value).ownBlock ∧ some k_ ≠ (.slice Ao40 y204.length co40 : Value).ownBlock ∧ some k_ ≠ (v211 : Value).ownBlock ∧ some k_ ≠ (.slice Ao45 y213.length co45 : Value).ownBlock ∧ some k_ ≠ (v219 : Value).ownBlock ∧ some k_ ≠ (.slice Ao59 y230.length co59 : Value).ownBlock)) (Kd.R_apart' (Kd.R_apart' (Kd.R_apart' (HO242.out) (Kd.N_typed HO186.out) (by decide)) (Kd.N_typed HO193.out) (by decide)) (Kd.N_typed HO232.out) (by decide)) (fun k_ hk => ⟨hk.1.1.1.1.1.1.1.1.1.1.1.1.1.2, ⟨hk.1.1.2, ⟨hk.1.1.1.1.1.1.1.1.1.1.1.1.2, ⟨hk.1.2, ⟨hk.1.1.1.1.1.1.1.1.1.1.1.2, ⟨hk.1.1.1.1.1.1.1.1.1.1.2, ⟨hk.1.1.1.1.1.1.1.1.1.2, ⟨hk.1.1.1.1.1.1.1.1.2, ⟨hk.1.1.1.1.1.1.1.2, ⟨hk.1.1.1.1.1.1.2, ⟨hk.1.1.1.1.1.2, hk.2⟩⟩⟩⟩⟩⟩⟩⟩⟩⟩⟩))))) (Reps.none _ _))))); intro v244 w69 ho70 hb hg_ hnew_; clear hg_ hnew_; (first | rw [← Ny243.out] at ho70 | (simp only [Int.reduceToNat] at ho70; rw [← Ny243.out] at ho70)); have n0_ := Aside0.mk (Kd.R_below (by (with_reducible repeat (first | apply Kd.R_alloc | apply Kd.R_drewN | apply Kd.R_drew)); exact HO182.out) hb); have n1_ := Aside0.mk (Kd.N_elder' (by (with_reducible repeat (first | apply Kd.N_alloc | apply Kd.N_drewN | apply Kd.N_drew)); exact HO186.out) (by first | exact Kd.N_base ho70 | exact Kd.S_base ho70) hb); have n2_ := Aside0.mk (Kd.R_below (by (with_reducible repeat (first | apply Kd.R_alloc | apply Kd.R_drewN | apply Kd.R_drew)); exact HO189.out) hb); have n3_ := Aside0.mk (Kd.N_elder' (by (with_reducible repeat (first | apply Kd.N_alloc | apply Kd.N_drewN | apply Kd.N_drew)); exact HO193.out) (by first | exact Kd.N_base ho70 | exact Kd.S_base ho70) hb); have n4_ := Aside0.mk (Kd.R_below (by (with_reducible repeat (first | apply Kd.R_alloc | apply Kd.R_drewN | apply Kd.R_drew)); exact HO196.out) hb); have n5_ := Aside0.mk (Kd.R_below (by (with_reducible repeat (first | apply Kd.R_alloc | apply Kd.R_drewN | apply Kd.R_drew)); exact HO199.out) hb); have n6_ := Aside0.mk (Kd.R_below (by (with_reducible repeat (first | apply Kd.R_alloc | apply Kd.R_drewN | apply Kd.R_drew)); exact HO202.out) hb); have n7_ := Aside0.mk (Kd.R_below (by (with_reducible repeat (first | apply Kd.R_alloc | apply Kd.R_drewN | apply Kd.R_drew)); exact HO206.out) hb); have n8_ := Aside0.mk (Kd.R_below (by (with_reducible repeat (first | apply Kd.R_alloc | apply Kd.R_drewN | apply Kd.R_drew)); exact HO212.out) hb); have n9_ := Aside0.mk (Kd.R_below (by (with_reducible repeat (first | apply Kd.R_alloc | apply Kd.R_drewN | apply Kd.R_drew)); exact HO215.out) hb); have n10_ := Aside0.mk (Kd.R_below (by (with_reducible repeat (first | apply Kd.R_alloc | apply Kd.R_drewN | apply Kd.R_drew)); exact HO220.out) hb); have n11_ := Aside0.mk (Kd.N_elder' (by (with_reducible repeat (first | apply Kd.N_alloc | apply Kd.N_drewN | apply Kd.N_drew)); exact HO232.out) (by first | exact Kd.N_base ho70 | exact Kd.S_base ho70) hb); have n12_ := Aside0.mk (Kd.N_lower ho70 (below_size (by repeat (first | (with_reducible first | exact HB.out | apply below_alloc | apply pw_below_drewN | apply below_drew1) | exact HB.out)))); have n13_ := Aside0.mk (below_step (by repeat (first | (with_reducible first | exact HB.out | apply below_alloc | apply pw_below_drewN | apply below_drew1) | exact HB.out)) hb); clear HO182; clear HO186; clear HO189; clear HO193; clear HO196; clear HO199; clear HO202; clear HO206; clear HO212; clear HO215; clear HO220; clear HO232; clear HB; clear HO236; clear HO239; clear HO242; have HO182 := n0_; have HO186 := n1_; have HO189 := n2_; have HO193 := n3_; have HO196 := n4_; have HO199 := n5_; have HO202 := n6_; have HO206 := n7_; have HO212 := n8_; have HO215 := n9_; have HO220 := n10_; have HO232 := n11_; have HO245 := n12_; have HB := n13_; clear n0_ n1_ n2_ n3_ n4_ n5_ n6_ n7_ n8_ n9_ n10_ n11_ n12_ n13_; clear hb ho70; obtain ⟨Ao71, co71, eo71⟩ := Kd.N_slice HO193.out; subst eo71; obtain ⟨Ao72, co72, eo72⟩ := Kd.N_slice HO245.out; subst eo72) | (go_at_call 37; (with_reducible refine (torusref07_Same.calls k _ _ t190 _ _ y243 true _ ?side1 ?side2 ?side3 ?side4 A11.out).mono ?_); (case side1 => repeat (first | exact (Kd.N_reads' HO193.out).2.2 | (with_reducible refine Kd.C_alloc ?_ _) | (with_reducible refine Kd.C_drewN ?_ _) | (with_reducible refine Kd.C_drew ?_))); (case side2 => exact (Kd.N_reads' HO193.out).2.1); (case side3 => repeat (first | exact (Kd.N_reads' HO245.out).2.2 | (with_reducible refine Kd.C_alloc ?_ _) | (with_reducible refine Kd.C_drewN ?_ _) | (with_reducible refine Kd.C_drew ?_))); (case side4 => exact (Kd.N_reads' HO245.out).2.1); rintro e w' ⟨rfl, ⟨nd, rfl⟩⟩) | ((with_reducible refine gate_dst (N := 70) rfl ?_); (try (refine gate_guard (by rfl) ?_; dsimp only)); refine Kd.R_lit (Kd.int .i64) _ 3 ?hg (N := 70) ?hd (xs := ([1, 2, 3] : List Int)) (inner := [.int .i64 1, .int .i64 2, .int .i64 3]) (ok := fun _ => True) (okp := fun _ => True) ?hr ?hp (fun _ hk => hk) trivial (Below.refl _ _) (Nat.le_refl _) (by simp) ?_; (case hd => rfl); (case hg => rfl); (case hr => first | (go_simp; done) | (go_simp; rfl)); (case hp => exact (Reps.one (show Kd.M (Kd.int .i64) _ _ _ 1 [.int .i64 1] from rfl) (Reps.one (show Kd.M (Kd.int .i64) _ _ _ 2 [.int .i64 2] from rfl) (Reps.one (show Kd.M (Kd.int .i64) _ _ _ 3 [.int .i64 3] from rfl) (Reps.none _ _))))); intro v248 w73 ho74 hb hg_ hnew_; clear hg_ hnew_; (first | rw [← Ny247.out] at ho74 | (simp only [Int.reduceToNat] at ho74; rw [← Ny247.out] at ho74)); have n0_ := Aside0.mk (Kd.R_elder' (by (with_reducible repeat (first | apply Kd.R_alloc | apply Kd.R_drewN | apply Kd.R_drew)); exact HO182.out) (Kd.R_base ho74) hb); have n1_ := Aside0.mk (Kd.N_elder' (by (with_reducible repeat (first | apply Kd.N_alloc | apply Kd.N_drewN | apply Kd.N_drew)); exact HO186.out) (Kd.R_base ho74) hb); have n2_ := Aside0.mk (Kd.R_elder' (by (with_reducible repeat (first | apply Kd.R_alloc | apply Kd.R_drewN | apply Kd.R_drew)); exact HO189.out) (Kd.R_base ho74) hb); have n3_ := Aside0.mk (Kd.N_elder' (by (with_reducible repeat (first | apply Kd.N_alloc | apply Kd.N_drewN | apply Kd.N_drew)); exact HO193.out) (Kd.R_base ho74) hb); have n4_ := Aside0.mk (Kd.R_elder' (by (with_reducible repeat (first | apply Kd.R_alloc | apply Kd.R_drewN | apply Kd.R_drew)); exact HO196.out) (Kd.R_base ho74) hb); have n5_ := Aside0.mk (Kd.R_elder' (by (with_reducible repeat (first | apply Kd.R_alloc | apply Kd.R_drewN | apply Kd.R_drew)); exact HO199.out) (Kd.R_base ho74) hb); have n6_ := Aside0.mk (Kd.R_elder' (by (with_reducible repeat (first | apply Kd.R_alloc | apply Kd.R_drewN | apply Kd.R_drew)); exact HO202.out) (Kd.R_base ho74) hb); have n7_ := Aside0.mk (Kd.R_elder' (by (with_reducible repeat (first | apply Kd.R_alloc | apply Kd.R_drewN | apply Kd.R_drew)); exact HO206.out) (Kd.R_base ho74) hb); have n8_ := Aside0.mk (Kd.R_elder' (by (with_reducible repeat (first | apply Kd.R_alloc | apply Kd.R_drewN | apply Kd.R_drew)); exact HO212.out) (Kd.R_base ho74) hb); have n9_ := Aside0.mk (Kd.R_elder' (by (with_reducible repeat (first | apply Kd.R_alloc | apply Kd.R_drewN | apply Kd.R_drew)); exact HO215.out) (Kd.R_base ho74) hb); have n10_ := Aside0.mk (Kd.R_elder' (by (with_reducible repeat (first | apply Kd.R_alloc | apply Kd.R_drewN | apply Kd.R_drew)); exact HO220.out) (Kd.R_base ho74) hb); have n11_ := Aside0.mk (Kd.N_elder' (by (with_reducible repeat (first | apply Kd.N_alloc | apply Kd.N_drewN | apply Kd.N_drew)); exact HO232.out) (Kd.R_base ho74) hb); have n12_ := Aside0.mk (Kd.N_elder' (by (with_reducible repeat (first | apply Kd.N_alloc | apply Kd.N_drewN | apply Kd.N_drew)); exact HO245.out) (Kd.R_base ho74) hb); have n13_ := Aside0.mk (Kd.R_lower (Kd.R_new' (Kd.R_new' (Kd.R_new' (Kd.R_new' (Kd.R_new' (Kd.R_new' (Kd.R_new' (Kd.R_new' (Kd.R_new' ho74 (Kd.R_lt (by (with_reducible repeat (first | apply Kd.R_alloc | apply Kd.R_drewN | apply Kd.R_drew)); exact HO182.out))) (Kd.R_lt (by (with_reducible repeat (first | apply Kd.R_alloc | apply Kd.R_drewN | apply Kd.R_drew)); exact HO189.out))) (Kd.R_lt (by (with_reducible repeat (first | apply Kd.R_alloc | apply Kd.R_drewN | apply Kd.R_drew)); exact HO196.out))) (Kd.R_lt (by (with_reducible repeat (first | apply Kd.R_alloc | apply Kd.R_drewN | apply Kd.R_drew)); exact HO199.out))) (Kd.R_lt (by (with_reducible repeat (first | apply Kd.R_alloc | apply Kd.R_drewN | apply Kd.R_drew)); exact HO202.out))) (Kd.R_lt (by (with_reducible repeat (first | apply Kd.R_alloc | apply Kd.R_drewN | apply Kd.R_drew)); exact HO206.out))) (Kd.R_lt (by (with_reducible repeat (first | apply Kd.R_alloc | apply Kd.R_drewN | apply Kd.R_drew)); exact HO212.out))) (Kd.R_lt (by (with_reducible repeat (first | apply Kd.R_alloc | apply Kd.R_drewN | apply Kd.R_drew)); exact HO215.out))) (Kd.R_lt (by (with_reducible repeat (first | apply Kd.R_alloc | apply Kd.R_drewN | apply Kd.R_drew)); exact HO220.out))) (below_size (by repeat (first | (with_reducible first | exact HB.out | apply below_alloc | apply pw_below_drewN | apply below_drew1) | exact HB.out)))); have n14_ := Aside0.mk (below_step (by repeat (first | (with_reducible first | exact HB.out | apply below_alloc | apply pw_below_drewN | apply below_drew1) | exact HB.out)) hb); clear HO182; clear HO186; clear HO189; clear HO193; clear HO196; clear HO199; clear HO202; clear HO206; clear HO212; clear HO215; clear HO220; clear HO232; clear HO245; clear HB; have HO182 := n0_; have HO186 := n1_; have HO189 := n2_; have HO193 := n3_; have HO196 := n4_; have HO199 := n5_; have HO202 := n6_; have HO206 := n7_; have HO212 := n8_; have HO215 := n9_; have HO220 := n10_; have HO232 := n11_; have HO245 := n12_; have HO249 := n13_; have HB := n14_; clear n0_ n1_ n2_ n3_ n4_ n5_ n6_ n7_ n8_ n9_ n10_ n11_ n12_ n13_ n14_; clear hb ho74; obtain ⟨Ao75, co75, eo75⟩ := Kd.R_slice HO202.out; subst eo75; obtain ⟨Ao76, co76, eo76⟩ := Kd.R_slice HO249.out; subst eo76) | (go_at_call 22; (with_reducible refine (toruslaw07_is.calls k _ _ t200 t203 _ _ y247 true _ ?side1 ?side2 ?side3 ?side4 A13.out).mono ?_); (case side1 => repeat (first | exact (Kd.R_reads' HO202.out).2.2 | (with_reducible refine Kd.C_alloc ?_ _) | (with_reducible refine Kd.C_drewN ?_ _) | (with_reducible refine Kd.C_drew ?_))); (case side2 => exact (Kd.R_reads' HO202.out).2.1); (case side3 => repeat (first | exact (Kd.R_reads' HO249.out).2.2 | (with_reducible refine Kd.C_alloc ?_ _) | (with_reducible refine Kd.C_drewN ?_ _) | (with_reducible refine Kd.C_drew ?_))); (case side4 => exact (Kd.R_reads' HO249.out).2.1); rintro e w' ⟨rfl, ⟨nd, rfl⟩⟩) | ((with_reducible refine gate_dst (N := 84) rfl ?_); (try (refine gate_guard (by rfl) ?_; dsimp only)); refine Kd.R_lit (Kd.int .i64) _ 3 ?hg (N := 84) ?hd (xs := ([1, 3] : List Int)) (inner := [.int .i64 1, .int .i64 3]) (ok := fun _ => True) (okp := fun _ => True) ?hr ?hp (fun _ hk => hk) trivial (Below.refl _ _) (Nat.le_refl _) (by simp) ?_; (case hd => rfl); (case hg => rfl); (case hr => first | (go_simp; done) | (go_simp; rfl)); (case hp => exact (Reps.one (show Kd.M (Kd.int .i64) _ _ _ 1 [.int .i64 1] from rfl) (Reps.one (show Kd.M (Kd.int .i64) _ _ _ 3 [.int .i64 3] from rfl) (Reps.none _ _)))); intro v252 w77 ho78 hb hg_ hnew_; clear hg_ hnew_; (first | rw [← Ny251.out] at ho78 | (simp only [Int.reduceToNat] at ho78; rw [← Ny251.out] at ho78)); have n0_ := Aside0.mk (Kd.R_elder' (by (with_reducible repeat (first | apply Kd.R_alloc | apply Kd.R_drewN | apply Kd.R_drew)); exact HO182.out) (Kd.R_base ho78) hb); have n1_ := Aside0.mk (Kd.N_elder' (by (with_reducible repeat (first | apply Kd.N_alloc | apply Kd.N_drewN | apply Kd.N_drew)); exact HO186.out) (Kd.R_base ho78) hb); have n2_ := Aside0.mk (Kd.R_elder' (by (with_reducible repeat (first | apply Kd.R_alloc | apply Kd.R_drewN | apply Kd.R_drew)); exact HO189.out) (Kd.R_base ho78) hb); have n3_ := Aside0.mk (Kd.N_elder' (by (with_reducible repeat (first | apply Kd.N_alloc | apply Kd.N_drewN | apply Kd.N_drew)); exact HO193.out) (Kd.R_base ho78) hb); have n4_ := Aside0.mk (Kd.R_elder' (by (with_reducible repeat (first | apply Kd.R_alloc | apply Kd.R_drewN | apply Kd.R_drew)); exact HO196.out) (Kd.R_base ho78) hb); have n5_ := Aside0.mk (Kd.R_elder' (by (with_reducible repeat (first | apply Kd.R_alloc | apply Kd.R_drewN | apply Kd.R_drew)); exact HO199.out) (Kd.R_base ho78) hb); have n6_ := Aside0.mk (Kd.R_elder' (by (with_reducible repeat (first | apply Kd.R_alloc | apply Kd.R_drewN | apply Kd.R_drew)); exact HO202.out) (Kd.R_base ho78) hb); have n7_ := Aside0.mk (Kd.R_elder' (by (with_reducible repeat (first | apply Kd.R_alloc | apply Kd.R_drewN | apply Kd.R_drew)); exact HO206.out) (Kd.R_base ho78) hb); have n8_ := Aside0.mk (Kd.R_elder' (by (with_reducible repeat (first | apply Kd.R_alloc | apply Kd.R_drewN | apply Kd.R_drew)); exact HO212.out) (Kd.R_base ho78) hb); have n9_ := Aside0.mk (Kd.R_elder' (by (with_reducible repeat (first | apply Kd.R_alloc | apply Kd.R_drewN | apply Kd.R_drew)); exact HO215.out) (Kd.R_base ho78) hb); have n10_ := Aside0.mk (Kd.R_elder' (by (with_reducible repeat (first | apply Kd.R_alloc | apply Kd.R_drewN | apply Kd.R_drew)); exact HO220.out) (Kd.R_base ho78) hb); have n11_ := Aside0.mk (Kd.N_elder' (by (with_reducible repeat (first | apply Kd.N_alloc | apply Kd.N_drewN | apply Kd.N_drew)); exact HO232.out) (Kd.R_base ho78) hb); have n12_ := Aside0.mk (Kd.N_elder' (by (with_reducible repeat (first | apply Kd.N_alloc | apply Kd.N_drewN | apply Kd.N_drew)); exact HO245.out) (Kd.R_base ho78) hb); have n13_ := Aside0.mk (Kd.R_elder' (by (with_reducible repeat (first | apply Kd.R_alloc | apply Kd.R_drewN | apply Kd.R_drew)); exact HO249.out) (Kd.R_base ho78) hb); have n14_ := Aside0.mk (Kd.R_lower (Kd.R_new' (Kd.R_new' (Kd.R_new' (Kd.R_new' (Kd.R_new' (Kd.R_new' (Kd.R_new' (Kd.R_new' (Kd.R_new' (Kd.R_new' ho78 (Kd.R_lt (by (with_reducible repeat (first | apply Kd.R_alloc | apply Kd.R_drewN | apply Kd.R_drew)); exact HO182.out))) (Kd.R_lt (by (with_reducible repeat (first | apply Kd.R_alloc | apply Kd.R_drewN | apply Kd.R_drew)); exact HO189.out))) (Kd.R_lt (by (with_reducible repeat (first | apply Kd.R_alloc | apply Kd.R_drewN | apply Kd.R_drew)); exact HO196.out))) (Kd.R_lt (by (with_reducible repeat (first | apply Kd.R_alloc | apply Kd.R_drewN | apply Kd.R_drew)); exact HO199.out))) (Kd.R_lt (by (with_reducible repeat (first | apply Kd.R_alloc | apply Kd.R_drewN | apply Kd.R_drew)); exact HO202.out))) (Kd.R_lt (by (with_reducible repeat (first | apply Kd.R_alloc | apply Kd.R_drewN | apply Kd.R_drew)); exact HO206.out))) (Kd.R_lt (by (with_reducible repeat (first | apply Kd.R_alloc | apply Kd.R_drewN | apply Kd.R_drew)); exact HO212.out))) (Kd.R_lt (by (with_reducible repeat (first | apply Kd.R_alloc | apply Kd.R_drewN | apply Kd.R_drew)); exact HO215.out))) (Kd.R_lt (by (with_reducible repeat (first | apply Kd.R_alloc | apply Kd.R_drewN | apply Kd.R_drew)); exact HO220.out))) (Kd.R_lt (by (with_reducible repeat (first | apply Kd.R_alloc | apply Kd.R_drewN | apply Kd.R_drew)); exact HO249.out))) (below_size (by repeat (first | (with_reducible first | exact HB.out | apply below_alloc | apply pw_below_drewN | apply below_drew1) | exact HB.out)))); have n15_ := Aside0.mk (below_step (by repeat (first | (with_reducible first | exact HB.out | apply below_alloc | apply pw_below_drewN | apply below_drew1) | exact HB.out)) hb); clear HO182; clear HO186; clear HO189; clear HO193; clear HO196; clear HO199; clear HO202; clear HO206; clear HO212; clear HO215; clear HO220; clear HO232; clear HO245; clear HO249; clear HB; have HO182 := n0_; have HO186 := n1_; have HO189 := n2_; have HO193 := n3_; have HO196 := n4_; have HO199 := n5_; have HO202 := n6_; have HO206 := n7_; have HO212 := n8_; have HO215 := n9_; have HO220 := n10_; have HO232 := n11_; have HO245 := n12_; have HO249 := n13_; have HO253 := n14_; have HB := n15_; clear n0_ n1_ n2_ n3_ n4_ n5_ n6_ n7_ n8_ n9_ n10_ n11_ n12_ n13_ n14_ n15_; clear hb ho78; obtain ⟨Ao79, co79, eo79⟩ := Kd.R_slice HO212.out; subst eo79; obtain ⟨Ao80, co80, eo80⟩ := Kd.R_slice HO253.out; subst eo80) | (go_at_call 22; (with_reducible refine (toruslaw07_is.calls k _ _ t209 t210 _ _ y251 true _ ?side1 ?side2 ?side3 ?side4 A17.out).mono ?_); (case side1 => repeat (first | exact (Kd.R_reads' HO212.out).2.2 | (with_reducible refine Kd.C_alloc ?_ _) | (with_reducible refine Kd.C_drewN ?_ _) | (with_reducible refine Kd.C_drew ?_))); (case side2 => exact (Kd.R_reads' HO212.out).2.1); (case side3 => repeat (first | exact (Kd.R_reads' HO253.out).2.2 | (with_reducible refine Kd.C_alloc ?_ _) | (with_reducible refine Kd.C_drewN ?_ _) | (with_reducible refine Kd.C_drew ?_))); (case side4 => exact (Kd.R_reads' HO253.out).2.1); rintro e w' ⟨rfl, ⟨nd, rfl⟩⟩) | ((with_reducible refine gate_dst (N := 90) rfl ?_); (try (refine gate_guard (by rfl) ?_; dsimp only)); refine Kd.R_lit (Kd.int .i64) _ 3 ?hg (N := 90) ?hd (xs := ([1, 2, 3] : List Int)) (inner := [.int .i64 1, .int .i64 2, .int .i64 3]) (ok := fun _ => True) (okp := fun _ => True) ?hr ?hp (fun _ hk => hk) trivial (Below.refl _ _) (Nat.le_refl _) (by simp) ?_; (case hd => rfl); (case hg => rfl); (case hr => first | (go_simp; done) | (go_simp; rfl)); (case hp => exact (Reps.one (show Kd.M (Kd.int .i64) _ _ _ 1 [.int .i64 1] from rfl) (Reps.one (show Kd.M (Kd.int .i64) _ _ _ 2 [.int .i64 2] from rfl) (Reps.one (show Kd.M (Kd.int .i64) _ _ _ 3 [.int .i64 3] from rfl) (Reps.none _ _))))); intro v256 w81 ho82 hb hg_ hnew_; clear hg_ hnew_; (first | rw [← Ny255.out] at ho82 | (simp only [Int.reduceToNat] at ho82; rw [← Ny255.out] at ho82)); have n0_ := Aside0.mk (Kd.R_elder' (by (with_reducible repeat (first | apply Kd.R_alloc | apply Kd.R_drewN | apply Kd.R_drew)); exact HO182.out) (Kd.R_base ho82) hb); have n1_ := Aside0.mk (Kd.N_elder' (by (with_reducible repeat (first | apply Kd.N_alloc | apply Kd.N_drewN | apply Kd.N_drew)); exact HO186.out) (Kd.R_base ho82) hb); have n2_ := Aside0.mk (Kd.R_elder' (by (with_reducible repeat (first | apply Kd.R_alloc | apply Kd.R_drewN | apply Kd.R_drew)); exact HO189.out) (Kd.R_base ho82) hb); have n3_ := Aside0.mk (Kd.N_elder' (by (with_reducible repeat (first | apply Kd.N_alloc | apply Kd.N_drewN | apply Kd.N_drew)); exact HO193.out) (Kd.R_base ho82) hb); have n4_ := Aside0.mk (Kd.R_elder' (by (with_reducible repeat (first | apply Kd.R_alloc | apply Kd.R_drewN | apply Kd.R_drew)); exact HO196.out) (Kd.R_base ho82) hb); have n5_ := Aside0.mk (Kd.R_elder' (by (with_reducible repeat (first | apply Kd.R_alloc | apply Kd.R_drewN | apply Kd.R_drew)); exact HO199.out) (Kd.R_base ho82) hb); have n6_ := Aside0.mk (Kd.R_elder' (by (with_reducible repeat (first | apply Kd.R_alloc | apply Kd.R_drewN | apply Kd.R_drew)); exact HO202.out) (Kd.R_base ho82) hb); have n7_ := Aside0.mk (Kd.R_elder' (by (with_reducible repeat (first | apply Kd.R_alloc | apply Kd.R_drewN | apply Kd.R_drew)); exact HO206.out) (Kd.R_base ho82) hb); have n8_ := Aside0.mk (Kd.R_elder' (by (with_reducible repeat (first | apply Kd.R_alloc | apply Kd.R_drewN | apply Kd.R_drew)); exact HO212.out) (Kd.R_base ho82) hb); have n9_ := Aside0.mk (Kd.R_elder' (by (with_reducible repeat (first | apply Kd.R_alloc | apply Kd.R_drewN | apply Kd.R_drew)); exact HO215.out) (Kd.R_base ho82) hb); have n10_ := Aside0.mk (Kd.R_elder' (by (with_reducible repeat (first | apply Kd.R_alloc | apply Kd.R_drewN | apply Kd.R_drew)); exact HO220.out) (Kd.R_base ho82) hb); have n11_ := Aside0.mk (Kd.N_elder' (by (with_reducible repeat (first | apply Kd.N_alloc | apply Kd.N_drewN | apply Kd.N_drew)); exact HO232.out) (Kd.R_base ho82) hb); have n12_ := Aside0.mk (Kd.N_elder' (by (with_reducible repeat (first | apply Kd.N_alloc | apply Kd.N_drewN | apply Kd.N_drew)); exact HO245.out) (Kd.R_base ho82) hb); have n13_ := Aside0.mk (Kd.R_elder' (by (with_reducible repeat (first | apply Kd.R_alloc | apply Kd.R_drewN | apply Kd.R_drew)); exact HO249.out) (Kd.R_base ho82) hb); have n14_ := Aside0.mk (Kd.R_elder' (by (with_reducible repeat (first | apply Kd.R_alloc | apply Kd.R_drewN | apply Kd.R_drew)); exact HO253.out) (Kd.R_base ho82) hb); have n15_ := Aside0.mk (Kd.R_lower (Kd.R_new' (Kd.R_new' (Kd.R_new' (Kd.R_new' (Kd.R_new' (Kd.R_new' (Kd.R_new' (Kd.R_new' (Kd.R_new' (Kd.R_new' (Kd.R_new' ho82 (Kd.R_lt (by (with_reducible repeat (first | apply Kd.R_alloc | apply Kd.R_drewN | apply Kd.R_drew)); exact HO182.out))) (Kd.R_lt (by (with_reducible repeat (first | apply Kd.R_alloc | apply Kd.R_drewN | apply Kd.R_drew)); exact HO189.out))) (Kd.R_lt (by (with_reducible repeat (first | apply Kd.R_alloc | apply Kd.R_drewN | apply Kd.R_drew)); exact HO196.out))) (Kd.R_lt (by (with_reducible repeat (first | apply Kd.R_alloc | apply Kd.R_drewN | apply Kd.R_drew)); exact HO199.out))) (Kd.R_lt (by (with_reducible repeat (first | apply Kd.R_alloc | apply Kd.R_drewN | apply Kd.R_drew)); exact HO202.out))) (Kd.R_lt (by (with_reducible repeat (first | apply Kd.R_alloc | apply Kd.R_drewN | apply Kd.R_drew)); exact HO206.out))) (Kd.R_lt (by (with_reducible repeat (first | apply Kd.R_alloc | apply Kd.R_drewN | apply Kd.R_drew)); exact HO212.out))) (Kd.R_lt (by (with_reducible repeat (first | apply Kd.R_alloc | apply Kd.R_drewN | apply Kd.R_drew)); exact HO215.out))) (Kd.R_lt (by (with_reducible repeat (first | apply Kd.R_alloc | apply Kd.R_drewN | apply Kd.R_drew)); exact HO220.out))) (Kd.R_lt (by (with_reducible repeat (first | apply Kd.R_alloc | apply Kd.R_drewN | apply Kd.R_drew)); exact HO249.out))) (Kd.R_lt (by (with_reducible repeat (first | apply Kd.R_alloc | apply Kd.R_drewN | apply Kd.R_drew)); exact HO253.out))) (below_size (by repeat (first | (with_reducible first | exact HB.out | apply below_alloc | apply pw_below_drewN | apply below_drew1) | exact HB.out)))); have n16_ := Aside0.mk (below_step (by repeat (first | (with_reducible first | exact HB.out | apply below_alloc | apply pw_below_drewN | apply below_drew1) | exact HB.out)) hb); clear HO182; clear HO186; clear HO189; clear HO193; clear HO196; clear HO199; clear HO202; clear HO206; clear HO212; clear HO215; clear HO220; clear HO232; clear HO245; clear HO249; clear HO253; clear HB; have HO182 := n0_; have HO186 := n1_; have HO189 := n2_; have HO193 := n3_; have HO196 := n4_; have HO199 := n5_; have HO202 := n6_; have HO206 := n7_; have HO212 := n8_; have HO215 := n9_; have HO220 := n10_; have HO232 := n11_; have HO245 := n12_; have HO249 := n13_; have HO253 := n14_; have HO257 := n15_; have HB := n16_; clear n0_ n1_ n2_ n3_ n4_ n5_ n6_ n7_ n8_ n9_ n10_ n11_ n12_ n13_ n14_ n15_ n16_; clear hb ho82; obtain ⟨Ao83, co83, eo83⟩ := Kd.R_slice HO220.out; subst eo83; obtain ⟨Ao84, co84, eo84⟩ := Kd.R_slice HO257.out; subst eo84) | (go_at_call 22; (with_reducible refine (toruslaw07_is.calls k _ _ t216 t218 _ _ y255 true _ ?side1 ?side2 ?side3 ?side4 A19.out).mono ?_); (case side1 => repeat (first | exact (Kd.R_reads' HO220.out).2.2 | (with_reducible refine Kd.C_alloc ?_ _) | (with_reducible refine Kd.C_drewN ?_ _) | (with_reducible refine Kd.C_drew ?_))); (case side2 => exact (Kd.R_reads' HO220.out).2.1); (case side3 => repeat (first | exact (Kd.R_reads' HO257.out).2.2 | (with_reducible refine Kd.C_alloc ?_ _) | (with_reducible refine Kd.C_drewN ?_ _) | (with_reducible refine Kd.C_drew ?_))); (case side4 => exact (Kd.R_reads' HO257.out).2.1); rintro e w' ⟨rfl, ⟨nd, rfl⟩⟩) | ((with_reducible refine gate_dst (N := 98) rfl ?_); (try (refine gate_guard (by rfl) ?_; dsimp only)); refine Kd.R_lit (Kd.int .i64) _ 3 ?hg (N := 98) ?hd (xs := ([5] : List Int)) (inner := [.int .i64 5]) (ok := fun _ => True) (okp := fun _ => True) ?hr ?hp (fun _ hk => hk) trivial (Below.refl _ _) (Nat.le_refl _) (by simp) ?_; (case hd => rfl); (case hg => rfl); (case hr => first | (go_simp; done) | (go_simp; rfl)); (case hp => exact (Reps.one (show Kd.M (Kd.int .i64) _ _ _ 5 [.int .i64 5] from rfl) (Reps.none _ _))); intro v260 w85 ho86 hb hg_ hnew_; clear hg_ hnew_; (first | rw [← Ny259.out] at ho86 | (simp only [Int.reduceToNat] at ho86; rw [← Ny259.out] at ho86)); have n0_ := Aside0.mk (Kd.R_elder' (by (with_reducible repeat (first | apply Kd.R_alloc | apply Kd.R_drewN | apply Kd.R_drew)); exact HO182.out) (Kd.R_base ho86) hb); have n1_ := Aside0.mk (Kd.N_elder' (by (with_reducible repeat (first | apply Kd.N_alloc | apply Kd.N_drewN | apply Kd.N_drew)); exact HO186.out) (Kd.R_base ho86) hb); have n2_ := Aside0.mk (Kd.R_elder' (by (with_reducible repeat (first | apply Kd.R_alloc | apply Kd.R_drewN | apply Kd.R_drew)); exact HO189.out) (Kd.R_base ho86) hb); have n3_ := Aside0.mk (Kd.N_elder' (by (with_reducible repeat (first | apply Kd.N_alloc | apply Kd.N_drewN | apply Kd.N_drew)); exact HO193.out) (Kd.R_base ho86) hb); have n4_ := Aside0.mk (Kd.R_elder' (by (with_reducible repeat (first | apply Kd.R_alloc | apply Kd.R_drewN | apply Kd.R_drew)); exact HO196.out) (Kd.R_base ho86) hb); have n5_ := Aside0.mk (Kd.R_elder' (by (with_reducible repeat (first | apply Kd.R_alloc | apply Kd.R_drewN | apply Kd.R_drew)); exact HO199.out) (Kd.R_base ho86) hb); have n6_ := Aside0.mk (Kd.R_elder' (by (with_reducible repeat (first | apply Kd.R_alloc | apply Kd.R_drewN | apply Kd.R_drew)); exact HO202.out) (Kd.R_base ho86) hb); have n7_ := Aside0.mk (Kd.R_elder' (by (with_reducible repeat (first | apply Kd.R_alloc | apply Kd.R_drewN | apply Kd.R_drew)); exact HO206.out) (Kd.R_base ho86) hb); have n8_ := Aside0.mk (Kd.R_elder' (by (with_reducible repeat (first | apply Kd.R_alloc | apply Kd.R_drewN | apply Kd.R_drew)); exact HO212.out) (Kd.R_base ho86) hb); have n9_ := Aside0.mk (Kd.R_elder' (by (with_reducible repeat (first | apply Kd.R_alloc | apply Kd.R_drewN | apply Kd.R_drew)); exact HO215.out) (Kd.R_base ho86) hb); have n10_ := Aside0.mk (Kd.R_elder' (by (with_reducible repeat (first | apply Kd.R_alloc | apply Kd.R_drewN | apply Kd.R_drew)); exact HO220.out) (Kd.R_base ho86) hb); have n11_ := Aside0.mk (Kd.N_elder' (by (with_reducible repeat (first | apply Kd.N_alloc | apply Kd.N_drewN | apply Kd.N_drew)); exact HO232.out) (Kd.R_base ho86) hb); have n12_ := Aside0.mk (Kd.N_elder' (by (with_reducible repeat (first | apply Kd.N_alloc | apply Kd.N_drewN | apply Kd.N_drew)); exact HO245.out) (Kd.R_base ho86) hb); have n13_ := Aside0.mk (Kd.R_elder' (by (with_reducible repeat (first | apply Kd.R_alloc | apply Kd.R_drewN | apply Kd.R_drew)); exact HO249.out) (Kd.R_base ho86) hb); have n14_ := Aside0.mk (Kd.R_elder' (by (with_reducible repeat (first | apply Kd.R_alloc | apply Kd.R_drewN | apply Kd.R_drew)); exact HO253.out) (Kd.R_base ho86) hb); have n15_ := Aside0.mk (Kd.R_elder' (by (with_reducible repeat (first | apply Kd.R_alloc | apply Kd.R_drewN | apply Kd.R_drew)); exact HO257.out) (Kd.R_base ho86) hb); have n16_ := Aside0.mk (Kd.R_lower (Kd.R_new' (Kd.R_new' (Kd.R_new' (Kd.R_new' (Kd.R_new' (Kd.R_new' (Kd.R_new' (Kd.R_new' (Kd.R_new' (Kd.R_new' (Kd.R_new' (Kd.R_new' ho86 (Kd.R_lt (by (with_reducible repeat (first | apply Kd.R_alloc | apply Kd.R_drewN | apply Kd.R_drew)); exact HO182.out))) (Kd.R_lt (by (with_reducible repeat (first | apply Kd.R_alloc | apply Kd.R_drewN | apply Kd.R_drew)); exact HO189.out))) (Kd.R_lt (by (with_reducible repeat (first | apply Kd.R_alloc | apply Kd.R_drewN | apply Kd.R_drew)); exact HO196.out))) (Kd.R_lt (by (with_reducible repeat (first | apply Kd.R_alloc | apply Kd.R_drewN | apply Kd.R_drew)); exact HO199.out))) (Kd.R_lt (by (with_reducible repeat (first | apply Kd.R_alloc | apply Kd.R_drewN | apply Kd.R_drew)); exact HO202.out))) (Kd.R_lt (by (with_reducible repeat (first | apply Kd.R_alloc | apply Kd.R_drewN | apply Kd.R_drew)); exact HO206.out))) (Kd.R_lt (by (with_reducible repeat (first | apply Kd.R_alloc | apply Kd.R_drewN | apply Kd.R_drew)); exact HO212.out))) (Kd.R_lt (by (with_reducible repeat (first | apply Kd.R_alloc | apply Kd.R_drewN | apply Kd.R_drew)); exact HO215.out))) (Kd.R_lt (by (with_reducible repeat (first | apply Kd.R_alloc | apply Kd.R_drewN | apply Kd.R_drew)); exact HO220.out))) (Kd.R_lt (by (with_reducible repeat (first | apply Kd.R_alloc | apply Kd.R_drewN | apply Kd.R_drew)); exact HO249.out))) (Kd.R_lt (by (with_reducible repeat (first | apply Kd.R_alloc | apply Kd.R_drewN | apply Kd.R_drew)); exact HO253.out))) (Kd.R_lt (by (with_reducible repeat (first | apply Kd.R_alloc | apply Kd.R_drewN | apply Kd.R_drew)); exact HO257.out))) (below_size (by repeat (first | (with_reducible first | exact HB.out | apply below_alloc | apply pw_below_drewN | apply below_drew1) | exact HB.out)))); have n17_ := Aside0.mk (below_step (by repeat (first | (with_reducible first | exact HB.out | apply below_alloc | apply pw_below_drewN | apply below_drew1) | exact HB.out)) hb); clear HO182; clear HO186; clear HO189; clear HO193; clear HO196; clear HO199; clear HO202; clear HO206; clear HO212; clear HO215; clear HO220; clear HO232; clear HO245; clear HO249; clear HO253; clear HO257; clear HB; have HO182 := n0_; have HO186 := n1_; have HO189 := n2_; have HO193 := n3_; have HO196 := n4_; have HO199 := n5_; have HO202 := n6_; have HO206 := n7_; have HO212 := n8_; have HO215 := n9_; have HO220 := n10_; have HO232 := n11_; have HO245 := n12_; have HO249 := n13_; have HO253 := n14_; have HO257 := n15_; have HO261 := n16_; have HB := n17_; clear n0_ n1_ n2_ n3_ n4_ n5_ n6_ n7_ n8_ n9_ n10_ n11_ n12_ n13_ n14_ n15_ n16_ n17_; clear hb ho86) | ((with_reducible refine gate_dst (N := 99) rfl ?_); (try (refine gate_guard (by rfl) ?_; dsimp only)); refine Kd.R_lit (Kd.int .i64) _ 3 ?hg (N := 99) ?hd (xs := ([0, 1] : List Int)) (inner := [.int .i64 0, .int .i64 1]) (ok := fun _ => True) (okp := fun _ => True) ?hr ?hp (fun _ hk => hk) trivial (Below.refl _ _) (Nat.le_refl _) (by simp) ?_; (case hd => rfl); (case hg => rfl); (case hr => first | (go_simp; done) | (go_simp; rfl)); (case hp => exact (Reps.one (show Kd.M (Kd.int .i64) _ _ _ 0 [.int .i64 0] from rfl) (Reps.one (show Kd.M (Kd.int .i64) _ _ _ 1 [.int .i64 1] from rfl) (Reps.none _ _)))); intro v263 w87 ho88 hb hg_ hnew_; clear hg_ hnew_; (first | rw [← Ny262.out] at ho88 | (simp only [Int.reduceToNat] at ho88; rw [← Ny262.out] at ho88)); have n0_ := Aside0.mk (Kd.R_elder' (by (with_reducible repeat (first | apply Kd.R_alloc | apply Kd.R_drewN | apply Kd.R_drew)); exact HO182.out) (Kd.R_base ho88) hb); have n1_ := Aside0.mk (Kd.N_elder' (by (with_reducible repeat (first | apply Kd.N_alloc | apply Kd.N_drewN | apply Kd.N_drew)); exact HO186.out) (Kd.R_base ho88) hb); have n2_ := Aside0.mk (Kd.R_elder' (by (with_reducible repeat (first | apply Kd.R_alloc | apply Kd.R_drewN | apply Kd.R_drew)); exact HO189.out) (Kd.R_base ho88) hb); have n3_ := Aside0.mk (Kd.N_elder' (by (with_reducible repeat (first | apply Kd.N_alloc | apply Kd.N_drewN | apply Kd.N_drew)); exact HO193.out) (Kd.R_base ho88) hb); have n4_ := Aside0.mk (Kd.R_elder' (by (with_reducible repeat (first | apply Kd.R_alloc | apply Kd.R_drewN | apply Kd.R_drew)); exact HO196.out) (Kd.R_base ho88) hb); have n5_ := Aside0.mk (Kd.R_elder' (by (with_reducible repeat (first | apply Kd.R_alloc | apply Kd.R_drewN | apply Kd.R_drew)); exact HO199.out) (Kd.R_base ho88) hb); have n6_ := Aside0.mk (Kd.R_elder' (by (with_reducible repeat (first | apply Kd.R_alloc | apply Kd.R_drewN | apply Kd.R_drew)); exact HO202.out) (Kd.R_base ho88) hb); have n7_ := Aside0.mk (Kd.R_elder' (by (with_reducible repeat (first | apply Kd.R_alloc | apply Kd.R_drewN | apply Kd.R_drew)); exact HO206.out) (Kd.R_base ho88) hb); have n8_ := Aside0.mk (Kd.R_elder' (by (with_reducible repeat (first | apply Kd.R_alloc | apply Kd.R_drewN | apply Kd.R_drew)); exact HO212.out) (Kd.R_base ho88) hb); have n9_ := Aside0.mk (Kd.R_elder' (by (with_reducible repeat (first | apply Kd.R_alloc | apply Kd.R_drewN | apply Kd.R_drew)); exact HO215.out) (Kd.R_base ho88) hb); have n10_ := Aside0.mk (Kd.R_elder' (by (with_reducible repeat (first | apply Kd.R_alloc | apply Kd.R_drewN | apply Kd.R_drew)); exact HO220.out) (Kd.R_base ho88) hb); have n11_ := Aside0.mk (Kd.N_elder' (by (with_reducible repeat (first | apply Kd.N_alloc | apply Kd.N_drewN | apply Kd.N_drew)); exact HO232.out) (Kd.R_base ho88) hb); have n12_ := Aside0.mk (Kd.N_elder' (by (with_reducible repeat (first | apply Kd.N_alloc | apply Kd.N_drewN | apply Kd.N_drew)); exact HO245.out) (Kd.R_base ho88) hb); have n13_ := Aside0.mk (Kd.R_elder' (by (with_reducible repeat (first | apply Kd.R_alloc | apply Kd.R_drewN | apply Kd.R_drew)); exact HO249.out) (Kd.R_base ho88) hb); have n14_ := Aside0.mk (Kd.R_elder' (by (with_reducible repeat (first | apply Kd.R_alloc | apply Kd.R_drewN | apply Kd.R_drew)); exact HO253.out) (Kd.R_base ho88) hb); have n15_ := Aside0.mk (Kd.R_elder' (by (with_reducible repeat (first | apply Kd.R_alloc | apply Kd.R_drewN | apply Kd.R_drew)); exact HO257.out) (Kd.R_base ho88) hb); have n16_ := Aside0.mk (Kd.R_elder' (by (with_reducible repeat (first | apply Kd.R_alloc | apply Kd.R_drewN | apply Kd.R_drew)); exact HO261.out) (Kd.R_base ho88) hb); have n17_ := Aside0.mk (Kd.R_lower (Kd.R_new' (Kd.R_new' (Kd.R_new' (Kd.R_new' (Kd.R_new' (Kd.R_new' (Kd.R_new' (Kd.R_new' (Kd.R_new' (Kd.R_new' (Kd.R_new' (Kd.R_new' (Kd.R_new' ho88 (Kd.R_lt (by (with_reducible repeat (first | apply Kd.R_alloc | apply Kd.R_drewN | apply Kd.R_drew)); exact HO182.out))) (Kd.R_lt (by (with_reducible repeat (first | apply Kd.R_alloc | apply Kd.R_drewN | apply Kd.R_drew)); exact HO189.out))) (Kd.R_lt (by (with_reducible repeat (first | apply Kd.R_alloc | apply Kd.R_drewN | apply Kd.R_drew)); exact HO196.out))) (Kd.R_lt (by (with_reducible repeat (first | apply Kd.R_alloc | apply Kd.R_drewN | apply Kd.R_drew)); exact HO199.out))) (Kd.R_lt (by (with_reducible repeat (first | apply Kd.R_alloc | apply Kd.R_drewN | apply Kd.R_drew)); exact HO202.out))) (Kd.R_lt (by (with_reducible repeat (first | apply Kd.R_alloc | apply Kd.R_drewN | apply Kd.R_drew)); exact HO206.out))) (Kd.R_lt (by (with_reducible repeat (first | apply Kd.R_alloc | apply Kd.R_drewN | apply Kd.R_drew)); exact HO212.out))) (Kd.R_lt (by (with_reducible repeat (first | apply Kd.R_alloc | apply Kd.R_drewN | apply Kd.R_drew)); exact HO215.out))) (Kd.R_lt (by (with_reducible repeat (first | apply Kd.R_alloc | apply Kd.R_drewN | apply Kd.R_drew)); exact HO220.out))) (Kd.R_lt (by (with_reducible repeat (first | apply Kd.R_alloc | apply Kd.R_drewN | apply Kd.R_drew)); exact HO249.out))) (Kd.R_lt (by (with_reducible repeat (first | apply Kd.R_alloc | apply Kd.R_drewN | apply Kd.R_drew)); exact HO253.out))) (Kd.R_lt (by (with_reducible repeat (first | apply Kd.R_alloc | apply Kd.R_drewN | apply Kd.R_drew)); exact HO257.out))) (Kd.R_lt (by (with_reducible repeat (first | apply Kd.R_alloc | apply Kd.R_drewN | apply Kd.R_drew)); exact HO261.out))) (below_size (by repeat (first | (with_reducible first | exact HB.out | apply below_alloc | apply pw_below_drewN | apply below_drew1) | exact HB.out)))); have n18_ := Aside0.mk (below_step (by repeat (first | (with_reducible first | exact HB.out | apply below_alloc | apply pw_below_drewN | apply below_drew1) | exact HB.out)) hb); clear HO182; clear HO186; clear HO189; clear HO193; clear HO196; clear HO199; clear HO202; clear HO206; clear HO212; clear HO215; clear HO220; clear HO232; clear HO245; clear HO249; clear HO253; clear HO257; clear HO261; clear HB; have HO182 := n0_; have HO186 := n1_; have HO189 := n2_; have HO193 := n3_; have HO196 := n4_; have HO199 := n5_; have HO202 := n6_; have HO206 := n7_; have HO212 := n8_; have HO215 := n9_; have HO220 := n10_; have HO232 := n11_; have HO245 := n12_; have HO249 := n13_; have HO253 := n14_; have HO257 := n15_; have HO261 := n16_; have HO264 := n17_; have HB := n18_; clear n0_ n1_ n2_ n3_ n4_ n5_ n6_ n7_ n8_ n9_ n10_ n11_ n12_ n13_ n14_ n15_ n16_ n17_ n18_; clear hb ho88; obtain ⟨Ao89, co89, eo89⟩ := Kd.R_slice HO261.out; subst eo89; obtain ⟨Ao90, co90, eo90⟩ := Kd.R_slice HO264.out; subst eo90) | (go_at_call 20; (with_reducible refine (simplex_Cmp.calls k _ _ y259 _ _ y262 t265 _ ?side1 ?side2 ?side3 ?side4 A22.out).mono ?_); (case side1 => repeat (first | exact (Kd.R_reads' HO261.out).2.2 | (with_reducible refine Kd.C_alloc ?_ _) | (with_reducible refine Kd.C_drewN ?_ _) | (with_reducible refine Kd.C_drew ?_))); (case side2 => exact (Kd.R_reads' HO261.out).2.1); (case side3 => repeat (first | exact (Kd.R_reads' HO264.out).2.2 | (with_reducible refine Kd.C_alloc ?_ _) | (with_reducible refine Kd.C_drewN ?_ _) | (with_reducible refine Kd.C_drew ?_))); (case side4 => exact (Kd.R_reads' HO264.out).2.1); rintro e w' ⟨rfl, ⟨nd, rfl⟩⟩))
                      go_ret
                      exact ⟨by first | rfl | (simp [errW_none, errW_some] <;> rfl) | (simp [*, errW_none, errW_some] <;> rfl), by repeat (first | (with_reducible first | exact HB.out | apply below_alloc | apply pw_below_drewN | apply below_drew1) | exact HB.out)⟩
                    · rw [if_neg c21] at H
                      exact absurd H (by simp)
                  · replace c20 := Bool.eq_false_iff.mpr c20
                    subst c20
                    have H1 : (none) = some r := by rw [if_neg (show ¬ (false = true) by decide)] at H; exact H
                    clear H
                    have H := H1
                    clear H1
                    exact absurd H (by simp)
                · replace c18 := Bool.eq_false_iff.mpr c18
                  subst c18
                  have H1 : (none) = some r := by rw [if_neg (show ¬ (false = true) by decide)] at H; exact H
                  clear H
                  have H := H1
                  clear H1
                  exact absurd H (by simp)
              · rw [if_neg c16] at H
                exact absurd H (by simp)
            · rw [if_neg c15] at H
              exact absurd H (by simp)
          · replace c14 := Bool.eq_false_iff.mpr c14
            subst c14
            have H1 : (none) = some r := by rw [if_neg (show ¬ (false = true) by decide)] at H; exact H
            clear H
            have H := H1
            clear H1
            exact absurd H (by simp)
        · replace c12 := Bool.eq_false_iff.mpr c12
          subst c12
          have H1 : (none) = some r := by rw [if_neg (show ¬ (false = true) by decide)] at H; exact H
          clear H
          have H := H1
          clear H1
          exact absurd H (by simp)
      · rw [if_neg c10] at H
        exact absurd H (by simp)
    · replace c9 := Bool.eq_false_iff.mpr c9
      subst c9
      have H1 : (none) = some r := by rw [if_neg (show ¬ (false = true) by decide)] at H; exact H
      clear H
      have H := H1
      clear H1
      exact absurd H (by simp)
  · rw [if_neg c7] at H
    exact absurd H (by simp)

end Go.Proofs.YticckanjfdcpaaaDoor.PSimplex
namespace Go.Proofs.YticckanjfdcpaaaDoor.PSimplex
open Go.RowKit Go.Proofs.YticckanjfdcpaaaDoorW.PrintWords Go.Proofs.YticckanjfdcpaaaDoorW.PrintLast Go.Proofs.YticckanjfdcpaaaDoorW.PrintMore
attribute [local go_sem] max2_int min2_int max_two min_two max_three min_three max_four min_four   -- for this text's walks alone
set_option linter.unusedVariables false
set_option linter.unusedSimpArgs false

/-! ### torusref07_Check: function 28 -/
mutual
def torusref07_Check.l0 : Nat → List Int → Int → Option (Int)
  | 0, _, _ => none
  | k + 1, x0, x3 => if x3 < (x0.length : Int) then (if 0 ≤ x3 then (if (rd x0 x3) < 0 then (some 1) else (if (rd x0 x3) ≥ 64 then (some 1) else (torusref07_Check.l0 k x0 (wrap64 (x3 + 1))))) else (none)) else (torusref07_Check.l1 k x0 1)
def torusref07_Check.l1 : Nat → List Int → Int → Option (Int)
  | 0, _, _ => none
  | k + 1, x0, x4 => if x4 < (x0.length : Int) then (if 0 ≤ x4 then (if 0 ≤ (wrap64 (x4 - 1)) then (if (wrap64 (x4 - 1)) < (x0.length : Int) then (if (rd x0 x4) ≤ (rd x0 (wrap64 (x4 - 1))) then (some 6) else (torusref07_Check.l1 k x0 (wrap64 (x4 + 1)))) else (none)) else (none)) else (none)) else (some 0)
end
def torusref07_Check.f (k : Nat) (l0 : List Int) : Option (Int) := if (l0.length : Int) = 0 then (some 1) else (if (l0.length : Int) > 5 then (some 3) else (torusref07_Check.l0 k l0 0))
theorem torusref07_Check.mono_l : ∀ k, (∀ y0 y1, LeO (torusref07_Check.l0 k y0 y1) (torusref07_Check.l0 (k + 1) y0 y1)) ∧ (∀ y0 y1, LeO (torusref07_Check.l1 k y0 y1) (torusref07_Check.l1 (k + 1) y0 y1))
  | 0 => ⟨fun _ _ r h => by simp [torusref07_Check.l0] at h, fun _ _ r h => by simp [torusref07_Check.l1] at h⟩
  | k + 1 => by
    obtain ⟨ih0, ih1⟩ := torusref07_Check.mono_l k
    refine ⟨?_, ?_⟩
    · intro y0 y1
      unfold torusref07_Check.l0
      repeat' first
      | (with_reducible exact ih0 _ _)
      | (with_reducible exact ih1 _ _)
      | (with_reducible exact LeO.refl _)
      | (with_reducible exact LeO.none _)
      | (with_reducible refine LeO.ite ?_ ?_)
      | (with_reducible refine LeO.bind ?_ (fun _ => ?_))
      | exact ih0 _ _
      | exact ih1 _ _
      | exact LeO.none _
      | refine LeO.ite ?_ ?_
      | refine LeO.bind ?_ (fun _ => ?_)
    · intro y0 y1
      unfold torusref07_Check.l1
      repeat' first
      | (with_reducible exact ih0 _ _)
      | (with_reducible exact ih1 _ _)
      | (with_reducible exact LeO.refl _)
      | (with_reducible exact LeO.none _)
      | (with_reducible refine LeO.ite ?_ ?_)
      | (with_reducible refine LeO.bind ?_ (fun _ => ?_))
      | exact ih0 _ _
      | exact ih1 _ _
      | exact LeO.none _
      | refine LeO.ite ?_ ?_
      | refine LeO.bind ?_ (fun _ => ?_)
theorem torusref07_Check.mono : ∀ a0 k, LeO (torusref07_Check.f k a0) (torusref07_Check.f (k + 1) a0) := by
  intro a0 k
  obtain ⟨ih0, ih1⟩ := torusref07_Check.mono_l k
  unfold torusref07_Check.f
  repeat' first
      | (with_reducible exact ih0 _ _)
      | (with_reducible exact ih1 _ _)
      | (with_reducible exact LeO.refl _)
      | (with_reducible exact LeO.none _)
      | (with_reducible refine LeO.ite ?_ ?_)
      | (with_reducible refine LeO.bind ?_ (fun _ => ?_))
      | exact ih0 _ _
      | exact ih1 _ _
      | exact LeO.none _
      | refine LeO.ite ?_ ?_
      | refine LeO.bind ?_ (fun _ => ?_)
set_option maxHeartbeats 8000000 in
set_option maxRecDepth 100000 in
theorem torusref07_Check.calls (k : Nat) (A0 : Option Addr) (c0 : Nat) (l0 : List Int) (r : Int) (w : World) (hr0 : Kd.C (Kd.int .i64) w A0 l0.length l0) (hc0 : l0.length ≤ c0) (h : torusref07_Check.f k l0 = some r) :
    Calls Tryd.prog 28 #[.slice A0 l0.length c0] w fun e w' => e = .returned (.int .i64 r) ∧ Drawn0 w w' := by
  have HR0 := Aside0.mk hr0
  have HC0 := Aside0.mk hc0
  clear hr0 hc0
  have H : (if (l0.length : Int) = 0 then (some 1) else (if (l0.length : Int) > 5 then (some 3) else (torusref07_Check.l0 k l0 0))) = some r := h
  clear h
  by_cases c2 : (l0.length : Int) = 0
  · rw [if_pos c2] at H
    have c2b0 : ((l0.length : Int) == 0) = true := beq_iff_eq.mpr c2
    have c2b1 : ((l0.length : Int) != 0) = false := bne_eq_false_iff_eq.mpr c2
    clear c2
    obtain rfl := Option.some.inj H
    go_enter Tryd.func28, Tryd.ntmps28
    go_wp2
    repeat (go_quiet (fail); try go_wp2)
    go_ret
    exact ⟨by first | rfl | (simp; done) | (simp [*]; done), by repeat (first | exact Drawn0.refl _ | apply Drawn0.step)⟩
  · rw [if_neg c2] at H
    have c2b0 : ((l0.length : Int) == 0) = false := beq_eq_false_iff_ne.mpr c2
    have c2b1 : ((l0.length : Int) != 0) = true := bne_iff_ne.mpr c2
    have c2b2 : ¬ (l0 = []) := fun h_ => c2 (by rw [h_]; rfl)
    by_cases c3 : (l0.length : Int) > 5
    · rw [if_pos c3] at H
      have c3b0 : decide (5 < (l0.length : Int)) = true := decide_eq_true c3
      have c3b1 : decide (5 < l0.length) = true := decide_eq_true (by omega)
      clear c3
      obtain rfl := Option.some.inj H
      go_enter Tryd.func28, Tryd.ntmps28
      go_wp2
      repeat (go_quiet (fail); try go_wp2)
      go_ret
      exact ⟨by first | rfl | (simp; done) | (simp [*]; done), by repeat (first | exact Drawn0.refl _ | apply Drawn0.step)⟩
    · rw [if_neg c3] at H
      have c3b0 : decide (5 < (l0.length : Int)) = false := decide_eq_false c3
      have c3b1 : decide (5 < l0.length) = false := decide_eq_false (by omega)
      clear c3
      have H' := Aside0.mk H
      clear H
      go_enter Tryd.func28, Tryd.ntmps28
      go_wp2
      repeat (go_quiet (fail); try go_wp2)
      go_loopg [3] k (fun kq v3 w' => ∃ (x3_1 : Int), v3 = .int .i64 x3_1 ∧ Aside0 (torusref07_Check.l0 kq l0 x3_1 = some r) ∧ Aside0 (kq ≤ k) ∧ Drawn0 w w')
      case atStart => exact ⟨(0), (by first | rfl | (simp; done) | (simp [*]; done)), H', ⟨Nat.le_refl _⟩, by repeat (first | exact Drawn0.refl _ | apply Drawn0.step)⟩
      case round =>
        clear H'
        try clear c2
        try clear c2b0
        try clear c2b1
        try clear c2b2
        try clear p2
        try clear c3
        try clear c3b0
        try clear c3b1
        obtain ⟨x3_1, rfl, HA, HK1, ⟨m1, rfl⟩⟩ := hrel
        cases gk with
        | zero => exact absurd HA.out (by simp [torusref07_Check.l0])
        | succ k1 =>
          have H := HA.out
          clear HA
          simp only [torusref07_Check.l0] at H
          by_cases c4 : x3_1 < (l0.length : Int)
          · rw [if_pos c4] at H
            have c4b0 : decide (x3_1 < (l0.length : Int)) = true := decide_eq_true c4
            clear c4
            by_cases c5 : 0 ≤ x3_1
            · rw [if_pos c5] at H
              have c5b0 : decide (0 ≤ x3_1) = true := decide_eq_true c5
              clear c5
              by_cases c6 : (rd l0 x3_1) < 0
              · rw [if_pos c6] at H
                have c6b0 : decide ((rd l0 x3_1) < 0) = true := decide_eq_true c6
                clear c6
                obtain rfl := Option.some.inj H
                have p266 : 0 ≤ (x3_1 : Int) := of_decide_eq_true (by first | (with_reducible assumption) | assumption)
                have q266 : x3_1 < (l0.length : Int) := of_decide_eq_true (by first | (with_reducible assumption) | assumption)
                obtain ⟨ad266, e266, hx266_0⟩ := Kd.at_int HR0.out x3_1 p266 q266
                cases e266
                replace p266 := eq_true p266
                replace q266 := eq_true q266
                go_wp2
                repeat (go_quiet (fail); try go_wp2)
                go_ret
                exact ⟨by first | rfl | (simp; done) | (simp [*]; done), by repeat (first | exact Drawn0.refl _ | apply Drawn0.step)⟩
              · rw [if_neg c6] at H
                have c6b0 : decide ((rd l0 x3_1) < 0) = false := decide_eq_false c6
                clear c6
                by_cases c7 : (rd l0 x3_1) ≥ 64
                · rw [if_pos c7] at H
                  have c7b0 : decide (64 ≤ (rd l0 x3_1)) = true := decide_eq_true c7
                  clear c7
                  obtain rfl := Option.some.inj H
                  have p266 : 0 ≤ (x3_1 : Int) := of_decide_eq_true (by first | (with_reducible assumption) | assumption)
                  have q266 : x3_1 < (l0.length : Int) := of_decide_eq_true (by first | (with_reducible assumption) | assumption)
                  obtain ⟨ad266, e266, hx266_0⟩ := Kd.at_int HR0.out x3_1 p266 q266
                  cases e266
                  replace p266 := eq_true p266
                  replace q266 := eq_true q266
                  have p267 : 0 ≤ (x3_1 : Int) := of_decide_eq_true (by first | (with_reducible assumption) | assumption)
                  have q267 : x3_1 < (l0.length : Int) := of_decide_eq_true (by first | (with_reducible assumption) | assumption)
                  obtain ⟨ad267, e267, hx267_0⟩ := Kd.at_int HR0.out x3_1 p267 q267
                  obtain rfl : ad266 = ad267 := (by injection e267)
                  replace p267 := eq_true p267
                  replace q267 := eq_true q267
                  go_wp2
                  repeat (go_quiet (fail); try go_wp2)
                  go_ret
                  exact ⟨by first | rfl | (simp; done) | (simp [*]; done), by repeat (first | exact Drawn0.refl _ | apply Drawn0.step)⟩
                · rw [if_neg c7] at H
                  have c7b0 : decide (64 ≤ (rd l0 x3_1)) = false := decide_eq_false c7
                  clear c7
                  have H' := Aside0.mk H
                  clear H
                  have p266 : 0 ≤ (x3_1 : Int) := of_decide_eq_true (by first | (with_reducible assumption) | assumption)
                  have q266 : x3_1 < (l0.length : Int) := of_decide_eq_true (by first | (with_reducible assumption) | assumption)
                  obtain ⟨ad266, e266, hx266_0⟩ := Kd.at_int HR0.out x3_1 p266 q266
                  cases e266
                  replace p266 := eq_true p266
                  replace q266 := eq_true q266
                  have p267 : 0 ≤ (x3_1 : Int) := of_decide_eq_true (by first | (with_reducible assumption) | assumption)
                  have q267 : x3_1 < (l0.length : Int) := of_decide_eq_true (by first | (with_reducible assumption) | assumption)
                  obtain ⟨ad267, e267, hx267_0⟩ := Kd.at_int HR0.out x3_1 p267 q267
                  obtain rfl : ad266 = ad267 := (by injection e267)
                  replace p267 := eq_true p267
                  replace q267 := eq_true q267
                  go_wp2
                  repeat (go_quiet (fail); try go_wp2)
                  go_roundg k1
                  case measure => have := HK1.out; omega
                  case rel => exact ⟨(wrap64 (x3_1 + 1)), (by first | rfl | (simp; done) | (simp [*]; done)), H', ⟨by have := HK1.out; omega⟩, by repeat (first | exact Drawn0.refl _ | apply Drawn0.step)⟩
            · rw [if_neg c5] at H
              exact absurd H (by simp)
          · rw [if_neg c4] at H
            have c4b0 : decide (x3_1 < (l0.length : Int)) = false := decide_eq_false c4
            clear c4
            have H' := Aside0.mk H
            clear H
            go_wp2
            repeat (go_quiet (fail); try go_wp2)
            go_loopg [4] k1 (fun kq v4 w' => ∃ (x4_2 : Int), v4 = .int .i64 x4_2 ∧ Aside0 (torusref07_Check.l1 kq l0 x4_2 = some r) ∧ Aside0 (kq ≤ k1) ∧ Drawn0 w w')
            case atStart => exact ⟨(1), (by first | rfl | (simp; done) | (simp [*]; done)), H', ⟨Nat.le_refl _⟩, by repeat (first | exact Drawn0.refl _ | apply Drawn0.step)⟩
            case round =>
              clear H'
              try clear c2
              try clear c2b0
              try clear c2b1
              try clear c2b2
              try clear p2
              try clear q2
              try clear hx2
              try clear c3
              try clear c3b0
              try clear c3b1
              try clear c4
              try clear c4b0
              try clear c5
              try clear c5b0
              try clear c6
              try clear c6b0
              try clear p6
              try clear c7
              try clear c7b0
              try clear hx266_0
              try clear hx267_0
              try clear p2
              try clear p266
              try clear p267
              try clear q266
              try clear q267
              obtain ⟨x4_2, rfl, HA, HK2, ⟨m2, rfl⟩⟩ := hrel
              cases gk with
              | zero => exact absurd HA.out (by simp [torusref07_Check.l1])
              | succ k2 =>
                have H := HA.out
                clear HA
                simp only [torusref07_Check.l1] at H
                by_cases c8 : x4_2 < (l0.length : Int)
                · rw [if_pos c8] at H
                  have c8b0 : decide (x4_2 < (l0.length : Int)) = true := decide_eq_true c8
                  clear c8
                  by_cases c9 : 0 ≤ x4_2
                  · rw [if_pos c9] at H
                    have c9b0 : decide (0 ≤ x4_2) = true := decide_eq_true c9
                    clear c9
                    obtain ⟨ji10, hji10⟩ : ∃ j_ : Int, (wrap64 (x4_2 - 1)) = j_ := ⟨_, rfl⟩
                    replace H : (if 0 ≤ (ji10) then (if (ji10) < (l0.length : Int) then (if (rd l0 x4_2) ≤ (rd l0 (ji10)) then (some 6) else (torusref07_Check.l1 k2 l0 (wrap64 (x4_2 + 1)))) else (none)) else (none)) = some r := by first | (rw [hji10] at H; exact H) | (simp only [hji10] at H ⊢; exact H)
                    have hji10w : (IntKind.i64.wrap (x4_2 - 1)) = ji10 := (i64_w _).trans hji10
                    by_cases c11 : 0 ≤ (ji10)
                    · rw [if_pos c11] at H
                      have c11b0 : decide (0 ≤ (ji10)) = true := decide_eq_true c11
                      clear c11
                      by_cases c12 : (ji10) < (l0.length : Int)
                      · rw [if_pos c12] at H
                        have c12b0 : decide ((ji10) < (l0.length : Int)) = true := decide_eq_true c12
                        clear c12
                        by_cases c13 : (rd l0 x4_2) ≤ (rd l0 (ji10))
                        · rw [if_pos c13] at H
                          have c13b0 : decide ((rd l0 x4_2) ≤ (rd l0 (ji10))) = true := decide_eq_true c13
                          clear c13
                          obtain rfl := Option.some.inj H
                          have p268 : 0 ≤ (x4_2 : Int) := of_decide_eq_true (by first | (with_reducible assumption) | assumption)
                          have q268 : x4_2 < (l0.length : Int) := of_decide_eq_true (by first | (with_reducible assumption) | assumption)
                          obtain ⟨ad268, e268, hx268_0⟩ := Kd.at_int HR0.out x4_2 p268 q268
                          cases e268
                          replace p268 := eq_true p268
                          replace q268 := eq_true q268
                          have p269 : 0 ≤ ((ji10) : Int) := of_decide_eq_true (by first | (with_reducible assumption) | assumption)
                          have q269 : (ji10) < (l0.length : Int) := of_decide_eq_true (by first | (with_reducible assumption) | assumption)
                          obtain ⟨ad269, e269, hx269_0⟩ := Kd.at_int HR0.out (ji10) p269 q269
                          obtain rfl : ad268 = ad269 := (by injection e269)
                          replace p269 := eq_true p269
                          replace q269 := eq_true q269
                          go_wp2
                          repeat (go_quiet (fail); try go_wp2)
                          go_ret
                          exact ⟨by first | rfl | (simp; done) | (simp only [← hji10] <;> (first | rfl | simp)) | (simp [*]; done), by repeat (first | exact Drawn0.refl _ | apply Drawn0.step)⟩
                        · rw [if_neg c13] at H
                          have c13b0 : decide ((rd l0 x4_2) ≤ (rd l0 (ji10))) = false := decide_eq_false c13
                          clear c13
                          have H' := Aside0.mk H
                          clear H
                          have p268 : 0 ≤ (x4_2 : Int) := of_decide_eq_true (by first | (with_reducible assumption) | assumption)
                          have q268 : x4_2 < (l0.length : Int) := of_decide_eq_true (by first | (with_reducible assumption) | assumption)
                          obtain ⟨ad268, e268, hx268_0⟩ := Kd.at_int HR0.out x4_2 p268 q268
                          cases e268
                          replace p268 := eq_true p268
                          replace q268 := eq_true q268
                          have p269 : 0 ≤ ((ji10) : Int) := of_decide_eq_true (by first | (with_reducible assumption) | assumption)
                          have q269 : (ji10) < (l0.length : Int) := of_decide_eq_true (by first | (with_reducible assumption) | assumption)
                          obtain ⟨ad269, e269, hx269_0⟩ := Kd.at_int HR0.out (ji10) p269 q269
                          obtain rfl : ad268 = ad269 := (by injection e269)
                          replace p269 := eq_true p269
                          replace q269 := eq_true q269
                          go_wp2
                          repeat (go_quiet (fail); try go_wp2)
                          go_roundg k2
                          case measure => have := HK1.out; have := HK2.out; omega
                          case rel => exact ⟨(wrap64 (x4_2 + 1)), (by first | rfl | (simp; done) | (simp [*]; done)), H', ⟨by have := HK1.out; have := HK2.out; omega⟩, by repeat (first | exact Drawn0.refl _ | apply Drawn0.step)⟩
                      · rw [if_neg c12] at H
                        exact absurd H (by simp)
                    · rw [if_neg c11] at H
                      exact absurd H (by simp)
                  · rw [if_neg c9] at H
                    exact absurd H (by simp)
                · rw [if_neg c8] at H
                  have c8b0 : decide (x4_2 < (l0.length : Int)) = false := decide_eq_false c8
                  clear c8
                  obtain rfl := Option.some.inj H
                  go_wp2
                  repeat (go_quiet (fail); try go_wp2)
                  go_ret
                  exact ⟨by first | rfl | (simp; done) | (simp [*]; done), by repeat (first | exact Drawn0.refl _ | apply Drawn0.step)⟩

end Go.Proofs.YticckanjfdcpaaaDoor.PSimplex
namespace Go.Proofs.YticckanjfdcpaaaDoor.PSimplex
open Go.RowKit Go.Proofs.YticckanjfdcpaaaDoorW.PrintWords Go.Proofs.YticckanjfdcpaaaDoorW.PrintLast Go.Proofs.YticckanjfdcpaaaDoorW.PrintMore
attribute [local go_sem] max2_int min2_int max_two min_two max_three min_three max_four min_four   -- for this text's walks alone
set_option linter.unusedVariables false
set_option linter.unusedSimpArgs false

/-! ### torusref07_Over: function 39 -/
def torusref07_Over.l0 : Nat → Int → Int → Int → Int → Option (Int)
  | 0, _, _, _, _ => none
  | k + 1, x0, x1, x5, x6 => if x6 < x1 then (if (wrap64 (x6 + 1)) = 0 then (none) else (torusref07_Over.l0 k x0 x1 (wrap64 (Int.tdiv (wrap64 (x5 * (wrap64 (x0 - x6)))) (wrap64 (x6 + 1)))) (wrap64 (x6 + 1)))) else (some x5)
def torusref07_Over.f (k : Nat) (a0 : Int) (a1 : Int) : Option (Int) := torusref07_Over.l0 k a0 a1 1 0
theorem torusref07_Over.mono_l : ∀ k, (∀ y0 y1 y2 y3, LeO (torusref07_Over.l0 k y0 y1 y2 y3) (torusref07_Over.l0 (k + 1) y0 y1 y2 y3))
  | 0 => fun _ _ _ _ r h => by simp [torusref07_Over.l0] at h
  | k + 1 => by
    have ih0 := torusref07_Over.mono_l k
    · intro y0 y1 y2 y3
      unfold torusref07_Over.l0
      repeat' first
      | (with_reducible exact ih0 _ _ _ _)
      | (with_reducible exact LeO.refl _)
      | (with_reducible exact LeO.none _)
      | (with_reducible refine LeO.ite ?_ ?_)
      | (with_reducible refine LeO.bind ?_ (fun _ => ?_))
      | exact ih0 _ _ _ _
      | exact LeO.none _
      | refine LeO.ite ?_ ?_
      | refine LeO.bind ?_ (fun _ => ?_)
theorem torusref07_Over.mono : ∀ a0 a1 k, LeO (torusref07_Over.f k a0 a1) (torusref07_Over.f (k + 1) a0 a1) := by
  intro a0 a1 k
  have ih0 := torusref07_Over.mono_l k
  unfold torusref07_Over.f
  repeat' first
      | (with_reducible exact ih0 _ _ _ _)
      | (with_reducible exact LeO.refl _)
      | (with_reducible exact LeO.none _)
      | (with_reducible refine LeO.ite ?_ ?_)
      | (with_reducible refine LeO.bind ?_ (fun _ => ?_))
      | exact ih0 _ _ _ _
      | exact LeO.none _
      | refine LeO.ite ?_ ?_
      | refine LeO.bind ?_ (fun _ => ?_)
set_option maxHeartbeats 8000000 in
set_option maxRecDepth 100000 in
theorem torusref07_Over.calls (k : Nat) (a0 : Int) (a1 : Int) (r : Int) (w : World) (h : torusref07_Over.f k a0 a1 = some r) :
    Calls Tryd.prog 39 #[.int .i64 a0, .int .i64 a1] w fun e w' => e = .returned (.int .i64 r) ∧ Drawn0 w w' := by
  have H : (torusref07_Over.l0 k a0 a1 1 0) = some r := h
  clear h
  have H' := Aside0.mk H
  clear H
  go_enter Tryd.func39, Tryd.ntmps39
  go_wp2
  go_loopg [5, 6] k (fun kq v5 v6 w' => ∃ (x5_1 : Int) (x6_1 : Int), v5 = .int .i64 x5_1 ∧ v6 = .int .i64 x6_1 ∧ Aside0 (torusref07_Over.l0 kq a0 a1 x5_1 x6_1 = some r) ∧ Aside0 (kq ≤ k) ∧ Drawn0 w w')
  case atStart => exact ⟨(1), (0), (by first | rfl | (simp; done) | (simp [*]; done)), (by first | rfl | (simp; done) | (simp [*]; done)), H', ⟨Nat.le_refl _⟩, by repeat (first | exact Drawn0.refl _ | apply Drawn0.step)⟩
  case round =>
    clear H'
    try clear p2
    obtain ⟨x5_1, x6_1, rfl, rfl, HA, HK1, ⟨m1, rfl⟩⟩ := hrel
    cases gk with
    | zero => exact absurd HA.out (by simp [torusref07_Over.l0])
    | succ k1 =>
      have H := HA.out
      clear HA
      simp only [torusref07_Over.l0] at H
      by_cases c3 : x6_1 < a1
      · rw [if_pos c3] at H
        have c3b0 : decide (x6_1 < a1) = true := decide_eq_true c3
        clear c3
        by_cases c4 : (wrap64 (x6_1 + 1)) = 0
        · rw [if_pos c4] at H
          exact absurd H (by simp)
        · rw [if_neg c4] at H
          have c4b0 : ((wrap64 (x6_1 + 1)) == 0) = false := beq_eq_false_iff_ne.mpr c4
          have c4b1 : ((wrap64 (x6_1 + 1)) != 0) = true := bne_iff_ne.mpr c4
          have H' := Aside0.mk H
          clear H
          go_wp2
          go_roundg k1
          case measure => have := HK1.out; omega
          case rel => exact ⟨(wrap64 (Int.tdiv (wrap64 (x5_1 * (wrap64 (a0 - x6_1)))) (wrap64 (x6_1 + 1)))), (wrap64 (x6_1 + 1)), (by first | rfl | (simp; done) | (simp [*]; done)), (by first | rfl | (simp; done) | (simp [*]; done)), H', ⟨by have := HK1.out; omega⟩, by repeat (first | exact Drawn0.refl _ | apply Drawn0.step)⟩
      · rw [if_neg c3] at H
        have c3b0 : decide (x6_1 < a1) = false := decide_eq_false c3
        clear c3
        obtain rfl := Option.some.inj H
        go_wp2
        go_ret
        exact ⟨by first | rfl | (simp; done) | (simp [*]; done), by repeat (first | exact Drawn0.refl _ | apply Drawn0.step)⟩

end Go.Proofs.YticckanjfdcpaaaDoor.PSimplex
namespace Go.Proofs.YticckanjfdcpaaaDoor.PSimplex
open Go.RowKit Go.Proofs.YticckanjfdcpaaaDoorW.PrintWords Go.Proofs.YticckanjfdcpaaaDoorW.PrintLast Go.Proofs.YticckanjfdcpaaaDoorW.PrintMore
attribute [local go_sem] max2_int min2_int max_two min_two max_three min_three max_four min_four   -- for this text's walks alone
set_option linter.unusedVariables false
set_option linter.unusedSimpArgs false

/-! ### torusref07_Number: function 14 -/
def torusref07_Number.l0 : Nat → List Int → Int → Int → Option (Int × Int)
  | 0, _, _, _ => none
  | k + 1, x0, x5, x6 => if x6 < (x0.length : Int) then (if 0 ≤ x6 then ((torusref07_Over.f k (rd x0 x6) (wrap64 (x6 + 1))).bind fun t272 => (torusref07_Number.l0 k x0 (wrap64 (x5 + t272)) (wrap64 (x6 + 1)))) else (none)) else (some (x5, 0))
def torusref07_Number.f (k : Nat) (l0 : List Int) : Option (Int × Int) := (torusref07_Check.f k l0).bind fun t270 => (if t270 = 0 then (torusref07_Number.l0 k l0 0 0) else (some (0, t270)))
theorem torusref07_Number.mono_l : ∀ k, (∀ y0 y1 y2, LeO (torusref07_Number.l0 k y0 y1 y2) (torusref07_Number.l0 (k + 1) y0 y1 y2))
  | 0 => fun _ _ _ r h => by simp [torusref07_Number.l0] at h
  | k + 1 => by
    have ih0 := torusref07_Number.mono_l k
    · intro y0 y1 y2
      unfold torusref07_Number.l0
      repeat' first
      | (with_reducible exact ih0 _ _ _)
      | (with_reducible exact torusref07_Check.mono _ _)
      | (with_reducible exact torusref07_Over.mono _ _ _)
      | (with_reducible exact LeO.refl _)
      | (with_reducible exact LeO.none _)
      | (with_reducible refine LeO.ite ?_ ?_)
      | (with_reducible refine LeO.bind ?_ (fun _ => ?_))
      | exact ih0 _ _ _
      | exact torusref07_Check.mono _ _
      | exact torusref07_Over.mono _ _ _
      | exact LeO.none _
      | refine LeO.ite ?_ ?_
      | refine LeO.bind ?_ (fun _ => ?_)
theorem torusref07_Number.mono : ∀ a0 k, LeO (torusref07_Number.f k a0) (torusref07_Number.f (k + 1) a0) := by
  intro a0 k
  have ih0 := torusref07_Number.mono_l k
  unfold torusref07_Number.f
  repeat' first
      | (with_reducible exact ih0 _ _ _)
      | (with_reducible exact torusref07_Check.mono _ _)
      | (with_reducible exact torusref07_Over.mono _ _ _)
      | (with_reducible exact LeO.refl _)
      | (with_reducible exact LeO.none _)
      | (with_reducible refine LeO.ite ?_ ?_)
      | (with_reducible refine LeO.bind ?_ (fun _ => ?_))
      | exact ih0 _ _ _
      | exact torusref07_Check.mono _ _
      | exact torusref07_Over.mono _ _ _
      | exact LeO.none _
      | refine LeO.ite ?_ ?_
      | refine LeO.bind ?_ (fun _ => ?_)
set_option maxHeartbeats 8000000 in
set_option maxRecDepth 100000 in
theorem torusref07_Number.calls (k : Nat) (A0 : Option Addr) (c0 : Nat) (l0 : List Int) (r1 : Int) (r2 : Int) (w : World) (hr0 : Kd.C (Kd.int .i64) w A0 l0.length l0) (hc0 : l0.length ≤ c0) (h : torusref07_Number.f k l0 = some (r1, r2)) :
    Calls Tryd.prog 14 #[.slice A0 l0.length c0] w fun e w' => e = .returned (.tuple #[.int .i64 r1, .int .i64 r2]) ∧ Drawn0 w w' := by
  have HR0 := Aside0.mk hr0
  have HC0 := Aside0.mk hc0
  clear hr0 hc0
  have H : ((torusref07_Check.f k l0).bind fun t270 => (if t270 = 0 then (torusref07_Number.l0 k l0 0 0) else (some (0, t270)))) = some (r1, r2) := h
  clear h
  replace H := Option.bind_eq_some_iff.mp H
  obtain ⟨t270, A20, H⟩ := H
  replace H : (if t270 = 0 then (torusref07_Number.l0 k l0 0 0) else (some (0, t270))) = some (r1, r2) := H
  have A2 := Aside0.mk A20
  clear A20
  by_cases c3 : t270 = 0
  · rw [if_pos c3] at H
    have c3b0 : (t270 == 0) = true := beq_iff_eq.mpr c3
    have c3b1 : (t270 != 0) = false := bne_eq_false_iff_eq.mpr c3
    clear c3
    have H' := Aside0.mk H
    clear H
    go_enter Tryd.func14, Tryd.ntmps14
    go_wp2_with (first | ((with_reducible refine gate_callee (f := 28) rfl ?_); refine goesL_ (some 8) rfl rfl Tryd.func28 (by kernel_rfl) rfl #[.slice A0 l0.length c0] rfl (by (try simp only [List.map_toArray, List.map_cons, List.map_nil]); first | done | rfl | (simp only [List.length_drop, List.length_take]; rfl)) ?_; (with_reducible refine (torusref07_Check.calls k _ _ l0 t270 _ ?side1 ?side2 A2.out).mono ?_); (case side1 => repeat (first | exact HR0.out | (with_reducible refine Kd.C_alloc ?_ _) | (with_reducible refine Kd.C_drewN ?_ _) | (with_reducible refine Kd.C_drew ?_))); (case side2 => exact HC0.out); rintro e w' ⟨rfl, ⟨nd, rfl⟩⟩; refine ⟨_, rfl, ?_⟩))
    go_loopg [5, 6] k (fun kq v5 v6 w' => ∃ (x5_1 : Int) (x6_1 : Int), v5 = .int .i64 x5_1 ∧ v6 = .int .i64 x6_1 ∧ Aside0 (torusref07_Number.l0 kq l0 x5_1 x6_1 = some (r1, r2)) ∧ Aside0 (kq ≤ k) ∧ Drawn0 w w')
    case atStart => exact ⟨(0), (0), (by first | rfl | (simp; done) | (simp [*]; done)), (by first | rfl | (simp; done) | (simp [*]; done)), H', ⟨Nat.le_refl _⟩, by repeat (first | exact Drawn0.refl _ | apply Drawn0.step)⟩
    case round =>
      clear H'
      try clear c1
      try clear c2
      try clear p2
      try clear c3
      try clear c3b0
      try clear c3b1
      obtain ⟨x5_1, x6_1, rfl, rfl, HA, HK1, ⟨m1, rfl⟩⟩ := hrel
      cases gk with
      | zero => exact absurd HA.out (by simp [torusref07_Number.l0])
      | succ k1 =>
        have H := HA.out
        clear HA
        simp only [torusref07_Number.l0] at H
        by_cases c4 : x6_1 < (l0.length : Int)
        · rw [if_pos c4] at H
          have c4b0 : decide (x6_1 < (l0.length : Int)) = true := decide_eq_true c4
          clear c4
          by_cases c5 : 0 ≤ x6_1
          · rw [if_pos c5] at H
            have c5b0 : decide (0 ≤ x6_1) = true := decide_eq_true c5
            clear c5
            replace H := Option.bind_eq_some_iff.mp H
            obtain ⟨t272, A60, H⟩ := H
            replace H : (torusref07_Number.l0 k1 l0 (wrap64 (x5_1 + t272)) (wrap64 (x6_1 + 1))) = some (r1, r2) := H
            have A6 := Aside0.mk A60
            clear A60
            have H' := Aside0.mk H
            clear H
            have p271 : 0 ≤ (x6_1 : Int) := of_decide_eq_true (by first | (with_reducible assumption) | assumption)
            have q271 : x6_1 < (l0.length : Int) := of_decide_eq_true (by first | (with_reducible assumption) | assumption)
            obtain ⟨ad271, e271, hx271_0⟩ := Kd.at_int HR0.out x6_1 p271 q271
            cases e271
            replace p271 := eq_true p271
            replace q271 := eq_true q271
            go_wp2_with (first | ((with_reducible refine gate_callee (f := 39) rfl ?_); refine goesL_ (some 25) rfl rfl Tryd.func39 (by kernel_rfl) rfl #[.int .i64 (rd l0 x6_1), .int .i64 (wrap64 (x6_1 + 1))] rfl (by (try simp only [List.map_toArray, List.map_cons, List.map_nil]); first | done | rfl | (simp only [List.length_drop, List.length_take]; rfl)) ?_; (with_reducible refine (torusref07_Over.calls k1 (rd l0 x6_1) (wrap64 (x6_1 + 1)) t272 _ A6.out).mono ?_); rintro e w' ⟨rfl, ⟨nd, rfl⟩⟩; refine ⟨_, rfl, ?_⟩))
            go_roundg k1
            case measure => have := HK1.out; omega
            case rel => exact ⟨(wrap64 (x5_1 + t272)), (wrap64 (x6_1 + 1)), (by first | rfl | (simp; done) | (simp [*]; done)), (by first | rfl | (simp; done) | (simp [*]; done)), H', ⟨by have := HK1.out; omega⟩, by repeat (first | exact Drawn0.refl _ | apply Drawn0.step)⟩
          · rw [if_neg c5] at H
            exact absurd H (by simp)
        · rw [if_neg c4] at H
          have c4b0 : decide (x6_1 < (l0.length : Int)) = false := decide_eq_false c4
          clear c4
          simp only [Option.some.injEq, Prod.mk.injEq] at H
          obtain ⟨rfl, rfl⟩ := H
          go_wp2
          go_ret2
          exact ⟨by first | rfl | (simp; done) | (simp [*]; done), by repeat (first | exact Drawn0.refl _ | apply Drawn0.step)⟩
  · rw [if_neg c3] at H
    have c3b0 : (t270 == 0) = false := beq_eq_false_iff_ne.mpr c3
    have c3b1 : (t270 != 0) = true := bne_iff_ne.mpr c3
    simp only [Option.some.injEq, Prod.mk.injEq] at H
    obtain ⟨rfl, rfl⟩ := H
    go_enter Tryd.func14, Tryd.ntmps14
    go_wp2_with (first | ((with_reducible refine gate_callee (f := 28) rfl ?_); refine goesL_ (some 8) rfl rfl Tryd.func28 (by kernel_rfl) rfl #[.slice A0 l0.length c0] rfl (by (try simp only [List.map_toArray, List.map_cons, List.map_nil]); first | done | rfl | (simp only [List.length_drop, List.length_take]; rfl)) ?_; (with_reducible refine (torusref07_Check.calls k _ _ l0 t270 _ ?side1 ?side2 A2.out).mono ?_); (case side1 => repeat (first | exact HR0.out | (with_reducible refine Kd.C_alloc ?_ _) | (with_reducible refine Kd.C_drewN ?_ _) | (with_reducible refine Kd.C_drew ?_))); (case side2 => exact HC0.out); rintro e w' ⟨rfl, ⟨nd, rfl⟩⟩; refine ⟨_, rfl, ?_⟩))
    go_ret2
    exact ⟨by first | rfl | (simp; done) | (simp [*]; done), by repeat (first | exact Drawn0.refl _ | apply Drawn0.step)⟩

end Go.Proofs.YticckanjfdcpaaaDoor.PSimplex
namespace Go.Proofs.YticckanjfdcpaaaDoor.PSimplex
open Go.RowKit Go.Proofs.YticckanjfdcpaaaDoorW.PrintWords Go.Proofs.YticckanjfdcpaaaDoorW.PrintLast Go.Proofs.YticckanjfdcpaaaDoorW.PrintMore
attribute [local go_sem] max2_int min2_int max_two min_two max_three min_three max_four min_four   -- for this text's walks alone
set_option linter.unusedVariables false
set_option linter.unusedSimpArgs false

/-! ### torusref07_Numbered: function 16 -/
mutual
def torusref07_Numbered.j0 : Nat → Int → Int → Bool → Option (List Int × Int)
  | 0, _, _, _ => none
  | k + 1, x0, x1, x14 => if x14 = true then (some (([] : List Int), 1)) else (if x1 < 0 then (torusref07_Numbered.j1 k x0 x1 true) else ((torusref07_Over.f k 64 (wrap64 (x0 + 1))).bind fun t273 => (torusref07_Numbered.j1 k x0 x1 (decide (x1 ≥ t273)))))
def torusref07_Numbered.j1 : Nat → Int → Int → Bool → Option (List Int × Int)
  | 0, _, _, _ => none
  | k + 1, x0, x1, x23 => if x23 = true then (some (([] : List Int), 4)) else (if 0 ≤ (wrap64 (x0 + 1)) then (if (wrap64 (x0 + 1) : Int).toNat ≤ 35184372088832 then (torusref07_Numbered.l0 k x1 (List.replicate (wrap64 (x0 + 1) : Int).toNat 0) x0) else (none)) else (none))
def torusref07_Numbered.l0 : Nat → Int → List Int → Int → Option (List Int × Int)
  | 0, _, _, _ => none
  | k + 1, x1, x6, x7 => if x7 ≥ 0 then (torusref07_Numbered.l1 k x1 x6 x7 x7) else (some (x6, 0))
def torusref07_Numbered.l1 : Nat → Int → List Int → Int → Int → Option (List Int × Int)
  | 0, _, _, _, _ => none
  | k + 1, x1, x6, x7, x8 => (torusref07_Over.f k (wrap64 (x8 + 1)) (wrap64 (x7 + 1))).bind fun t277 => (if t277 ≤ x1 then (torusref07_Numbered.l1 k x1 x6 x7 (wrap64 (x8 + 1))) else (if 0 ≤ x7 then (if x7 < (x6.length : Int) then ((torusref07_Over.f k x8 (wrap64 (x7 + 1))).bind fun t279 => (torusref07_Numbered.l0 k (wrap64 (x1 - t279)) (x6.set (x7 : Int).toNat x8) (wrap64 (x7 - 1)))) else (none)) else (none)))
end
def torusref07_Numbered.f (k : Nat) (a0 : Int) (a1 : Int) : Option (List Int × Int) := if a0 < 0 then (torusref07_Numbered.j0 k a0 a1 true) else (torusref07_Numbered.j0 k a0 a1 (decide (a0 > 4)))
theorem torusref07_Numbered.mono_l : ∀ k, (∀ y0 y1 y2, LeO (torusref07_Numbered.j0 k y0 y1 y2) (torusref07_Numbered.j0 (k + 1) y0 y1 y2)) ∧ (∀ y0 y1 y2, LeO (torusref07_Numbered.j1 k y0 y1 y2) (torusref07_Numbered.j1 (k + 1) y0 y1 y2)) ∧ (∀ y0 y1 y2, LeO (torusref07_Numbered.l0 k y0 y1 y2) (torusref07_Numbered.l0 (k + 1) y0 y1 y2)) ∧ (∀ y0 y1 y2 y3, LeO (torusref07_Numbered.l1 k y0 y1 y2 y3) (torusref07_Numbered.l1 (k + 1) y0 y1 y2 y3))
  | 0 => ⟨fun _ _ _ r h => by simp [torusref07_Numbered.j0] at h, fun _ _ _ r h => by simp [torusref07_Numbered.j1] at h, fun _ _ _ r h => by simp [torusref07_Numbered.l0] at h, fun _ _ _ _ r h => by simp [torusref07_Numbered.l1] at h⟩
  | k + 1 => by
    obtain ⟨ih0, ih1, ih2, ih3⟩ := torusref07_Numbered.mono_l k
    refine ⟨?_, ?_, ?_, ?_⟩
    · intro y0 y1 y2
      unfold torusref07_Numbered.j0
      repeat' first
      | (with_reducible exact ih0 _ _ _)
      | (with_reducible exact ih1 _ _ _)
      | (with_reducible exact ih2 _ _ _)
      | (with_reducible exact ih3 _ _ _ _)
      | (with_reducible exact torusref07_Over.mono _ _ _)
      | (with_reducible exact LeO.refl _)
      | (with_reducible exact LeO.none _)
      | (with_reducible refine LeO.ite ?_ ?_)
      | (with_reducible refine LeO.bind ?_ (fun _ => ?_))
      | exact ih0 _ _ _
      | exact ih1 _ _ _
      | exact ih2 _ _ _
      | exact ih3 _ _ _ _
      | exact torusref07_Over.mono _ _ _
      | exact LeO.none _
      | refine LeO.ite ?_ ?_
      | refine LeO.bind ?_ (fun _ => ?_)
    · intro y0 y1 y2
      unfold torusref07_Numbered.j1
      repeat' first
      | (with_reducible exact ih0 _ _ _)
      | (with_reducible exact ih1 _ _ _)
      | (with_reducible exact ih2 _ _ _)
      | (with_reducible exact ih3 _ _ _ _)
      | (with_reducible exact torusref07_Over.mono _ _ _)
      | (with_reducible exact LeO.refl _)
      | (with_reducible exact LeO.none _)
      | (with_reducible refine LeO.ite ?_ ?_)
      | (with_reducible refine LeO.bind ?_ (fun _ => ?_))
      | exact ih0 _ _ _
      | exact ih1 _ _ _
      | exact ih2 _ _ _
      | exact ih3 _ _ _ _
      | exact torusref07_Over.mono _ _ _
      | exact LeO.none _
      | refine LeO.ite ?_ ?_
      | refine LeO.bind ?_ (fun _ => ?_)
    · intro y0 y1 y2
      unfold torusref07_Numbered.l0
      repeat' first
      | (with_reducible exact ih0 _ _ _)
      | (with_reducible exact ih1 _ _ _)
      | (with_reducible exact ih2 _ _ _)
      | (with_reducible exact ih3 _ _ _ _)
      | (with_reducible exact torusref07_Over.mono _ _ _)
      | (with_reducible exact LeO.refl _)
      | (with_reducible exact LeO.none _)
      | (with_reducible refine LeO.ite ?_ ?_)
      | (with_reducible refine LeO.bind ?_ (fun _ => ?_))
      | exact ih0 _ _ _
      | exact ih1 _ _ _
      | exact ih2 _ _ _
      | exact ih3 _ _ _ _
      | exact torusref07_Over.mono _ _ _
      | exact LeO.none _
      | refine LeO.ite ?_ ?_
      | refine LeO.bind ?_ (fun _ => ?_)
    · intro y0 y1 y2 y3
      unfold torusref07_Numbered.l1
      repeat' first
      | (with_reducible exact ih0 _ _ _)
      | (with_reducible exact ih1 _ _ _)
      | (with_reducible exact ih2 _ _ _)
      | (with_reducible exact ih3 _ _ _ _)
      | (with_reducible exact torusref07_Over.mono _ _ _)
      | (with_reducible exact LeO.refl _)
      | (with_reducible exact LeO.none _)
      | (with_reducible refine LeO.ite ?_ ?_)
      | (with_reducible refine LeO.bind ?_ (fun _ => ?_))
      | exact ih0 _ _ _
      | exact ih1 _ _ _
      | exact ih2 _ _ _
      | exact ih3 _ _ _ _
      | exact torusref07_Over.mono _ _ _
      | exact LeO.none _
      | refine LeO.ite ?_ ?_
      | refine LeO.bind ?_ (fun _ => ?_)
theorem torusref07_Numbered.mono : ∀ a0 a1 k, LeO (torusref07_Numbered.f k a0 a1) (torusref07_Numbered.f (k + 1) a0 a1) := by
  intro a0 a1 k
  obtain ⟨ih0, ih1, ih2, ih3⟩ := torusref07_Numbered.mono_l k
  unfold torusref07_Numbered.f
  repeat' first
      | (with_reducible exact ih0 _ _ _)
      | (with_reducible exact ih1 _ _ _)
      | (with_reducible exact ih2 _ _ _)
      | (with_reducible exact ih3 _ _ _ _)
      | (with_reducible exact torusref07_Over.mono _ _ _)
      | (with_reducible exact LeO.refl _)
      | (with_reducible exact LeO.none _)
      | (with_reducible refine LeO.ite ?_ ?_)
      | (with_reducible refine LeO.bind ?_ (fun _ => ?_))
      | exact ih0 _ _ _
      | exact ih1 _ _ _
      | exact ih2 _ _ _
      | exact ih3 _ _ _ _
      | exact torusref07_Over.mono _ _ _
      | exact LeO.none _
      | refine LeO.ite ?_ ?_
      | refine LeO.bind ?_ (fun _ => ?_)
set_option maxHeartbeats 8000000 in
set_option maxRecDepth 100000 in
theorem torusref07_Numbered.calls (k : Nat) (a0 : Int) (a1 : Int) (r1 : List Int) (r2 : Int) (w : World) (h : torusref07_Numbered.f k a0 a1 = some (r1, r2)) :
    Calls Tryd.prog 16 #[.int .i64 a0, .int .i64 a1] w fun e w' => ∃ v0_ : Value, e = .returned (.tuple #[v0_, .int .i64 r2]) ∧ Kd.R (Kd.int .i64) 3 w' w.heap.size (fun _ => True) v0_ r1 ∧ Below w.heap.size w w' := by
  have HB := Aside0.mk (Below.refl w.heap.size w)
  have H : (if a0 < 0 then (torusref07_Numbered.j0 k a0 a1 true) else (torusref07_Numbered.j0 k a0 a1 (decide (a0 > 4)))) = some (r1, r2) := h
  clear h
  have HC3 := Aside0.mk H
  clear H
  go_enter Tryd.func16, Tryd.ntmps16
  go_upto_region 1 with (fail)
  go_cut [14] (fun v14 wc => ∃ (kq : Nat) (x14_2 : Bool), v14 = .bool x14_2 ∧ Aside0 (torusref07_Numbered.j0 kq a0 a1 x14_2 = some (r1, r2)) ∧ Aside0 (kq ≤ k) ∧ Aside0 (Below w.heap.size w wc))
  case first =>
    have H := HC3.out
    clear HC3
    by_cases c4 : a0 < 0
    · rw [if_pos c4] at H
      have c4b0 : decide (a0 < 0) = true := decide_eq_true c4
      clear c4
      (first | rw [c4b0] | (simp only [i64_w, i32_w]; rw [c4b0]) | skip)
      have H' := Aside0.mk H
      clear H
      go_wp2
      go_meet
      case rel => exact ⟨_, (true), (by first | rfl | (simp; done) | (simp [*]; done)), H', ⟨by first | omega | exact Nat.le_refl _⟩, ⟨by repeat (first | (with_reducible first | exact HB.out | apply below_alloc | apply pw_below_drewN | apply below_drew1) | exact HB.out)⟩⟩
    · rw [if_neg c4] at H
      have c4b0 : decide (a0 < 0) = false := decide_eq_false c4
      clear c4
      (first | rw [c4b0] | (simp only [i64_w, i32_w]; rw [c4b0]) | skip)
      have H' := Aside0.mk H
      clear H
      go_wp2
      go_meet
      case rel => exact ⟨_, (decide (a0 > 4)), (by first | rfl | (simp; done) | (simp [*]; done)), H', ⟨by first | omega | exact Nat.le_refl _⟩, ⟨by repeat (first | (with_reducible first | exact HB.out | apply below_alloc | apply pw_below_drewN | apply below_drew1) | exact HB.out)⟩⟩
  case rest =>
    clear HC3
    try clear c1
    try clear p2
    try clear c4
    try clear c4b0
    obtain ⟨kq, x14_2, rfl, HA, HJ2, HB⟩ := hcut
    cases kq with
    | zero => exact absurd HA.out (by simp [torusref07_Numbered.j0])
    | succ kj2 =>
      have H := HA.out
      clear HA
      simp only [torusref07_Numbered.j0] at H
      by_cases c5 : x14_2 = true
      · subst c5
        have H1 : (some (([] : List Int), 1)) = some (r1, r2) := by rw [if_pos rfl] at H; exact H
        clear H
        have H := H1
        clear H1
        simp only [Option.some.injEq, Prod.mk.injEq] at H
        obtain ⟨rfl, rfl⟩ := H
        go_wp2
        go_ret2
        exact ⟨_, by first | rfl | (simp [errW_none, errW_some] <;> rfl) | (simp [*, errW_none, errW_some] <;> rfl), by first | exact Kd.R_nil _ _ _ _ _ | exact Kd.N_nil _ _ _ _ _ | exact Kd.V_nil _ _ _ _ _ | exact Kd.Q_nil _ _ _ _ _ | exact Kd.S_nil _ _ _ _ _, by repeat (first | (with_reducible first | exact HB.out | apply below_alloc | apply pw_below_drewN | apply below_drew1) | exact HB.out)⟩
      · replace c5 := Bool.eq_false_iff.mpr c5
        subst c5
        have H1 : (if a1 < 0 then (torusref07_Numbered.j1 kj2 a0 a1 true) else ((torusref07_Over.f kj2 64 (wrap64 (a0 + 1))).bind fun t273 => (torusref07_Numbered.j1 kj2 a0 a1 (decide (a1 ≥ t273))))) = some (r1, r2) := by rw [if_neg (show ¬ (false = true) by decide)] at H; exact H
        clear H
        have H := H1
        clear H1
        have HC6 := Aside0.mk H
        clear H
        go_upto_region 3 with (fail)
        go_cut [23] (fun v23 wc => ∃ (kq : Nat) (x23_5 : Bool), v23 = .bool x23_5 ∧ Aside0 (torusref07_Numbered.j1 kq a0 a1 x23_5 = some (r1, r2)) ∧ Aside0 (kq ≤ kj2) ∧ Aside0 (Below w.heap.size w wc))
        case first =>
          have H := HC6.out
          clear HC6
          by_cases c7 : a1 < 0
          · rw [if_pos c7] at H
            have c7b0 : decide (a1 < 0) = true := decide_eq_true c7
            clear c7
            (first | rw [c7b0] | (simp only [i64_w, i32_w]; rw [c7b0]) | skip)
            have H' := Aside0.mk H
            clear H
            go_wp2
            go_meet
            case rel => exact ⟨_, (true), (by first | rfl | (simp; done) | (simp [*]; done)), H', ⟨by have := HJ2.out; first | omega | exact Nat.le_refl _⟩, ⟨by repeat (first | (with_reducible first | exact HB.out | apply below_alloc | apply pw_below_drewN | apply below_drew1) | exact HB.out)⟩⟩
          · rw [if_neg c7] at H
            have c7b0 : decide (a1 < 0) = false := decide_eq_false c7
            clear c7
            (first | rw [c7b0] | (simp only [i64_w, i32_w]; rw [c7b0]) | skip)
            replace H := Option.bind_eq_some_iff.mp H
            obtain ⟨t273, A80, H⟩ := H
            replace H : (torusref07_Numbered.j1 kj2 a0 a1 (decide (a1 ≥ t273))) = some (r1, r2) := H
            have A8 := Aside0.mk A80
            clear A80
            have H' := Aside0.mk H
            clear H
            go_wp2_with (first | (go_at_call 39; (with_reducible refine (torusref07_Over.calls kj2 64 (wrap64 (a0 + 1)) t273 _ A8.out).mono ?_); rintro e w' ⟨rfl, ⟨nd, rfl⟩⟩))
            go_meet
            case rel => exact ⟨_, (decide (a1 ≥ t273)), (by first | rfl | (simp; done) | (simp [*]; done)), H', ⟨by have := HJ2.out; first | omega | exact Nat.le_refl _⟩, ⟨by repeat (first | (with_reducible first | exact HB.out | apply below_alloc | apply pw_below_drewN | apply below_drew1) | exact HB.out)⟩⟩
        case rest =>
          clear HC6
          try clear c1
          try clear p2
          try clear c4
          try clear c4b0
          try clear c5
          try clear p6
          try clear c7
          try clear c7b0
          try clear p2
          obtain ⟨kq, x23_5, rfl, HA, HJ5, HB⟩ := hcut
          cases kq with
          | zero => exact absurd HA.out (by simp [torusref07_Numbered.j1])
          | succ kj5 =>
            have H := HA.out
            clear HA
            simp only [torusref07_Numbered.j1] at H
            by_cases c9 : x23_5 = true
            · subst c9
              have H1 : (some (([] : List Int), 4)) = some (r1, r2) := by rw [if_pos rfl] at H; exact H
              clear H
              have H := H1
              clear H1
              simp only [Option.some.injEq, Prod.mk.injEq] at H
              obtain ⟨rfl, rfl⟩ := H
              go_wp2
              go_ret2
              exact ⟨_, by first | rfl | (simp [errW_none, errW_some] <;> rfl) | (simp [*, errW_none, errW_some] <;> rfl), by first | exact Kd.R_nil _ _ _ _ _ | exact Kd.N_nil _ _ _ _ _ | exact Kd.V_nil _ _ _ _ _ | exact Kd.Q_nil _ _ _ _ _ | exact Kd.S_nil _ _ _ _ _, by repeat (first | (with_reducible first | exact HB.out | apply below_alloc | apply pw_below_drewN | apply below_drew1) | exact HB.out)⟩
            · replace c9 := Bool.eq_false_iff.mpr c9
              subst c9
              have H1 : (if 0 ≤ (wrap64 (a0 + 1)) then (if (wrap64 (a0 + 1) : Int).toNat ≤ 35184372088832 then (torusref07_Numbered.l0 kj5 a1 (List.replicate (wrap64 (a0 + 1) : Int).toNat 0) a0) else (none)) else (none)) = some (r1, r2) := by rw [if_neg (show ¬ (false = true) by decide)] at H; exact H
              clear H
              have H := H1
              clear H1
              obtain ⟨ji10, hji10⟩ : ∃ j_ : Int, (wrap64 (a0 + 1)) = j_ := ⟨_, rfl⟩
              replace H : (if 0 ≤ (ji10) then (if (ji10 : Int).toNat ≤ 35184372088832 then (torusref07_Numbered.l0 kj5 a1 (List.replicate (ji10 : Int).toNat 0) a0) else (none)) else (none)) = some (r1, r2) := by first | (rw [hji10] at H; exact H) | (simp only [hji10] at H ⊢; exact H)
              have hji10w : (IntKind.i64.wrap (a0 + 1)) = ji10 := (i64_w _).trans hji10
              by_cases c11 : 0 ≤ (ji10)
              · rw [if_pos c11] at H
                have c11b0 := eq_true c11
                have c11b1 : decide (0 ≤ (ji10)) = true := decide_eq_true c11
                clear c11
                by_cases c12 : (ji10 : Int).toNat ≤ 35184372088832
                · rw [if_pos c12] at H
                  have c12b0 := eq_true c12
                  have c12b1 : decide ((ji10 : Int).toNat ≤ 35184372088832) = true := decide_eq_true c12
                  clear c12
                  obtain ⟨y274, hy274⟩ : ∃ y_ : List Int, y_ = (List.replicate (ji10 : Int).toNat 0) := ⟨_, rfl⟩
                  replace H : (torusref07_Numbered.l0 kj5 a1 y274 a0) = some (r1, r2) := by first | (rw [hy274]; with_reducible exact H) | (have H2_ := (Option.bind_some _ _).symm.trans H; rw [hy274]; with_reducible exact H2_) | (have H2_ := (Option.bind_some _ _).symm.trans H; with_reducible exact H2_) | with_reducible exact H | (rw [hy274]; exact H) | exact H
                  have Ny274 := Aside0.mk hy274
                  clear hy274
                  have H' := Aside0.mk H
                  clear H
                  go_wp2_with (first | ((with_reducible refine gate_dst (N := 26) rfl ?_); refine Kd.R_make (Kd.int .i64) _ 3 rfl (N := 26) rfl 22 _ _ rfl ji10 rfl rfl Tryd.underlying22 (.int .i64 0) 8 info3 rfl (by decide) (by omega) 0 (ok := fun _ => True) (okp := fun _ => True) rfl (fun _ hk => hk) trivial (of_decide_eq_true (by first | (with_reducible assumption) | assumption)) (Nat.le_trans (Nat.mul_le_mul_right _ (of_decide_eq_true (by first | (with_reducible assumption) | assumption) : ji10.toNat ≤ 35184372088832)) (by omega)) (Below.refl _ _) (Nat.le_refl _) ?_; intro v275 w13 ho14 hb hg_ hnew_; clear hg_ hnew_; (first | rw [← Ny274.out] at ho14 | (simp only [Int.reduceToNat] at ho14; rw [← Ny274.out] at ho14)); have n0_ := Aside0.mk (Kd.R_lower ho14 (below_size (by repeat (first | (with_reducible first | exact HB.out | apply below_alloc | apply pw_below_drewN | apply below_drew1) | exact HB.out)))); have n1_ := Aside0.mk (below_step (by repeat (first | (with_reducible first | exact HB.out | apply below_alloc | apply pw_below_drewN | apply below_drew1) | exact HB.out)) hb); clear HB; have HO276 := n0_; have HB := n1_; clear n0_ n1_; clear hb ho14))
                  go_loopg [1, 7] kj5 (fun kq v1 v7 w' => ∃ (x1_3 : Int) (x6_3 : List Int) (x7_3 : Int), v1 = .int .i64 x1_3 ∧ v7 = .int .i64 x7_3 ∧ Aside0 (torusref07_Numbered.l0 kq x1_3 x6_3 x7_3 = some (r1, r2)) ∧ Aside0 (kq ≤ kj5) ∧ Aside0 (Kd.R (Kd.int .i64) 3 w' w.heap.size (fun _ => True) v275 x6_3) ∧ Aside0 (Below w.heap.size w w'))
                  case atStart => exact ⟨(a1), (y274), (a0), (by first | rfl | (simp; done) | (simp [*]; done)), (by first | rfl | (simp; done) | (simp [*]; done)), H', ⟨Nat.le_refl _⟩, ⟨by (with_reducible repeat (first | apply Kd.R_alloc | apply Kd.R_drewN | apply Kd.R_drew)); exact HO276.out⟩, ⟨by repeat (first | (with_reducible first | exact HB.out | apply below_alloc | apply pw_below_drewN | apply below_drew1) | exact HB.out)⟩⟩
                  case round =>
                    clear H'
                    try clear c1
                    try clear p2
                    try clear c4
                    try clear c4b0
                    try clear c5
                    try clear p6
                    try clear c7
                    try clear c7b0
                    try clear c9
                    try clear c11
                    try clear c11b0
                    try clear c11b1
                    try clear c12
                    try clear c12b0
                    try clear c12b1
                    try clear p2
                    try clear p6
                    obtain ⟨x1_3, x6_3, x7_3, rfl, rfl, HA, HK3, HO_6, HB⟩ := hrel
                    cases gk with
                    | zero => exact absurd HA.out (by simp [torusref07_Numbered.l0])
                    | succ k3 =>
                      have H := HA.out
                      clear HA
                      simp only [torusref07_Numbered.l0] at H
                      by_cases c15 : x7_3 ≥ 0
                      · rw [if_pos c15] at H
                        have c15b0 : decide (0 ≤ x7_3) = true := decide_eq_true c15
                        clear c15
                        have H' := Aside0.mk H
                        clear H
                        go_wp2
                        go_loopg [8] k3 (fun kq v8 w' => ∃ (x8_4 : Int), v8 = .int .i64 x8_4 ∧ Aside0 (torusref07_Numbered.l1 kq x1_3 x6_3 x7_3 x8_4 = some (r1, r2)) ∧ Aside0 (kq ≤ k3) ∧ Aside0 (Kd.R (Kd.int .i64) 3 w' w.heap.size (fun _ => True) v275 x6_3) ∧ Aside0 (Below w.heap.size w w'))
                        case atStart => exact ⟨(x7_3), (by first | rfl | (simp; done) | (simp [*]; done)), H', ⟨Nat.le_refl _⟩, ⟨by (with_reducible repeat (first | apply Kd.R_alloc | apply Kd.R_drewN | apply Kd.R_drew)); exact HO_6.out⟩, ⟨by repeat (first | (with_reducible first | exact HB.out | apply below_alloc | apply pw_below_drewN | apply below_drew1) | exact HB.out)⟩⟩
                        case round =>
                          clear H'
                          try clear c1
                          try clear p2
                          try clear c4
                          try clear c4b0
                          try clear c5
                          try clear p6
                          try clear c7
                          try clear c7b0
                          try clear c9
                          try clear c11
                          try clear c11b0
                          try clear c11b1
                          try clear c12
                          try clear c12b0
                          try clear c12b1
                          try clear c15
                          try clear c15b0
                          try clear p2
                          try clear p6
                          obtain ⟨x8_4, rfl, HA, HK4, HO_6, HB⟩ := hrel
                          cases gk with
                          | zero => exact absurd HA.out (by simp [torusref07_Numbered.l1])
                          | succ k4 =>
                            have H := HA.out
                            clear HA
                            simp only [torusref07_Numbered.l1] at H
                            replace H := Option.bind_eq_some_iff.mp H
                            obtain ⟨t277, A160, H⟩ := H
                            replace H : (if t277 ≤ x1_3 then (torusref07_Numbered.l1 k4 x1_3 x6_3 x7_3 (wrap64 (x8_4 + 1))) else (if 0 ≤ x7_3 then (if x7_3 < (x6_3.length : Int) then ((torusref07_Over.f k4 x8_4 (wrap64 (x7_3 + 1))).bind fun t279 => (torusref07_Numbered.l0 k4 (wrap64 (x1_3 - t279)) (x6_3.set (x7_3 : Int).toNat x8_4) (wrap64 (x7_3 - 1)))) else (none)) else (none))) = some (r1, r2) := H
                            have A16 := Aside0.mk A160
                            clear A160
                            by_cases c17 : t277 ≤ x1_3
                            · rw [if_pos c17] at H
                              have c17b0 : decide (t277 ≤ x1_3) = true := decide_eq_true c17
                              clear c17
                              have H' := Aside0.mk H
                              clear H
                              go_wp2_with (first | ((with_reducible refine gate_callee (f := 39) rfl ?_); refine goesL_ (some 37) rfl rfl Tryd.func39 (by kernel_rfl) rfl #[.int .i64 (wrap64 (x8_4 + 1)), .int .i64 (wrap64 (x7_3 + 1))] rfl (by (try simp only [List.map_toArray, List.map_cons, List.map_nil]); first | done | rfl | (simp only [List.length_drop, List.length_take]; rfl)) ?_; (with_reducible refine (torusref07_Over.calls k4 (wrap64 (x8_4 + 1)) (wrap64 (x7_3 + 1)) t277 _ A16.out).mono ?_); rintro e w' ⟨rfl, ⟨nd, rfl⟩⟩; refine ⟨_, rfl, ?_⟩))
                              go_roundg k4
                              case measure => have := HJ2.out; have := HJ5.out; have := HK3.out; have := HK4.out; omega
                              case rel => exact ⟨(wrap64 (x8_4 + 1)), (by first | rfl | (simp; done) | (simp [*]; done)), H', ⟨by have := HJ2.out; have := HJ5.out; have := HK3.out; have := HK4.out; omega⟩, ⟨by (with_reducible repeat (first | apply Kd.R_alloc | apply Kd.R_drewN | apply Kd.R_drew)); exact HO_6.out⟩, ⟨by repeat (first | (with_reducible first | exact HB.out | apply below_alloc | apply pw_below_drewN | apply below_drew1) | exact HB.out)⟩⟩
                            · rw [if_neg c17] at H
                              have c17b0 : decide (t277 ≤ x1_3) = false := decide_eq_false c17
                              clear c17
                              by_cases c18 : 0 ≤ x7_3
                              · rw [if_pos c18] at H
                                have c18b0 : decide (0 ≤ x7_3) = true := decide_eq_true c18
                                clear c18
                                by_cases c19 : x7_3 < (x6_3.length : Int)
                                · rw [if_pos c19] at H
                                  have c19b0 : decide (x7_3 < (x6_3.length : Int)) = true := decide_eq_true c19
                                  clear c19
                                  obtain ⟨y278, hy278⟩ : ∃ y_ : List Int, y_ = (x6_3.set (x7_3 : Int).toNat x8_4) := ⟨_, rfl⟩
                                  replace H : ((torusref07_Over.f k4 x8_4 (wrap64 (x7_3 + 1))).bind fun t279 => (torusref07_Numbered.l0 k4 (wrap64 (x1_3 - t279)) y278 (wrap64 (x7_3 - 1)))) = some (r1, r2) := by first | (rw [hy278]; with_reducible exact H) | (have H2_ := (Option.bind_some _ _).symm.trans H; rw [hy278]; with_reducible exact H2_) | (have H2_ := (Option.bind_some _ _).symm.trans H; with_reducible exact H2_) | with_reducible exact H | (rw [hy278]; exact H) | exact H
                                  have Ny278 := Aside0.mk hy278
                                  clear hy278
                                  replace H := Option.bind_eq_some_iff.mp H
                                  obtain ⟨t279, A210, H⟩ := H
                                  replace H : (torusref07_Numbered.l0 k4 (wrap64 (x1_3 - t279)) y278 (wrap64 (x7_3 - 1))) = some (r1, r2) := H
                                  have A21 := Aside0.mk A210
                                  clear A210
                                  have H' := Aside0.mk H
                                  clear H
                                  go_wp2_with (first | ((with_reducible refine gate_callee (f := 39) rfl ?_); refine goesL_ (some 37) rfl rfl Tryd.func39 (by kernel_rfl) rfl #[.int .i64 (wrap64 (x8_4 + 1)), .int .i64 (wrap64 (x7_3 + 1))] rfl (by (try simp only [List.map_toArray, List.map_cons, List.map_nil]); first | done | rfl | (simp only [List.length_drop, List.length_take]; rfl)) ?_; (with_reducible refine (torusref07_Over.calls k4 (wrap64 (x8_4 + 1)) (wrap64 (x7_3 + 1)) t277 _ A16.out).mono ?_); rintro e w' ⟨rfl, ⟨nd, rfl⟩⟩; refine ⟨_, rfl, ?_⟩; (try (rw [drewN_self wr]; generalize hq_ : World.drewN wr _ = wr; have n0_ : Aside0 (Kd.R (Kd.int .i64) 3 wr w.heap.size (fun _ => True) v275 x6_3) := ⟨by rw [← hq_]; exact (by (with_reducible repeat (first | apply Kd.R_alloc | apply Kd.R_drewN | apply Kd.R_drew)); exact HO_6.out)⟩; have n1_ : Aside0 (Below w.heap.size w wr) := ⟨by rw [← hq_]; exact (by repeat (first | (with_reducible first | exact HB.out | apply below_alloc | apply pw_below_drewN | apply below_drew1) | exact HB.out))⟩; clear HO_6 HB hq_; have HO_6 := n0_; have HB := n1_; clear n0_ n1_)); have p20 : 0 ≤ (x7_3 : Int) := of_decide_eq_true (by first | (with_reducible assumption) | assumption); have q20 : (x7_3 : Int) < ((x6_3.length : Int) : Int) := of_decide_eq_true (by first | (with_reducible assumption) | assumption); obtain ⟨go20, co20, eo20, gb20, gl20, cl20, HG20⟩ := Kd.R_form HO_6.out (by omega); (first | cases eo20 | (injection eo20 with ea_ en_ ec_; (first | subst ea_ | (injection ea_ with ea_; subst ea_)); subst ec_; clear en_)); have GB20 := Aside0.mk gb20; have GG20 := Aside0.mk HG20; clear gb20 gl20 HG20; obtain ⟨hx20_0, hf20_0⟩ := Kd.R_celln 0 HO_6.out (x7_3 : Int) p20 q20; replace p20 := eq_true p20; replace q20 := eq_true q20; obtain ⟨hy22_, hz22_⟩ := Kd.R_celln 0 HO_6.out (x7_3 : Int) (of_decide_eq_true (by first | (with_reducible assumption) | assumption)) (of_decide_eq_true (by first | (with_reducible assumption) | assumption)); have HP22 := Kd.R_putg HO_6.out (x7_3 : Int) x8_4) | ((with_reducible refine gate_store (t := 3) (p := 45) rfl ?_); refine store_event (t := 3) (p := 45) (v := ?vo_w23) (w1 := (wr.setCell ⟨go20, (x7_3 : Int).toNat, none⟩ (.int .i64 x8_4))) ?hg ?ho ?hn ?hr ?_; (case ho => rfl); (case hg => rfl); (case hn => rfl); (case hr => first | (go_simp; done) | (go_simp; rfl)); intro w23 hw; have hg : wr.grownBy w23 (some go20) := (by rw [hw]; exact HP22.2); have hp_ : Kd.R (Kd.int .i64) 3 w23 w.heap.size (fun _ => True) (.slice (some ⟨go20, 0, none⟩) x6_3.length co20) y278 := (by rw [hw, Ny278.out]; exact HP22.1); clear HP22; have n0_ := Aside0.mk (hp_); have n1_ := Aside0.mk ((by rw [hw]; exact below_set (HB.out) GB20.out : Below w.heap.size w w23)); clear HO_6; clear HB; have HO_6 := n0_; have HB := n1_; clear n0_ n1_; clear hg hw hp_) | ((with_reducible refine gate_callee (f := 39) rfl ?_); refine goesL_ (some 50) rfl rfl Tryd.func39 (by kernel_rfl) rfl #[.int .i64 x8_4, .int .i64 (wrap64 (x7_3 + 1))] rfl (by (try simp only [List.map_toArray, List.map_cons, List.map_nil]); first | done | rfl | (simp only [List.length_drop, List.length_take]; rfl)) ?_; (with_reducible refine (torusref07_Over.calls k4 x8_4 (wrap64 (x7_3 + 1)) t279 _ A21.out).mono ?_); rintro e w' ⟨rfl, ⟨nd, rfl⟩⟩; refine ⟨_, rfl, ?_⟩))
                                  go_roundg k4
                                  case measure => have := HJ2.out; have := HJ5.out; have := HK3.out; have := HK4.out; omega
                                  case rel => exact ⟨(wrap64 (x1_3 - t279)), (y278), (wrap64 (x7_3 - 1)), (by first | rfl | (simp; done) | (simp [*]; done)), (by first | rfl | (simp; done) | (simp [*]; done)), H', ⟨by have := HJ2.out; have := HJ5.out; have := HK3.out; have := HK4.out; omega⟩, ⟨by (with_reducible repeat (first | apply Kd.R_alloc | apply Kd.R_drewN | apply Kd.R_drew)); exact HO_6.out⟩, ⟨by repeat (first | (with_reducible first | exact HB.out | apply below_alloc | apply pw_below_drewN | apply below_drew1) | exact HB.out)⟩⟩
                                · rw [if_neg c19] at H
                                  exact absurd H (by simp)
                              · rw [if_neg c18] at H
                                exact absurd H (by simp)
                      · rw [if_neg c15] at H
                        have c15b0 : decide (0 ≤ x7_3) = false := decide_eq_false c15
                        clear c15
                        simp only [Option.some.injEq, Prod.mk.injEq] at H
                        obtain ⟨rfl, rfl⟩ := H
                        go_wp2
                        go_ret2
                        exact ⟨_, by first | rfl | (simp [errW_none, errW_some] <;> rfl) | (simp only [← hji10]; first | rfl | (simp [errW_none, errW_some] <;> rfl)) | (simp [*, errW_none, errW_some] <;> rfl), by (with_reducible repeat (first | apply Kd.R_alloc | apply Kd.R_drewN | apply Kd.R_drew)); exact HO_6.out, by repeat (first | (with_reducible first | exact HB.out | apply below_alloc | apply pw_below_drewN | apply below_drew1) | exact HB.out)⟩
                · rw [if_neg c12] at H
                  exact absurd H (by simp)
              · rw [if_neg c11] at H
                exact absurd H (by simp)

end Go.Proofs.YticckanjfdcpaaaDoor.PSimplex
namespace Go.Proofs.YticckanjfdcpaaaDoor.PSimplex
open Go.RowKit Go.Proofs.YticckanjfdcpaaaDoorW.PrintWords Go.Proofs.YticckanjfdcpaaaDoorW.PrintLast Go.Proofs.YticckanjfdcpaaaDoorW.PrintMore
attribute [local go_sem] max2_int min2_int max_two min_two max_three min_three max_four min_four   -- for this text's walks alone
set_option linter.unusedVariables false
set_option linter.unusedSimpArgs false

/-! ### toruslaw07_SimplexNumbersMatch: function 3 -/
def toruslaw07_SimplexNumbersMatch.f (k : Nat) (l0 : List Int) (a1 : Int) (a2 : Int) : Option (Bool) := if (l0.length : Int) > 200 then ((toruslaw07_awake.f k).bind fun t280 => (some t280)) else ((simplex_Number.f k l0).bind fun bt281 => ((torusref07_Number.f k l0).bind fun bt283 => ((simplex_Numbered.f k a1 a2).bind fun bt285 => ((torusref07_Numbered.f k a1 a2).bind fun bt289 => (if bt281.1 = bt283.1 then (if bt281.2 = bt283.2 then ((torusref07_Cmp.f k bt285.1 bt289.1).bind fun t293 => (if t293 = 0 then (if bt285.2 = bt289.2 then ((toruslaw07_awake.f k).bind fun t294 => (some t294)) else (none)) else (none))) else (none)) else (none))))))
theorem toruslaw07_SimplexNumbersMatch.mono : ∀ a0 a1 a2 k, LeO (toruslaw07_SimplexNumbersMatch.f k a0 a1 a2) (toruslaw07_SimplexNumbersMatch.f (k + 1) a0 a1 a2) := by
  intro a0 a1 a2 k
  unfold toruslaw07_SimplexNumbersMatch.f
  repeat' first
      | (with_reducible exact simplex_Number.mono _ _)
      | (with_reducible exact simplex_Numbered.mono _ _ _)
      | (with_reducible exact toruslaw07_awake.mono _)
      | (with_reducible exact torusref07_Cmp.mono _ _ _)
      | (with_reducible exact torusref07_Number.mono _ _)
      | (with_reducible exact torusref07_Numbered.mono _ _ _)
      | (with_reducible exact LeO.refl _)
      | (with_reducible exact LeO.none _)
      | (with_reducible refine LeO.ite ?_ ?_)
      | (with_reducible refine LeO.bind ?_ (fun _ => ?_))
      | exact simplex_Number.mono _ _
      | exact simplex_Numbered.mono _ _ _
      | exact toruslaw07_awake.mono _
      | exact torusref07_Cmp.mono _ _ _
      | exact torusref07_Number.mono _ _
      | exact torusref07_Numbered.mono _ _ _
      | exact LeO.none _
      | refine LeO.ite ?_ ?_
      | refine LeO.bind ?_ (fun _ => ?_)
set_option maxHeartbeats 8000000 in
set_option maxRecDepth 100000 in
theorem toruslaw07_SimplexNumbersMatch.calls (k : Nat) (A0 : Option Addr) (c0 : Nat) (l0 : List Int) (a1 : Int) (a2 : Int) (r : Bool) (w : World) (hr0 : Kd.C (Kd.int .i64) w A0 l0.length l0) (hc0 : l0.length ≤ c0) (hg : Aside0 (Glob w)) (hrt : Aside0 (r = true)) (h : toruslaw07_SimplexNumbersMatch.f k l0 a1 a2 = some r) :
    Calls Tryd.prog 3 #[.slice A0 l0.length c0, .int .i64 a1, .int .i64 a2] w fun e w' => e = .returned (.bool r) ∧ Below w.heap.size w w' := by
  have HR0 := Aside0.mk hr0
  have HC0 := Aside0.mk hc0
  clear hr0 hc0
  have HB := Aside0.mk (Below.refl w.heap.size w)
  have H : (if (l0.length : Int) > 200 then ((toruslaw07_awake.f k).bind fun t280 => (some t280)) else ((simplex_Number.f k l0).bind fun bt281 => ((torusref07_Number.f k l0).bind fun bt283 => ((simplex_Numbered.f k a1 a2).bind fun bt285 => ((torusref07_Numbered.f k a1 a2).bind fun bt289 => (if bt281.1 = bt283.1 then (if bt281.2 = bt283.2 then ((torusref07_Cmp.f k bt285.1 bt289.1).bind fun t293 => (if t293 = 0 then (if bt285.2 = bt289.2 then ((toruslaw07_awake.f k).bind fun t294 => (some t294)) else (none)) else (none))) else (none)) else (none))))))) = some r := h
  clear h
  by_cases c4 : (l0.length : Int) > 200
  · rw [if_pos c4] at H
    have c4b0 : decide (200 < (l0.length : Int)) = true := decide_eq_true c4
    have c4b1 : decide (200 < l0.length) = true := decide_eq_true (by omega)
    clear c4
    replace H := Option.bind_eq_some_iff.mp H
    obtain ⟨t280, A50, H⟩ := H
    replace H : (some t280) = some r := H
    have A5 := Aside0.mk A50
    clear A50
    first
    | with_reducible exact absurd ((Option.some.inj H).trans hrt.out) Bool.false_ne_true
    | skip
      obtain rfl := Option.some.inj H
      go_enter Tryd.func3, Tryd.ntmps3
      go_wp2_with (first | ((with_reducible refine gate_callee (f := 12) rfl ?_); refine goesL_ (some 18) rfl rfl Tryd.func12 (by kernel_rfl) rfl #[] rfl (by (try simp only [List.map_toArray, List.map_cons, List.map_nil]); first | done | rfl | (simp only [List.length_drop, List.length_take]; rfl)) ?_; (with_reducible refine (toruslaw07_awake.calls k  t280 _ ?side1 A5.out).mono ?_); (case side1 => first | exact hg | exact ⟨Glob.below hg.out (by repeat (first | (with_reducible first | exact HB.out | apply below_alloc | apply pw_below_drewN | apply below_drew1) | exact HB.out))⟩); rintro e w6 ⟨rfl, hb⟩; refine ⟨_, rfl, ?_⟩; have n0_ := Aside0.mk (below_step (by repeat (first | (with_reducible first | exact HB.out | apply below_alloc | apply pw_below_drewN | apply below_drew1) | exact HB.out)) hb); clear HB; have HB := n0_; clear n0_; (try clear hb); (try clear hb2); (try clear hk); (try clear hi)))
      go_ret
      exact ⟨by first | rfl | (simp [errW_none, errW_some] <;> rfl) | (simp [*, errW_none, errW_some] <;> rfl), by repeat (first | (with_reducible first | exact HB.out | apply below_alloc | apply pw_below_drewN | apply below_drew1) | exact HB.out)⟩
  · rw [if_neg c4] at H
    have c4b0 : decide (200 < (l0.length : Int)) = false := decide_eq_false c4
    have c4b1 : decide (200 < l0.length) = false := decide_eq_false (by omega)
    clear c4
    replace H := Option.bind_eq_some_iff.mp H
    obtain ⟨⟨t281, t282⟩, A70, H⟩ := H
    replace H : ((torusref07_Number.f k l0).bind fun bt283 => ((simplex_Numbered.f k a1 a2).bind fun bt285 => ((torusref07_Numbered.f k a1 a2).bind fun bt289 => (if t281 = bt283.1 then (if t282 = bt283.2 then ((torusref07_Cmp.f k bt285.1 bt289.1).bind fun t293 => (if t293 = 0 then (if bt285.2 = bt289.2 then ((toruslaw07_awake.f k).bind fun t294 => (some t294)) else (none)) else (none))) else (none)) else (none))))) = some r := H
    have A7 := Aside0.mk A70
    clear A70
    replace H := Option.bind_eq_some_iff.mp H
    obtain ⟨⟨t283, t284⟩, A80, H⟩ := H
    replace H : ((simplex_Numbered.f k a1 a2).bind fun bt285 => ((torusref07_Numbered.f k a1 a2).bind fun bt289 => (if t281 = t283 then (if t282 = t284 then ((torusref07_Cmp.f k bt285.1 bt289.1).bind fun t293 => (if t293 = 0 then (if bt285.2 = bt289.2 then ((toruslaw07_awake.f k).bind fun t294 => (some t294)) else (none)) else (none))) else (none)) else (none)))) = some r := H
    have A8 := Aside0.mk A80
    clear A80
    replace H := Option.bind_eq_some_iff.mp H
    obtain ⟨⟨t285, t286⟩, A90, H⟩ := H
    replace H : ((torusref07_Numbered.f k a1 a2).bind fun bt289 => (if t281 = t283 then (if t282 = t284 then ((torusref07_Cmp.f k t285 bt289.1).bind fun t293 => (if t293 = 0 then (if t286 = bt289.2 then ((toruslaw07_awake.f k).bind fun t294 => (some t294)) else (none)) else (none))) else (none)) else (none))) = some r := H
    have A9 := Aside0.mk A90
    clear A90
    replace H := Option.bind_eq_some_iff.mp H
    obtain ⟨⟨t289, t290⟩, A100, H⟩ := H
    replace H : (if t281 = t283 then (if t282 = t284 then ((torusref07_Cmp.f k t285 t289).bind fun t293 => (if t293 = 0 then (if t286 = t290 then ((toruslaw07_awake.f k).bind fun t294 => (some t294)) else (none)) else (none))) else (none)) else (none)) = some r := H
    have A10 := Aside0.mk A100
    clear A100
    by_cases c11 : t281 = t283
    · rw [if_pos c11] at H
      have c11b0 : (t281 == t283) = true := beq_iff_eq.mpr c11
      have c11b1 : (t281 != t283) = false := bne_eq_false_iff_eq.mpr c11
      clear c11
      by_cases c12 : t282 = t284
      · rw [if_pos c12] at H
        have c12b0 : (t282 == t284) = true := beq_iff_eq.mpr c12
        have c12b1 : (t282 != t284) = false := bne_eq_false_iff_eq.mpr c12
        clear c12
        replace H := Option.bind_eq_some_iff.mp H
        obtain ⟨t293, A130, H⟩ := H
        replace H : (if t293 = 0 then (if t286 = t290 then ((toruslaw07_awake.f k).bind fun t294 => (some t294)) else (none)) else (none)) = some r := H
        have A13 := Aside0.mk A130
        clear A130
        by_cases c14 : t293 = 0
        · rw [if_pos c14] at H
          have c14b0 : (t293 == 0) = true := beq_iff_eq.mpr c14
          have c14b1 : (t293 != 0) = false := bne_eq_false_iff_eq.mpr c14
          clear c14
          by_cases c15 : t286 = t290
          · rw [if_pos c15] at H
            have c15b0 : (t286 == t290) = true := beq_iff_eq.mpr c15
            have c15b1 : (t286 != t290) = false := bne_eq_false_iff_eq.mpr c15
            clear c15
            replace H := Option.bind_eq_some_iff.mp H
            obtain ⟨t294, A160, H⟩ := H
            replace H : (some t294) = some r := H
            have A16 := Aside0.mk A160
            clear A160
            first
            | with_reducible exact absurd ((Option.some.inj H).trans hrt.out) Bool.false_ne_true
            | skip
              obtain rfl := Option.some.inj H
              go_enter Tryd.func3, Tryd.ntmps3
              go_wp2_with (first | ((with_reducible refine gate_callee (f := 13) rfl ?_); refine goesL_ (some 21) rfl rfl Tryd.func13 (by kernel_rfl) rfl #[.slice A0 l0.length c0] rfl (by (try simp only [List.map_toArray, List.map_cons, List.map_nil]); first | done | rfl | (simp only [List.length_drop, List.length_take]; rfl)) ?_; (with_reducible refine (simplex_Number.calls k _ _ l0 t281 t282 _ ?side1 ?side2 ?side3 A7.out).mono ?_); (case side1 => repeat (first | exact HR0.out | (with_reducible refine Kd.C_alloc ?_ _) | (with_reducible refine Kd.C_drewN ?_ _) | (with_reducible refine Kd.C_drew ?_))); (case side2 => exact HC0.out); (case side3 => first | exact hg | exact ⟨Glob.below hg.out (by repeat (first | (with_reducible first | exact HB.out | apply below_alloc | apply pw_below_drewN | apply below_drew1) | exact HB.out))⟩); rintro e w17 ⟨rfl, hb⟩; refine ⟨_, rfl, ?_⟩; have n0_ := Aside0.mk (below_step (by repeat (first | (with_reducible first | exact HB.out | apply below_alloc | apply pw_below_drewN | apply below_drew1) | exact HB.out)) hb); clear HB; have HB := n0_; clear n0_; (try clear hb); (try clear hb2); (try clear hk); (try clear hi)) | ((with_reducible refine gate_callee (f := 14) rfl ?_); refine goesL_ (some 26) rfl rfl Tryd.func14 (by kernel_rfl) rfl #[.slice A0 l0.length c0] rfl (by (try simp only [List.map_toArray, List.map_cons, List.map_nil]); first | done | rfl | (simp only [List.length_drop, List.length_take]; rfl)) ?_; (with_reducible refine (torusref07_Number.calls k _ _ l0 t283 t284 _ ?side1 ?side2 A8.out).mono ?_); (case side1 => repeat (first | exact (Kd.C_below HR0.out HB.out) | (with_reducible refine Kd.C_alloc ?_ _) | (with_reducible refine Kd.C_drewN ?_ _) | (with_reducible refine Kd.C_drew ?_))); (case side2 => exact HC0.out); rintro e w' ⟨rfl, ⟨nd, rfl⟩⟩; refine ⟨_, rfl, ?_⟩) | ((with_reducible refine gate_callee (f := 15) rfl ?_); refine goesL_ (some 32) rfl rfl Tryd.func15 (by kernel_rfl) rfl #[.int .i64 a1, .int .i64 a2] rfl (by (try simp only [List.map_toArray, List.map_cons, List.map_nil]); first | done | rfl | (simp only [List.length_drop, List.length_take]; rfl)) ?_; (with_reducible refine (simplex_Numbered.calls k a1 a2 t285 t286 _ ?side1 A9.out).mono ?_); (case side1 => first | exact hg | exact ⟨Glob.below hg.out (by repeat (first | (with_reducible first | exact HB.out | apply below_alloc | apply pw_below_drewN | apply below_drew1) | exact HB.out))⟩); rintro e w18 ⟨v287, rfl, ho0, hb⟩; refine ⟨_, rfl, ?_⟩; have n0_ := Aside0.mk (Kd.R_lower ho0 (below_size (by repeat (first | (with_reducible first | exact HB.out | apply below_alloc | apply pw_below_drewN | apply below_drew1) | exact HB.out)))); have n1_ := Aside0.mk (below_step (by repeat (first | (with_reducible first | exact HB.out | apply below_alloc | apply pw_below_drewN | apply below_drew1) | exact HB.out)) hb); clear HB; have HO288 := n0_; have HB := n1_; clear n0_ n1_; (try clear hb); (try clear hb2); (try clear hk); (try clear hi); (try clear ho0)) | ((with_reducible refine gate_callee (f := 16) rfl ?_); refine goesL_ (some 38) rfl rfl Tryd.func16 (by kernel_rfl) rfl #[.int .i64 a1, .int .i64 a2] rfl (by (try simp only [List.map_toArray, List.map_cons, List.map_nil]); first | done | rfl | (simp only [List.length_drop, List.length_take]; rfl)) ?_; (with_reducible refine (torusref07_Numbered.calls k a1 a2 t289 t290 _ A10.out).mono ?_); rintro e w19 ⟨v291, rfl, ho0, hb⟩; refine ⟨_, rfl, ?_⟩; have n0_ := Aside0.mk (Kd.R_elder' (by (with_reducible repeat (first | apply Kd.R_alloc | apply Kd.R_drewN | apply Kd.R_drew)); exact HO288.out) (Kd.R_base ho0) hb); have n1_ := Aside0.mk (Kd.R_lower (Kd.R_new' ho0 (Kd.R_lt (by (with_reducible repeat (first | apply Kd.R_alloc | apply Kd.R_drewN | apply Kd.R_drew)); exact HO288.out))) (below_size (by repeat (first | (with_reducible first | exact HB.out | apply below_alloc | apply pw_below_drewN | apply below_drew1) | exact HB.out)))); have n2_ := Aside0.mk (below_step (by repeat (first | (with_reducible first | exact HB.out | apply below_alloc | apply pw_below_drewN | apply below_drew1) | exact HB.out)) hb); clear HO288; clear HB; have HO288 := n0_; have HO292 := n1_; have HB := n2_; clear n0_ n1_ n2_; (try clear hb); (try clear hb2); (try clear hk); (try clear hi); (try clear ho0); obtain ⟨Ao20, co20, eo20⟩ := Kd.R_slice HO288.out; subst eo20; obtain ⟨Ao21, co21, eo21⟩ := Kd.R_slice HO292.out; subst eo21) | (go_at_call 17; (with_reducible refine (torusref07_Cmp.calls k _ _ t285 _ _ t289 t293 _ ?side1 ?side2 ?side3 ?side4 A13.out).mono ?_); (case side1 => repeat (first | exact (Kd.R_reads' HO288.out).2.2 | (with_reducible refine Kd.C_alloc ?_ _) | (with_reducible refine Kd.C_drewN ?_ _) | (with_reducible refine Kd.C_drew ?_))); (case side2 => exact (Kd.R_reads' HO288.out).2.1); (case side3 => repeat (first | exact (Kd.R_reads' HO292.out).2.2 | (with_reducible refine Kd.C_alloc ?_ _) | (with_reducible refine Kd.C_drewN ?_ _) | (with_reducible refine Kd.C_drew ?_))); (case side4 => exact (Kd.R_reads' HO292.out).2.1); rintro e w' ⟨rfl, ⟨nd, rfl⟩⟩) | (go_at_call 12; (with_reducible refine (toruslaw07_awake.calls k  t294 _ ?side1 A16.out).mono ?_); (case side1 => first | exact hg | exact ⟨Glob.below hg.out (by repeat (first | (with_reducible first | exact HB.out | apply below_alloc | apply pw_below_drewN | apply below_drew1) | exact HB.out))⟩); rintro e w22 ⟨rfl, hb⟩; have n0_ := Aside0.mk (Kd.R_below (by (with_reducible repeat (first | apply Kd.R_alloc | apply Kd.R_drewN | apply Kd.R_drew)); exact HO288.out) hb); have n1_ := Aside0.mk (Kd.R_below (by (with_reducible repeat (first | apply Kd.R_alloc | apply Kd.R_drewN | apply Kd.R_drew)); exact HO292.out) hb); have n2_ := Aside0.mk (below_step (by repeat (first | (with_reducible first | exact HB.out | apply below_alloc | apply pw_below_drewN | apply below_drew1) | exact HB.out)) hb); clear HO288; clear HO292; clear HB; have HO288 := n0_; have HO292 := n1_; have HB := n2_; clear n0_ n1_ n2_; (try clear hb); (try clear hb2); (try clear hk); (try clear hi)))
              go_ret
              exact ⟨by first | rfl | (simp [errW_none, errW_some] <;> rfl) | (simp [*, errW_none, errW_some] <;> rfl), by repeat (first | (with_reducible first | exact HB.out | apply below_alloc | apply pw_below_drewN | apply below_drew1) | exact HB.out)⟩
          · rw [if_neg c15] at H
            exact absurd H (by simp)
        · rw [if_neg c14] at H
          exact absurd H (by simp)
      · rw [if_neg c12] at H
        exact absurd H (by simp)
    · rw [if_neg c11] at H
      exact absurd H (by simp)

/-- THE ONE PURE STATEMENT of toruslaw07_SimplexNumbersMatch: yours. -/
def toruslaw07_SimplexNumbersMatch.Pure : Prop := ∀ (l0 : List Int) (a1 : Int) (a2 : Int), l0.length ≤ maxLen → l0.length * 8 ≤ 140737488351232 → (∀ x ∈ l0, (Lit.int .i64 x).wf = true) → (Lit.int .i64 a1).wf = true → (Lit.int .i64 a2).wf = true → ∃ k, toruslaw07_SimplexNumbersMatch.f k l0 a1 a2 = some true
theorem toruslaw07_SimplexNumbersMatch.walk (P : toruslaw07_SimplexNumbersMatch.Pure) (a0 : Option Addr) (len0 cap0 : Nat) (z0 : List Int) (a1 : Int) (a2 : Int) (w : World) (hg : Aside0 (Glob w)) (w0 : (a0 = none ∧ len0 = 0 ∧ cap0 = 0 ∧ z0 = []) ∨ ∃ x, a0 = some x ∧ len0 ≤ cap0 ∧ cap0 ≤ maxLen ∧ z0.length = cap0 ∧ (∀ i, i < z0.length → w.cell? (x.add i) = some (.int .i64 (z0.getD i 0))) ∧ ∀ n ∈ z0, (Lit.int .i64 n).wf = true) (y0 : len0 * 8 ≤ 140737488351232) (w1 : (Lit.int .i64 a1).wf = true) (w2 : (Lit.int .i64 a2).wf = true) :
    Calls Tryd.prog 3 #[.slice a0 len0 cap0, .int .i64 a1, .int .i64 a2] w fun e w' => e = .returned (.bool true) ∧ Below w.heap.size w w' := by
  obtain ⟨l0, rfl, hr0, hm0, hw0, hc0⟩ := ReadsInt.ofRowC w0
  obtain ⟨k, h⟩ := P l0 a1 a2 hm0 y0 hw0 w1 w2
  refine (toruslaw07_SimplexNumbersMatch.calls k _ _ l0 a1 a2 true w (Kd.C_of_reads (d := (0 : Int)) (h1 := fun _ => rfl) hr0) hc0 hg ⟨rfl⟩ h).mono ?_
  rintro e w' ⟨rfl, hd⟩
  exact ⟨rfl, hd⟩

end Go.Proofs.YticckanjfdcpaaaDoor.PSimplex
namespace Go.Proofs.YticckanjfdcpaaaDoor.PSimplex
open Go.RowKit Go.Proofs.YticckanjfdcpaaaDoorW.PrintWords Go.Proofs.YticckanjfdcpaaaDoorW.PrintLast Go.Proofs.YticckanjfdcpaaaDoorW.PrintMore
set_option linter.unusedVariables false
set_option linter.unusedSimpArgs false
set_option maxRecDepth 100000
theorem awake_now : toruslaw07_awake.f 100 = some true := by decide +kernel
theorem wrap_id {a : Int} (h0 : -9223372036854775808 ≤ a) (h1 : a ≤ 9223372036854775807) : wrap64 a = a := by unfold wrap64; omega
theorem ev_bind {α β : Type} {g : Nat → Option α} {f : Nat → α → Option β} {a : α} {r : β} (h : Ev g a) : Ev (fun n => (g n).bind (f n)) r ↔ Ev (fun n => f n a) r := by
  refine ⟨fun hb => ?_, fun hf => Ev.bind h hf⟩
  obtain ⟨K, h⟩ := h
  obtain ⟨K', hb⟩ := hb
  refine ⟨max K K', fun n hn => ?_⟩
  have h2 : (g n).bind (f n) = some r := hb n (by omega)
  rw [h n (by omega)] at h2
  exact h2
theorem ev_succ {α : Type} {g : Nat → Option α} {r : α} (h : Ev (fun k => g (k + 1)) r) : Ev g r := Ev.step (fun _ => rfl) h
theorem awake_ev : Ev (fun k => toruslaw07_awake.f k) true := Ev.of toruslaw07_awake.mono (k := 100) awake_now

/-! ### The order -/
/-- The first difference of two lists. -/
def lex : List Int → List Int → Int
  | x :: xs, y :: ys => if x < y then -1 else if y < x then 1 else lex xs ys
  | _, _ => 0
/-- Lists by length, then by the first difference. -/
def cm (a b : List Int) : Int := if a.length < b.length then -1 else if b.length < a.length then 1 else lex a b
theorem lex_cons (x y : Int) (xs ys : List Int) : lex (x :: xs) (y :: ys) = if x < y then -1 else if y < x then 1 else lex xs ys := rfl
theorem lex_self : ∀ a, lex a a = 0
  | [] => rfl
  | x :: xs => by simp [lex, lex_self xs]
theorem lex_swap : ∀ a b, lex b a = -lex a b
  | [], [] => rfl
  | [], _ :: _ => rfl
  | _ :: _, [] => rfl
  | x :: xs, y :: ys => by
    have := lex_swap xs ys
    unfold lex
    split <;> split <;> (try split) <;> omega
theorem lex_range : ∀ a b, lex a b = -1 ∨ lex a b = 0 ∨ lex a b = 1
  | [], [] => by simp [lex]
  | [], _ :: _ => by simp [lex]
  | _ :: _, [] => by simp [lex]
  | x :: xs, y :: ys => by
    have := lex_range xs ys
    unfold lex
    split
    · simp
    · split
      · simp
      · exact this
theorem lex_eq : ∀ a b, a.length = b.length → lex a b = 0 → a = b
  | [], [], _, _ => rfl
  | x :: xs, y :: ys, h, e => by
    unfold lex at e
    split at e
    · simp at e
    · split at e
      · simp at e
      · rw [lex_eq xs ys (by simpa using h) e]
        congr 1
        omega
theorem lex_le : ∀ a b c, a.length = b.length → b.length = c.length → lex a b ≤ 0 → lex b c ≤ 0 → lex a c ≤ 0
  | [], [], [], _, _, _, _ => by simp [lex]
  | x :: xs, y :: ys, z :: zs, h, h', e, e' => by
    have ih := lex_le xs ys zs (by simpa using h) (by simpa using h')
    unfold lex at e e' ⊢
    split at e <;> split at e' <;> split <;> (try split) <;> (try split at e) <;> (try split at e') <;> first | omega | (exact ih e e') | skip
theorem cm_self (a : List Int) : cm a a = 0 := by simp [cm, lex_self]
theorem cm_swap (a b : List Int) : cm b a = -cm a b := by
  have := lex_swap a b
  unfold cm
  split <;> split <;> omega
theorem cm_range (a b : List Int) : cm a b = -1 ∨ cm a b = 0 ∨ cm a b = 1 := by
  have := lex_range a b
  unfold cm
  split
  · simp
  · split
    · simp
    · exact this
theorem cm_eq (a b : List Int) (h : cm a b = 0) : a = b := by
  unfold cm at h
  split at h
  · simp at h
  · split at h
    · simp at h
    · exact lex_eq a b (by omega) h
theorem cm_le (a b c : List Int) (h : cm a b ≤ 0) (h' : cm b c ≤ 0) : cm a c ≤ 0 := by
  have := lex_le a b c
  unfold cm at h h' ⊢
  split at h <;> split at h' <;> (try split at h) <;> (try split at h') <;> split <;> (try split) <;> first | omega | (exact this (by omega) (by omega) h h')

theorem drop_cons (a : List Int) (i : Nat) (h : i < a.length) : a.drop i = rd a (i : Int) :: a.drop (i + 1) := by
  rw [List.drop_eq_getElem_cons h]
  simp [rd, h]
theorem rcmp_l (a b : List Int) (he : a.length = b.length) (hl : a.length ≤ 9223372036854775806) : ∀ (m i k : Nat), m = a.length - i → m < k → i ≤ a.length →
    torusref07_Cmp.l0 k a b (i : Int) = some (lex (a.drop i) (b.drop i))
  | 0, i, k + 1, hm, hk, hi => by
    have e : ¬ ((i : Int) < (a.length : Int)) := by omega
    unfold torusref07_Cmp.l0
    rw [if_neg e, List.drop_of_length_le (by omega), List.drop_of_length_le (by omega)]
    rfl
  | m + 1, i, k + 1, hm, hk, hi => by
    have ih := rcmp_l a b he hl m (i + 1) k (by omega) (by omega) (by omega)
    have w : wrap64 ((i : Int) + 1) = ((i + 1 : Nat) : Int) := by rw [wrap_id (by omega) (by omega)]; omega
    unfold torusref07_Cmp.l0
    rw [if_pos (by omega), if_pos (by omega), if_pos (by omega), drop_cons a i (by omega), drop_cons b i (by omega), w, ih, lex_cons]
    by_cases c : rd a (i : Int) < rd b (i : Int)
    · rw [if_pos c, if_pos c]
    · rw [if_neg c, if_neg c]
      by_cases c' : rd b (i : Int) < rd a (i : Int)
      · rw [if_pos c', if_pos c']
      · rw [if_neg c', if_neg c']
theorem rcmp_ev (a b : List Int) (hl : a.length ≤ 9223372036854775806) : Ev (fun k => torusref07_Cmp.f k a b) (cm a b) := by
  refine Ev.of (torusref07_Cmp.mono a b) (k := a.length + 1) ?_
  unfold torusref07_Cmp.f cm
  by_cases c : (a.length : Int) = (b.length : Int)
  · rw [if_pos c, if_neg (by omega), if_neg (by omega)]
    simpa using rcmp_l a b (by omega) hl a.length 0 (a.length + 1) (by omega) (by omega) (by omega)
  · rw [if_neg c]
    by_cases c' : (a.length : Int) < (b.length : Int)
    · rw [if_pos c', if_pos (by omega)]
    · rw [if_neg c', if_neg (by omega), if_pos (by omega)]
theorem ccmp (a b : Int) : cmp_Compare_int.f a b = some (if a < b then -1 else if b < a then 1 else 0) := by
  have h : ∀ x : Int, cmp_isNaN_int.f x = some false := fun x => by simp [cmp_isNaN_int.f]
  unfold cmp_Compare_int.f
  rw [h, h]
  simp only [Option.bind_some]
  rw [if_neg (by simp), if_neg (by simp)]
  split
  · rfl
  · split <;> rfl
theorem scmp_l (a b : List Int) (he : a.length = b.length) (hl : a.length ≤ 9223372036854775806) : ∀ (m i k : Nat), m = a.length - i → m < k → i ≤ a.length →
    api_Simplex_int_45.l0 k a b a (a.length : Int) (i : Int) = some (lex (a.drop i) (b.drop i))
  | 0, i, k + 1, hm, hk, hi => by
    unfold api_Simplex_int_45.l0
    rw [if_neg (by omega), if_neg (by omega), List.drop_of_length_le (by omega), List.drop_of_length_le (by omega)]
    rfl
  | m + 1, i, k + 1, hm, hk, hi => by
    have ih := scmp_l a b he hl m (i + 1) k (by omega) (by omega) (by omega)
    have w : wrap64 ((i : Int) + 1) = ((i + 1 : Nat) : Int) := by rw [wrap_id (by omega) (by omega)]; omega
    unfold api_Simplex_int_45.l0
    rw [if_pos (by omega), if_pos (by omega), if_pos (by omega), if_neg (by omega), if_pos (by omega), ccmp, drop_cons a i (by omega), drop_cons b i (by omega), w, ih, lex_cons]
    simp only [Option.bind_some]
    by_cases c : rd a (i : Int) < rd b (i : Int)
    · rw [if_pos c, if_pos c]; rfl
    · rw [if_neg c, if_neg c]
      by_cases c' : rd b (i : Int) < rd a (i : Int)
      · rw [if_pos c', if_pos c']; rfl
      · rw [if_neg c', if_neg c', if_pos rfl]
theorem scmp_ev (a b : List Int) (hl : a.length ≤ 9223372036854775806) : Ev (fun k => simplex_Cmp.f k a b) (cm a b) := by
  refine Ev.of (simplex_Cmp.mono a b) (k := a.length + 1) ?_
  unfold simplex_Cmp.f cm
  rw [ccmp]
  simp only [Option.bind_some]
  by_cases c : (a.length : Int) < (b.length : Int)
  · rw [if_pos c, if_neg (by decide), if_pos (by omega)]
  · rw [if_neg c]
    by_cases c' : (b.length : Int) < (a.length : Int)
    · rw [if_pos c', if_neg (by decide), if_neg (by omega), if_pos (by omega)]
    · rw [if_neg c', if_pos rfl, if_neg (by omega), if_neg (by omega)]
      unfold api_Simplex_int_45.f
      have := scmp_l a b (by omega) hl a.length 0 (a.length + 1) (by omega) (by omega) (by omega)
      simp only [List.drop_zero] at this
      rw [show ((0 : Nat) : Int) = 0 from rfl] at this
      rw [this]
      rfl

theorem law_long {α : Type} {g : Nat → Option α} {f : Nat → α → Option Bool} {a : α} (h : Ev g a) (hf : Ev (fun n => f n a) true) : Ev (fun n => (g n).bind (f n)) true := (ev_bind h).mpr hf
end Go.Proofs.YticckanjfdcpaaaDoor.PSimplex
namespace Go.Proofs.YticckanjfdcpaaaDoor.PSimplex
open Go.RowKit Go.Proofs.YticckanjfdcpaaaDoorW.PrintWords Go.Proofs.YticckanjfdcpaaaDoorW.PrintLast Go.Proofs.YticckanjfdcpaaaDoorW.PrintMore
set_option linter.unusedVariables false
set_option linter.unusedSimpArgs false

def bad (v : Int) : Bool := decide (v < 0) || decide (v ≥ 64)
def asc : List Int → Bool
  | x :: y :: t => decide (x < y) && asc (y :: t)
  | _ => true
def ck (l : List Int) : Int := if l.length = 0 then 1 else if l.length > 5 then 3 else if l.any bad = true then 1 else if asc l = true then 0 else 6
theorem wrap_nat (i : Nat) (h : i ≤ 1000000) : wrap64 ((i : Int) + 1) = ((i + 1 : Nat) : Int) := by rw [wrap_id (by omega) (by omega)]; omega
theorem bad_if (v : Int) : (decide (v < 0) || decide (v ≥ 64)) = bad v := rfl
theorem vert_l (l : List Int) (hl : l.length ≤ 1000) : ∀ (m i : Nat), m = l.length - i → i ≤ l.length →
    Ev (fun k => (vert_ix.l0 k l (l.length : Int) (i : Int)).bind fun t => if t ≥ 0 then some (1 : Int) else some 0) (if (l.drop i).any bad = true then 1 else 0)
  | 0, i, hm, hi => by
    rw [List.drop_of_length_le (by omega)]
    refine ev_succ ?_
    simp only [vert_ix.l0, if_neg (show ¬ ((i : Int) < (l.length : Int)) by omega), Option.bind_some]
    exact Ev.now _
  | m + 1, i, hm, hi => by
    have ih := vert_l l hl m (i + 1) (by omega) (by omega)
    rw [drop_cons l i (by omega)]
    refine ev_succ ?_
    simp only [vert_ix.l0, if_pos (show ((i : Int) < (l.length : Int)) by omega), if_pos (show (0 : Int) ≤ (i : Int) by omega), bad_if, wrap_nat i (by omega)]
    cases hb : bad (rd l (i : Int)) with
    | true =>
      simp only [if_true, Option.bind_some, if_pos (show (i : Int) ≥ 0 by omega), List.any_cons, hb, Bool.true_or]
      exact Ev.now _
    | false =>
      simp only [Bool.false_eq_true, if_false, List.any_cons, hb, Bool.false_or]
      exact ih
theorem asc_cons (l : List Int) (i : Nat) (h : i + 1 < l.length) : asc (l.drop i) = (decide (rd l (i : Int) < rd l ((i + 1 : Nat) : Int)) && asc (l.drop (i + 1))) := by
  rw [drop_cons l i (by omega), drop_cons l (i + 1) h]
  rfl
theorem asc_end (l : List Int) (i : Nat) (h : l.length ≤ i + 1) : asc (l.drop i) = true := by
  by_cases h2 : i < l.length
  · rw [drop_cons l i h2, List.drop_of_length_le (by omega)]
    rfl
  · rw [List.drop_of_length_le (by omega)]
    rfl
theorem rd_drop1 (l : List Int) (i : Nat) : rd (l.drop 1) (i : Int) = rd l ((i + 1 : Nat) : Int) := by
  simp [rd, List.getElem?_drop, Nat.add_comm]
theorem scheck_l (l : List Int) (hl : l.length ≤ 1000) (h1 : 1 ≤ l.length) : ∀ (m i : Nat), m = l.length - 1 - i → i ≤ l.length - 1 →
    Ev (fun k => simplex_Check.l0 k l (l.drop 1) ((l.drop 1).length : Int) (i : Int)) (if asc (l.drop i) = true then 0 else 6)
  | 0, i, hm, hi => by
    have hd : (l.drop 1).length = l.length - 1 := List.length_drop
    rw [asc_end l i (by omega)]
    refine ev_succ ?_
    simp only [simplex_Check.l0, if_neg (show ¬ ((i : Int) < ((l.drop 1).length : Int)) by omega)]
    exact Ev.now _
  | m + 1, i, hm, hi => by
    have hd : (l.drop 1).length = l.length - 1 := List.length_drop
    have ih := scheck_l l hl h1 m (i + 1) (by omega) (by omega)
    rw [asc_cons l i (by omega)]
    refine ev_succ ?_
    simp only [simplex_Check.l0, if_pos (show ((i : Int) < ((l.drop 1).length : Int)) by omega), if_pos (show (0 : Int) ≤ (i : Int) by omega), if_pos (show ((i : Int) < (l.length : Int)) by omega), wrap_nat i (by omega), rd_drop1]
    by_cases c : rd l ((i + 1 : Nat) : Int) ≤ rd l (i : Int)
    · simp only [if_pos c, decide_eq_false (show ¬ (rd l (i : Int) < rd l ((i + 1 : Nat) : Int)) by omega), Bool.false_and, Bool.false_eq_true, if_false]
      exact Ev.now _
    · simp only [if_neg c, decide_eq_true (show (rd l (i : Int) < rd l ((i + 1 : Nat) : Int)) by omega), Bool.true_and]
      exact ih
theorem svert_ev (l : List Int) : Ev (fun k => simplex_vertices.f k l) (if l.length = 0 then 1 else if l.length > 5 then 3 else if l.any bad = true then 1 else 0) := by
  by_cases c : l.length = 0
  · simp only [simplex_vertices.f, if_pos c, if_pos (show (l.length : Int) = 0 by omega)]
    exact Ev.now _
  · by_cases c' : l.length > 5
    · simp only [simplex_vertices.f, if_neg c, if_pos c', if_neg (show ¬ ((l.length : Int) = 0) by omega), if_pos (show (l.length : Int) > 5 by omega)]
      exact Ev.now _
    · simp only [simplex_vertices.f, if_neg c, if_neg c', if_neg (show ¬ ((l.length : Int) = 0) by omega), if_neg (show ¬ ((l.length : Int) > 5) by omega)]
      simpa using vert_l l (by omega) l.length 0 (by omega) (by omega)
theorem scheck_ev (l : List Int) : Ev (fun k => simplex_Check.f k l) (ck l) := by
  unfold simplex_Check.f ck
  refine (ev_bind (svert_ev l)).mpr ?_
  by_cases c : l.length = 0
  · simp only [if_pos c]
    exact Ev.now _
  · by_cases c' : l.length > 5
    · simp only [if_neg c, if_pos c']
      exact Ev.now _
    · simp only [if_neg c, if_neg c']
      cases hb : l.any bad with
      | true => exact Ev.now _
      | false =>
        simp only [Bool.false_eq_true, if_false, if_true, if_pos (show 1 ≤ (l.length : Int) by omega)]
        simpa using scheck_l l (by omega) (by omega) (l.length - 1) 0 (by omega) (by omega)
theorem rcheck_l1 (l : List Int) (hl : l.length ≤ 1000) : ∀ (m i : Nat), m = l.length - 1 - i → Ev (fun k => torusref07_Check.l1 k l ((i + 1 : Nat) : Int)) (if asc (l.drop i) = true then 0 else 6)
  | 0, i, hm => by
    rw [asc_end l i (by omega)]
    refine ev_succ ?_
    simp only [torusref07_Check.l1, if_neg (show ¬ (((i + 1 : Nat) : Int) < (l.length : Int)) by omega)]
    exact Ev.now _
  | m + 1, i, hm => by
    have ih := rcheck_l1 l hl m (i + 1) (by omega)
    have hw : wrap64 (((i + 1 : Nat) : Int) - 1) = (i : Int) := by rw [wrap_id (by omega) (by omega)]; omega
    rw [asc_cons l i (by omega)]
    refine ev_succ ?_
    simp only [torusref07_Check.l1, if_pos (show (((i + 1 : Nat) : Int) < (l.length : Int)) by omega), if_pos (show (0 : Int) ≤ ((i + 1 : Nat) : Int) by omega), hw, if_pos (show (0 : Int) ≤ (i : Int) by omega), if_pos (show ((i : Int) < (l.length : Int)) by omega), wrap_nat (i + 1) (by omega)]
    by_cases c : rd l ((i + 1 : Nat) : Int) ≤ rd l (i : Int)
    · simp only [if_pos c, decide_eq_false (show ¬ (rd l (i : Int) < rd l ((i + 1 : Nat) : Int)) by omega), Bool.false_and, Bool.false_eq_true, if_false]
      exact Ev.now _
    · simp only [if_neg c, decide_eq_true (show (rd l (i : Int) < rd l ((i + 1 : Nat) : Int)) by omega), Bool.true_and]
      exact ih
theorem rcheck_l0 (l : List Int) (hl : l.length ≤ 1000) : ∀ (m i : Nat), m = l.length - i → i ≤ l.length → Ev (fun k => torusref07_Check.l0 k l (i : Int)) (if (l.drop i).any bad = true then 1 else if asc l = true then 0 else 6)
  | 0, i, hm, hi => by
    rw [List.drop_of_length_le (by omega)]
    refine ev_succ ?_
    simp only [torusref07_Check.l0, if_neg (show ¬ ((i : Int) < (l.length : Int)) by omega), List.any_nil, Bool.false_eq_true, if_false]
    simpa using rcheck_l1 l hl (l.length - 1) 0 (by omega)
  | m + 1, i, hm, hi => by
    have ih := rcheck_l0 l hl m (i + 1) (by omega) (by omega)
    rw [drop_cons l i (by omega)]
    refine ev_succ ?_
    simp only [torusref07_Check.l0, if_pos (show ((i : Int) < (l.length : Int)) by omega), if_pos (show (0 : Int) ≤ (i : Int) by omega), wrap_nat i (by omega), List.any_cons]
    by_cases c : rd l (i : Int) < 0
    · have hb : bad (rd l (i : Int)) = true := by simp [bad, c]
      simp only [if_pos c, hb, Bool.true_or, if_true]
      exact Ev.now _
    · by_cases c' : rd l (i : Int) ≥ 64
      · have hb : bad (rd l (i : Int)) = true := by simp [bad, c']
        simp only [if_neg c, if_pos c', hb, Bool.true_or, if_true]
        exact Ev.now _
      · have hb : bad (rd l (i : Int)) = false := by simp [bad]; omega
        simp only [if_neg c, if_neg c', hb, Bool.false_or]
        exact ih
theorem rcheck_ev (l : List Int) : Ev (fun k => torusref07_Check.f k l) (ck l) := by
  unfold torusref07_Check.f ck
  by_cases c : l.length = 0
  · simp only [if_pos c, if_pos (show (l.length : Int) = 0 by omega)]
    exact Ev.now _
  · by_cases c' : l.length > 5
    · simp only [if_neg c, if_pos c', if_neg (show ¬ ((l.length : Int) = 0) by omega), if_pos (show (l.length : Int) > 5 by omega)]
      exact Ev.now _
    · simp only [if_neg c, if_neg c', if_neg (show ¬ ((l.length : Int) = 0) by omega), if_neg (show ¬ ((l.length : Int) > 5) by omega)]
      simpa using rcheck_l0 l (by omega) l.length 0 (by omega) (by omega)
theorem ck_ok {l : List Int} (h : ck l = 0) : 1 ≤ l.length ∧ l.length ≤ 5 ∧ l.any bad = false ∧ asc l = true := by
  unfold ck at h
  split at h
  · simp at h
  · split at h
    · simp at h
    · split at h
      · simp at h
      · rename_i c1 c2 c3
        split at h
        · rename_i c4
          exact ⟨by omega, by omega, by simpa using c3, c4⟩
        · simp at h
theorem ck_of {l : List Int} (h1 : 1 ≤ l.length) (h2 : l.length ≤ 5) (h3 : l.any bad = false) (h4 : asc l = true) : ck l = 0 := by
  unfold ck
  rw [if_neg (by omega), if_neg (by omega), h3, h4]
  rfl
end Go.Proofs.YticckanjfdcpaaaDoor.PSimplex
