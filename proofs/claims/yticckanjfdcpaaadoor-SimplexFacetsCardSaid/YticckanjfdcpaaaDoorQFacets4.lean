/- Go functions as plain Lean functions, each with a proof that the Go code computes just that, and facts on them; conditions: those that each theorem states. -/
import Derived.Test.YticckanjfdcpaaaDoorQFacets3
namespace Go.Proofs.YticckanjfdcpaaaDoor.PSimplex
open Go.RowKit Go.Proofs.YticckanjfdcpaaaDoorW.PrintWords Go.Proofs.YticckanjfdcpaaaDoorW.PrintLast Go.Proofs.YticckanjfdcpaaaDoorW.PrintMore
attribute [local go_sem] max2_int min2_int max_two min_two max_three min_three max_four min_four   -- for this text's walks alone
set_option linter.unusedVariables false
set_option linter.unusedSimpArgs false

/-! ### torusref07_Check: function 28 -/
mutual
def torusref07_Check.l0 : Nat → List Int → Int → Option (Int)
 |0, _, _ => none
 |k + 1, x0, x3 => if x3 < (x0.length : Int) then (if 0 ≤ x3 then (if (rd x0 x3) < 0 then (some 1) else (if (rd x0 x3) ≥ 64 then (some 1) else (torusref07_Check.l0 k x0 (wrap64 (x3 + 1))))) else (none)) else (torusref07_Check.l1 k x0 1)
def torusref07_Check.l1 : Nat → List Int → Int → Option (Int)
 |0, _, _ => none
 |k + 1, x0, x4 => if x4 < (x0.length : Int) then (if 0 ≤ x4 then (if 0 ≤ (wrap64 (x4 - 1)) then (if (wrap64 (x4 - 1)) < (x0.length : Int) then (if (rd x0 x4) ≤ (rd x0 (wrap64 (x4 - 1))) then (some 6) else (torusref07_Check.l1 k x0 (wrap64 (x4 + 1)))) else (none)) else (none)) else (none)) else (some 0)
end
def torusref07_Check.f (k : Nat) (l0 : List Int) : Option (Int) := if (l0.length : Int) = 0 then (some 1) else (if (l0.length : Int) > 5 then (some 3) else (torusref07_Check.l0 k l0 0))
theorem torusref07_Check.mono_l : ∀ k, (∀ y0 y1, LeO (torusref07_Check.l0 k y0 y1) (torusref07_Check.l0 (k + 1) y0 y1)) ∧ (∀ y0 y1, LeO (torusref07_Check.l1 k y0 y1) (torusref07_Check.l1 (k + 1) y0 y1))
 |0 => ⟨fun _ _ r h => by simp [torusref07_Check.l0] at h, fun _ _ r h => by simp [torusref07_Check.l1] at h⟩
 |k + 1 => by
  obtain ⟨ih0, ih1⟩ := torusref07_Check.mono_l k
  refine ⟨?_, ?_⟩
  ·intro y0 y1
   unfold torusref07_Check.l0
   repeat' first
   |(with_reducible exact ih0 _ _)
   |(with_reducible exact ih1 _ _)
   |(with_reducible exact LeO.refl _)
   |(with_reducible exact LeO.none _)
   |(with_reducible refine LeO.ite ?_ ?_)
   |(with_reducible refine LeO.bind ?_ (fun _ => ?_))
   |exact ih0 _ _
   |exact ih1 _ _
   |exact LeO.none _
   |refine LeO.ite ?_ ?_
   |refine LeO.bind ?_ (fun _ => ?_)
  ·intro y0 y1
   unfold torusref07_Check.l1
   repeat' first
   |(with_reducible exact ih0 _ _)
   |(with_reducible exact ih1 _ _)
   |(with_reducible exact LeO.refl _)
   |(with_reducible exact LeO.none _)
   |(with_reducible refine LeO.ite ?_ ?_)
   |(with_reducible refine LeO.bind ?_ (fun _ => ?_))
   |exact ih0 _ _
   |exact ih1 _ _
   |exact LeO.none _
   |refine LeO.ite ?_ ?_
   |refine LeO.bind ?_ (fun _ => ?_)
theorem torusref07_Check.mono : ∀ a0 k, LeO (torusref07_Check.f k a0) (torusref07_Check.f (k + 1) a0) := by
 intro a0 k
 obtain ⟨ih0, ih1⟩ := torusref07_Check.mono_l k
 unfold torusref07_Check.f
 repeat' first
   |(with_reducible exact ih0 _ _)
   |(with_reducible exact ih1 _ _)
   |(with_reducible exact LeO.refl _)
   |(with_reducible exact LeO.none _)
   |(with_reducible refine LeO.ite ?_ ?_)
   |(with_reducible refine LeO.bind ?_ (fun _ => ?_))
   |exact ih0 _ _
   |exact ih1 _ _
   |exact LeO.none _
   |refine LeO.ite ?_ ?_
   |refine LeO.bind ?_ (fun _ => ?_)
set_option maxHeartbeats 8000000 in
set_option maxRecDepth 100000 in
theorem torusref07_Check.calls (k : Nat) (A0 : Option Addr) (c0 : Nat) (l0 : List Int) (r : Int) (w : World) (hr0 : Kd.C (Kd.int .i64) w A0 l0.length l0) (hc0 : l0.length ≤ c0) (h : torusref07_Check.f k l0 = some r) :
  Calls Tryd.prog 28 #[.slice A0 l0.length c0] w fun e w' => e = .returned (.int .i64 r) ∧ Drawn0 w w' := by
 have HR0 := Aside0.mk hr0
 have HC0 := Aside0.mk hc0
 clear hr0 hc0
 have H : (if (l0.length : Int) = 0 then (some 1) else (if (l0.length : Int) > 5 then (some 3) else (torusref07_Check.l0 k l0 0))) = some r := h
 clear h
 by_cases c2 : (l0.length : Int) = 0
 ·rw [if_pos c2] at H
  have c2b0 : ((l0.length : Int) == 0) = true := beq_iff_eq.mpr c2
  have c2b1 : ((l0.length : Int) != 0) = false := bne_eq_false_iff_eq.mpr c2
  clear c2
  obtain rfl := Option.some.inj H
  go_enter Tryd.func28, Tryd.ntmps28
  go_wp2
  repeat (go_quiet (fail); try go_wp2)
  go_ret
  exact ⟨sd_, dr_⟩
 ·rw [if_neg c2] at H
  have c2b0 : ((l0.length : Int) == 0) = false := beq_eq_false_iff_ne.mpr c2
  have c2b1 : ((l0.length : Int) != 0) = true := bne_iff_ne.mpr c2
  have c2b2 : ¬ (l0 = []) := fun h_ => c2 (by rw [h_]; rfl)
  by_cases c3 : (l0.length : Int) > 5
  ·rw [if_pos c3] at H
   have c3b0 : decide (5 < (l0.length : Int)) = true := decide_eq_true c3
   have c3b1 : decide (5 < l0.length) = true := decide_eq_true (by omega)
   clear c3
   obtain rfl := Option.some.inj H
   go_enter Tryd.func28, Tryd.ntmps28
   go_wp2
   repeat (go_quiet (fail); try go_wp2)
   go_ret
   exact ⟨sd_, dr_⟩
  ·rw [if_neg c3] at H
   have c3b0 : decide (5 < (l0.length : Int)) = false := decide_eq_false c3
   have c3b1 : decide (5 < l0.length) = false := decide_eq_false (by omega)
   clear c3
   have H' := Aside0.mk H
   clear H
   go_enter Tryd.func28, Tryd.ntmps28
   go_wp2
   repeat (go_quiet (fail); try go_wp2)
   go_loopg [3] k (fun kq v3 w' => ∃ (x3_1 : Int), v3 = .int .i64 x3_1 ∧ Aside0 (torusref07_Check.l0 kq l0 x3_1 = some r) ∧ Aside0 (kq ≤ k) ∧ Drawn0 w w')
   case atStart => exact ⟨(0), sd_, H', ⟨Nat.le_refl _⟩, dr_⟩
   case round =>
    clear H'
    try clear c2
    try clear c2b0
    try clear c2b1
    try clear c2b2
    try clear p2
    try clear c3
    try clear c3b0
    try clear c3b1
    obtain ⟨x3_1, rfl, HA, HK1, ⟨m1, rfl⟩⟩ := hrel
    cases gk with
    |zero => exact absurd HA.out (by simp [torusref07_Check.l0])
    |succ k1 =>
     have H := HA.out
     clear HA
     simp only [torusref07_Check.l0] at H
     by_cases c4 : x3_1 < (l0.length : Int)
     ·rw [if_pos c4] at H
      have c4b0 : decide (x3_1 < (l0.length : Int)) = true := decide_eq_true c4
      clear c4
      by_cases c5 : 0 ≤ x3_1
      ·rw [if_pos c5] at H
       have c5b0 : decide (0 ≤ x3_1) = true := decide_eq_true c5
       clear c5
       by_cases c6 : (rd l0 x3_1) < 0
       ·rw [if_pos c6] at H
        have c6b0 : decide ((rd l0 x3_1) < 0) = true := decide_eq_true c6
        clear c6
        obtain rfl := Option.some.inj H
        have p266 : 0 ≤ (x3_1 : Int) := of_decide_eq_true as_
        have q266 : x3_1 < (l0.length : Int) := of_decide_eq_true as_
        obtain ⟨ad266, e266, hx266_0⟩ := Kd.at_int HR0.out x3_1 p266 q266
        cases e266
        replace p266 := eq_true p266
        replace q266 := eq_true q266
        go_wp2
        repeat (go_quiet (fail); try go_wp2)
        go_ret
        exact ⟨sd_, dr_⟩
       ·rw [if_neg c6] at H
        have c6b0 : decide ((rd l0 x3_1) < 0) = false := decide_eq_false c6
        clear c6
        by_cases c7 : (rd l0 x3_1) ≥ 64
        ·rw [if_pos c7] at H
         have c7b0 : decide (64 ≤ (rd l0 x3_1)) = true := decide_eq_true c7
         clear c7
         obtain rfl := Option.some.inj H
         have p266 : 0 ≤ (x3_1 : Int) := of_decide_eq_true as_
         have q266 : x3_1 < (l0.length : Int) := of_decide_eq_true as_
         obtain ⟨ad266, e266, hx266_0⟩ := Kd.at_int HR0.out x3_1 p266 q266
         cases e266
         replace p266 := eq_true p266
         replace q266 := eq_true q266
         have p267 : 0 ≤ (x3_1 : Int) := of_decide_eq_true as_
         have q267 : x3_1 < (l0.length : Int) := of_decide_eq_true as_
         obtain ⟨ad267, e267, hx267_0⟩ := Kd.at_int HR0.out x3_1 p267 q267
         obtain rfl : ad266 = ad267 := (by injection e267)
         replace p267 := eq_true p267
         replace q267 := eq_true q267
         go_wp2
         repeat (go_quiet (fail); try go_wp2)
         go_ret
         exact ⟨sd_, dr_⟩
        ·rw [if_neg c7] at H
         have c7b0 : decide (64 ≤ (rd l0 x3_1)) = false := decide_eq_false c7
         clear c7
         have H' := Aside0.mk H
         clear H
         have p266 : 0 ≤ (x3_1 : Int) := of_decide_eq_true as_
         have q266 : x3_1 < (l0.length : Int) := of_decide_eq_true as_
         obtain ⟨ad266, e266, hx266_0⟩ := Kd.at_int HR0.out x3_1 p266 q266
         cases e266
         replace p266 := eq_true p266
         replace q266 := eq_true q266
         have p267 : 0 ≤ (x3_1 : Int) := of_decide_eq_true as_
         have q267 : x3_1 < (l0.length : Int) := of_decide_eq_true as_
         obtain ⟨ad267, e267, hx267_0⟩ := Kd.at_int HR0.out x3_1 p267 q267
         obtain rfl : ad266 = ad267 := (by injection e267)
         replace p267 := eq_true p267
         replace q267 := eq_true q267
         go_wp2
         repeat (go_quiet (fail); try go_wp2)
         go_roundg k1
         case measure => have := HK1.out; omega
         case rel => exact ⟨(wrap64 (x3_1 + 1)), sd_, H', ⟨by have := HK1.out; omega⟩, dr_⟩
      ·rw [if_neg c5] at H
       exact absurd H (by simp)
     ·rw [if_neg c4] at H
      have c4b0 : decide (x3_1 < (l0.length : Int)) = false := decide_eq_false c4
      clear c4
      have H' := Aside0.mk H
      clear H
      go_wp2
      repeat (go_quiet (fail); try go_wp2)
      go_loopg [4] k1 (fun kq v4 w' => ∃ (x4_2 : Int), v4 = .int .i64 x4_2 ∧ Aside0 (torusref07_Check.l1 kq l0 x4_2 = some r) ∧ Aside0 (kq ≤ k1) ∧ Drawn0 w w')
      case atStart => exact ⟨(1), sd_, H', ⟨Nat.le_refl _⟩, dr_⟩
      case round =>
       clear H'
       try clear c2
       try clear c2b0
       try clear c2b1
       try clear c2b2
       try clear p2
       try clear q2
       try clear hx2
       try clear c3
       try clear c3b0
       try clear c3b1
       try clear c4
       try clear c4b0
       try clear c5
       try clear c5b0
       try clear c6
       try clear c6b0
       try clear p6
       try clear c7
       try clear c7b0
       try clear hx266_0
       try clear hx267_0
       try clear p2
       try clear p266
       try clear p267
       try clear q266
       try clear q267
       obtain ⟨x4_2, rfl, HA, HK2, ⟨m2, rfl⟩⟩ := hrel
       cases gk with
       |zero => exact absurd HA.out (by simp [torusref07_Check.l1])
       |succ k2 =>
        have H := HA.out
        clear HA
        simp only [torusref07_Check.l1] at H
        by_cases c8 : x4_2 < (l0.length : Int)
        ·rw [if_pos c8] at H
         have c8b0 : decide (x4_2 < (l0.length : Int)) = true := decide_eq_true c8
         clear c8
         by_cases c9 : 0 ≤ x4_2
         ·rw [if_pos c9] at H
          have c9b0 : decide (0 ≤ x4_2) = true := decide_eq_true c9
          clear c9
          obtain ⟨ji10, hji10⟩ : ∃ j_ : Int, (wrap64 (x4_2 - 1)) = j_ := ⟨_, rfl⟩
          replace H : (if 0 ≤ (ji10) then (if (ji10) < (l0.length : Int) then (if (rd l0 x4_2) ≤ (rd l0 (ji10)) then (some 6) else (torusref07_Check.l1 k2 l0 (wrap64 (x4_2 + 1)))) else (none)) else (none)) = some r := by first | (rw [hji10] at H; exact H) | (simp only [hji10] at H ⊢; exact H)
          have hji10w : (IntKind.i64.wrap (x4_2 - 1)) = ji10 := (i64_w _).trans hji10
          by_cases c11 : 0 ≤ (ji10)
          ·rw [if_pos c11] at H
           have c11b0 : decide (0 ≤ (ji10)) = true := decide_eq_true c11
           clear c11
           by_cases c12 : (ji10) < (l0.length : Int)
           ·rw [if_pos c12] at H
            have c12b0 : decide ((ji10) < (l0.length : Int)) = true := decide_eq_true c12
            clear c12
            by_cases c13 : (rd l0 x4_2) ≤ (rd l0 (ji10))
            ·rw [if_pos c13] at H
             have c13b0 : decide ((rd l0 x4_2) ≤ (rd l0 (ji10))) = true := decide_eq_true c13
             clear c13
             obtain rfl := Option.some.inj H
             have p268 : 0 ≤ (x4_2 : Int) := of_decide_eq_true as_
             have q268 : x4_2 < (l0.length : Int) := of_decide_eq_true as_
             obtain ⟨ad268, e268, hx268_0⟩ := Kd.at_int HR0.out x4_2 p268 q268
             cases e268
             replace p268 := eq_true p268
             replace q268 := eq_true q268
             have p269 : 0 ≤ ((ji10) : Int) := of_decide_eq_true as_
             have q269 : (ji10) < (l0.length : Int) := of_decide_eq_true as_
             obtain ⟨ad269, e269, hx269_0⟩ := Kd.at_int HR0.out (ji10) p269 q269
             obtain rfl : ad268 = ad269 := (by injection e269)
             replace p269 := eq_true p269
             replace q269 := eq_true q269
             go_wp2
             repeat (go_quiet (fail); try go_wp2)
             go_ret
             exact ⟨by first | rfl | (simp; done) | (simp only [← hji10] <;> (first | rfl | simp)) | (simp [*]; done), dr_⟩
            ·rw [if_neg c13] at H
             have c13b0 : decide ((rd l0 x4_2) ≤ (rd l0 (ji10))) = false := decide_eq_false c13
             clear c13
             have H' := Aside0.mk H
             clear H
             have p268 : 0 ≤ (x4_2 : Int) := of_decide_eq_true as_
             have q268 : x4_2 < (l0.length : Int) := of_decide_eq_true as_
             obtain ⟨ad268, e268, hx268_0⟩ := Kd.at_int HR0.out x4_2 p268 q268
             cases e268
             replace p268 := eq_true p268
             replace q268 := eq_true q268
             have p269 : 0 ≤ ((ji10) : Int) := of_decide_eq_true as_
             have q269 : (ji10) < (l0.length : Int) := of_decide_eq_true as_
             obtain ⟨ad269, e269, hx269_0⟩ := Kd.at_int HR0.out (ji10) p269 q269
             obtain rfl : ad268 = ad269 := (by injection e269)
             replace p269 := eq_true p269
             replace q269 := eq_true q269
             go_wp2
             repeat (go_quiet (fail); try go_wp2)
             go_roundg k2
             case measure => have := HK1.out; have := HK2.out; omega
             case rel => exact ⟨(wrap64 (x4_2 + 1)), sd_, H', ⟨by have := HK1.out; have := HK2.out; omega⟩, dr_⟩
           ·rw [if_neg c12] at H
            exact absurd H (by simp)
          ·rw [if_neg c11] at H
           exact absurd H (by simp)
         ·rw [if_neg c9] at H
          exact absurd H (by simp)
        ·rw [if_neg c8] at H
         have c8b0 : decide (x4_2 < (l0.length : Int)) = false := decide_eq_false c8
         clear c8
         obtain rfl := Option.some.inj H
         go_wp2
         repeat (go_quiet (fail); try go_wp2)
         go_ret
         exact ⟨sd_, dr_⟩

end Go.Proofs.YticckanjfdcpaaaDoor.PSimplex
namespace Go.Proofs.YticckanjfdcpaaaDoor.PSimplex
open Go.RowKit Go.Proofs.YticckanjfdcpaaaDoorW.PrintWords Go.Proofs.YticckanjfdcpaaaDoorW.PrintLast Go.Proofs.YticckanjfdcpaaaDoorW.PrintMore
set_option linter.unusedVariables false
set_option linter.unusedSimpArgs false

def bad (v : Int) : Bool := decide (v < 0) || decide (v ≥ 64)
def asc : List Int → Bool
  | x :: y :: t => decide (x < y) && asc (y :: t)
  | _ => true
def ck (l : List Int) : Int := if l.length = 0 then 1 else if l.length > 5 then 3 else if l.any bad = true then 1 else if asc l = true then 0 else 6
theorem wrap_nat (i : Nat) (h : i ≤ 1000000) : wrap64 ((i : Int) + 1) = ((i + 1 : Nat) : Int) := by rw [wrap_id (by omega) (by omega)]; omega
theorem bad_if (v : Int) : (decide (v < 0) || decide (v ≥ 64)) = bad v := rfl
theorem vert_l (l : List Int) (hl : l.length ≤ 1000) : ∀ (m i : Nat), m = l.length - i → i ≤ l.length →
    Ev (fun k => (vert_ix.l0 k l (l.length : Int) (i : Int)).bind fun t => if t ≥ 0 then some (1 : Int) else some 0) (if (l.drop i).any bad = true then 1 else 0)
  | 0, i, hm, hi => by
    rw [List.drop_of_length_le (by omega)]
    refine ev_succ ?_
    simp only [vert_ix.l0, if_neg (show ¬ ((i : Int) < (l.length : Int)) by omega), Option.bind_some]
    exact Ev.now _
  | m + 1, i, hm, hi => by
    have ih := vert_l l hl m (i + 1) (by omega) (by omega)
    rw [drop_cons l i (by omega)]
    refine ev_succ ?_
    simp only [vert_ix.l0, if_pos (show ((i : Int) < (l.length : Int)) by omega), if_pos (show (0 : Int) ≤ (i : Int) by omega), bad_if, wrap_nat i (by omega)]
    cases hb : bad (rd l (i : Int)) with
    | true =>
      simp only [if_true, Option.bind_some, if_pos (show (i : Int) ≥ 0 by omega), List.any_cons, hb, Bool.true_or]
      exact Ev.now _
    | false =>
      simp only [Bool.false_eq_true, if_false, List.any_cons, hb, Bool.false_or]
      exact ih
theorem asc_cons (l : List Int) (i : Nat) (h : i + 1 < l.length) : asc (l.drop i) = (decide (rd l (i : Int) < rd l ((i + 1 : Nat) : Int)) && asc (l.drop (i + 1))) := by
  rw [drop_cons l i (by omega), drop_cons l (i + 1) h]
  rfl
theorem asc_end (l : List Int) (i : Nat) (h : l.length ≤ i + 1) : asc (l.drop i) = true := by
  by_cases h2 : i < l.length
  · rw [drop_cons l i h2, List.drop_of_length_le (by omega)]
    rfl
  · rw [List.drop_of_length_le (by omega)]
    rfl
theorem rd_drop1 (l : List Int) (i : Nat) : rd (l.drop 1) (i : Int) = rd l ((i + 1 : Nat) : Int) := by
  simp [rd, List.getElem?_drop, Nat.add_comm]
theorem scheck_l (l : List Int) (hl : l.length ≤ 1000) (h1 : 1 ≤ l.length) : ∀ (m i : Nat), m = l.length - 1 - i → i ≤ l.length - 1 →
    Ev (fun k => simplex_Check.l0 k l (l.drop 1) ((l.drop 1).length : Int) (i : Int)) (if asc (l.drop i) = true then 0 else 6)
  | 0, i, hm, hi => by
    have hd : (l.drop 1).length = l.length - 1 := List.length_drop
    rw [asc_end l i (by omega)]
    refine ev_succ ?_
    simp only [simplex_Check.l0, if_neg (show ¬ ((i : Int) < ((l.drop 1).length : Int)) by omega)]
    exact Ev.now _
  | m + 1, i, hm, hi => by
    have hd : (l.drop 1).length = l.length - 1 := List.length_drop
    have ih := scheck_l l hl h1 m (i + 1) (by omega) (by omega)
    rw [asc_cons l i (by omega)]
    refine ev_succ ?_
    simp only [simplex_Check.l0, if_pos (show ((i : Int) < ((l.drop 1).length : Int)) by omega), if_pos (show (0 : Int) ≤ (i : Int) by omega), if_pos (show ((i : Int) < (l.length : Int)) by omega), wrap_nat i (by omega), rd_drop1]
    by_cases c : rd l ((i + 1 : Nat) : Int) ≤ rd l (i : Int)
    · simp only [if_pos c, decide_eq_false (show ¬ (rd l (i : Int) < rd l ((i + 1 : Nat) : Int)) by omega), Bool.false_and, Bool.false_eq_true, if_false]
      exact Ev.now _
    · simp only [if_neg c, decide_eq_true (show (rd l (i : Int) < rd l ((i + 1 : Nat) : Int)) by omega), Bool.true_and]
      exact ih
theorem svert_ev (l : List Int) : Ev (fun k => simplex_vertices.f k l) (if l.length = 0 then 1 else if l.length > 5 then 3 else if l.any bad = true then 1 else 0) := by
  by_cases c : l.length = 0
  · simp only [simplex_vertices.f, if_pos c, if_pos (show (l.length : Int) = 0 by omega)]
    exact Ev.now _
  · by_cases c' : l.length > 5
    · simp only [simplex_vertices.f, if_neg c, if_pos c', if_neg (show ¬ ((l.length : Int) = 0) by omega), if_pos (show (l.length : Int) > 5 by omega)]
      exact Ev.now _
    · simp only [simplex_vertices.f, if_neg c, if_neg c', if_neg (show ¬ ((l.length : Int) = 0) by omega), if_neg (show ¬ ((l.length : Int) > 5) by omega)]
      simpa using vert_l l (by omega) l.length 0 (by omega) (by omega)
theorem scheck_ev (l : List Int) : Ev (fun k => simplex_Check.f k l) (ck l) := by
  unfold simplex_Check.f ck
  refine (ev_bind (svert_ev l)).mpr ?_
  by_cases c : l.length = 0
  · simp only [if_pos c]
    exact Ev.now _
  · by_cases c' : l.length > 5
    · simp only [if_neg c, if_pos c']
      exact Ev.now _
    · simp only [if_neg c, if_neg c']
      cases hb : l.any bad with
      | true => exact Ev.now _
      | false =>
        simp only [Bool.false_eq_true, if_false, if_true, if_pos (show 1 ≤ (l.length : Int) by omega)]
        simpa using scheck_l l (by omega) (by omega) (l.length - 1) 0 (by omega) (by omega)
theorem rcheck_l1 (l : List Int) (hl : l.length ≤ 1000) : ∀ (m i : Nat), m = l.length - 1 - i → Ev (fun k => torusref07_Check.l1 k l ((i + 1 : Nat) : Int)) (if asc (l.drop i) = true then 0 else 6)
  | 0, i, hm => by
    rw [asc_end l i (by omega)]
    refine ev_succ ?_
    simp only [torusref07_Check.l1, if_neg (show ¬ (((i + 1 : Nat) : Int) < (l.length : Int)) by omega)]
    exact Ev.now _
  | m + 1, i, hm => by
    have ih := rcheck_l1 l hl m (i + 1) (by omega)
    have hw : wrap64 (((i + 1 : Nat) : Int) - 1) = (i : Int) := by rw [wrap_id (by omega) (by omega)]; omega
    rw [asc_cons l i (by omega)]
    refine ev_succ ?_
    simp only [torusref07_Check.l1, if_pos (show (((i + 1 : Nat) : Int) < (l.length : Int)) by omega), if_pos (show (0 : Int) ≤ ((i + 1 : Nat) : Int) by omega), hw, if_pos (show (0 : Int) ≤ (i : Int) by omega), if_pos (show ((i : Int) < (l.length : Int)) by omega), wrap_nat (i + 1) (by omega)]
    by_cases c : rd l ((i + 1 : Nat) : Int) ≤ rd l (i : Int)
    · simp only [if_pos c, decide_eq_false (show ¬ (rd l (i : Int) < rd l ((i + 1 : Nat) : Int)) by omega), Bool.false_and, Bool.false_eq_true, if_false]
      exact Ev.now _
    · simp only [if_neg c, decide_eq_true (show (rd l (i : Int) < rd l ((i + 1 : Nat) : Int)) by omega), Bool.true_and]
      exact ih
theorem rcheck_l0 (l : List Int) (hl : l.length ≤ 1000) : ∀ (m i : Nat), m = l.length - i → i ≤ l.length → Ev (fun k => torusref07_Check.l0 k l (i : Int)) (if (l.drop i).any bad = true then 1 else if asc l = true then 0 else 6)
  | 0, i, hm, hi => by
    rw [List.drop_of_length_le (by omega)]
    refine ev_succ ?_
    simp only [torusref07_Check.l0, if_neg (show ¬ ((i : Int) < (l.length : Int)) by omega), List.any_nil, Bool.false_eq_true, if_false]
    simpa using rcheck_l1 l hl (l.length - 1) 0 (by omega)
  | m + 1, i, hm, hi => by
    have ih := rcheck_l0 l hl m (i + 1) (by omega) (by omega)
    rw [drop_cons l i (by omega)]
    refine ev_succ ?_
    simp only [torusref07_Check.l0, if_pos (show ((i : Int) < (l.length : Int)) by omega), if_pos (show (0 : Int) ≤ (i : Int) by omega), wrap_nat i (by omega), List.any_cons]
    by_cases c : rd l (i : Int) < 0
    · have hb : bad (rd l (i : Int)) = true := by simp [bad, c]
      simp only [if_pos c, hb, Bool.true_or, if_true]
      exact Ev.now _
    · by_cases c' : rd l (i : Int) ≥ 64
      · have hb : bad (rd l (i : Int)) = true := by simp [bad, c']
        simp only [if_neg c, if_pos c', hb, Bool.true_or, if_true]
        exact Ev.now _
      · have hb : bad (rd l (i : Int)) = false := by simp [bad]; omega
        simp only [if_neg c, if_neg c', hb, Bool.false_or]
        exact ih
theorem rcheck_ev (l : List Int) : Ev (fun k => torusref07_Check.f k l) (ck l) := by
  unfold torusref07_Check.f ck
  by_cases c : l.length = 0
  · simp only [if_pos c, if_pos (show (l.length : Int) = 0 by omega)]
    exact Ev.now _
  · by_cases c' : l.length > 5
    · simp only [if_neg c, if_pos c', if_neg (show ¬ ((l.length : Int) = 0) by omega), if_pos (show (l.length : Int) > 5 by omega)]
      exact Ev.now _
    · simp only [if_neg c, if_neg c', if_neg (show ¬ ((l.length : Int) = 0) by omega), if_neg (show ¬ ((l.length : Int) > 5) by omega)]
      simpa using rcheck_l0 l (by omega) l.length 0 (by omega) (by omega)
theorem ck_ok {l : List Int} (h : ck l = 0) : 1 ≤ l.length ∧ l.length ≤ 5 ∧ l.any bad = false ∧ asc l = true := by
  unfold ck at h
  split at h
  · simp at h
  · split at h
    · simp at h
    · split at h
      · simp at h
      · rename_i c1 c2 c3
        split at h
        · rename_i c4
          exact ⟨by omega, by omega, by simpa using c3, c4⟩
        · simp at h
theorem ck_of {l : List Int} (h1 : 1 ≤ l.length) (h2 : l.length ≤ 5) (h3 : l.any bad = false) (h4 : asc l = true) : ck l = 0 := by
  unfold ck
  rw [if_neg (by omega), if_neg (by omega), h3, h4]
  rfl
end Go.Proofs.YticckanjfdcpaaaDoor.PSimplex
namespace Go.Proofs.YticckanjfdcpaaaDoor.PSimplex
open Go.RowKit Go.Proofs.YticckanjfdcpaaaDoorW.PrintWords Go.Proofs.YticckanjfdcpaaaDoorW.PrintLast Go.Proofs.YticckanjfdcpaaaDoorW.PrintMore
attribute [local go_sem] max2_int min2_int max_two min_two max_three min_three max_four min_four   -- for this text's walks alone
set_option linter.unusedVariables false
set_option linter.unusedSimpArgs false

/-! ### torusref07_Sort: function 19 -/
def torusref07_Sort.l0 : Nat → List Int → Int → Option (List Int × Int × Int)
 |0, _, _ => none
 |k + 1, x0, x5 => if x5 < (x0.length : Int) then (if 0 ≤ x5 then (if (rd x0 x5) < 0 then (some (([] : List Int), 0, 1)) else (if (rd x0 x5) ≥ 64 then (some (([] : List Int), 0, 1)) else (torusref07_Sort.l0 k x0 (wrap64 (x5 + 1))))) else (none)) else ((torusref07_Sorted.f k x0).bind fun bt309 => ((torusref07_Check.f k bt309.1).bind fun t313 => (if t313 = 0 then (some (bt309.1, wrap64 (1 - (wrap64 (2 * bt309.2))), 0)) else (some (([] : List Int), 0, 5)))))
def torusref07_Sort.f (k : Nat) (l0 : List Int) : Option (List Int × Int × Int) := if (l0.length : Int) = 0 then (some (([] : List Int), 0, 1)) else (if (l0.length : Int) > 5 then (some (([] : List Int), 0, 3)) else (torusref07_Sort.l0 k l0 0))
theorem torusref07_Sort.mono_l : ∀ k, (∀ y0 y1, LeO (torusref07_Sort.l0 k y0 y1) (torusref07_Sort.l0 (k + 1) y0 y1))
 |0 => fun _ _ r h => by simp [torusref07_Sort.l0] at h
 |k + 1 => by
  have ih0 := torusref07_Sort.mono_l k
  ·intro y0 y1
   unfold torusref07_Sort.l0
   repeat' first
   |(with_reducible exact ih0 _ _)
   |(with_reducible exact torusref07_Check.mono _ _)
   |(with_reducible exact torusref07_Sorted.mono _ _)
   |(with_reducible exact LeO.refl _)
   |(with_reducible exact LeO.none _)
   |(with_reducible refine LeO.ite ?_ ?_)
   |(with_reducible refine LeO.bind ?_ (fun _ => ?_))
   |exact ih0 _ _
   |exact torusref07_Check.mono _ _
   |exact torusref07_Sorted.mono _ _
   |exact LeO.none _
   |refine LeO.ite ?_ ?_
   |refine LeO.bind ?_ (fun _ => ?_)
theorem torusref07_Sort.mono : ∀ a0 k, LeO (torusref07_Sort.f k a0) (torusref07_Sort.f (k + 1) a0) := by
 intro a0 k
 have ih0 := torusref07_Sort.mono_l k
 unfold torusref07_Sort.f
 repeat' first
   |(with_reducible exact ih0 _ _)
   |(with_reducible exact torusref07_Check.mono _ _)
   |(with_reducible exact torusref07_Sorted.mono _ _)
   |(with_reducible exact LeO.refl _)
   |(with_reducible exact LeO.none _)
   |(with_reducible refine LeO.ite ?_ ?_)
   |(with_reducible refine LeO.bind ?_ (fun _ => ?_))
   |exact ih0 _ _
   |exact torusref07_Check.mono _ _
   |exact torusref07_Sorted.mono _ _
   |exact LeO.none _
   |refine LeO.ite ?_ ?_
   |refine LeO.bind ?_ (fun _ => ?_)
set_option maxHeartbeats 8000000 in
set_option maxRecDepth 100000 in
theorem torusref07_Sort.calls (k : Nat) (A0 : Option Addr) (c0 : Nat) (l0 : List Int) (r1 : List Int) (r2 : Int) (r3 : Int) (w : World) (hr0 : Kd.C (Kd.int .i64) w A0 l0.length l0) (hc0 : l0.length ≤ c0) (h : torusref07_Sort.f k l0 = some (r1, r2, r3)) :
  Calls Tryd.prog 19 #[.slice A0 l0.length c0] w fun e w' => ∃ v0_ : Value, e = .returned (.tuple #[v0_, .int .i64 r2, .int .i64 r3]) ∧ Kd.R (Kd.int .i64) 3 w' w.heap.size (fun _ => True) v0_ r1 ∧ Below w.heap.size w w' := by
 have HR0 := Aside0.mk hr0
 have HC0 := Aside0.mk hc0
 clear hr0 hc0
 have HB := Aside0.mk (Below.refl w.heap.size w)
 have H : (if (l0.length : Int) = 0 then (some (([] : List Int), 0, 1)) else (if (l0.length : Int) > 5 then (some (([] : List Int), 0, 3)) else (torusref07_Sort.l0 k l0 0))) = some (r1, r2, r3) := h
 clear h
 by_cases c2 : (l0.length : Int) = 0
 ·rw [if_pos c2] at H
  have c2b0 : ((l0.length : Int) == 0) = true := beq_iff_eq.mpr c2
  have c2b1 : ((l0.length : Int) != 0) = false := bne_eq_false_iff_eq.mpr c2
  clear c2
  simp only [Option.some.injEq, Prod.mk.injEq] at H
  obtain ⟨rfl, rfl, rfl⟩ := H
  go_enter Tryd.func19, Tryd.ntmps19
  go_wp2
  go_ret3
  exact ⟨_, by first | rfl | (simp [errW_none, errW_some] <;> rfl) | (simp [*, errW_none, errW_some] <;> rfl), by first | exact Kd.R_nil _ _ _ _ _ | exact Kd.N_nil _ _ _ _ _ | exact Kd.V_nil _ _ _ _ _ | exact Kd.Q_nil _ _ _ _ _ | exact Kd.S_nil _ _ _ _ _, bw_⟩
 ·rw [if_neg c2] at H
  have c2b0 : ((l0.length : Int) == 0) = false := beq_eq_false_iff_ne.mpr c2
  have c2b1 : ((l0.length : Int) != 0) = true := bne_iff_ne.mpr c2
  have c2b2 : ¬ (l0 = []) := fun h_ => c2 (by rw [h_]; rfl)
  by_cases c3 : (l0.length : Int) > 5
  ·rw [if_pos c3] at H
   have c3b0 : decide (5 < (l0.length : Int)) = true := decide_eq_true c3
   have c3b1 : decide (5 < l0.length) = true := decide_eq_true (by omega)
   clear c3
   simp only [Option.some.injEq, Prod.mk.injEq] at H
   obtain ⟨rfl, rfl, rfl⟩ := H
   go_enter Tryd.func19, Tryd.ntmps19
   go_wp2
   go_ret3
   exact ⟨_, by first | rfl | (simp [errW_none, errW_some] <;> rfl) | (simp [*, errW_none, errW_some] <;> rfl), by first | exact Kd.R_nil _ _ _ _ _ | exact Kd.N_nil _ _ _ _ _ | exact Kd.V_nil _ _ _ _ _ | exact Kd.Q_nil _ _ _ _ _ | exact Kd.S_nil _ _ _ _ _, bw_⟩
  ·rw [if_neg c3] at H
   have c3b0 : decide (5 < (l0.length : Int)) = false := decide_eq_false c3
   have c3b1 : decide (5 < l0.length) = false := decide_eq_false (by omega)
   clear c3
   have H' := Aside0.mk H
   clear H
   go_enter Tryd.func19, Tryd.ntmps19
   go_wp2
   go_loopg [5] k (fun kq v5 w' => ∃ (x5_1 : Int), v5 = .int .i64 x5_1 ∧ Aside0 (torusref07_Sort.l0 kq l0 x5_1 = some (r1, r2, r3)) ∧ Aside0 (kq ≤ k) ∧ Aside0 (Below w.heap.size w w'))
   case atStart => exact ⟨(0), sd_, H', ⟨Nat.le_refl _⟩, ⟨bw_⟩⟩
   case round =>
    clear H'
    try clear c1
    try clear c2
    try clear c2b0
    try clear c2b1
    try clear c2b2
    try clear p2
    try clear c3
    try clear c3b0
    try clear c3b1
    obtain ⟨x5_1, rfl, HA, HK1, HB⟩ := hrel
    cases gk with
    |zero => exact absurd HA.out (by simp [torusref07_Sort.l0])
    |succ k1 =>
     have H := HA.out
     clear HA
     simp only [torusref07_Sort.l0] at H
     by_cases c4 : x5_1 < (l0.length : Int)
     ·rw [if_pos c4] at H
      have c4b0 : decide (x5_1 < (l0.length : Int)) = true := decide_eq_true c4
      clear c4
      by_cases c5 : 0 ≤ x5_1
      ·rw [if_pos c5] at H
       have c5b0 : decide (0 ≤ x5_1) = true := decide_eq_true c5
       clear c5
       by_cases c6 : (rd l0 x5_1) < 0
       ·rw [if_pos c6] at H
        have c6b0 : decide ((rd l0 x5_1) < 0) = true := decide_eq_true c6
        clear c6
        simp only [Option.some.injEq, Prod.mk.injEq] at H
        obtain ⟨rfl, rfl, rfl⟩ := H
        have p307 : 0 ≤ (x5_1 : Int) := of_decide_eq_true as_
        have q307 : x5_1 < (l0.length : Int) := of_decide_eq_true as_
        obtain ⟨ad307, e307, hx307_0⟩ := Kd.at_int HR0.out x5_1 p307 q307
        cases e307
        replace hx307_0 := (HB.out.cell (World.block_lt_of_cell? w _ hx307_0)).trans hx307_0
        replace p307 := eq_true p307
        replace q307 := eq_true q307
        go_wp2
        go_ret3
        exact ⟨_, by first | rfl | (simp [errW_none, errW_some] <;> rfl) | (simp [*, errW_none, errW_some] <;> rfl), by first | exact Kd.R_nil _ _ _ _ _ | exact Kd.N_nil _ _ _ _ _ | exact Kd.V_nil _ _ _ _ _ | exact Kd.Q_nil _ _ _ _ _ | exact Kd.S_nil _ _ _ _ _, bw_⟩
       ·rw [if_neg c6] at H
        have c6b0 : decide ((rd l0 x5_1) < 0) = false := decide_eq_false c6
        clear c6
        by_cases c7 : (rd l0 x5_1) ≥ 64
        ·rw [if_pos c7] at H
         have c7b0 : decide (64 ≤ (rd l0 x5_1)) = true := decide_eq_true c7
         clear c7
         simp only [Option.some.injEq, Prod.mk.injEq] at H
         obtain ⟨rfl, rfl, rfl⟩ := H
         have p307 : 0 ≤ (x5_1 : Int) := of_decide_eq_true as_
         have q307 : x5_1 < (l0.length : Int) := of_decide_eq_true as_
         obtain ⟨ad307, e307, hx307_0⟩ := Kd.at_int HR0.out x5_1 p307 q307
         cases e307
         replace hx307_0 := (HB.out.cell (World.block_lt_of_cell? w _ hx307_0)).trans hx307_0
         replace p307 := eq_true p307
         replace q307 := eq_true q307
         have p308 : 0 ≤ (x5_1 : Int) := of_decide_eq_true as_
         have q308 : x5_1 < (l0.length : Int) := of_decide_eq_true as_
         obtain ⟨ad308, e308, hx308_0⟩ := Kd.at_int HR0.out x5_1 p308 q308
         obtain rfl : ad307 = ad308 := (by injection e308)
         replace hx308_0 := (HB.out.cell (World.block_lt_of_cell? w _ hx308_0)).trans hx308_0
         replace p308 := eq_true p308
         replace q308 := eq_true q308
         go_wp2
         go_ret3
         exact ⟨_, by first | rfl | (simp [errW_none, errW_some] <;> rfl) | (simp [*, errW_none, errW_some] <;> rfl), by first | exact Kd.R_nil _ _ _ _ _ | exact Kd.N_nil _ _ _ _ _ | exact Kd.V_nil _ _ _ _ _ | exact Kd.Q_nil _ _ _ _ _ | exact Kd.S_nil _ _ _ _ _, bw_⟩
        ·rw [if_neg c7] at H
         have c7b0 : decide (64 ≤ (rd l0 x5_1)) = false := decide_eq_false c7
         clear c7
         have H' := Aside0.mk H
         clear H
         have p307 : 0 ≤ (x5_1 : Int) := of_decide_eq_true as_
         have q307 : x5_1 < (l0.length : Int) := of_decide_eq_true as_
         obtain ⟨ad307, e307, hx307_0⟩ := Kd.at_int HR0.out x5_1 p307 q307
         cases e307
         replace hx307_0 := (HB.out.cell (World.block_lt_of_cell? w _ hx307_0)).trans hx307_0
         replace p307 := eq_true p307
         replace q307 := eq_true q307
         have p308 : 0 ≤ (x5_1 : Int) := of_decide_eq_true as_
         have q308 : x5_1 < (l0.length : Int) := of_decide_eq_true as_
         obtain ⟨ad308, e308, hx308_0⟩ := Kd.at_int HR0.out x5_1 p308 q308
         obtain rfl : ad307 = ad308 := (by injection e308)
         replace hx308_0 := (HB.out.cell (World.block_lt_of_cell? w _ hx308_0)).trans hx308_0
         replace p308 := eq_true p308
         replace q308 := eq_true q308
         go_wp2
         go_roundg k1
         case measure => have := HK1.out; omega
         case rel => exact ⟨(wrap64 (x5_1 + 1)), sd_, H', ⟨by have := HK1.out; omega⟩, ⟨bw_⟩⟩
      ·rw [if_neg c5] at H
       exact absurd H (by simp)
     ·rw [if_neg c4] at H
      have c4b0 : decide (x5_1 < (l0.length : Int)) = false := decide_eq_false c4
      clear c4
      replace H := Option.bind_eq_some_iff.mp H
      obtain ⟨⟨t309, t310⟩, A80, H⟩ := H
      replace H : ((torusref07_Check.f k1 t309).bind fun t313 => (if t313 = 0 then (some (t309, wrap64 (1 - (wrap64 (2 * t310))), 0)) else (some (([] : List Int), 0, 5)))) = some (r1, r2, r3) := H
      have A8 := Aside0.mk A80
      clear A80
      replace H := Option.bind_eq_some_iff.mp H
      obtain ⟨t313, A90, H⟩ := H
      replace H : (if t313 = 0 then (some (t309, wrap64 (1 - (wrap64 (2 * t310))), 0)) else (some (([] : List Int), 0, 5))) = some (r1, r2, r3) := H
      have A9 := Aside0.mk A90
      clear A90
      by_cases c10 : t313 = 0
      ·rw [if_pos c10] at H
       have c10b0 : (t313 == 0) = true := beq_iff_eq.mpr c10
       have c10b1 : (t313 != 0) = false := bne_eq_false_iff_eq.mpr c10
       clear c10
       simp only [Option.some.injEq, Prod.mk.injEq] at H
       obtain ⟨rfl, rfl, rfl⟩ := H
       go_wp2_with (first | ((with_reducible refine gate_callee (f := 43) rfl ?_); refine goesL_ (some 34) rfl rfl Tryd.func43 (by kernel_rfl) rfl #[.slice A0 l0.length c0] rfl ag_ ?_; (with_reducible refine (torusref07_Sorted.calls k1 _ _ l0 t309 t310 _ ?side1 ?side2 A8.out).mono ?_); (case side1 => exact cs_ (Kd.C_below HR0.out HB.out)); (case side2 => exact HC0.out); rintro e w11 ⟨v311, rfl, ho0, hb⟩; refine ⟨_, rfl, ?_⟩; have n0_ := Aside0.mk (Kd.R_lower ho0 (below_size bw_)); have n1_ := Aside0.mk (below_step bw_ hb); clear HB; have HO312 := n0_; have HB := n1_; clear n0_ n1_; (try clear hb); (try clear hb2); (try clear hk); (try clear hi); (try clear ho0); obtain ⟨Ao12, co12, eo12⟩ := Kd.R_slice HO312.out; subst eo12) | ((with_reducible refine gate_callee (f := 28) rfl ?_); refine goesL_ (some 38) rfl rfl Tryd.func28 (by kernel_rfl) rfl #[.slice Ao12 t309.length co12] rfl ag_ ?_; (with_reducible refine (torusref07_Check.calls k1 _ _ t309 t313 _ ?side1 ?side2 A9.out).mono ?_); (case side1 => repeat (first | exact (Kd.R_reads' HO312.out).2.2 | (with_reducible refine Kd.C_alloc ?_ _) | (with_reducible refine Kd.C_drewN ?_ _) | (with_reducible refine Kd.C_drew ?_))); (case side2 => exact (Kd.R_reads' HO312.out).2.1); rintro e w' ⟨rfl, ⟨nd, rfl⟩⟩; refine ⟨_, rfl, ?_⟩))
       go_ret3
       exact ⟨_, by first | rfl | (simp [errW_none, errW_some] <;> rfl) | (simp [*, errW_none, errW_some] <;> rfl), rRa_ HO312.out, bw_⟩
      ·rw [if_neg c10] at H
       have c10b0 : (t313 == 0) = false := beq_eq_false_iff_ne.mpr c10
       have c10b1 : (t313 != 0) = true := bne_iff_ne.mpr c10
       simp only [Option.some.injEq, Prod.mk.injEq] at H
       obtain ⟨rfl, rfl, rfl⟩ := H
       go_wp2_with (first | ((with_reducible refine gate_callee (f := 43) rfl ?_); refine goesL_ (some 34) rfl rfl Tryd.func43 (by kernel_rfl) rfl #[.slice A0 l0.length c0] rfl ag_ ?_; (with_reducible refine (torusref07_Sorted.calls k1 _ _ l0 t309 t310 _ ?side1 ?side2 A8.out).mono ?_); (case side1 => exact cs_ (Kd.C_below HR0.out HB.out)); (case side2 => exact HC0.out); rintro e w13 ⟨v311, rfl, ho0, hb⟩; refine ⟨_, rfl, ?_⟩; have n0_ := Aside0.mk (Kd.R_lower ho0 (below_size bw_)); have n1_ := Aside0.mk (below_step bw_ hb); clear HB; have HO312 := n0_; have HB := n1_; clear n0_ n1_; (try clear hb); (try clear hb2); (try clear hk); (try clear hi); (try clear ho0); obtain ⟨Ao14, co14, eo14⟩ := Kd.R_slice HO312.out; subst eo14) | ((with_reducible refine gate_callee (f := 28) rfl ?_); refine goesL_ (some 38) rfl rfl Tryd.func28 (by kernel_rfl) rfl #[.slice Ao14 t309.length co14] rfl ag_ ?_; (with_reducible refine (torusref07_Check.calls k1 _ _ t309 t313 _ ?side1 ?side2 A9.out).mono ?_); (case side1 => repeat (first | exact (Kd.R_reads' HO312.out).2.2 | (with_reducible refine Kd.C_alloc ?_ _) | (with_reducible refine Kd.C_drewN ?_ _) | (with_reducible refine Kd.C_drew ?_))); (case side2 => exact (Kd.R_reads' HO312.out).2.1); rintro e w' ⟨rfl, ⟨nd, rfl⟩⟩; refine ⟨_, rfl, ?_⟩))
       go_ret3
       exact ⟨_, by first | rfl | (simp [errW_none, errW_some] <;> rfl) | (simp [*, errW_none, errW_some] <;> rfl), by first | exact Kd.R_nil _ _ _ _ _ | exact Kd.N_nil _ _ _ _ _ | exact Kd.V_nil _ _ _ _ _ | exact Kd.Q_nil _ _ _ _ _ | exact Kd.S_nil _ _ _ _ _, bw_⟩

end Go.Proofs.YticckanjfdcpaaaDoor.PSimplex
namespace Go.Proofs.YticckanjfdcpaaaDoor.PSimplex
open Go.RowKit Go.Proofs.YticckanjfdcpaaaDoorW.PrintWords Go.Proofs.YticckanjfdcpaaaDoorW.PrintLast Go.Proofs.YticckanjfdcpaaaDoorW.PrintMore
set_option linter.unusedVariables false
set_option linter.unusedSimpArgs false

/-- An element is moved down a list that is told from its end on. -/
def insR : List Int → Int → List Int
  | [], x => [x]
  | a :: R, x => if x < a then a :: insR R x else x :: a :: R
def insN : List Int → Int → Nat
  | [], _ => 0
  | a :: R, x => if x < a then insN R x + 1 else 0
def srt : List Int → List Int → List Int
  | R, [] => R.reverse
  | R, x :: B => srt (insR R x) B
def swp : List Int → List Int → Nat
  | _, [] => 0
  | R, x :: B => insN R x + swp (insR R x) B
theorem insR_len : ∀ R x, (insR R x).length = R.length + 1
  | [], x => rfl
  | a :: R, x => by
    unfold insR
    split
    · simp [insR_len R x]
    · simp
theorem rd_mid (L : List Int) (x : Int) (B : List Int) : rd (L ++ x :: B) (L.length : Int) = x := by simp [rd]
theorem set_mid (L : List Int) (x y : Int) (B : List Int) : (L ++ x :: B).set L.length y = L ++ y :: B := by
  rw [List.set_append_right _ _ (Nat.le_refl _)]
  simp
theorem less_at (a b : Int) : cmp_Less_int.f a b = some (decide (a < b)) := by simp [cmp_Less_int.f, cmp_isNaN_int.f]
theorem two_set (R : List Int) (a x : Int) (B : List Int) : ((R.reverse ++ a :: x :: B).set (R.length + 1) a).set R.length x = R.reverse ++ x :: a :: B := by
  have h1 := set_mid (R.reverse ++ [a]) x a B
  have h2 := set_mid R.reverse a x (a :: B)
  simp only [List.append_assoc, List.singleton_append, List.length_append, List.length_reverse, List.length_cons, List.length_nil] at h1 h2
  simp only [Nat.zero_add] at h1
  rw [h1, h2]
theorem two_set' (R : List Int) (a x : Int) (B : List Int) : ((R.reverse ++ a :: x :: B).set R.length x).set (R.length + 1) a = R.reverse ++ x :: a :: B := by
  have h1 := set_mid (R.reverse ++ [x]) x a B
  have h2 := set_mid R.reverse a x (x :: B)
  simp only [List.append_assoc, List.singleton_append, List.length_append, List.length_reverse, List.length_cons, List.length_nil] at h1 h2
  simp only [Nat.zero_add] at h1
  rw [h2, h1]
theorem rd_lo (R : List Int) (a x : Int) (B : List Int) : rd (R.reverse ++ a :: x :: B) (R.length : Int) = a := by
  have := rd_mid R.reverse a (x :: B)
  simpa using this
theorem rd_hi (R : List Int) (a x : Int) (B : List Int) : rd (R.reverse ++ a :: x :: B) ((R.length + 1 : Nat) : Int) = x := by
  have := rd_mid (R.reverse ++ [a]) x B
  simpa using this

theorem ins_l1 (n i : Int) (r : List Int) : ∀ (R : List Int) (x : Int) (B : List Int), R.length + B.length ≤ 100000 → Ev (fun k => slices_insertionSortOrdered_int.l0 k ((insR R x).reverse ++ B) 0 n (wrap64 (i + 1))) r →
    Ev (fun k => slices_insertionSortOrdered_int.l1 k (R.reverse ++ x :: B) 0 n i (R.length : Int)) r
  | [], x, B, hl, h => by
    refine ev_succ ?_
    simp only [slices_insertionSortOrdered_int.l1, List.length_nil, if_neg (show ¬ (((0 : Nat) : Int) > 0) by omega)]
    simpa [insR] using h
  | a :: R, x, B, hl, h => by
    have e : ((a :: R).reverse ++ x :: B) = R.reverse ++ a :: x :: B := by simp
    have hlen : ((R.reverse ++ a :: x :: B).length : Int) = (R.length : Int) + 2 + (B.length : Int) := by simp; omega
    have hw : wrap64 (((R.length + 1 : Nat) : Int) - 1) = (R.length : Int) := by rw [wrap_id (by simp at hl; omega) (by simp at hl; omega)]; omega
    refine ev_succ ?_
    rw [e]
    simp only [slices_insertionSortOrdered_int.l1, List.length_cons, if_pos (show ((R.length + 1 : Nat) : Int) > 0 by omega), if_pos (show (0 : Int) ≤ ((R.length + 1 : Nat) : Int) by omega), hw, hlen, if_pos (show ((R.length + 1 : Nat) : Int) < (R.length : Int) + 2 + (B.length : Int) by omega),
      if_pos (show (0 : Int) ≤ (R.length : Int) by omega), if_pos (show (R.length : Int) < (R.length : Int) + 2 + (B.length : Int) by omega), rd_lo, rd_hi, less_at, Option.bind_some]
    by_cases c : x < a
    · simp only [decide_eq_true c, if_true, Int.toNat_natCast, two_set]
      refine ins_l1 n i r R x (a :: B) (by simp at hl ⊢; omega) ?_
      simpa [insR, c] using h
    · simp only [decide_eq_false c, Bool.false_eq_true, if_false]
      simpa [insR, c] using h
theorem ins_l0 : ∀ (B R : List Int), R.length + B.length ≤ 100000 → Ev (fun k => slices_insertionSortOrdered_int.l0 k (R.reverse ++ B) 0 ((R.length + B.length : Nat) : Int) (R.length : Int)) (srt R B)
  | [], R, hl => by
    refine ev_succ ?_
    simp only [slices_insertionSortOrdered_int.l0, List.length_nil, Nat.add_zero, if_neg (show ¬ ((R.length : Int) < (R.length : Int)) by omega), List.append_nil, srt]
    exact Ev.now _
  | x :: B, R, hl => by
    have ih := ins_l0 B (insR R x) (by rw [insR_len]; simp at hl; omega)
    rw [insR_len] at ih
    have hw : wrap64 ((R.length : Int) + 1) = ((R.length + 1 : Nat) : Int) := wrap_nat _ (by simp at hl; omega)
    refine ev_succ ?_
    simp only [slices_insertionSortOrdered_int.l0, List.length_cons, if_pos (show (R.length : Int) < ((R.length + (B.length + 1) : Nat) : Int) by omega), srt]
    refine ins_l1 _ _ _ R x B (by simp at hl; omega) ?_
    rw [hw, show R.length + (B.length + 1) = R.length + 1 + B.length by omega]
    exact ih
theorem ins_ev (l : List Int) (hl : l.length ≤ 100000) : Ev (fun k => slices_insertionSortOrdered_int.f k l 0 (l.length : Int)) (srt [] l) := by
  cases l with
  | nil =>
    refine Ev.of (slices_insertionSortOrdered_int.mono _ _ _) (k := 1) ?_
    decide +kernel
  | cons x B =>
    have := ins_l0 B [x] (by simp at hl ⊢; omega)
    unfold slices_insertionSortOrdered_int.f
    have hw : wrap64 (0 + 1) = 1 := by decide +kernel
    rw [hw]
    simpa [srt, insR, Nat.add_comm] using this
theorem sort42_ev (l : List Int) (hl : l.length ≤ 12) : Ev (fun k => api_Simplex_int_42.f k l) (srt [] l) := by
  unfold api_Simplex_int_42.f
  simp only [if_pos (show (l.length : Int) ≤ 12 by omega)]
  exact ins_ev l (by omega)

theorem rins_l1 (i : Int) (r : List Int × Int) : ∀ (R : List Int) (x : Int) (B : List Int) (p : Nat), R.length + B.length ≤ 100000 → Ev (fun k => torusref07_Sorted.l0 k ((insR R x).reverse ++ B) (((p + insN R x) % 2 : Nat) : Int) (wrap64 (i + 1))) r →
    Ev (fun k => torusref07_Sorted.l1 k (R.reverse ++ x :: B) ((p % 2 : Nat) : Int) i (R.length : Int)) r
  | [], x, B, p, hl, h => by
    refine ev_succ ?_
    simp only [torusref07_Sorted.l1, List.length_nil, if_neg (show ¬ (((0 : Nat) : Int) > 0) by omega)]
    simpa [insR, insN] using h
  | a :: R, x, B, p, hl, h => by
    have e : ((a :: R).reverse ++ x :: B) = R.reverse ++ a :: x :: B := by simp
    have hlen : ((R.reverse ++ a :: x :: B).length : Int) = (R.length : Int) + 2 + (B.length : Int) := by simp; omega
    have hw : wrap64 (((R.length + 1 : Nat) : Int) - 1) = (R.length : Int) := by rw [wrap_id (by simp at hl; omega) (by simp at hl; omega)]; omega
    have hp : wrap64 (1 - ((p % 2 : Nat) : Int)) = (((p + 1) % 2 : Nat) : Int) := by rw [wrap_id (by omega) (by omega)]; omega
    refine ev_succ ?_
    rw [e]
    simp only [torusref07_Sorted.l1, List.length_cons, if_pos (show ((R.length + 1 : Nat) : Int) > 0 by omega), if_pos (show (0 : Int) ≤ ((R.length + 1 : Nat) : Int) by omega), hw, hlen, if_pos (show ((R.length + 1 : Nat) : Int) < (R.length : Int) + 2 + (B.length : Int) by omega),
      if_pos (show (0 : Int) ≤ (R.length : Int) by omega), if_pos (show (R.length : Int) < (R.length : Int) + 2 + (B.length : Int) by omega), rd_lo, rd_hi]
    by_cases c : x < a
    · simp only [if_pos (show a > x from c), Int.toNat_natCast, two_set', hp]
      refine rins_l1 i r R x (a :: B) (p + 1) (by simp at hl ⊢; omega) ?_
      have e2 : p + 1 + insN R x = p + (insN R x + 1) := by omega
      rw [e2]
      simpa [insR, insN, c] using h
    · simp only [if_neg (show ¬ (a > x) from c)]
      simpa [insR, insN, c] using h
theorem rins_l0 : ∀ (B R : List Int) (p : Nat), R.length + B.length ≤ 100000 → Ev (fun k => torusref07_Sorted.l0 k (R.reverse ++ B) ((p % 2 : Nat) : Int) (R.length : Int)) (srt R B, (((p + swp R B) % 2 : Nat) : Int))
  | [], R, p, hl => by
    refine ev_succ ?_
    simp only [torusref07_Sorted.l0, List.append_nil, List.length_reverse, if_neg (show ¬ ((R.length : Int) < (R.length : Int)) by omega), srt, swp, Nat.add_zero]
    exact Ev.now _
  | x :: B, R, p, hl => by
    have ih := rins_l0 B (insR R x) (p + insN R x) (by rw [insR_len]; simp at hl; omega)
    rw [insR_len] at ih
    have hw : wrap64 ((R.length : Int) + 1) = ((R.length + 1 : Nat) : Int) := wrap_nat _ (by simp at hl; omega)
    have hlen : ((R.reverse ++ x :: B).length : Int) = (R.length : Int) + 1 + (B.length : Int) := by simp; omega
    refine ev_succ ?_
    simp only [torusref07_Sorted.l0, hlen, if_pos (show (R.length : Int) < (R.length : Int) + 1 + (B.length : Int) by omega), srt, swp]
    refine rins_l1 _ _ R x B p (by simp at hl; omega) ?_
    rw [hw, ← Nat.add_assoc]
    exact ih
theorem rsorted_ev (l : List Int) (hl : l.length ≤ 100000) : Ev (fun k => torusref07_Sorted.f k l) (srt [] l, ((swp [] l % 2 : Nat) : Int)) := by
  unfold torusref07_Sorted.f
  simp only [Option.bind_some, List.nil_append, List.length_nil, if_pos (show 0 + l.length < 17592186044416 by omega)]
  have := rins_l0 l [] 0 (by simpa using hl)
  simpa using this

/-! ### The sign -/
def sg (n : Nat) : Int := if n % 2 = 0 then 1 else -1
theorem sg_neg (n : Nat) : wrap64 (-(sg n)) = sg (n + 1) := by
  unfold sg
  by_cases c : n % 2 = 0
  · rw [if_pos c, if_neg (by omega)]; decide +kernel
  · rw [if_neg c, if_pos (by omega)]; decide +kernel
def cnt (P : List Int) (x : Int) : Nat := P.countP (fun a => decide (x < a))
def invs : List Int → List Int → Nat
  | _, [] => 0
  | R, x :: B => cnt R x + invs (x :: R) B
theorem cnt_cons (a : Int) (P : List Int) (x : Int) : cnt (a :: P) x = cnt P x + if x < a then 1 else 0 := by simp [cnt, List.countP_cons]
theorem cnt_rev (P : List Int) (x : Int) : cnt P.reverse x = cnt P x := by simp [cnt]
theorem sgn_l1 (l s : List Int) (len : Int) (x : Int) (r : List Int × Int × Int) : ∀ (P2 P1 B : List Int) (n : Nat), l = (P1 ++ P2) ++ x :: B → l.length ≤ 100000 →
    Ev (fun k => simplex_Sort.l0 k l s (sg (n + cnt P2 x)) len (wrap64 (((P1 ++ P2).length : Int) + 1))) r →
    Ev (fun k => simplex_Sort.l1 k l s (sg n) ((P1 ++ P2).length : Int) len ((P1 ++ P2).length : Int) ((P1 ++ P2).length : Int) (P1.length : Int)) r
  | [], P1, B, n, hl, hlen, h => by
    refine ev_succ ?_
    simp only [simplex_Sort.l1, List.append_nil, if_neg (show ¬ ((P1.length : Int) < (P1.length : Int)) by omega)]
    simpa [cnt] using h
  | a :: P2, P1, B, n, hl, hlen, h => by
    have e1 : P1 ++ a :: P2 = (P1 ++ [a]) ++ P2 := by simp
    have hx : rd l ((P1 ++ a :: P2).length : Int) = x := by rw [hl]; exact rd_mid _ _ _
    have ha : rd l (P1.length : Int) = a := by
      rw [hl, List.append_assoc]
      exact rd_mid P1 a (P2 ++ x :: B)
    have hl2 : (l.length : Int) = ((P1 ++ a :: P2).length : Int) + 1 + (B.length : Int) := by rw [hl]; simp; omega
    have hl3 : ((P1 ++ a :: P2).length : Int) = (P1.length : Int) + 1 + (P2.length : Int) := by simp; omega
    have hw : wrap64 ((P1.length : Int) + 1) = ((P1 ++ [a]).length : Int) := by rw [wrap_nat _ (by omega)]; simp
    refine ev_succ ?_
    simp only [simplex_Sort.l1, if_pos (show (P1.length : Int) < ((P1 ++ a :: P2).length : Int) by omega), if_pos (show (0 : Int) ≤ (P1.length : Int) by omega), if_pos (show (P1.length : Int) < (l.length : Int) by omega),
      if_pos (show (0 : Int) ≤ ((P1 ++ a :: P2).length : Int) by omega), if_pos (show ((P1 ++ a :: P2).length : Int) < (l.length : Int) by omega), hx, ha, hw]
    by_cases c : a > x
    · simp only [if_pos c, sg_neg]
      have := sgn_l1 l s len x r P2 (P1 ++ [a]) B (n + 1) (by rw [hl, e1]) hlen (by
        rw [← e1, show n + 1 + cnt P2 x = n + cnt (a :: P2) x by rw [cnt_cons, if_pos c]; omega]
        exact h)
      rw [← e1] at this
      exact this
    · simp only [if_neg c]
      have := sgn_l1 l s len x r P2 (P1 ++ [a]) B n (by rw [hl, e1]) hlen (by
        rw [← e1, show n + cnt P2 x = n + cnt (a :: P2) x by rw [cnt_cons, if_neg c]; omega]
        exact h)
      rw [← e1] at this
      exact this
/-- What "Sort" answers once the vertices are right. -/
def sorted3 (l : List Int) : List Int × Int × Int := if ck (srt [] l) = 0 then (srt [] l, sg (invs [] l), 0) else ([], 0, 5)
theorem sgn_l0 (l s : List Int) (hs : s.length ≤ 12) (hlen : l.length ≤ 100000) : ∀ (B P : List Int) (n : Nat), l = P ++ B →
    Ev (fun k => simplex_Sort.l0 k l s (sg n) (l.length : Int) (P.length : Int)) (if ck (srt [] s) = 0 then (srt [] s, sg (n + invs P.reverse B), 0) else ([], 0, 5))
  | [], P, n, hl => by
    have e : l.length = P.length := by rw [hl]; simp
    refine ev_succ ?_
    simp only [simplex_Sort.l0, e, if_neg (show ¬ ((P.length : Int) < (P.length : Int)) by omega), invs, Nat.add_zero]
    refine (ev_bind (sort42_ev s hs)).mpr ?_
    refine (ev_bind (scheck_ev _)).mpr ?_
    by_cases c : ck (srt [] s) = 0
    · simp only [if_pos c]; exact Ev.now _
    · simp only [if_neg c]; exact Ev.now _
  | x :: B, P, n, hl => by
    have e : (l.length : Int) = (P.length : Int) + 1 + (B.length : Int) := by rw [hl]; simp; omega
    have ih := sgn_l0 l s hs hlen B (P ++ [x]) (n + cnt P x) (by rw [hl]; simp)
    refine ev_succ ?_
    simp only [simplex_Sort.l0, if_pos (show (P.length : Int) < (l.length : Int) by omega)]
    have := sgn_l1 l s (l.length : Int) x _ P [] B n (by rw [hl]; simp) hlen (by
      have hw : wrap64 (((([] : List Int) ++ P).length : Int) + 1) = ((P ++ [x]).length : Int) := by rw [List.nil_append, wrap_nat _ (by omega)]; simp
      rw [hw]
      exact ih)
    have e2 : n + cnt P x + invs (P ++ [x]).reverse B = n + invs P.reverse (x :: B) := by
      simp only [invs, cnt_rev, List.reverse_append, List.reverse_cons, List.reverse_nil, List.nil_append, List.singleton_append]
      omega
    rw [e2] at this
    simpa using this
/-- What "Sort" answers. -/
def so (l : List Int) : List Int × Int × Int := if l.length = 0 then ([], 0, 1) else if l.length > 5 then ([], 0, 3) else if l.any bad = true then ([], 0, 1) else sorted3 l
theorem ssort_ev (l : List Int) : Ev (fun k => simplex_Sort.f k l) (so l) := by
  unfold simplex_Sort.f so
  refine (ev_bind (svert_ev l)).mpr ?_
  by_cases c : l.length = 0
  · simp only [if_pos c]; exact Ev.now _
  · by_cases c' : l.length > 5
    · simp only [if_neg c, if_pos c']; exact Ev.now _
    · simp only [if_neg c, if_neg c']
      cases hb : l.any bad with
      | true => exact Ev.now _
      | false =>
        simp only [Bool.false_eq_true, if_false, if_true, api_Simplex_int_41.f, if_pos (show l.length < 17592186044416 by omega), Option.bind_some]
        have := sgn_l0 l l (by omega) (by omega) l [] 0 rfl
        simpa [sg, sorted3] using this

/-! ### The exchanges are the inversions -/
def desc : List Int → Prop
  | [] => True
  | a :: R => (∀ b ∈ R, b ≤ a) ∧ desc R
theorem insR_mem : ∀ R x b, b ∈ insR R x → b = x ∨ b ∈ R
  | [], x, b, h => by simp [insR] at h; exact .inl h
  | a :: R, x, b, h => by
    unfold insR at h
    split at h
    · rcases List.mem_cons.1 h with h | h
      · exact .inr (by simp [h])
      · rcases insR_mem R x b h with h | h
        · exact .inl h
        · exact .inr (by simp [h])
    · rcases List.mem_cons.1 h with h | h
      · exact .inl h
      · exact .inr h
theorem insR_desc : ∀ R x, desc R → desc (insR R x)
  | [], x, _ => by simp [insR, desc]
  | a :: R, x, h => by
    unfold insR
    by_cases c : x < a
    · rw [if_pos c]
      refine ⟨fun b hb => ?_, insR_desc R x h.2⟩
      rcases insR_mem R x b hb with h1 | h1
      · omega
      · exact h.1 b h1
    · rw [if_neg c]
      refine ⟨fun b hb => ?_, h⟩
      rcases List.mem_cons.1 hb with h1 | h1
      · omega
      · have := h.1 b h1; omega
theorem insR_cnt : ∀ R x y, cnt (insR R x) y = cnt (x :: R) y
  | [], x, y => rfl
  | a :: R, x, y => by
    unfold insR
    split
    · rw [cnt_cons, insR_cnt R x y, cnt_cons, cnt_cons, cnt_cons]; omega
    · rfl
theorem insN_cnt : ∀ R x, desc R → insN R x = cnt R x
  | [], x, _ => rfl
  | a :: R, x, h => by
    unfold insN
    rw [cnt_cons]
    by_cases c : x < a
    · rw [if_pos c, if_pos c, insN_cnt R x h.2]
    · rw [if_neg c, if_neg c]
      have : cnt R x = 0 := by
        unfold cnt
        rw [List.countP_eq_zero]
        intro b hb
        have := h.1 b hb
        simp
        omega
      omega
theorem swp_invs : ∀ (B S R : List Int), desc S → (∀ y, cnt S y = cnt R y) → swp S B = invs R B
  | [], S, R, _, _ => rfl
  | x :: B, S, R, hd, hc => by
    simp only [swp, invs]
    rw [insN_cnt S x hd, hc x, swp_invs B (insR S x) (x :: R) (insR_desc S x hd) (fun y => by rw [insR_cnt, cnt_cons, cnt_cons, hc y])]
theorem rsort_l0 (l : List Int) (hl : l.length ≤ 5) : ∀ (m i : Nat), m = l.length - i → i ≤ l.length → Ev (fun k => torusref07_Sort.l0 k l (i : Int)) (if (l.drop i).any bad = true then ([], 0, 1) else sorted3 l)
  | 0, i, hm, hi => by
    rw [List.drop_of_length_le (by omega)]
    refine ev_succ ?_
    simp only [torusref07_Sort.l0, if_neg (show ¬ ((i : Int) < (l.length : Int)) by omega), List.any_nil, Bool.false_eq_true, if_false]
    refine (ev_bind (rsorted_ev l (by omega))).mpr ?_
    refine (ev_bind (rcheck_ev _)).mpr ?_
    unfold sorted3
    by_cases c : ck (srt [] l) = 0
    · simp only [if_pos c, swp_invs l [] [] trivial (fun _ => rfl)]
      have e : wrap64 (1 - wrap64 (2 * ((invs [] l % 2 : Nat) : Int))) = sg (invs [] l) := by
        rw [wrap_id (a := 2 * ((invs [] l % 2 : Nat) : Int)) (by omega) (by omega), wrap_id (by omega) (by omega)]
        unfold sg
        split <;> omega
      rw [e]
      exact Ev.now _
    · simp only [if_neg c]
      exact Ev.now _
  | m + 1, i, hm, hi => by
    have ih := rsort_l0 l hl m (i + 1) (by omega) (by omega)
    rw [drop_cons l i (by omega)]
    refine ev_succ ?_
    simp only [torusref07_Sort.l0, if_pos (show ((i : Int) < (l.length : Int)) by omega), if_pos (show (0 : Int) ≤ (i : Int) by omega), wrap_nat i (by omega), List.any_cons]
    by_cases c : rd l (i : Int) < 0
    · have hb : bad (rd l (i : Int)) = true := by simp [bad, c]
      simp only [if_pos c, hb, Bool.true_or, if_true]
      exact Ev.now _
    · by_cases c' : rd l (i : Int) ≥ 64
      · have hb : bad (rd l (i : Int)) = true := by simp [bad, c']
        simp only [if_neg c, if_pos c', hb, Bool.true_or, if_true]
        exact Ev.now _
      · have hb : bad (rd l (i : Int)) = false := by simp [bad]; omega
        simp only [if_neg c, if_neg c', hb, Bool.false_or]
        exact ih
theorem rsort_ev (l : List Int) : Ev (fun k => torusref07_Sort.f k l) (so l) := by
  unfold torusref07_Sort.f so
  by_cases c : l.length = 0
  · simp only [if_pos c, if_pos (show (l.length : Int) = 0 by omega)]
    exact Ev.now _
  · by_cases c' : l.length > 5
    · simp only [if_neg c, if_pos c', if_neg (show ¬ ((l.length : Int) = 0) by omega), if_pos (show (l.length : Int) > 5 by omega)]
      exact Ev.now _
    · simp only [if_neg c, if_neg c', if_neg (show ¬ ((l.length : Int) = 0) by omega), if_neg (show ¬ ((l.length : Int) > 5) by omega)]
      simpa using rsort_l0 l (by omega) l.length 0 (by omega) (by omega)
theorem srt_len : ∀ (B R : List Int), (srt R B).length = R.length + B.length
  | [], R => by simp [srt]
  | x :: B, R => by rw [srt, srt_len B, insR_len]; simp; omega
theorem so_len (l : List Int) : (so l).1.length ≤ 5 := by
  unfold so sorted3
  split
  · simp
  · split
    · simp
    · split
      · simp
      · split
        · simp [srt_len]; omega
        · simp
end Go.Proofs.YticckanjfdcpaaaDoor.PSimplex
namespace Go.Proofs.YticckanjfdcpaaaDoor.PSimplex
open Go.RowKit Go.Proofs.YticckanjfdcpaaaDoorW.PrintWords Go.Proofs.YticckanjfdcpaaaDoorW.PrintLast Go.Proofs.YticckanjfdcpaaaDoorW.PrintMore
attribute [local go_sem] max2_int min2_int max_two min_two max_three min_three max_four min_four   -- for this text's walks alone
set_option linter.unusedVariables false
set_option linter.unusedSimpArgs false

theorem has_cl (k : Nat) (g : Nat) (A1 : Option Addr) (c1 : Nat) (l1 : List Int) (a0 : Int) (b : Bool) (w : World) (hr : Kd.C (Kd.int .i64) w A1 l1.length l1) (hc : l1.length ≤ c1)
    (hp : w.cell? ⟨g, 0, none⟩ = some (.slice A1 l1.length c1)) (h : api_Simplex_int_49.f k l1 a0 = some b) :
    Calls Tryd.prog 48 #[.int .i64 a0, .pointer (some ⟨g, 0, none⟩)] w fun e w' => e = .returned (.bool (!b)) ∧ Drawn0 w w' := by
  go_enter Tryd.func48, Tryd.ntmps48
  go_wp2_with (first | ((with_reducible refine gate_callee (f := 49) rfl ?_); refine goesL_ (some 6) rfl rfl Tryd.func49 (by kernel_rfl) rfl #[.slice A1 l1.length c1, .int .i64 a0] rfl (by (try simp only [List.map_toArray, List.map_cons, List.map_nil]); first | done | rfl) ?_; (with_reducible refine (api_Simplex_int_49.calls k _ _ l1 a0 b _ ?side1 ?side2 h).mono ?_); (case side1 => exact hr); (case side2 => exact hc); rintro e w' ⟨rfl, ⟨nd, rfl⟩⟩; refine ⟨_, rfl, ?_⟩))
  go_ret
  exact ⟨by first | rfl | (simp; done) | (simp [*]; done), by repeat (first | exact Drawn0.refl _ | apply Drawn0.step)⟩

def has_ix.l0 : Nat → List Int → List Int → Int → Int → Option (Int)
  | 0, _, _, _, _ => none
  | k + 1, x0, x1, x7, x8 => if x8 < x7 then (if 0 ≤ x8 then (if x8 < (x0.length : Int) then ((api_Simplex_int_49.f k x1 (rd x0 x8)).bind fun t => (if t = true then (has_ix.l0 k x0 x1 x7 (wrap64 (x8 + 1))) else (some x8))) else (none)) else (none)) else (some (-1))
theorem has_ix.mono_l : ∀ k, (∀ y0 y1 y2 y3, LeO (has_ix.l0 k y0 y1 y2 y3) (has_ix.l0 (k + 1) y0 y1 y2 y3))
  | 0 => fun _ _ _ _ r h => by simp [has_ix.l0] at h
  | k + 1 => by
    have ih0 := has_ix.mono_l k
    intro y0 y1 y2 y3
    unfold has_ix.l0
    repeat' first
      | (with_reducible exact ih0 _ _ _ _)
      | (with_reducible exact api_Simplex_int_49.mono _ _ _)
      | (with_reducible exact LeO.refl _)
      | (with_reducible exact LeO.none _)
      | (with_reducible refine LeO.ite ?_ ?_)
      | (with_reducible refine LeO.bind ?_ (fun _ => ?_))
set_option maxHeartbeats 8000000 in
set_option maxRecDepth 100000 in
theorem has_ix.calls (k : Nat) (g : Nat) (A0 : Option Addr) (c0 : Nat) (l0 : List Int) (A1 : Option Addr) (c1 : Nat) (l1 : List Int) (r : Int) (w : World) (hr0 : Kd.C (Kd.int .i64) w A0 l0.length l0) (hc0 : l0.length ≤ c0)
    (hr1 : Kd.C (Kd.int .i64) w A1 l1.length l1) (hc1 : l1.length ≤ c1) (hp : w.cell? ⟨g, 0, none⟩ = some (.slice A1 l1.length c1)) (h : has_ix.l0 k l0 l1 (l0.length : Int) 0 = some r) :
    Calls Tryd.prog 63 #[.slice A0 l0.length c0, .func (.func 48) #[] #[.pointer (some ⟨g, 0, none⟩)]] w fun e w' => e = .returned (.int .i64 r) ∧ Drawn0 w w' := by
  have HR0 := Aside0.mk hr0
  have HR1 := Aside0.mk hr1
  have HP := Aside0.mk hp
  have H' := Aside0.mk h
  clear h hr0 hr1 hp
  go_enter Tryd.func63, Tryd.ntmps63
  go_wp2
  go_loopg [8] k (fun kq v8 w' => ∃ (x8_1 : Int), v8 = .int .i64 x8_1 ∧ Aside0 (has_ix.l0 kq l0 l1 (l0.length : Int) x8_1 = some r) ∧ Aside0 (kq ≤ k) ∧ Drawn0 w w')
  case atStart => exact ⟨(0), (by first | rfl | (simp; done) | (simp [*]; done)), H', ⟨Nat.le_refl _⟩, by repeat (first | exact Drawn0.refl _ | apply Drawn0.step)⟩
  case round =>
    clear H'
    obtain ⟨x8_1, rfl, HA, HK1, ⟨m1, rfl⟩⟩ := hrel
    cases gk with
    | zero => exact absurd HA.out (by simp [has_ix.l0])
    | succ k1 =>
      have H := HA.out
      clear HA
      simp only [has_ix.l0] at H
      by_cases c3 : x8_1 < (l0.length : Int)
      · rw [if_pos c3] at H
        have c3b0 : decide (x8_1 < (l0.length : Int)) = true := decide_eq_true c3
        by_cases c4 : 0 ≤ x8_1
        · rw [if_pos c4, if_pos c3] at H
          obtain ⟨ad244, e244, hx244_0⟩ := Kd.at_int HR0.out x8_1 c4 c3
          cases e244
          have p244 := eq_true c4
          have q244 := eq_true c3
          obtain ⟨t, ht, H⟩ := Option.bind_eq_some_iff.mp H
          replace H : (if t = true then (has_ix.l0 k1 l0 l1 (l0.length : Int) (wrap64 (x8_1 + 1))) else (some x8_1)) = some r := H
          cases t with
          | false =>
            obtain rfl := Option.some.inj H
            go_wp2_with (first | ((with_reducible refine gate_valcall (x := .tmp 11) rfl ?_); refine goesV_ (some 16) rfl rfl (f := 48) (cap := #[.pointer (some ⟨g, 0, none⟩)]) Tryd.func48 (by kernel_rfl) rfl #[.int .i64 (rd l0 x8_1)] rfl rfl (by (try simp only [List.map_toArray, List.map_cons, List.map_nil]); first | done | rfl) ?_; (refine (has_cl k1 g A1 c1 l1 (rd l0 x8_1) false _ ?side1 hc1 ?side2 ht).mono ?_); (case side1 => repeat (first | exact HR1.out | (with_reducible refine Kd.C_alloc ?_ _) | (with_reducible refine Kd.C_drewN ?_ _) | (with_reducible refine Kd.C_drew ?_))); (case side2 => exact HP.out); rintro e w' ⟨rfl, ⟨nd, rfl⟩⟩; refine ⟨_, rfl, ?_⟩))
            go_ret
            exact ⟨by first | rfl | (simp; done) | (simp [*]; done), by repeat (first | exact Drawn0.refl _ | apply Drawn0.step)⟩
          | true =>
            have H' := Aside0.mk H
            clear H
            go_wp2_with (first | ((with_reducible refine gate_valcall (x := .tmp 11) rfl ?_); refine goesV_ (some 16) rfl rfl (f := 48) (cap := #[.pointer (some ⟨g, 0, none⟩)]) Tryd.func48 (by kernel_rfl) rfl #[.int .i64 (rd l0 x8_1)] rfl rfl (by (try simp only [List.map_toArray, List.map_cons, List.map_nil]); first | done | rfl) ?_; (refine (has_cl k1 g A1 c1 l1 (rd l0 x8_1) true _ ?side1 hc1 ?side2 ht).mono ?_); (case side1 => repeat (first | exact HR1.out | (with_reducible refine Kd.C_alloc ?_ _) | (with_reducible refine Kd.C_drewN ?_ _) | (with_reducible refine Kd.C_drew ?_))); (case side2 => exact HP.out); rintro e w' ⟨rfl, ⟨nd, rfl⟩⟩; refine ⟨_, rfl, ?_⟩))
            go_roundg k1
            case measure => have := HK1.out; omega
            case rel => exact ⟨(wrap64 (x8_1 + 1)), (by first | rfl | (simp; done) | (simp [*]; done)), H', ⟨by have := HK1.out; omega⟩, by repeat (first | exact Drawn0.refl _ | apply Drawn0.step)⟩
        · rw [if_neg c4] at H
          exact absurd H (by simp)
      · rw [if_neg c3] at H
        have c3b0 : decide (x8_1 < (l0.length : Int)) = false := decide_eq_false c3
        obtain rfl := Option.some.inj H
        go_wp2
        go_ret
        exact ⟨by first | rfl | (simp; done) | (simp [*]; done), by repeat (first | exact Drawn0.refl _ | apply Drawn0.step)⟩

def simplex_Has.f (k : Nat) (l0 : List Int) (l1 : List Int) : Option Bool := (has_ix.l0 k l1 l0 (l1.length : Int) 0).bind fun t => some (!(decide (t ≥ 0)))
theorem simplex_Has.mono : ∀ a0 a1 k, LeO (simplex_Has.f k a0 a1) (simplex_Has.f (k + 1) a0 a1) := by
  intro a0 a1 k
  have ih0 := has_ix.mono_l k
  unfold simplex_Has.f
  repeat' first
      | (with_reducible exact ih0 _ _ _ _)
      | (with_reducible exact LeO.refl _)
      | (with_reducible refine LeO.bind ?_ (fun _ => ?_))
theorem has_any (k : Nat) (g : Nat) (A0 : Option Addr) (c0 : Nat) (l0 : List Int) (A1 : Option Addr) (c1 : Nat) (l1 : List Int) (r : Int) (w : World) (hr0 : Kd.C (Kd.int .i64) w A0 l0.length l0) (hc0 : l0.length ≤ c0)
    (hr1 : Kd.C (Kd.int .i64) w A1 l1.length l1) (hc1 : l1.length ≤ c1) (hp : w.cell? ⟨g, 0, none⟩ = some (.slice A1 l1.length c1)) (h : has_ix.l0 k l0 l1 (l0.length : Int) 0 = some r) :
    Calls Tryd.prog 47 #[.slice A0 l0.length c0, .func (.func 48) #[] #[.pointer (some ⟨g, 0, none⟩)]] w fun e w' => e = .returned (.bool (decide (r ≥ 0))) ∧ Drawn0 w w' := by
  go_enter Tryd.func47, Tryd.ntmps47
  go_wp2_with (first | ((with_reducible refine gate_callee (f := 63) rfl ?_); refine goesL_ (some 7) rfl rfl Tryd.func63 (by kernel_rfl) rfl #[.slice A0 l0.length c0, .func (.func 48) #[] #[.pointer (some ⟨g, 0, none⟩)]] rfl (by (try simp only [List.map_toArray, List.map_cons, List.map_nil]); first | done | rfl) ?_; (with_reducible refine (has_ix.calls k g _ _ l0 _ _ l1 r _ hr0 hc0 hr1 hc1 hp h).mono ?_); rintro e w' ⟨rfl, ⟨nd, rfl⟩⟩; refine ⟨_, rfl, ?_⟩))
  go_ret
  exact ⟨by first | rfl | (simp; done) | (simp [*]; done), by repeat (first | exact Drawn0.refl _ | apply Drawn0.step)⟩
theorem simplex_Has.calls (k : Nat) (A0 : Option Addr) (c0 : Nat) (l0 : List Int) (A1 : Option Addr) (c1 : Nat) (l1 : List Int) (r : Bool) (w : World) (hr0 : Kd.C (Kd.int .i64) w A0 l0.length l0) (hc0 : l0.length ≤ c0) (hr1 : Kd.C (Kd.int .i64) w A1 l1.length l1) (hc1 : l1.length ≤ c1) (h : simplex_Has.f k l0 l1 = some r) :
    Calls Tryd.prog 23 #[.slice A0 l0.length c0, .slice A1 l1.length c1] w fun e w' => e = .returned (.bool r) ∧ Below w.heap.size w w' := by
  have hmf : ∀ (fn : Fn) (first cap : Array Value) (w : World), (Instr.makeFunc fn first cap).run Tryd.prog w = .ok (.func fn first cap) w := fun _ _ _ _ => rfl
  unfold simplex_Has.f at h
  obtain ⟨t, ht, h⟩ := Option.bind_eq_some_iff.mp h
  obtain rfl := Option.some.inj h
  go_enter Tryd.func23, Tryd.ntmps23
  go_wp2_with (first | ((with_reducible refine gate_callee (f := 47) rfl ?_); refine goesL_ (some 7) rfl rfl Tryd.func47 (by kernel_rfl) rfl #[.slice A1 l1.length c1, .func (.func 48) #[] #[.pointer (some ⟨w.heap.size, 0, none⟩)]] rfl (by (try simp only [List.map_toArray, List.map_cons, List.map_nil]); first | done | rfl) ?_; (with_reducible refine (has_any k w.heap.size A1 c1 l1 A0 c0 l0 t _ ?side1 hc1 ?side2 hc0 ?side3 ht).mono ?_); (case side1 => repeat (first | exact hr1 | (with_reducible refine Kd.C_alloc ?_ _) | (with_reducible refine Kd.C_drewN ?_ _) | (with_reducible refine Kd.C_drew ?_))); (case side2 => repeat (first | exact hr0 | (with_reducible refine Kd.C_alloc ?_ _) | (with_reducible refine Kd.C_drewN ?_ _) | (with_reducible refine Kd.C_drew ?_))); (case side3 => exact blk_cell (blk_new _ _) 0); rintro e w' ⟨rfl, ⟨nd, rfl⟩⟩; refine ⟨_, rfl, ?_⟩))
  go_ret
  exact ⟨by first | rfl | (simp; done) | (simp [*]; done), by repeat (first | (with_reducible first | exact Below.refl _ _ | apply below_alloc | apply pw_below_drewN | apply below_drew1) | exact Below.refl _ _)⟩
end Go.Proofs.YticckanjfdcpaaaDoor.PSimplex
namespace Go.Proofs.YticckanjfdcpaaaDoor.PSimplex
open Go.RowKit Go.Proofs.YticckanjfdcpaaaDoorW.PrintWords Go.Proofs.YticckanjfdcpaaaDoorW.PrintLast Go.Proofs.YticckanjfdcpaaaDoorW.PrintMore
attribute [local go_sem] max2_int min2_int max_two min_two max_three min_three max_four min_four   -- for this text's walks alone
set_option linter.unusedVariables false
set_option linter.unusedSimpArgs false

/-! ### torusref07_Has: function 26 -/
def torusref07_Has.l0 : Nat → List Int → List Int → Int → Option (Bool)
 |0, _, _, _ => none
 |k + 1, x0, x1, x5 => if x5 < (x1.length : Int) then (if 0 ≤ x5 then ((torusref07_In.f k x0 (rd x1 x5)).bind fun t409 => (if t409 = true then (torusref07_Has.l0 k x0 x1 (wrap64 (x5 + 1))) else (some false))) else (none)) else (some true)
def torusref07_Has.f (k : Nat) (l0 : List Int) (l1 : List Int) : Option (Bool) := torusref07_Has.l0 k l0 l1 0
theorem torusref07_Has.mono_l : ∀ k, (∀ y0 y1 y2, LeO (torusref07_Has.l0 k y0 y1 y2) (torusref07_Has.l0 (k + 1) y0 y1 y2))
 |0 => fun _ _ _ r h => by simp [torusref07_Has.l0] at h
 |k + 1 => by
  have ih0 := torusref07_Has.mono_l k
  ·intro y0 y1 y2
   unfold torusref07_Has.l0
   repeat' first
   |(with_reducible exact ih0 _ _ _)
   |(with_reducible exact torusref07_In.mono _ _ _)
   |(with_reducible exact LeO.refl _)
   |(with_reducible exact LeO.none _)
   |(with_reducible refine LeO.ite ?_ ?_)
   |(with_reducible refine LeO.bind ?_ (fun _ => ?_))
   |exact ih0 _ _ _
   |exact torusref07_In.mono _ _ _
   |exact LeO.none _
   |refine LeO.ite ?_ ?_
   |refine LeO.bind ?_ (fun _ => ?_)
theorem torusref07_Has.mono : ∀ a0 a1 k, LeO (torusref07_Has.f k a0 a1) (torusref07_Has.f (k + 1) a0 a1) := by
 intro a0 a1 k
 have ih0 := torusref07_Has.mono_l k
 unfold torusref07_Has.f
 repeat' first
   |(with_reducible exact ih0 _ _ _)
   |(with_reducible exact torusref07_In.mono _ _ _)
   |(with_reducible exact LeO.refl _)
   |(with_reducible exact LeO.none _)
   |(with_reducible refine LeO.ite ?_ ?_)
   |(with_reducible refine LeO.bind ?_ (fun _ => ?_))
   |exact ih0 _ _ _
   |exact torusref07_In.mono _ _ _
   |exact LeO.none _
   |refine LeO.ite ?_ ?_
   |refine LeO.bind ?_ (fun _ => ?_)
set_option maxHeartbeats 8000000 in
set_option maxRecDepth 100000 in
theorem torusref07_Has.calls (k : Nat) (A0 : Option Addr) (c0 : Nat) (l0 : List Int) (A1 : Option Addr) (c1 : Nat) (l1 : List Int) (r : Bool) (w : World) (hr0 : Kd.C (Kd.int .i64) w A0 l0.length l0) (hc0 : l0.length ≤ c0) (hr1 : Kd.C (Kd.int .i64) w A1 l1.length l1) (hc1 : l1.length ≤ c1) (h : torusref07_Has.f k l0 l1 = some r) :
  Calls Tryd.prog 26 #[.slice A0 l0.length c0, .slice A1 l1.length c1] w fun e w' => e = .returned (.bool r) ∧ Drawn0 w w' := by
 have HR0 := Aside0.mk hr0
 have HC0 := Aside0.mk hc0
 clear hr0 hc0
 have HR1 := Aside0.mk hr1
 have HC1 := Aside0.mk hc1
 clear hr1 hc1
 have H : (torusref07_Has.l0 k l0 l1 0) = some r := h
 clear h
 have H' := Aside0.mk H
 clear H
 go_enter Tryd.func26, Tryd.ntmps26
 go_wp2
 go_loopg [5] k (fun kq v5 w' => ∃ (x5_1 : Int), v5 = .int .i64 x5_1 ∧ Aside0 (torusref07_Has.l0 kq l0 l1 x5_1 = some r) ∧ Aside0 (kq ≤ k) ∧ Drawn0 w w')
 case atStart => exact ⟨(0), sd_, H', ⟨Nat.le_refl _⟩, dr_⟩
 case round =>
  clear H'
  try clear c1
  try clear c2
  try clear p2
  obtain ⟨x5_1, rfl, HA, HK1, ⟨m1, rfl⟩⟩ := hrel
  cases gk with
  |zero => exact absurd HA.out (by simp [torusref07_Has.l0])
  |succ k1 =>
   have H := HA.out
   clear HA
   simp only [torusref07_Has.l0] at H
   by_cases c3 : x5_1 < (l1.length : Int)
   ·rw [if_pos c3] at H
    have c3b0 : decide (x5_1 < (l1.length : Int)) = true := decide_eq_true c3
    clear c3
    by_cases c4 : 0 ≤ x5_1
    ·rw [if_pos c4] at H
     have c4b0 : decide (0 ≤ x5_1) = true := decide_eq_true c4
     clear c4
     replace H := Option.bind_eq_some_iff.mp H
     obtain ⟨t409, A50, H⟩ := H
     replace H : (if t409 = true then (torusref07_Has.l0 k1 l0 l1 (wrap64 (x5_1 + 1))) else (some false)) = some r := H
     have A5 := Aside0.mk A50
     clear A50
     by_cases c6 : t409 = true
     ·subst c6
      have H1 : (torusref07_Has.l0 k1 l0 l1 (wrap64 (x5_1 + 1))) = some r := by rw [if_pos rfl] at H; exact H
      clear H
      have H := H1
      clear H1
      have H' := Aside0.mk H
      clear H
      have p408 : 0 ≤ (x5_1 : Int) := of_decide_eq_true as_
      have q408 : x5_1 < (l1.length : Int) := of_decide_eq_true as_
      obtain ⟨ad408, e408, hx408_0⟩ := Kd.at_int HR1.out x5_1 p408 q408
      cases e408
      replace p408 := eq_true p408
      replace q408 := eq_true q408
      go_wp2_with (first | ((with_reducible refine gate_callee (f := 46) rfl ?_); refine goesL_ (some 17) rfl rfl Tryd.func46 (by kernel_rfl) rfl #[.slice A0 l0.length c0, .int .i64 (rd l1 x5_1)] rfl ag_ ?_; (with_reducible refine (torusref07_In.calls k1 _ _ l0 (rd l1 x5_1) true _ ?side1 ?side2 A5.out).mono ?_); (case side1 => exact cs_ HR0.out); (case side2 => exact HC0.out); rintro e w' ⟨rfl, ⟨nd, rfl⟩⟩; refine ⟨_, rfl, ?_⟩))
      go_roundg k1
      case measure => have := HK1.out; omega
      case rel => exact ⟨(wrap64 (x5_1 + 1)), sd_, H', ⟨by have := HK1.out; omega⟩, dr_⟩
     ·replace c6 := Bool.eq_false_iff.mpr c6
      subst c6
      have H1 : (some false) = some r := by rw [if_neg (show ¬ (false = true) by decide)] at H; exact H
      clear H
      have H := H1
      clear H1
      obtain rfl := Option.some.inj H
      have p408 : 0 ≤ (x5_1 : Int) := of_decide_eq_true as_
      have q408 : x5_1 < (l1.length : Int) := of_decide_eq_true as_
      obtain ⟨ad408, e408, hx408_0⟩ := Kd.at_int HR1.out x5_1 p408 q408
      cases e408
      replace p408 := eq_true p408
      replace q408 := eq_true q408
      go_wp2_with (first | ((with_reducible refine gate_callee (f := 46) rfl ?_); refine goesL_ (some 17) rfl rfl Tryd.func46 (by kernel_rfl) rfl #[.slice A0 l0.length c0, .int .i64 (rd l1 x5_1)] rfl ag_ ?_; (with_reducible refine (torusref07_In.calls k1 _ _ l0 (rd l1 x5_1) false _ ?side1 ?side2 A5.out).mono ?_); (case side1 => exact cs_ HR0.out); (case side2 => exact HC0.out); rintro e w' ⟨rfl, ⟨nd, rfl⟩⟩; refine ⟨_, rfl, ?_⟩))
      go_ret
      exact ⟨sd_, dr_⟩
    ·rw [if_neg c4] at H
     exact absurd H (by simp)
   ·rw [if_neg c3] at H
    have c3b0 : decide (x5_1 < (l1.length : Int)) = false := decide_eq_false c3
    clear c3
    obtain rfl := Option.some.inj H
    go_wp2
    go_ret
    exact ⟨sd_, dr_⟩

end Go.Proofs.YticckanjfdcpaaaDoor.PSimplex
namespace Go.Proofs.YticckanjfdcpaaaDoor.PSimplex
open Go.RowKit Go.Proofs.YticckanjfdcpaaaDoorW.PrintWords Go.Proofs.YticckanjfdcpaaaDoorW.PrintLast Go.Proofs.YticckanjfdcpaaaDoorW.PrintMore
attribute [local go_sem] max2_int min2_int max_two min_two max_three min_three max_four min_four   -- for this text's walks alone
set_option linter.unusedVariables false
set_option linter.unusedSimpArgs false

/-! ### torusref07_Meet: function 27 -/
def torusref07_Meet.l0 : Nat → List Int → List Int → List Int → Int → Option (List Int)
 |0, _, _, _, _ => none
 |k + 1, x0, x1, x5, x6 => if x6 < (x0.length : Int) then (if 0 ≤ x6 then ((torusref07_In.f k x1 (rd x0 x6)).bind fun t411 => (if t411 = true then (if x5.length < 17592186044416 then (torusref07_Meet.l0 k x0 x1 (x5 ++ [rd x0 x6]) (wrap64 (x6 + 1))) else (none)) else (torusref07_Meet.l0 k x0 x1 x5 (wrap64 (x6 + 1))))) else (none)) else (some x5)
def torusref07_Meet.f (k : Nat) (l0 : List Int) (l1 : List Int) : Option (List Int) := torusref07_Meet.l0 k l0 l1 ([] : List Int) 0
theorem torusref07_Meet.mono_l : ∀ k, (∀ y0 y1 y2 y3, LeO (torusref07_Meet.l0 k y0 y1 y2 y3) (torusref07_Meet.l0 (k + 1) y0 y1 y2 y3))
 |0 => fun _ _ _ _ r h => by simp [torusref07_Meet.l0] at h
 |k + 1 => by
  have ih0 := torusref07_Meet.mono_l k
  ·intro y0 y1 y2 y3
   unfold torusref07_Meet.l0
   repeat' first
   |(with_reducible exact ih0 _ _ _ _)
   |(with_reducible exact torusref07_In.mono _ _ _)
   |(with_reducible exact LeO.refl _)
   |(with_reducible exact LeO.none _)
   |(with_reducible refine LeO.ite ?_ ?_)
   |(with_reducible refine LeO.bind ?_ (fun _ => ?_))
   |exact ih0 _ _ _ _
   |exact torusref07_In.mono _ _ _
   |exact LeO.none _
   |refine LeO.ite ?_ ?_
   |refine LeO.bind ?_ (fun _ => ?_)
theorem torusref07_Meet.mono : ∀ a0 a1 k, LeO (torusref07_Meet.f k a0 a1) (torusref07_Meet.f (k + 1) a0 a1) := by
 intro a0 a1 k
 have ih0 := torusref07_Meet.mono_l k
 unfold torusref07_Meet.f
 repeat' first
   |(with_reducible exact ih0 _ _ _ _)
   |(with_reducible exact torusref07_In.mono _ _ _)
   |(with_reducible exact LeO.refl _)
   |(with_reducible exact LeO.none _)
   |(with_reducible refine LeO.ite ?_ ?_)
   |(with_reducible refine LeO.bind ?_ (fun _ => ?_))
   |exact ih0 _ _ _ _
   |exact torusref07_In.mono _ _ _
   |exact LeO.none _
   |refine LeO.ite ?_ ?_
   |refine LeO.bind ?_ (fun _ => ?_)
set_option maxHeartbeats 8000000 in
set_option maxRecDepth 100000 in
theorem torusref07_Meet.calls (k : Nat) (A0 : Option Addr) (c0 : Nat) (l0 : List Int) (A1 : Option Addr) (c1 : Nat) (l1 : List Int) (r : List Int) (w : World) (hr0 : Kd.C (Kd.int .i64) w A0 l0.length l0) (hc0 : l0.length ≤ c0) (hr1 : Kd.C (Kd.int .i64) w A1 l1.length l1) (hc1 : l1.length ≤ c1) (h : torusref07_Meet.f k l0 l1 = some r) :
  Calls Tryd.prog 27 #[.slice A0 l0.length c0, .slice A1 l1.length c1] w fun e w' => ∃ v0_ : Value, e = .returned (v0_) ∧ Kd.R (Kd.int .i64) 3 w' w.heap.size (fun _ => True) v0_ r ∧ Below w.heap.size w w' := by
 have HR0 := Aside0.mk hr0
 have HC0 := Aside0.mk hc0
 clear hr0 hc0
 have HR1 := Aside0.mk hr1
 have HC1 := Aside0.mk hc1
 clear hr1 hc1
 have HB := Aside0.mk (Below.refl w.heap.size w)
 have H : (torusref07_Meet.l0 k l0 l1 ([] : List Int) 0) = some r := h
 clear h
 have H' := Aside0.mk H
 clear H
 go_enter Tryd.func27, Tryd.ntmps27
 go_wp2
 go_loopg [5, 6] k (fun kq v5 v6 w' => ∃ (x5_1 : List Int) (x6_1 : Int), v6 = .int .i64 x6_1 ∧ Aside0 (torusref07_Meet.l0 kq l0 l1 x5_1 x6_1 = some r) ∧ Aside0 (kq ≤ k) ∧ Aside0 (Kd.R (Kd.int .i64) 3 w' w.heap.size (fun _ => True) v5 x5_1) ∧ Aside0 (Below w.heap.size w w'))
 case atStart => exact ⟨(([] : List Int)), (0), sd_, H', ⟨Nat.le_refl _⟩, ⟨by first | exact Kd.R_nil _ _ _ _ _ | exact Kd.N_nil _ _ _ _ _ | exact Kd.V_nil _ _ _ _ _ | exact Kd.Q_nil _ _ _ _ _ | exact Kd.S_nil _ _ _ _ _⟩, ⟨bw_⟩⟩
 case round =>
  clear H'
  try clear c1
  try clear c2
  try clear p2
  obtain ⟨x5_1, x6_1, rfl, HA, HK1, HO_5, HB⟩ := hrel
  cases gk with
  |zero => exact absurd HA.out (by simp [torusref07_Meet.l0])
  |succ k1 =>
   have H := HA.out
   clear HA
   simp only [torusref07_Meet.l0] at H
   by_cases c3 : x6_1 < (l0.length : Int)
   ·rw [if_pos c3] at H
    have c3b0 : decide (x6_1 < (l0.length : Int)) = true := decide_eq_true c3
    clear c3
    by_cases c4 : 0 ≤ x6_1
    ·rw [if_pos c4] at H
     have c4b0 : decide (0 ≤ x6_1) = true := decide_eq_true c4
     clear c4
     replace H := Option.bind_eq_some_iff.mp H
     obtain ⟨t411, A50, H⟩ := H
     replace H : (if t411 = true then (if x5_1.length < 17592186044416 then (torusref07_Meet.l0 k1 l0 l1 (x5_1 ++ [rd l0 x6_1]) (wrap64 (x6_1 + 1))) else (none)) else (torusref07_Meet.l0 k1 l0 l1 x5_1 (wrap64 (x6_1 + 1)))) = some r := H
     have A5 := Aside0.mk A50
     clear A50
     by_cases c6 : t411 = true
     ·subst c6
      have H1 : (if x5_1.length < 17592186044416 then (torusref07_Meet.l0 k1 l0 l1 (x5_1 ++ [rd l0 x6_1]) (wrap64 (x6_1 + 1))) else (none)) = some r := by rw [if_pos rfl] at H; exact H
      clear H
      have H := H1
      clear H1
      by_cases c7 : x5_1.length < 17592186044416
      ·rw [if_pos c7] at H
       have LMc7 := Aside0.mk c7
       clear c7
       obtain ⟨y413, hy413⟩ : ∃ y_ : List Int, y_ = (x5_1 ++ [rd l0 x6_1]) := ⟨_, rfl⟩
       replace H : (torusref07_Meet.l0 k1 l0 l1 y413 (wrap64 (x6_1 + 1))) = some r := by first | (rw [hy413]; with_reducible exact H) | (have H2_ := (Option.bind_some _ _).symm.trans H; rw [hy413]; with_reducible exact H2_) | (have H2_ := (Option.bind_some _ _).symm.trans H; with_reducible exact H2_) | with_reducible exact H | (rw [hy413]; exact H) | exact H
       have Ny413 := Aside0.mk hy413
       clear hy413
       have H' := Aside0.mk H
       clear H
       have p410 : 0 ≤ (x6_1 : Int) := of_decide_eq_true as_
       have q410 : x6_1 < (l0.length : Int) := of_decide_eq_true as_
       obtain ⟨ad410, e410, hx410_0⟩ := Kd.at_int HR0.out x6_1 p410 q410
       cases e410
       replace hx410_0 := (HB.out.cell (World.block_lt_of_cell? w _ hx410_0)).trans hx410_0
       replace p410 := eq_true p410
       replace q410 := eq_true q410
       go_wp2_with (first | ((with_reducible refine gate_callee (f := 46) rfl ?_); refine goesL_ (some 18) rfl rfl Tryd.func46 (by kernel_rfl) rfl #[.slice A1 l1.length c1, .int .i64 (rd l0 x6_1)] rfl ag_ ?_; (with_reducible refine (torusref07_In.calls k1 _ _ l1 (rd l0 x6_1) true _ ?side1 ?side2 A5.out).mono ?_); (case side1 => exact cs_ (Kd.C_below HR1.out HB.out)); (case side2 => exact HC1.out); rintro e w' ⟨rfl, ⟨nd, rfl⟩⟩; refine ⟨_, rfl, ?_⟩; have p412 : 0 ≤ (x6_1 : Int) := of_decide_eq_true as_; have q412 : x6_1 < (l0.length : Int) := of_decide_eq_true as_; obtain ⟨ad412, e412, hx412_0⟩ := Kd.at_int HR0.out x6_1 p412 q412; obtain rfl : ad410 = ad412 := (by injection e412); replace hx412_0 := (HB.out.cell (World.block_lt_of_cell? w _ hx412_0)).trans hx412_0; replace p412 := eq_true p412; replace q412 := eq_true q412) | ((with_reducible refine gate_builtin (b := .append) (xs := #[.tmp 19, .tmp 24]) rfl ?_); at_builtin; refine Kd.R_append (Kd.int .i64) (w0 := w) w.heap.size rfl (.tmp 19) (.tmp 24) 22 3 (.int .i64 0) 8 rfl Tryd.underlying22 info3 rfl (by decide) (by omega) u5 x5_1 (rd l0 x6_1) [.int .i64 (rd l0 x6_1)] (fun _ => True) (fun _ => False) rfl rfl ?aP (fun _ hk => hk.elim) ?aF ?aO ?aB ?aS ?aL ?_; (case aP => exact rfl); (case aB => exact bw_); (case aF => exact (fun _ _ => trivial)); (case aO => exact (rRa_ HO_5.out)); (case aS => exact (below_size bw_)); (case aL => have := LMc7.out; omega); intro v414 w8 ho hb hg hat; rw [← Ny413.out] at ho; have n0_ := Aside0.mk (hb); have n1_ := Aside0.mk (ho); clear HB; clear HO_5; have HB := n0_; have HO415 := n1_; clear n0_ n1_; clear ho hb hg hat))
       go_roundg k1
       case measure => have := HK1.out; omega
       case rel => exact ⟨(y413), (wrap64 (x6_1 + 1)), sd_, H', ⟨by have := HK1.out; omega⟩, ⟨rRa_ HO415.out⟩, ⟨bw_⟩⟩
      ·rw [if_neg c7] at H
       exact absurd H (by simp)
     ·replace c6 := Bool.eq_false_iff.mpr c6
      subst c6
      have H1 : (torusref07_Meet.l0 k1 l0 l1 x5_1 (wrap64 (x6_1 + 1))) = some r := by rw [if_neg (show ¬ (false = true) by decide)] at H; exact H
      clear H
      have H := H1
      clear H1
      have H' := Aside0.mk H
      clear H
      have p410 : 0 ≤ (x6_1 : Int) := of_decide_eq_true as_
      have q410 : x6_1 < (l0.length : Int) := of_decide_eq_true as_
      obtain ⟨ad410, e410, hx410_0⟩ := Kd.at_int HR0.out x6_1 p410 q410
      cases e410
      replace hx410_0 := (HB.out.cell (World.block_lt_of_cell? w _ hx410_0)).trans hx410_0
      replace p410 := eq_true p410
      replace q410 := eq_true q410
      go_wp2_with (first | ((with_reducible refine gate_callee (f := 46) rfl ?_); refine goesL_ (some 18) rfl rfl Tryd.func46 (by kernel_rfl) rfl #[.slice A1 l1.length c1, .int .i64 (rd l0 x6_1)] rfl ag_ ?_; (with_reducible refine (torusref07_In.calls k1 _ _ l1 (rd l0 x6_1) false _ ?side1 ?side2 A5.out).mono ?_); (case side1 => exact cs_ (Kd.C_below HR1.out HB.out)); (case side2 => exact HC1.out); rintro e w' ⟨rfl, ⟨nd, rfl⟩⟩; refine ⟨_, rfl, ?_⟩))
      go_roundg k1
      case measure => have := HK1.out; omega
      case rel => exact ⟨(x5_1), (wrap64 (x6_1 + 1)), sd_, H', ⟨by have := HK1.out; omega⟩, ⟨rRa_ HO_5.out⟩, ⟨bw_⟩⟩
    ·rw [if_neg c4] at H
     exact absurd H (by simp)
   ·rw [if_neg c3] at H
    have c3b0 : decide (x6_1 < (l0.length : Int)) = false := decide_eq_false c3
    clear c3
    obtain rfl := Option.some.inj H
    go_wp2
    go_ret
    exact ⟨_, by first | rfl | (simp [errW_none, errW_some] <;> rfl) | (simp [*, errW_none, errW_some] <;> rfl), rRa_ HO_5.out, bw_⟩

end Go.Proofs.YticckanjfdcpaaaDoor.PSimplex
namespace Go.Proofs.YticckanjfdcpaaaDoor.PSimplex
open Go.RowKit Go.Proofs.YticckanjfdcpaaaDoorW.PrintWords Go.Proofs.YticckanjfdcpaaaDoorW.PrintLast Go.Proofs.YticckanjfdcpaaaDoorW.PrintMore
set_option linter.unusedVariables false
set_option linter.unusedSimpArgs false

theorem con_l (l : List Int) (x : Int) (hl : l.length ≤ 1000) : ∀ (m i : Nat), m = l.length - i → i ≤ l.length →
    Ev (fun k => (api_Simplex_int_64.l0 k l x (l.length : Int) (i : Int)).bind fun t => some (decide (t ≥ 0))) (decide (x ∈ l.drop i))
  | 0, i, hm, hi => by
    rw [List.drop_of_length_le (by omega)]
    refine ev_succ ?_
    simp only [api_Simplex_int_64.l0, if_neg (show ¬ ((i : Int) < (l.length : Int)) by omega), Option.bind_some]
    exact Ev.now _
  | m + 1, i, hm, hi => by
    have ih := con_l l x hl m (i + 1) (by omega) (by omega)
    rw [drop_cons l i (by omega)]
    refine ev_succ ?_
    simp only [api_Simplex_int_64.l0, if_pos (show ((i : Int) < (l.length : Int)) by omega), if_pos (show (0 : Int) ≤ (i : Int) by omega), wrap_nat i (by omega)]
    by_cases c : x = rd l (i : Int)
    · simp only [if_pos c, Option.bind_some]
      have e : decide (x ∈ rd l (i : Int) :: l.drop (i + 1)) = decide ((i : Int) ≥ 0) := by rw [decide_eq_true (show x ∈ rd l (i : Int) :: l.drop (i + 1) by simp [c]), decide_eq_true (by omega)]
      rw [e]
      exact Ev.now _
    · simp only [if_neg c]
      have e : decide (x ∈ rd l (i : Int) :: l.drop (i + 1)) = decide (x ∈ l.drop (i + 1)) := by simp [c]
      rw [e]
      exact ih
theorem con_ev (l : List Int) (x : Int) (hl : l.length ≤ 1000) : Ev (fun k => api_Simplex_int_49.f k l x) (decide (x ∈ l)) := by
  have := con_l l x hl l.length 0 (by omega) (by omega)
  simpa [api_Simplex_int_49.f, api_Simplex_int_64.f] using this
theorem in_l (l : List Int) (x : Int) (hl : l.length ≤ 1000) : ∀ (m i : Nat), m = l.length - i → i ≤ l.length → Ev (fun k => torusref07_In.l0 k l x (i : Int)) (decide (x ∈ l.drop i))
  | 0, i, hm, hi => by
    rw [List.drop_of_length_le (by omega)]
    refine ev_succ ?_
    simp only [torusref07_In.l0, if_neg (show ¬ ((i : Int) < (l.length : Int)) by omega)]
    exact Ev.now _
  | m + 1, i, hm, hi => by
    have ih := in_l l x hl m (i + 1) (by omega) (by omega)
    rw [drop_cons l i (by omega)]
    refine ev_succ ?_
    simp only [torusref07_In.l0, if_pos (show ((i : Int) < (l.length : Int)) by omega), if_pos (show (0 : Int) ≤ (i : Int) by omega), wrap_nat i (by omega)]
    by_cases c : rd l (i : Int) = x
    · simp only [if_pos c]
      rw [decide_eq_true (show x ∈ rd l (i : Int) :: l.drop (i + 1) by simp [c])]
      exact Ev.now _
    · simp only [if_neg c]
      have e : decide (x ∈ rd l (i : Int) :: l.drop (i + 1)) = decide (x ∈ l.drop (i + 1)) := by
        have c' : ¬ (x = rd l (i : Int)) := fun h => c h.symm
        simp [c']
      rw [e]
      exact ih
theorem in_ev (l : List Int) (x : Int) (hl : l.length ≤ 1000) : Ev (fun k => torusref07_In.f k l x) (decide (x ∈ l)) := by
  have := in_l l x hl l.length 0 (by omega) (by omega)
  simpa [torusref07_In.f] using this
def hasB (a b : List Int) : Bool := b.all (fun v => decide (v ∈ a))
theorem shas_l (a b : List Int) (ha : a.length ≤ 1000) (hb : b.length ≤ 1000) : ∀ (m i : Nat), m = b.length - i → i ≤ b.length →
    Ev (fun k => (has_ix.l0 k b a (b.length : Int) (i : Int)).bind fun t => some (!(decide (t ≥ 0)))) (hasB a (b.drop i))
  | 0, i, hm, hi => by
    rw [List.drop_of_length_le (by omega)]
    refine ev_succ ?_
    simp only [has_ix.l0, if_neg (show ¬ ((i : Int) < (b.length : Int)) by omega), Option.bind_some]
    exact Ev.now _
  | m + 1, i, hm, hi => by
    have ih := shas_l a b ha hb m (i + 1) (by omega) (by omega)
    rw [drop_cons b i (by omega)]
    refine ev_succ ?_
    simp only [has_ix.l0, if_pos (show ((i : Int) < (b.length : Int)) by omega), if_pos (show (0 : Int) ≤ (i : Int) by omega), wrap_nat i (by omega), Option.bind_assoc]
    refine (ev_bind (con_ev a (rd b (i : Int)) ha)).mpr ?_
    by_cases c : rd b (i : Int) ∈ a
    · simp only [decide_eq_true c, if_true]
      have e : hasB a (rd b (i : Int) :: b.drop (i + 1)) = hasB a (b.drop (i + 1)) := by simp [hasB, c]
      rw [e]
      exact ih
    · simp only [decide_eq_false c, Bool.false_eq_true, if_false, Option.bind_some]
      have e : hasB a (rd b (i : Int) :: b.drop (i + 1)) = !(decide ((i : Int) ≥ 0)) := by simp [hasB, c]
      rw [e]
      exact Ev.now _
theorem shas_ev (a b : List Int) (ha : a.length ≤ 1000) (hb : b.length ≤ 1000) : Ev (fun k => simplex_Has.f k a b) (hasB a b) := by
  have := shas_l a b ha hb b.length 0 (by omega) (by omega)
  simpa [simplex_Has.f] using this
theorem rhas_l (a b : List Int) (ha : a.length ≤ 1000) (hb : b.length ≤ 1000) : ∀ (m i : Nat), m = b.length - i → i ≤ b.length → Ev (fun k => torusref07_Has.l0 k a b (i : Int)) (hasB a (b.drop i))
  | 0, i, hm, hi => by
    rw [List.drop_of_length_le (by omega)]
    refine ev_succ ?_
    simp only [torusref07_Has.l0, if_neg (show ¬ ((i : Int) < (b.length : Int)) by omega)]
    exact Ev.now _
  | m + 1, i, hm, hi => by
    have ih := rhas_l a b ha hb m (i + 1) (by omega) (by omega)
    rw [drop_cons b i (by omega)]
    refine ev_succ ?_
    simp only [torusref07_Has.l0, if_pos (show ((i : Int) < (b.length : Int)) by omega), if_pos (show (0 : Int) ≤ (i : Int) by omega), wrap_nat i (by omega)]
    refine (ev_bind (in_ev a (rd b (i : Int)) ha)).mpr ?_
    by_cases c : rd b (i : Int) ∈ a
    · simp only [decide_eq_true c, if_true]
      have e : hasB a (rd b (i : Int) :: b.drop (i + 1)) = hasB a (b.drop (i + 1)) := by simp [hasB, c]
      rw [e]
      exact ih
    · simp only [decide_eq_false c, Bool.false_eq_true, if_false]
      have e : hasB a (rd b (i : Int) :: b.drop (i + 1)) = false := by simp [hasB, c]
      rw [e]
      exact Ev.now _
theorem rhas_ev (a b : List Int) (ha : a.length ≤ 1000) (hb : b.length ≤ 1000) : Ev (fun k => torusref07_Has.f k a b) (hasB a b) := by
  have := rhas_l a b ha hb b.length 0 (by omega) (by omega)
  simpa [torusref07_Has.f] using this
def meetL (a b : List Int) : List Int := a.filter (fun v => decide (v ∈ b))
theorem meetL_cons (v : Int) (a b : List Int) : meetL (v :: a) b = if v ∈ b then v :: meetL a b else meetL a b := by
  by_cases c : v ∈ b <;> simp [meetL, c]
theorem meetL_len (a b : List Int) : (meetL a b).length ≤ a.length := List.length_filter_le _ _
theorem smeet_l (a b : List Int) (ha : a.length ≤ 1000) (hb : b.length ≤ 1000) : ∀ (m i : Nat) (acc : List Int), m = a.length - i → i ≤ a.length → acc.length ≤ i →
    Ev (fun k => simplex_Meet.l0 k b acc a (a.length : Int) (i : Int)) (acc ++ meetL (a.drop i) b)
  | 0, i, acc, hm, hi, hc => by
    rw [List.drop_of_length_le (by omega)]
    refine ev_succ ?_
    simp only [simplex_Meet.l0, if_neg (show ¬ ((i : Int) < (a.length : Int)) by omega), meetL, List.filter_nil, List.append_nil]
    exact Ev.now _
  | m + 1, i, acc, hm, hi, hc => by
    rw [drop_cons a i (by omega), meetL_cons]
    refine ev_succ ?_
    simp only [simplex_Meet.l0, if_pos (show ((i : Int) < (a.length : Int)) by omega), if_pos (show (0 : Int) ≤ (i : Int) by omega), wrap_nat i (by omega)]
    refine (ev_bind (con_ev b (rd a (i : Int)) hb)).mpr ?_
    by_cases c : rd a (i : Int) ∈ b
    · simp only [decide_eq_true c, if_true, if_pos c, if_pos (show acc.length < 17592186044416 by omega)]
      have := smeet_l a b ha hb m (i + 1) (acc ++ [rd a (i : Int)]) (by omega) (by omega) (by simp; omega)
      simpa using this
    · simp only [decide_eq_false c, Bool.false_eq_true, if_false, if_neg c]
      exact smeet_l a b ha hb m (i + 1) acc (by omega) (by omega) (by omega)
theorem smeet_ev (a b : List Int) (ha : a.length ≤ 1000) (hb : b.length ≤ 1000) : Ev (fun k => simplex_Meet.f k a b) (meetL a b) := by
  have := smeet_l a b ha hb a.length 0 [] (by omega) (by omega) (by simp)
  simpa [simplex_Meet.f] using this
theorem rmeet_l (a b : List Int) (ha : a.length ≤ 1000) (hb : b.length ≤ 1000) : ∀ (m i : Nat) (acc : List Int), m = a.length - i → i ≤ a.length → acc.length ≤ i →
    Ev (fun k => torusref07_Meet.l0 k a b acc (i : Int)) (acc ++ meetL (a.drop i) b)
  | 0, i, acc, hm, hi, hc => by
    rw [List.drop_of_length_le (by omega)]
    refine ev_succ ?_
    simp only [torusref07_Meet.l0, if_neg (show ¬ ((i : Int) < (a.length : Int)) by omega), meetL, List.filter_nil, List.append_nil]
    exact Ev.now _
  | m + 1, i, acc, hm, hi, hc => by
    rw [drop_cons a i (by omega), meetL_cons]
    refine ev_succ ?_
    simp only [torusref07_Meet.l0, if_pos (show ((i : Int) < (a.length : Int)) by omega), if_pos (show (0 : Int) ≤ (i : Int) by omega), wrap_nat i (by omega)]
    refine (ev_bind (in_ev b (rd a (i : Int)) hb)).mpr ?_
    by_cases c : rd a (i : Int) ∈ b
    · simp only [decide_eq_true c, if_true, if_pos c, if_pos (show acc.length < 17592186044416 by omega)]
      have := rmeet_l a b ha hb m (i + 1) (acc ++ [rd a (i : Int)]) (by omega) (by omega) (by simp; omega)
      simpa using this
    · simp only [decide_eq_false c, Bool.false_eq_true, if_false, if_neg c]
      exact rmeet_l a b ha hb m (i + 1) acc (by omega) (by omega) (by omega)
theorem rmeet_ev (a b : List Int) (ha : a.length ≤ 1000) (hb : b.length ≤ 1000) : Ev (fun k => torusref07_Meet.f k a b) (meetL a b) := by
  have := rmeet_l a b ha hb a.length 0 [] (by omega) (by omega) (by simp)
  simpa [torusref07_Meet.f] using this
end Go.Proofs.YticckanjfdcpaaaDoor.PSimplex
namespace Go.Proofs.YticckanjfdcpaaaDoor.PSimplex
open Go.RowKit Go.Proofs.YticckanjfdcpaaaDoorW.PrintWords Go.Proofs.YticckanjfdcpaaaDoorW.PrintLast Go.Proofs.YticckanjfdcpaaaDoorW.PrintMore
set_option linter.unusedVariables false
set_option linter.unusedSimpArgs false

theorem insR_count (f : Int → Bool) : ∀ R x, (insR R x).countP f = (x :: R).countP f
  | [], x => rfl
  | a :: R, x => by
    unfold insR
    split
    · have := insR_count f R x
      simp only [List.countP_cons] at this ⊢
      omega
    · rfl
theorem srt_count (f : Int → Bool) : ∀ B R, (srt R B).countP f = R.countP f + B.countP f
  | [], R => by simp [srt]
  | x :: B, R => by
    rw [srt, srt_count f B, insR_count]
    simp only [List.countP_cons]
    omega
theorem desc_pair : ∀ R, desc R → R.Pairwise (fun a b => b ≤ a)
  | [], _ => List.Pairwise.nil
  | a :: R, h => List.Pairwise.cons h.1 (desc_pair R h.2)
theorem srt_pair : ∀ B R, desc R → (srt R B).Pairwise (fun a b => a ≤ b)
  | [], R, h => by
    rw [srt, List.pairwise_reverse]
    exact desc_pair R h
  | x :: B, R, h => srt_pair B _ (insR_desc R x h)
theorem asc_of_pair : ∀ (l : List Int), l.Pairwise (fun a b => a ≤ b) → (∀ p : Int, l.countP (· == p) ≤ 1) → asc l = true
  | [], _, _ => rfl
  | [_], _, _ => rfl
  | x :: y :: t, h, hc => by
    have h1 := (List.pairwise_cons.1 h).1 y List.mem_cons_self
    have h2 : x ≠ y := fun e => by
      have := hc x
      rw [List.countP_cons, List.countP_cons, e] at this
      simp at this
    have h3 := asc_of_pair (y :: t) (List.pairwise_cons.1 h).2 (fun p => by
      have := hc p
      rw [List.countP_cons] at this
      omega)
    simp only [asc, Bool.and_eq_true, decide_eq_true_eq]
    exact ⟨by omega, h3⟩
theorem any_count (t : List Int) : t.any bad = decide (0 < t.countP bad) := by
  rw [Bool.eq_iff_iff]
  simp [List.countP_pos_iff]
theorem srt_ck (l : List Int) (h1 : 1 ≤ l.length) (h2 : l.length ≤ 5) (h3 : l.any bad = false) (h4 : ∀ p : Int, l.countP (· == p) ≤ 1) : ck (srt [] l) = 0 := by
  refine ck_of ?_ ?_ ?_ ?_
  · rw [srt_len]; simpa using h1
  · rw [srt_len]; simpa using h2
  · rw [any_count, srt_count]
    rw [any_count] at h3
    simpa using h3
  · exact asc_of_pair _ (srt_pair l [] trivial) (fun p => by rw [srt_count]; simpa using h4 p)
theorem vfin (acc : List Int) (h2 : acc.length ≤ 5) (h3 : acc.any bad = false) (h4 : ∀ p : Int, acc.countP (· == p) ≤ 1) (l : List Int) (i : Int) :
    ∃ s, Ev (fun k => torusref07_Valid.j1 k l 5 64 acc i false) s ∧ ck s = 0 := by
  by_cases c : acc.length = 0
  · have e : acc = [] := List.length_eq_zero_iff.1 c
    subst e
    refine ⟨srt [] [0], ?_, by decide⟩
    refine ev_succ ?_
    simp only [torusref07_Valid.j1, Bool.false_eq_true, if_false, List.length_nil, if_pos (show ((0 : Nat) : Int) = 0 from rfl), if_pos (show 0 < 17592186044416 by omega), List.nil_append]
    refine (ev_bind (rsorted_ev [0] (by simp))).mpr ?_
    exact Ev.now _
  · refine ⟨srt [] acc, ?_, srt_ck acc (by omega) h2 h3 h4⟩
    refine ev_succ ?_
    simp only [torusref07_Valid.j1, Bool.false_eq_true, if_false, if_neg (show ¬ ((acc.length : Int) = 0) by omega)]
    refine (ev_bind (rsorted_ev acc (by omega))).mpr ?_
    exact Ev.now _
theorem val_l (l : List Int) (hl : l.length ≤ 1000) (hw : ∀ x ∈ l, -9223372036854775808 ≤ x ∧ x ≤ 9223372036854775807) : ∀ (m i : Nat) (acc : List Int), m = l.length - i → i ≤ l.length → acc.length ≤ 5 → acc.any bad = false → (∀ p : Int, acc.countP (· == p) ≤ 1) →
    ∃ s, Ev (fun k => torusref07_Valid.l0 k l 5 64 acc (i : Int)) s ∧ ck s = 0
  | 0, i, acc, hm, hi, h2, h3, h4 => by
    obtain ⟨s, hs, hk⟩ := vfin acc h2 h3 h4 l (i : Int)
    refine ⟨s, ev_succ ?_, hk⟩
    simp only [torusref07_Valid.l0, if_neg (show ¬ ((i : Int) < (l.length : Int)) by omega)]
    exact hs
  | m + 1, i, acc, hm, hi, h2, h3, h4 => by
    by_cases c : acc.length < 5
    · obtain ⟨v, hv⟩ : ∃ v, v = Int.tmod (wrap64 (Int.tmod (rd l (i : Int)) 64 + 64)) 64 := ⟨_, rfl⟩
      have hvb : 0 ≤ v ∧ v < 64 := by
        have h5 : -64 < Int.tmod (rd l (i : Int)) 64 ∧ Int.tmod (rd l (i : Int)) 64 < 64 := ⟨Int.lt_tmod_of_pos _ (by decide), Int.tmod_lt_of_pos _ (by decide)⟩
        rw [hv, wrap_id (by omega) (by omega), Int.tmod_eq_emod_of_nonneg (by omega)]
        omega
      by_cases c2 : v ∈ acc
      · obtain ⟨s, hs, hk⟩ := val_l l hl hw m (i + 1) acc (by omega) (by omega) h2 h3 h4
        refine ⟨s, ev_succ ?_, hk⟩
        simp only [torusref07_Valid.l0, if_pos (show ((i : Int) < (l.length : Int)) by omega), decide_eq_true (show (acc.length : Int) < 5 by omega)]
        refine ev_succ ?_
        simp only [torusref07_Valid.j1, if_true, if_pos (show (0 : Int) ≤ (i : Int) by omega), if_pos (show ((i : Int) < (l.length : Int)) by omega), if_neg (show ¬ ((64 : Int) = 0) by omega), ← hv, wrap_nat i (by omega)]
        refine (ev_bind (in_ev acc v (by omega))).mpr ?_
        simp only [decide_eq_true c2, if_true]
        exact hs
      · obtain ⟨s, hs, hk⟩ := val_l l hl hw m (i + 1) (acc ++ [v]) (by omega) (by omega) (by simp; omega) (by
            rw [List.any_append, h3]
            simp [bad]
            omega) (fun p => by
            have := h4 p
            rw [List.countP_append, List.countP_cons, List.countP_nil]
            by_cases e : v = p
            · have h0 : acc.countP (· == p) = 0 := by
                rw [List.countP_eq_zero]
                intro b hb hbp
                exact c2 (by rw [e]; simpa [show b = p by simpa using hbp] using hb)
              rw [h0]
              split <;> omega
            · simp [e]
              exact this)
        refine ⟨s, ev_succ ?_, hk⟩
        simp only [torusref07_Valid.l0, if_pos (show ((i : Int) < (l.length : Int)) by omega), decide_eq_true (show (acc.length : Int) < 5 by omega)]
        refine ev_succ ?_
        simp only [torusref07_Valid.j1, if_true, if_pos (show (0 : Int) ≤ (i : Int) by omega), if_pos (show ((i : Int) < (l.length : Int)) by omega), if_neg (show ¬ ((64 : Int) = 0) by omega), ← hv, wrap_nat i (by omega)]
        refine (ev_bind (in_ev acc v (by omega))).mpr ?_
        simp only [decide_eq_false c2, Bool.false_eq_true, if_false, if_pos (show acc.length < 17592186044416 by omega)]
        exact hs
    · obtain ⟨s, hs, hk⟩ := vfin acc h2 h3 h4 l (i : Int)
      refine ⟨s, ev_succ ?_, hk⟩
      simp only [torusref07_Valid.l0, if_pos (show ((i : Int) < (l.length : Int)) by omega), decide_eq_false (show ¬ ((acc.length : Int) < 5) by omega)]
      exact hs
theorem valid_ev (l : List Int) (hl : l.length ≤ 1000) (hw : ∀ x ∈ l, -9223372036854775808 ≤ x ∧ x ≤ 9223372036854775807) : ∃ s, Ev (fun k => torusref07_Valid.f k l 5 64) s ∧ ck s = 0 := by
  have := val_l l hl hw l.length 0 [] (by omega) (by omega) (by simp) (by simp) (by simp)
  simpa [torusref07_Valid.f] using this
theorem asc_take : ∀ (l : List Int) (n : Nat), asc l = true → asc (l.take n) = true
  | [], n, h => by simp [asc]
  | x :: t, 0, h => by simp [asc]
  | [x], n + 1, h => by simp [asc]
  | x :: y :: t, 1, h => by simp [asc]
  | x :: y :: t, n + 2, h => by
    simp only [asc, Bool.and_eq_true] at h
    have := asc_take (y :: t) (n + 1) h.2
    simp only [List.take_succ_cons, asc, Bool.and_eq_true] at this ⊢
    exact ⟨h.1, this⟩
theorem ck_take (l : List Int) (n : Nat) (h : ck l = 0) (hn : 1 ≤ n) : ck (l.take n) = 0 := by
  obtain ⟨h1, h2, h3, h4⟩ := ck_ok h
  refine ck_of (by simp; omega) (by simp; omega) ?_ (asc_take l n h4)
  rw [List.any_eq_false] at h3 ⊢
  exact fun x hx => h3 x (List.mem_of_mem_take hx)
end Go.Proofs.YticckanjfdcpaaaDoor.PSimplex
namespace Go.Proofs.YticckanjfdcpaaaDoor.PSimplex
open Go.RowKit Go.Proofs.YticckanjfdcpaaaDoorW.PrintWords Go.Proofs.YticckanjfdcpaaaDoorW.PrintLast Go.Proofs.YticckanjfdcpaaaDoorW.PrintMore
set_option linter.unusedVariables false
set_option linter.unusedSimpArgs false

theorem asc_pair : ∀ (l : List Int), asc l = true → l.Pairwise (fun a b => a < b)
  | [], _ => List.Pairwise.nil
  | [x], _ => List.pairwise_singleton _ _
  | x :: y :: t, h => by
    simp only [asc, Bool.and_eq_true, decide_eq_true_eq] at h
    have ih := asc_pair (y :: t) h.2
    refine List.Pairwise.cons (fun b hb => ?_) ih
    rcases List.mem_cons.1 hb with e | e
    · omega
    · have := (List.pairwise_cons.1 ih).1 b e
      omega
theorem pair_asc : ∀ (l : List Int), l.Pairwise (fun a b => a < b) → asc l = true
  | [], _ => rfl
  | [x], _ => rfl
  | x :: y :: t, h => by
    simp only [asc, Bool.and_eq_true, decide_eq_true_eq]
    exact ⟨(List.pairwise_cons.1 h).1 y List.mem_cons_self, pair_asc (y :: t) (List.pairwise_cons.1 h).2⟩
theorem bad_at (l : List Int) (hb : l.any bad = false) (i : Nat) (hi : i < l.length) : 0 ≤ rd l (i : Int) ∧ rd l (i : Int) < 64 := by
  have h1 : bad (rd l (i : Int)) = false := by
    rw [List.any_eq_false] at hb
    have := hb (rd l (i : Int)) (by simp [rd, hi])
    simpa using this
  simp [bad] at h1
  omega
theorem ck_erase (s : List Int) (j : Nat) (h : ck s = 0) (h2 : 2 ≤ s.length) : ck (s.eraseIdx j) = 0 := by
  obtain ⟨h1, hl, hb, ha⟩ := ck_ok h
  have hs := List.eraseIdx_sublist s j
  refine ck_of ?_ ?_ ?_ (pair_asc _ ((asc_pair s ha).sublist hs))
  · rw [List.length_eraseIdx]; split <;> omega
  · have := hs.length_le; omega
  · rw [List.any_eq_false] at hb ⊢
    exact fun x hx => hb x (hs.subset hx)
theorem without_at (s : List Int) (i : Nat) (hi : i < s.length) (hl : s.length ≤ 1000) : simplex_without.f s (i : Int) = some (s.eraseIdx i) := by
  unfold simplex_without.f
  have hw := wrap_nat i (by omega)
  simp only [Option.bind_some, if_pos (show (0 : Int) ≤ (i : Int) by omega), if_pos (show (i : Int) ≤ (s.length : Int) by omega), List.length_nil, Int.toNat_natCast, hw, if_pos (show (0 : Int) ≤ ((i + 1 : Nat) : Int) by omega), if_pos (show ((i + 1 : Nat) : Int) ≤ (s.length : Int) by omega), List.nil_append, List.length_take, List.length_drop,
    if_pos (show 0 + min i s.length < 17592186044416 by omega), if_pos (show min i s.length + (s.length - (i + 1)) < 17592186044416 by omega)]
  rw [List.eraseIdx_eq_take_drop_succ]
/-- The facets. -/
def fcs (s : List Int) : List (List Int) := (List.range s.length).map (fun i => s.eraseIdx i)
theorem facets_l (s : List Int) (hl : s.length ≤ 1000) : ∀ (m i : Nat) (acc : List (List Int)), m = s.length - i → i ≤ s.length → acc.length = i →
    Ev (fun k => simplex_Facets.l0 k s acc (s.length : Int) (i : Int)) (acc ++ (List.range' i m).map (fun i => s.eraseIdx i), 0)
  | 0, i, acc, hm, hi, ha => by
    refine ev_succ ?_
    simp only [simplex_Facets.l0, if_neg (show ¬ ((i : Int) < (s.length : Int)) by omega), List.range'_zero, List.map_nil, List.append_nil]
    exact Ev.now _
  | m + 1, i, acc, hm, hi, ha => by
    have ih := facets_l s hl m (i + 1) (acc ++ [s.eraseIdx i]) (by omega) (by omega) (by simp; omega)
    refine ev_succ ?_
    simp only [simplex_Facets.l0, if_pos (show (i : Int) < (s.length : Int) by omega), without_at s i (by omega) hl, Option.bind_some, if_pos (show acc.length < 5864062014805 by omega), wrap_nat i (by omega)]
    rw [List.range'_succ, List.map_cons]
    rw [List.append_assoc] at ih
    exact ih
theorem facets_ev (s : List Int) (h : ck s = 0) : Ev (fun k => simplex_Facets.f k s) (if s.length = 1 then [] else fcs s, 0) := by
  obtain ⟨h1, hl, hb, ha⟩ := ck_ok h
  unfold simplex_Facets.f
  refine (ev_bind (scheck_ev s)).mpr ?_
  simp only [h, if_true]
  by_cases c : s.length = 1
  · have e : ((s.length : Int) == 1) = true := by simp [c]
    rw [if_pos c, e]
    refine ev_succ ?_
    simp only [simplex_Facets.j0, if_true]
    exact Ev.now _
  · have e : ((s.length : Int) == 1) = false := by simp; omega
    rw [if_neg c, e]
    refine ev_succ ?_
    simp only [simplex_Facets.j0, Bool.false_eq_true, if_false]
    have := facets_l s (by omega) s.length 0 [] (by omega) (by omega) rfl
    simpa [fcs, List.range_eq_range'] using this

/-! ### The search -/
theorem pair_rd (s : List Int) (h : asc s = true) (i j : Nat) (hij : i < j) (hj : j < s.length) : rd s (i : Int) < rd s (j : Int) := by
  have := (List.pairwise_iff_getElem.1 (asc_pair s h)) i j (by omega) hj hij
  simpa [rd, show i < s.length by omega, hj] using this
/-- The place of u among the elements. -/
def at_ (s : List Int) (u : Int) : Nat := s.countP (fun x => decide (x < u))
theorem at_unique : ∀ (s : List Int) (u : Int) (p : Nat), p ≤ s.length → (∀ t, t < p → rd s (t : Int) < u) → (∀ t, p ≤ t → t < s.length → u ≤ rd s (t : Int)) → at_ s u = p
  | [], u, p, hp, _, _ => by simp at hp; subst hp; rfl
  | x :: s, u, 0, hp, _, h2 => by
    unfold at_
    rw [List.countP_eq_zero]
    intro b hb
    obtain ⟨t, ht, e⟩ := List.getElem_of_mem hb
    have := h2 t (by omega) ht
    rw [show rd (x :: s) (t : Int) = b by
      unfold rd
      rw [Int.toNat_natCast, List.getD_eq_getElem?_getD, List.getElem?_eq_getElem ht]
      exact e] at this
    simp
    omega
  | x :: s, u, p + 1, hp, h1, h2 => by
    have hx := h1 0 (by omega)
    have e0 : rd (x :: s) ((0 : Nat) : Int) = x := by simp [rd]
    rw [e0] at hx
    have es : ∀ t : Nat, rd (x :: s) ((t + 1 : Nat) : Int) = rd s (t : Int) := fun t => by simp [rd]
    have := at_unique s u p (by simp at hp; omega) (fun t ht => by have := h1 (t + 1) (by omega); rwa [es] at this) (fun t ht hl => by have := h2 (t + 1) (by omega) (by simp; omega); rwa [es] at this)
    unfold at_ at this ⊢
    rw [List.countP_cons, this]
    simp [hx]
theorem search_l (s : List Int) (ha : asc s = true) (hl : s.length ≤ 1000) (u : Int) : ∀ (d i j : Nat), d = j - i → i ≤ j → j ≤ s.length → (∀ t, t < i → rd s (t : Int) < u) → (∀ t, j ≤ t → t < s.length → u ≤ rd s (t : Int)) →
    Ev (fun k => api_Simplex_int_55.l0 k s u (s.length : Int) (i : Int) (j : Int)) ((at_ s u : Int), decide (u ∈ s)) := by
  intro d
  induction d using Nat.strongRecOn with
  | ind d ih =>
    intro i j hd hij hj h1 h2
    refine ev_succ ?_
    by_cases c : i < j
    · have hh : wrap64 ((IntKind.u64.wrap (wrap64 ((i : Int) + (j : Int)))) / 2) = (((i + j) / 2 : Nat) : Int) := by
        have e1 : wrap64 ((i : Int) + (j : Int)) = ((i + j : Nat) : Int) := by rw [wrap_id (by omega) (by omega)]; omega
        have e2 : IntKind.u64.wrap ((i + j : Nat) : Int) = ((i + j : Nat) : Int) := by
          have : IntKind.u64.wrap ((i + j : Nat) : Int) = ((i + j : Nat) : Int) % 18446744073709551616 := by simp [IntKind.wrap, IntKind.signed, IntKind.bits]
          rw [this]
          omega
        rw [e1, e2, wrap_id (by omega) (by omega)]
        omega
      have hm1 : i ≤ (i + j) / 2 := by omega
      have hm2 : (i + j) / 2 < j := by omega
      generalize (i + j) / 2 = q at hh hm1 hm2
      simp only [api_Simplex_int_55.l0, if_pos (show (i : Int) < (j : Int) by omega), hh, if_pos (show (0 : Int) ≤ (q : Int) by omega), if_pos (show (q : Int) < (s.length : Int) by omega), Option.bind_some]
      have hless : cmp_Less_int.f (rd s (q : Int)) u = some (decide (rd s (q : Int) < u)) := less_at _ _
      rw [hless]
      simp only [Option.bind_some]
      by_cases c2 : rd s (q : Int) < u
      · simp only [decide_eq_true c2, if_true, wrap_nat q (by omega)]
        refine ih (j - (q + 1)) (by omega) (q + 1) j rfl (by omega) hj (fun t ht => ?_) h2
        by_cases e : t = q
        · rw [e]; exact c2
        · have := pair_rd s ha t q (by omega) (by omega)
          omega
      · simp only [decide_eq_false c2, Bool.false_eq_true, if_false]
        refine ih (q - i) (by omega) i q rfl (by omega) (by omega) h1 (fun t ht hlt => ?_)
        by_cases e : t = q
        · rw [e]; omega
        · have := pair_rd s ha q t (by omega) hlt
          omega
    · have e : i = j := by omega
      subst e
      have hat := at_unique s u i hj h1 h2
      simp only [api_Simplex_int_55.l0, if_neg (show ¬ ((i : Int) < (i : Int)) by omega)]
      rw [hat]
      have hmem : ∀ b ∈ s, b = u → i < s.length ∧ rd s (i : Int) = u := fun b hb hbu => by
        obtain ⟨t, ht, eb⟩ := List.getElem_of_mem hb
        have er : rd s (t : Int) = u := by simp [rd, ht, eb, hbu]
        have t1 : i ≤ t := by
          by_cases c3 : i ≤ t
          · exact c3
          · have := h1 t (by omega); omega
        have hi2 : i < s.length := by omega
        by_cases e : t = i
        · rw [← e]; exact ⟨by omega, er⟩
        · have h3 := pair_rd s ha i t (by omega) ht
          have h4 := h2 i (Nat.le_refl _) hi2
          omega
      by_cases c2 : i < s.length
      · simp only [if_pos (show (i : Int) < (s.length : Int) by omega), if_pos (show (0 : Int) ≤ (i : Int) by omega)]
        by_cases c3 : rd s (i : Int) = u
        · have hm : u ∈ s := by
            rw [← c3]
            simp [rd, c2]
          simp only [if_pos c3, decide_eq_true hm]
          exact Ev.now _
        · have hm : ¬ u ∈ s := fun hm => c3 (hmem u hm rfl).2
          have hnan : slices_isNaN_int.f (rd s (i : Int)) = some false := by simp [slices_isNaN_int.f]
          simp only [if_neg c3, hnan, Option.bind_some, Bool.false_eq_true, if_false, decide_eq_false hm]
          exact Ev.now _
      · have hm : ¬ u ∈ s := fun hm => c2 (hmem u hm rfl).1
        simp only [if_neg (show ¬ ((i : Int) < (s.length : Int)) by omega), decide_eq_false hm]
        exact Ev.now _
theorem search_ev (s : List Int) (ha : asc s = true) (hl : s.length ≤ 1000) (u : Int) : Ev (fun k => api_Simplex_int_55.f k s u) ((at_ s u : Int), decide (u ∈ s)) := by
  have := search_l s ha hl u s.length 0 s.length rfl (by omega) (by omega) (fun t ht => by omega) (fun t h1 h2 => by omega)
  simpa [api_Simplex_int_55.f] using this
def insAt (s : List Int) (u : Int) : List Int := s.take (at_ s u) ++ [u] ++ s.drop (at_ s u)
def cof1 (s : List Int) (u : Int) : List (List Int) := if u ∈ s then [] else if s.length ≤ 4 then [insAt s u] else []
/-- The cofacets with a new vertex from u on. -/
def cofs (s : List Int) : Nat → Nat → List (List Int)
  | 0, _ => []
  | m + 1, u => cof1 s (u : Int) ++ cofs s m (u + 1)
theorem cof1_len (s : List Int) (u : Int) : (cof1 s u).length ≤ 1 := by
  unfold cof1
  split
  · simp
  · split <;> simp
theorem cofs_l (s : List Int) (ha : asc s = true) (hl : s.length ≤ 5) (n : Nat) (hn : n ≤ 64) : ∀ (m u : Nat) (acc : List (List Int)), m = n - u → u ≤ n → acc.length ≤ u →
    Ev (fun k => simplex_Cofacets.l0 k s acc (n : Int) (u : Int)) (acc ++ cofs s m u, 0)
  | 0, u, acc, hm, hu, hac => by
    refine ev_succ ?_
    simp only [simplex_Cofacets.l0, if_neg (show ¬ ((u : Int) < (n : Int)) by omega), cofs, List.append_nil]
    exact Ev.now _
  | m + 1, u, acc, hm, hu, hac => by
    refine ev_succ ?_
    simp only [simplex_Cofacets.l0, if_pos (show (u : Int) < (n : Int) by omega)]
    refine (ev_bind (search_ev s ha (by omega) (u : Int))).mpr ?_
    have hcl := cof1_len s (u : Int)
    have ih := cofs_l s ha hl n hn m (u + 1) (acc ++ cof1 s (u : Int)) (by omega) (by omega) (by simp; omega)
    rw [List.append_assoc] at ih
    have skip : cof1 s (u : Int) = [] → Ev (fun k => simplex_Cofacets.j2 k s acc (u : Int) (at_ s (u : Int)) (n : Int) (u : Int) false) (acc ++ cofs s (m + 1) u, 0) := fun e => by
      refine ev_succ ?_
      simp only [simplex_Cofacets.j2, Bool.false_eq_true, if_false, wrap_nat u (by omega), cofs]
      rw [e] at ih ⊢
      simpa using ih
    by_cases c : (u : Int) ∈ s
    · simp only [decide_eq_true c, if_true]
      exact skip (by unfold cof1; rw [if_pos c])
    · simp only [decide_eq_false c, Bool.false_eq_true, if_false]
      by_cases c2 : s.length ≤ 4
      · simp only [decide_eq_true (show (s.length : Int) ≤ 4 by omega)]
        have hat : at_ s (u : Int) ≤ s.length := List.countP_le_length
        have hins : api_Simplex_int_56.f s (at_ s (u : Int) : Int) [(u : Int)] = some (insAt s (u : Int)) := by
          unfold api_Simplex_int_56.f
          rw [if_pos ⟨rfl, by omega, by omega, by omega⟩]
          rfl
        have e1 : cof1 s (u : Int) = [insAt s (u : Int)] := by unfold cof1; rw [if_neg c, if_pos c2]
        refine ev_succ ?_
        simp only [simplex_Cofacets.j2, if_true, api_Simplex_int_41.f, if_pos (show s.length < 17592186044416 by omega), Option.bind_some, hins, if_pos (show acc.length < 5864062014805 by omega), wrap_nat u (by omega), cofs]
        rw [e1] at ih ⊢
        simpa using ih
      · simp only [decide_eq_false (show ¬ ((s.length : Int) ≤ 4) by omega)]
        exact skip (by unfold cof1; rw [if_neg c, if_neg c2])
theorem cofacets_ev (s : List Int) (h : ck s = 0) (n : Nat) (hn : n ≤ 64) (hlast : rd s ((s.length - 1 : Nat) : Int) < (n : Int)) : Ev (fun k => simplex_Cofacets.f k s (n : Int)) (cofs s n 0, 0) := by
  obtain ⟨h1, hl, hb, ha⟩ := ck_ok h
  unfold simplex_Cofacets.f
  refine (ev_bind (scheck_ev s)).mpr ?_
  have hw : wrap64 ((s.length : Int) - 1) = ((s.length - 1 : Nat) : Int) := by rw [wrap_id (by omega) (by omega)]; omega
  simp only [h, if_true, if_neg (show ¬ ((n : Int) < 0) by omega), if_neg (show ¬ ((n : Int) > 64) by omega), hw, if_pos (show (0 : Int) ≤ ((s.length - 1 : Nat) : Int) by omega), if_pos (show ((s.length - 1 : Nat) : Int) < (s.length : Int) by omega), decide_eq_false (show ¬ (rd s ((s.length - 1 : Nat) : Int) ≥ (n : Int)) by omega)]
  refine ev_succ ?_
  simp only [simplex_Cofacets.j0, Bool.false_eq_true, if_false]
  have := cofs_l s ha hl n hn n 0 [] (by omega) (by omega) (by simp)
  simpa using this
theorem cofs_mem (s : List Int) (x : List Int) : ∀ (m u : Nat) (v : Nat), u ≤ v → v < u + m → x ∈ cof1 s (v : Int) → x ∈ cofs s m u
  | 0, u, v, h1, h2, _ => by omega
  | m + 1, u, v, h1, h2, hx => by
    rw [cofs, List.mem_append]
    by_cases e : v = u
    · subst e; exact .inl hx
    · exact .inr (cofs_mem s x m (u + 1) v (by omega) (by omega) hx)
theorem cofs_len (s : List Int) : ∀ (m u : Nat), (cofs s m u).length ≤ m
  | 0, _ => by simp [cofs]
  | m + 1, u => by
    have h1 := cof1_len s (u : Int)
    have h2 := cofs_len s m (u + 1)
    simp only [cofs, List.length_append]
    omega
end Go.Proofs.YticckanjfdcpaaaDoor.PSimplex
namespace Go.Proofs.YticckanjfdcpaaaDoor.Pure
open Go.RowKit Go.Proofs.YticckanjfdcpaaaDoor.PSimplex Go.Proofs.YticckanjfdcpaaaDoorW.PrintWords Go.Proofs.YticckanjfdcpaaaDoorW.PrintLast
set_option linter.unusedVariables false
set_option linter.unusedSimpArgs false

theorem erase_erase : ∀ (s : List Int) (i j : Nat), i < j → (s.eraseIdx j).eraseIdx i = (s.eraseIdx i).eraseIdx (j - 1)
  | [], i, j, _ => by simp
  | x :: s, 0, j + 1, _ => by simp
  | x :: s, i + 1, j + 1, h => by
    have := erase_erase s i j (by omega)
    obtain ⟨m, rfl⟩ : ∃ m, j = m + 1 := ⟨j - 1, by omega⟩
    simp only [Nat.add_sub_cancel] at this ⊢
    simp only [List.eraseIdx_cons_succ]
    rw [this]
theorem fcs_len (s : List Int) : (fcs s).length = s.length := by simp [fcs]
theorem fcs_at (s : List Int) (i : Nat) (hi : i < s.length) : rd_L1 (fcs s) (i : Int) = s.eraseIdx i := by
  simp [rd_L1, fcs, hi]
theorem rd_erase_lt (s : List Int) (j t : Nat) (h : t < j) : rd (s.eraseIdx j) (t : Int) = rd s (t : Int) := by
  simp [rd, List.getElem?_eraseIdx, h]
theorem rd_erase_ge (s : List Int) (j t : Nat) (h : j ≤ t) : rd (s.eraseIdx j) (t : Int) = rd s ((t + 1 : Nat) : Int) := by
  simp [rd, List.getElem?_eraseIdx, show ¬ t < j by omega]
/-- A simplex is a cofacet of its facet. -/
theorem cof_self (s : List Int) (h : ck s = 0) (j : Nat) (hj : j < s.length) (h2 : 2 ≤ s.length) : s ∈ cofs (s.eraseIdx j) 64 0 := by
  obtain ⟨h1, hl, hb, ha⟩ := ck_ok h
  have hr := bad_at s hb j hj
  have hlen : (s.eraseIdx j).length = s.length - 1 := by rw [List.length_eraseIdx, if_pos hj]
  have hat : at_ (s.eraseIdx j) (rd s (j : Int)) = j := by
    refine at_unique _ _ _ (by omega) (fun t ht => ?_) (fun t h3 h4 => ?_)
    · rw [rd_erase_lt s j t ht]
      exact pair_rd s ha t j ht hj
    · rw [rd_erase_ge s j t h3]
      have := pair_rd s ha j (t + 1) (by omega) (by omega)
      omega
  have hnot : ¬ rd s (j : Int) ∈ s.eraseIdx j := fun hm => by
    obtain ⟨t, ht, e⟩ := List.getElem_of_mem hm
    have er : rd (s.eraseIdx j) (t : Int) = rd s (j : Int) := by
      unfold rd
      rw [Int.toNat_natCast, List.getD_eq_getElem?_getD, List.getElem?_eq_getElem ht, Option.getD_some, e]
      rfl
    by_cases c : t < j
    · rw [rd_erase_lt s j t c] at er
      have := pair_rd s ha t j c hj
      omega
    · rw [rd_erase_ge s j t (by omega)] at er
      have := pair_rd s ha j (t + 1) (by omega) (by omega)
      omega
  have hins : insAt (s.eraseIdx j) (rd s (j : Int)) = s := by
    unfold insAt
    rw [hat, List.eraseIdx_eq_take_drop_succ]
    have e1 : (s.take j ++ s.drop (j + 1)).take j = s.take j := List.take_left' (by simp; omega)
    have e2 : (s.take j ++ s.drop (j + 1)).drop j = s.drop (j + 1) := List.drop_left' (by simp; omega)
    rw [e1, e2]
    have e3 : s.drop j = rd s (j : Int) :: s.drop (j + 1) := drop_cons s j hj
    calc s.take j ++ [rd s (j : Int)] ++ s.drop (j + 1) = s.take j ++ s.drop j := by rw [e3]; simp
      _ = s := List.take_append_drop j s
  refine cofs_mem _ _ 64 0 (rd s (j : Int)).toNat (by omega) (by omega) ?_
  rw [show (((rd s (j : Int)).toNat : Nat) : Int) = rd s (j : Int) by omega]
  unfold cof1
  rw [if_neg hnot, if_pos (by omega), hins]
  exact List.mem_singleton.2 rfl
/-- The search for the simplex among the cofacets. -/
theorem found_l (s : List Int) (hs : s.length ≤ 5) (l : List (List Int)) (j : Int) (c : List (List Int)) (hc : c.length ≤ 64) (r : Bool) : ∀ (m i : Nat) (b : Bool), m = c.length - i → i ≤ c.length → (b = true ∨ s ∈ c.drop i) →
    Ev (fun k => toruslaw07_SimplexFacets.j5 k s l j false) r → Ev (fun k => toruslaw07_SimplexFacets.l1 k s l j 0 b c (c.length : Int) (i : Int)) r
  | 0, i, b, hm, hi, hb, h => by
    have e : b = true := by
      rcases hb with hb | hb
      · exact hb
      · rw [List.drop_of_length_le (by omega)] at hb; cases hb
    subst e
    refine ev_succ ?_
    simp only [toruslaw07_SimplexFacets.l1, if_neg (show ¬ ((i : Int) < (c.length : Int)) by omega), if_true, Bool.not_true]
    exact h
  | m + 1, i, b, hm, hi, hb, h => by
    refine ev_succ ?_
    simp only [toruslaw07_SimplexFacets.l1, if_pos (show (i : Int) < (c.length : Int) by omega), if_pos (show (0 : Int) ≤ (i : Int) by omega), wrap_nat i (by omega)]
    cases b with
    | true =>
      simp only [if_true]
      exact found_l s hs l j c hc r m (i + 1) true (by omega) (by omega) (.inl rfl) h
    | false =>
      simp only [Bool.false_eq_true, if_false]
      have hrd : rd_L1 c (i : Int) = c[i] := by simp [rd_L1, show i < c.length by omega]
      by_cases e : c[i] = s
      · rw [hrd, e]
        refine (ev_bind (rcmp_ev s s (by omega))).mpr ?_
        rw [cm_self]
        exact found_l s hs l j c hc r m (i + 1) true (by omega) (by omega) (.inl rfl) h
      · have hin : s ∈ c.drop (i + 1) := by
          rcases hb with hb | hb
          · cases hb
          · rw [List.drop_eq_getElem_cons (by omega : i < c.length)] at hb
            rcases List.mem_cons.1 hb with hb | hb
            · exact absurd hb.symm e
            · exact hb
        by_cases hlen : (c[i]).length ≤ 1000000
        · rw [hrd]
          refine (ev_bind (rcmp_ev c[i] s (by omega))).mpr ?_
          exact found_l s hs l j c hc r m (i + 1) _ (by omega) (by omega) (.inr hin) h
        · have hne : (c[i]).length ≠ s.length := by omega
          rw [hrd]
          have hcm : Ev (fun k => torusref07_Cmp.f k c[i] s) 1 := by
            unfold torusref07_Cmp.f
            simp only [if_neg (show ¬ (((c[i]).length : Int) = (s.length : Int)) by omega), if_neg (show ¬ (((c[i]).length : Int) < (s.length : Int)) by omega)]
            exact Ev.now _
          refine (ev_bind hcm).mpr ?_
          exact found_l s hs l j c hc r m (i + 1) _ (by omega) (by omega) (.inr hin) h
theorem inner_l (s : List Int) (h : ck s = 0) (h2 : 2 ≤ s.length) (j : Nat) (hj : j < s.length) (r : Bool) (hn : Ev (fun k => toruslaw07_SimplexFacets.l0 k s (fcs s) (wrap64 ((j : Int) + 1))) r) : ∀ (m i : Nat), m = j - i → i ≤ j →
    Ev (fun k => toruslaw07_SimplexFacets.l2 k s (fcs s) (j : Int) (i : Int)) r
  | 0, i, hm, hi => by
    have e : i = j := by omega
    subst e
    have stop : Ev (fun k => toruslaw07_SimplexFacets.j7 k s (fcs s) (i : Int) (i : Int) false) r := by
      refine ev_succ ?_
      simp only [toruslaw07_SimplexFacets.j7, Bool.false_eq_true, if_false]
      exact hn
    refine ev_succ ?_
    by_cases c : s.length > 2
    · simp only [toruslaw07_SimplexFacets.l2, if_pos (show (s.length : Int) > 2 by omega), decide_eq_false (show ¬ ((i : Int) < (i : Int)) by omega)]
      exact stop
    · simp only [toruslaw07_SimplexFacets.l2, if_neg (show ¬ ((s.length : Int) > 2) by omega)]
      exact stop
  | m + 1, i, hm, hi => by
    obtain ⟨h1, hl, hb, ha⟩ := ck_ok h
    refine ev_succ ?_
    by_cases c : s.length > 2
    · have ih := inner_l s h h2 j hj r hn m (i + 1) (by omega) (by omega)
      have hw : wrap64 ((s.length : Int) - 1) = ((s.length - 1 : Nat) : Int) := by rw [wrap_id (by omega) (by omega)]; omega
      have hwj : wrap64 ((j : Int) - 1) = ((j - 1 : Nat) : Int) := by rw [wrap_id (by omega) (by omega)]; omega
      have lj : (s.eraseIdx j).length = s.length - 1 := by rw [List.length_eraseIdx, if_pos hj]
      have li : (s.eraseIdx i).length = s.length - 1 := by rw [List.length_eraseIdx, if_pos (by omega)]
      have fj := facets_ev (s.eraseIdx j) (ck_erase s j h h2)
      have fi := facets_ev (s.eraseIdx i) (ck_erase s i h h2)
      rw [if_neg (by omega)] at fj fi
      simp only [toruslaw07_SimplexFacets.l2, if_pos (show (s.length : Int) > 2 by omega), decide_eq_true (show ((i : Int) < (j : Int)) by omega)]
      refine ev_succ ?_
      simp only [toruslaw07_SimplexFacets.j7, if_true, if_pos (show (0 : Int) ≤ (j : Int) by omega), if_pos (show (0 : Int) ≤ (i : Int) by omega), fcs_len, if_pos (show (j : Int) < (s.length : Int) by omega), if_pos (show (i : Int) < (s.length : Int) by omega), fcs_at s j hj, fcs_at s i (by omega)]
      refine (ev_bind fj).mpr ?_
      refine (ev_bind fi).mpr ?_
      simp only [if_true, fcs_len, lj, li, hw, hwj, if_pos (show (i : Int) < ((s.length - 1 : Nat) : Int) by omega), if_pos (show (0 : Int) ≤ ((j - 1 : Nat) : Int) by omega), if_pos (show ((j - 1 : Nat) : Int) < ((s.length - 1 : Nat) : Int) by omega),
        fcs_at (s.eraseIdx j) i (by omega), fcs_at (s.eraseIdx i) (j - 1) (by omega), erase_erase s i j (by omega), wrap_nat i (by omega)]
      refine (ev_bind (rcmp_ev _ _ (by
        have h5 := (List.eraseIdx_sublist (s.eraseIdx i) (j - 1)).length_le
        omega))).mpr ?_
      simp only [cm_self, if_true]
      exact ih
    · simp only [toruslaw07_SimplexFacets.l2, if_neg (show ¬ ((s.length : Int) > 2) by omega)]
      refine ev_succ ?_
      simp only [toruslaw07_SimplexFacets.j7, Bool.false_eq_true, if_false]
      exact hn
theorem outer_l (s : List Int) (h : ck s = 0) (h2 : 2 ≤ s.length) : ∀ (m j : Nat), m = s.length - j → j ≤ s.length → Ev (fun k => toruslaw07_SimplexFacets.l0 k s (fcs s) (j : Int)) true
  | 0, j, hm, hj => by
    refine ev_succ ?_
    simp only [toruslaw07_SimplexFacets.l0, if_pos (show (s.length : Int) > 1 by omega), decide_eq_false (show ¬ ((j : Int) < (s.length : Int)) by omega)]
    refine ev_succ ?_
    simp only [toruslaw07_SimplexFacets.j3, Bool.false_eq_true, if_false]
    exact Ev.now _
  | m + 1, j, hm, hj => by
    obtain ⟨h1, hl, hb, ha⟩ := ck_ok h
    have ih := outer_l s h h2 m (j + 1) (by omega) (by omega)
    rw [← wrap_nat j (by omega)] at ih
    have hke := ck_erase s j h h2
    have hoke := ck_ok hke
    have hlast := bad_at (s.eraseIdx j) hoke.2.2.1 ((s.eraseIdx j).length - 1) (by omega)
    have hcof := cofacets_ev (s.eraseIdx j) hke 64 (by omega) (by omega)
    refine ev_succ ?_
    simp only [toruslaw07_SimplexFacets.l0, if_pos (show (s.length : Int) > 1 by omega), decide_eq_true (show (j : Int) < (s.length : Int) by omega)]
    refine ev_succ ?_
    simp only [toruslaw07_SimplexFacets.j3, if_true, if_pos (show (0 : Int) ≤ (j : Int) by omega), fcs_len, if_pos (show (j : Int) < (s.length : Int) by omega), fcs_at s j (by omega)]
    refine (ev_bind hcof).mpr ?_
    have hcl := cofs_len (s.eraseIdx j) 64 0
    refine found_l s hl (fcs s) (j : Int) (cofs (s.eraseIdx j) 64 0) hcl true (cofs (s.eraseIdx j) 64 0).length 0 false (by omega) (by omega) (.inr (by rw [List.drop_zero]; exact cof_self s h j (by omega) h2)) ?_
    refine ev_succ ?_
    simp only [toruslaw07_SimplexFacets.j5, Bool.false_eq_true, if_false]
    exact inner_l s h h2 j (by omega) true ih j 0 (by omega) (by omega)
theorem SimplexFacets : toruslaw07_SimplexFacets.Pure := by
  intro a _ _ ha
  apply Ev.rounds
  have wf : ∀ x : Int, (Lit.int .i64 x).wf = true → -9223372036854775808 ≤ x ∧ x ≤ 9223372036854775807 := fun x h => by
    simpa [Lit.wf, show IntKind.i64.min = -9223372036854775808 by decide, show IntKind.i64.max = 9223372036854775807 by decide] using h
  unfold toruslaw07_SimplexFacets.f
  by_cases c1 : (a.length : Int) > 50
  · simp only [if_pos c1]
    refine ev_succ ?_
    simp only [toruslaw07_SimplexFacets.j0, if_true]
    exact law_long awake_ev (Ev.now _)
  simp only [if_neg c1]
  refine law_long awake_ev ?_
  refine ev_succ ?_
  simp only [toruslaw07_SimplexFacets.j0, Bool.not_true, Bool.false_eq_true, if_false]
  obtain ⟨s, hs, ks⟩ := valid_ev a (by omega) (fun x hx => wf x (ha x hx))
  refine law_long hs ?_
  refine law_long (facets_ev s ks) ?_
  have hk := ck_ok ks
  by_cases c2 : s.length = 1
  · simp only [if_true, if_neg (show ¬ ((s.length : Int) > 1) by omega), if_pos c2]
    refine ev_succ ?_
    simp only [toruslaw07_SimplexFacets.j1, Bool.false_eq_true, if_false]
    refine ev_succ ?_
    simp only [toruslaw07_SimplexFacets.l0, if_neg (show ¬ ((s.length : Int) > 1) by omega)]
    refine ev_succ ?_
    simp only [toruslaw07_SimplexFacets.j3, Bool.false_eq_true, if_false]
    exact Ev.now _
  · have e : (((fcs s).length : Int) != (s.length : Int)) = false := by rw [fcs_len]; simp
    simp only [if_true, if_pos (show (s.length : Int) > 1 by omega), if_neg c2, e]
    refine ev_succ ?_
    simp only [toruslaw07_SimplexFacets.j1, Bool.false_eq_true, if_false]
    exact outer_l s ks (by omega) s.length 0 (by omega) (by omega)
end Go.Proofs.YticckanjfdcpaaaDoor.Pure
