/- Go functions as plain Lean functions, each with a proof that the Go code computes just that, and facts on them; conditions: those that each theorem states. -/
import Derived.Test.YticckanjfdcpaaaDoorQFacets2
import Derived.Lib.AppendZeros
import Derived.Lib.AppendZerosOnto
import Derived.Lib.Overlaps
import Derived.Laws.Externs
import Derived.Laws.CopyOwn
import Derived.StillTailTactics
import Derived.WalkKit
namespace Go.Proofs.YticckanjfdcpaaaDoor.PSimplex
open Go.RowKit Go.Proofs.YticckanjfdcpaaaDoorW.PrintWords Go.Proofs.YticckanjfdcpaaaDoorW.PrintLast Go.Proofs.YticckanjfdcpaaaDoorW.PrintMore
attribute [local go_sem] max2_int min2_int max_two min_two max_three min_three max_four min_four   -- for this text's walks alone
set_option linter.unusedVariables false
set_option linter.unusedSimpArgs false

/-! ### torusref07_Sorted: function 43 -/
mutual
def torusref07_Sorted.l0 : Nat → List Int → Int → Int → Option (List Int × Int)
 |0, _, _, _ => none
 |k + 1, x4, x5, x6 => if x6 < (x4.length : Int) then (torusref07_Sorted.l1 k x4 x5 x6 x6) else (some (x4, x5))
def torusref07_Sorted.l1 : Nat → List Int → Int → Int → Int → Option (List Int × Int)
 |0, _, _, _, _ => none
 |k + 1, x4, x5, x6, x7 => if x7 > 0 then (if 0 ≤ (wrap64 (x7 - 1)) then (if (wrap64 (x7 - 1)) < (x4.length : Int) then (if 0 ≤ x7 then (if x7 < (x4.length : Int) then (if (rd x4 (wrap64 (x7 - 1))) > (rd x4 x7) then (torusref07_Sorted.l1 k ((x4.set ((wrap64 (x7 - 1)) : Int).toNat (rd x4 x7)).set (x7 : Int).toNat (rd x4 (wrap64 (x7 - 1)))) (wrap64 (1 - x5)) x6 (wrap64 (x7 - 1))) else (torusref07_Sorted.l0 k x4 x5 (wrap64 (x6 + 1)))) else (none)) else (none)) else (none)) else (none)) else (torusref07_Sorted.l0 k x4 x5 (wrap64 (x6 + 1)))
end
def torusref07_Sorted.f (k : Nat) (l0 : List Int) : Option (List Int × Int) := (some (([] : List Int) : List Int)).bind fun y295 => (if y295.length + l0.length < 17592186044416 then (torusref07_Sorted.l0 k (y295 ++ l0) 0 0) else (none))
theorem torusref07_Sorted.mono_l : ∀ k, (∀ y0 y1 y2, LeO (torusref07_Sorted.l0 k y0 y1 y2) (torusref07_Sorted.l0 (k + 1) y0 y1 y2)) ∧ (∀ y0 y1 y2 y3, LeO (torusref07_Sorted.l1 k y0 y1 y2 y3) (torusref07_Sorted.l1 (k + 1) y0 y1 y2 y3))
 |0 => ⟨fun _ _ _ r h => by simp [torusref07_Sorted.l0] at h, fun _ _ _ _ r h => by simp [torusref07_Sorted.l1] at h⟩
 |k + 1 => by
  obtain ⟨ih0, ih1⟩ := torusref07_Sorted.mono_l k
  refine ⟨?_, ?_⟩
  ·intro y0 y1 y2
   unfold torusref07_Sorted.l0
   repeat' first
   |(with_reducible exact ih0 _ _ _)
   |(with_reducible exact ih1 _ _ _ _)
   |(with_reducible exact LeO.refl _)
   |(with_reducible exact LeO.none _)
   |(with_reducible refine LeO.ite ?_ ?_)
   |(with_reducible refine LeO.bind ?_ (fun _ => ?_))
   |exact ih0 _ _ _
   |exact ih1 _ _ _ _
   |exact LeO.none _
   |refine LeO.ite ?_ ?_
   |refine LeO.bind ?_ (fun _ => ?_)
  ·intro y0 y1 y2 y3
   unfold torusref07_Sorted.l1
   repeat' first
   |(with_reducible exact ih0 _ _ _)
   |(with_reducible exact ih1 _ _ _ _)
   |(with_reducible exact LeO.refl _)
   |(with_reducible exact LeO.none _)
   |(with_reducible refine LeO.ite ?_ ?_)
   |(with_reducible refine LeO.bind ?_ (fun _ => ?_))
   |exact ih0 _ _ _
   |exact ih1 _ _ _ _
   |exact LeO.none _
   |refine LeO.ite ?_ ?_
   |refine LeO.bind ?_ (fun _ => ?_)
theorem torusref07_Sorted.mono : ∀ a0 k, LeO (torusref07_Sorted.f k a0) (torusref07_Sorted.f (k + 1) a0) := by
 intro a0 k
 obtain ⟨ih0, ih1⟩ := torusref07_Sorted.mono_l k
 unfold torusref07_Sorted.f
 repeat' first
   |(with_reducible exact ih0 _ _ _)
   |(with_reducible exact ih1 _ _ _ _)
   |(with_reducible exact LeO.refl _)
   |(with_reducible exact LeO.none _)
   |(with_reducible refine LeO.ite ?_ ?_)
   |(with_reducible refine LeO.bind ?_ (fun _ => ?_))
   |exact ih0 _ _ _
   |exact ih1 _ _ _ _
   |exact LeO.none _
   |refine LeO.ite ?_ ?_
   |refine LeO.bind ?_ (fun _ => ?_)
def torusref07_Sorted.T7 : Bool × List (List Nat × List Nat) := (true, [([], []), ([0], [0]), ([1], [1]), ([2], [2]), ([2], [2]), ([4, 2], [2, 4]), ([3, 5, 2], [2, 3, 5]), ([6, 2], [2, 6]), ([2], [2]), ([2], [2]), ([8, 9, 2], [2, 8, 9]), ([10, 2], [2, 10]), ([7, 11, 2], [2, 7, 11]), ([2, 12], [2, 12])])
def torusref07_Sorted.B7 : List Nat := [0, 1, 3, 7, 7, 23, 63, 127, 7, 7, 775, 1799, 4095, 8191]
theorem torusref07_Sorted.tab7 : rtab .any (opsOf Tryd.f43 7) = torusref07_Sorted.T7 := by kernel_rfl
theorem torusref07_Sorted.bits7 : waitsOk torusref07_Sorted.T7.2 torusref07_Sorted.B7 = true := by kernel_rfl
def torusref07_Sorted.T9 : Bool × List (List Nat × List Nat) := (true, [([], []), ([], []), ([1], [1]), ([], []), ([], []), ([], []), ([], []), ([5, 6], [5, 6]), ([7], [7]), ([], []), ([], []), ([10], [10]), ([9, 11], [9, 11]), ([12], [12]), ([0, 2, 0, 1, 2, 5, 6, 7, 8, 13], [0, 2]), ([14, 8, 0, 1, 2, 5, 6, 7, 8, 13], [8, 14]), ([3, 4, 0, 1, 2, 3, 4, 5, 6, 7, 8, 9, 10, 11, 12, 13, 14, 15], [3, 4]), ([16, 13, 15, 0, 1, 2, 3, 4, 5, 6, 7, 8, 9, 10, 11, 12, 13, 14, 15], [13, 16])])
def torusref07_Sorted.B9 : List Nat := [0, 0, 2, 0, 0, 0, 0, 96, 224, 0, 0, 1024, 3584, 7680, 16359, 32743, 65535, 131071]
theorem torusref07_Sorted.tab9 : rtab .any (opsOf Tryd.f43 9) = torusref07_Sorted.T9 := by kernel_rfl
theorem torusref07_Sorted.bits9 : waitsOk torusref07_Sorted.T9.2 torusref07_Sorted.B9 = true := by kernel_rfl
set_option maxHeartbeats 8000000 in
set_option maxRecDepth 100000 in
theorem torusref07_Sorted.calls (k : Nat) (A0 : Option Addr) (c0 : Nat) (l0 : List Int) (r1 : List Int) (r2 : Int) (w : World) (hr0 : Kd.C (Kd.int .i64) w A0 l0.length l0) (hc0 : l0.length ≤ c0) (h : torusref07_Sorted.f k l0 = some (r1, r2)) :
  Calls Tryd.prog 43 #[.slice A0 l0.length c0] w fun e w' => ∃ v0_ : Value, e = .returned (.tuple #[v0_, .int .i64 r2]) ∧ Kd.R (Kd.int .i64) 3 w' w.heap.size (fun _ => True) v0_ r1 ∧ Below w.heap.size w w' := by
 have HR0 := Aside0.mk hr0
 have HC0 := Aside0.mk hc0
 clear hr0 hc0
 have HB := Aside0.mk (Below.refl w.heap.size w)
 have H : ((some (([] : List Int) : List Int)).bind fun y295 => (if y295.length + l0.length < 17592186044416 then (torusref07_Sorted.l0 k (y295 ++ l0) 0 0) else (none))) = some (r1, r2) := h
 clear h
 obtain ⟨y295, hy295⟩ : ∃ y_ : List Int, y_ = (([] : List Int)) := ⟨_, rfl⟩
 replace H : (if y295.length + l0.length < 17592186044416 then (torusref07_Sorted.l0 k (y295 ++ l0) 0 0) else (none)) = some (r1, r2) := by first | (rw [hy295]; with_reducible exact H) | (have H2_ := (Option.bind_some _ _).symm.trans H; rw [hy295]; with_reducible exact H2_) | (have H2_ := (Option.bind_some _ _).symm.trans H; with_reducible exact H2_) | with_reducible exact H | (rw [hy295]; exact H) | exact H
 have Ny295 := Aside0.mk hy295
 clear hy295
 by_cases c2 : y295.length + l0.length < 17592186044416
 ·rw [if_pos c2] at H
  have LMc2 := Aside0.mk c2
  clear c2
  obtain ⟨y298, hy298⟩ : ∃ y_ : List Int, y_ = (y295 ++ l0) := ⟨_, rfl⟩
  replace H : (torusref07_Sorted.l0 k y298 0 0) = some (r1, r2) := by first | (rw [hy298]; with_reducible exact H) | (have H2_ := (Option.bind_some _ _).symm.trans H; rw [hy298]; with_reducible exact H2_) | (have H2_ := (Option.bind_some _ _).symm.trans H; with_reducible exact H2_) | with_reducible exact H | (rw [hy298]; exact H) | exact H
  have Ny298 := Aside0.mk hy298
  clear hy298
  have H' := Aside0.mk H
  clear H
  go_enter Tryd.func43, Tryd.ntmps43
  go_wp2_with (first | ((with_reducible refine gate_dst (N := 8) rfl ?_); refine Kd.R_lit (Kd.int .i64) _ 3 ?hg (N := 8) ?hd (xs := ([] : List Int)) (inner := []) (ok := fun _ => True) (okp := fun _ => True) ?hr ?hp (fun _ hk => hk) trivial (Below.refl _ _) (Nat.le_refl _) (by simp) ?_; (case hd => rfl); (case hg => rfl); (case hr => first | (go_simp; done) | (go_simp; rfl)); (case hp => exact (Reps.none _ _)); intro v296 w3 ho4 hb hg_ hnew_; clear hg_ hnew_; (first | rw [← Ny295.out] at ho4 | (simp only [Int.reduceToNat] at ho4; rw [← Ny295.out] at ho4)); have n0_ := Aside0.mk (Kd.R_lower ho4 (below_size bw_)); have n1_ := Aside0.mk (below_step bw_ hb); clear HB; have HO297 := n0_; have HB := n1_; clear n0_ n1_; clear hb ho4) | ((with_reducible refine gate_builtin (b := .append) (xs := #[.tmp 8, .tmp 9]) rfl ?_); at_builtin; refine Kd.R_append_rows (Kd.int .i64) (w0 := w) w.heap.size rfl (.tmp 8) (.tmp 9) 22 3 (.int .i64 0) 8 rfl Tryd.underlying22 info3 rfl (by decide) (by omega) v296 y295 l0 _ _ _ (fun _ => True) (fun _ => False) rfl rfl ?aO ?aR (fun _ _ h => h) (fun _ h => h.elim) ?aF ?aB ?aS ?aL ?_; (case aR => exact cs_ (Kd.C_below HR0.out HB.out)); (case aB => exact bw_); (case aF => exact (fun _ _ => trivial)); (case aO => exact (rRa_ HO297.out)); (case aS => exact (below_size bw_)); (case aL => have := LMc2.out; omega); intro v299 w5 ho hb hg hat; rw [← Ny298.out] at ho; have n0_ := Aside0.mk (hb); have n1_ := Aside0.mk (ho); clear HB; clear HO297; have HB := n0_; have HO300 := n1_; clear n0_ n1_; clear ho hb hg hat))
  go_loopg [5, 6] k (fun kq v5 v6 w' => ∃ (x4_1 : List Int) (x5_1 : Int) (x6_1 : Int), v5 = .int .i64 x5_1 ∧ v6 = .int .i64 x6_1 ∧ Aside0 (torusref07_Sorted.l0 kq x4_1 x5_1 x6_1 = some (r1, r2)) ∧ Aside0 (kq ≤ k) ∧ Aside0 (Kd.R (Kd.int .i64) 3 w' w.heap.size (fun _ => True) v299 x4_1) ∧ Aside0 (Below w.heap.size w w'))
  case atStart => exact ⟨(y298), (0), (0), sd_, sd_, H', ⟨Nat.le_refl _⟩, ⟨rRa_ HO300.out⟩, ⟨bw_⟩⟩
  case round =>
   clear H'
   try clear c2
   try clear p2
   try clear c4
   obtain ⟨x4_1, x5_1, x6_1, rfl, rfl, HA, HK1, HO_4, HB⟩ := hrel
   cases gk with
   |zero => exact absurd HA.out (by simp [torusref07_Sorted.l0])
   |succ k1 =>
    have H := HA.out
    clear HA
    simp only [torusref07_Sorted.l0] at H
    by_cases c6 : x6_1 < (x4_1.length : Int)
    ·rw [if_pos c6] at H
     have c6b0 : decide (x6_1 < (x4_1.length : Int)) = true := decide_eq_true c6
     clear c6
     have H' := Aside0.mk H
     clear H
     obtain ⟨Ao7, co7, eo7⟩ := Kd.R_slice HO_4.out
     subst eo7
     go_wp2
     go_loopg [5, 7] k1 (fun kq v5 v7 w' => ∃ (x4_2 : List Int) (x5_2 : Int) (x7_2 : Int), v5 = .int .i64 x5_2 ∧ v7 = .int .i64 x7_2 ∧ Aside0 (torusref07_Sorted.l1 kq x4_2 x5_2 x6_1 x7_2 = some (r1, r2)) ∧ Aside0 (kq ≤ k1) ∧ Aside0 (Kd.R (Kd.int .i64) 3 w' w.heap.size (fun _ => True) (.slice Ao7 x4_1.length co7) x4_2) ∧ Aside0 (Below w.heap.size w w'))
     case atStart => exact ⟨(x4_1), (x5_1), (x6_1), sd_, sd_, H', ⟨Nat.le_refl _⟩, ⟨rRa_ HO_4.out⟩, ⟨bw_⟩⟩
     case round =>
      clear H'
      try clear c2
      try clear p2
      try clear c4
      try clear c6
      try clear c6b0
      try clear p2
      obtain ⟨x4_2, x5_2, x7_2, rfl, rfl, HA, HK2, HO_4, HB⟩ := hrel
      have hl4_2 := (Kd.R_reads' HO_4.out).1
      rw [hl4_2] at HO_4
      (try simp only [hl4_2])
      cases gk with
      |zero => exact absurd HA.out (by simp [torusref07_Sorted.l1])
      |succ k2 =>
       have H := HA.out
       clear HA
       simp only [torusref07_Sorted.l1] at H
       by_cases c8 : x7_2 > 0
       ·rw [if_pos c8] at H
        have c8b0 : decide (0 < x7_2) = true := decide_eq_true c8
        clear c8
        obtain ⟨ji9, hji9⟩ : ∃ j_ : Int, (wrap64 (x7_2 - 1)) = j_ := ⟨_, rfl⟩
        replace H : (if 0 ≤ (ji9) then (if (ji9) < (x4_2.length : Int) then (if 0 ≤ x7_2 then (if x7_2 < (x4_2.length : Int) then (if (rd x4_2 (ji9)) > (rd x4_2 x7_2) then (torusref07_Sorted.l1 k2 ((x4_2.set ((ji9) : Int).toNat (rd x4_2 x7_2)).set (x7_2 : Int).toNat (rd x4_2 (ji9))) (wrap64 (1 - x5_2)) x6_1 ji9) else (torusref07_Sorted.l0 k2 x4_2 x5_2 (wrap64 (x6_1 + 1)))) else (none)) else (none)) else (none)) else (none)) = some (r1, r2) := by first | (rw [hji9] at H; exact H) | (simp only [hji9] at H ⊢; exact H)
        have hji9w : (IntKind.i64.wrap (x7_2 - 1)) = ji9 := (i64_w _).trans hji9
        by_cases c10 : 0 ≤ (ji9)
        ·rw [if_pos c10] at H
         have c10b0 : decide (0 ≤ (ji9)) = true := decide_eq_true c10
         clear c10
         by_cases c11 : (ji9) < (x4_2.length : Int)
         ·rw [if_pos c11] at H
          have c11b0 : decide ((ji9) < (x4_2.length : Int)) = true := decide_eq_true c11
          clear c11
          by_cases c12 : 0 ≤ x7_2
          ·rw [if_pos c12] at H
           have c12b0 : decide (0 ≤ x7_2) = true := decide_eq_true c12
           clear c12
           by_cases c13 : x7_2 < (x4_2.length : Int)
           ·rw [if_pos c13] at H
            have c13b0 : decide (x7_2 < (x4_2.length : Int)) = true := decide_eq_true c13
            clear c13
            by_cases c14 : (rd x4_2 (ji9)) > (rd x4_2 x7_2)
            ·rw [if_pos c14] at H
             have c14b0 : decide ((rd x4_2 x7_2) < (rd x4_2 (ji9))) = true := decide_eq_true c14
             clear c14
             obtain ⟨y305, hy305⟩ : ∃ y_ : List Int, y_ = (x4_2.set ((ji9) : Int).toNat (rd x4_2 x7_2)) := ⟨_, rfl⟩
             replace H : (torusref07_Sorted.l1 k2 (y305.set (x7_2 : Int).toNat (rd x4_2 (ji9))) (wrap64 (1 - x5_2)) x6_1 ji9) = some (r1, r2) := by first | (rw [hy305]; with_reducible exact H) | (have H2_ := (Option.bind_some _ _).symm.trans H; rw [hy305]; with_reducible exact H2_) | (have H2_ := (Option.bind_some _ _).symm.trans H; with_reducible exact H2_) | with_reducible exact H | (rw [hy305]; exact H) | exact H
             have Ny305 := Aside0.mk hy305
             clear hy305
             obtain ⟨y306, hy306⟩ : ∃ y_ : List Int, y_ = (y305.set (x7_2 : Int).toNat (rd x4_2 (ji9))) := ⟨_, rfl⟩
             replace H : (torusref07_Sorted.l1 k2 y306 (wrap64 (1 - x5_2)) x6_1 ji9) = some (r1, r2) := by first | (rw [hy306]; with_reducible exact H) | (have H2_ := (Option.bind_some _ _).symm.trans H; rw [hy306]; with_reducible exact H2_) | (have H2_ := (Option.bind_some _ _).symm.trans H; with_reducible exact H2_) | with_reducible exact H | (rw [hy306]; exact H) | exact H
             have Ny306 := Aside0.mk hy306
             clear hy306
             have H' := Aside0.mk H
             clear H
             try go_wp2
             have n0_ := Aside0.mk (Kd.R_drew HO_4.out)
             have n1_ := Aside0.mk (below_drew1 HB.out)
             clear HO_4
             clear HB
             have HO_4 := n0_
             have HB := n1_
             clear n0_ n1_
             have p301 : 0 ≤ ((ji9) : Int) := of_decide_eq_true as_
             have q301 : (ji9) < (x4_2.length : Int) := of_decide_eq_true as_
             obtain ⟨ad301, e301, hx301_0⟩ := Kd.at_int (Kd.R_reads' HO_4.out).2.2 (ji9) p301 q301
             cases e301
             replace p301 := eq_true p301
             replace q301 := eq_true q301
             have p302 : 0 ≤ (x7_2 : Int) := of_decide_eq_true as_
             have q302 : x7_2 < (x4_2.length : Int) := of_decide_eq_true as_
             obtain ⟨ad302, e302, hx302_0⟩ := Kd.at_int (Kd.R_reads' HO_4.out).2.2 x7_2 p302 q302
             obtain rfl : ad301 = ad302 := (by injection e302)
             replace p302 := eq_true p302
             replace q302 := eq_true q302
             refine start_ (n := 14) (S := fun w' => w'.cell? (ad301.add ((ji9)).toNat) = some (.int .i64 (rd x4_2 (ji9))) ∧ w'.cell? (ad301.add (x7_2).toNat) = some (.int .i64 (rd x4_2 x7_2))) (ds := []) #[false, false, false, false, false, false, false, false, false, false, false, false, false, false] (by kernel_rfl) rfl rfl ⟨hx301_0, hx302_0⟩ (fun hHeld => ?_); refine with_tabW torusref07_Sorted.tab7 torusref07_Sorted.bits7 (fun HT_ HW_ => ?_)
             generalize wr.drew = w17 at HO_4 HB hx301_0 hx302_0 hHeld ⊢
             refine pure_ (i := 0) (N := some 18) (v := ?_) (a' := ?_) #[true, false, false, false, false, false, false, false, false, false, false, false, false, false] rfl rfl (any_of HT_.out (by kernel_rfl)) (fun _ _ _ h => h) (Or.inl ⟨by rfl, ?_⟩) ?_ ?_
             rotate_left
             ·intro w'
              go_simp
              with_reducible rfl
             rotate_left
             ·simp only [Act.put, List.setIfInBounds_toArray, List.set_cons_zero, List.set_cons_succ, i64_w, i32_w]
              rfl
             refine pure_ (i := 1) (N := some 19) (v := ?_) (a' := ?_) #[true, true, false, false, false, false, false, false, false, false, false, false, false, false] rfl rfl (any_of HT_.out (by kernel_rfl)) (fun _ _ _ h => h) (Or.inl ⟨by rfl, ?_⟩) ?_ ?_
             rotate_left
             ·intro w'
              go_simp
              with_reducible rfl
             rotate_left
             ·simp only [Act.put, List.setIfInBounds_toArray, List.set_cons_zero, List.set_cons_succ, i64_w, i32_w]
              rfl
             refine pure_ (i := 2) (N := some 20) (v := ?_) (a' := ?_) #[true, true, true, false, false, false, false, false, false, false, false, false, false, false] rfl rfl (any_of HT_.out (by kernel_rfl)) (fun _ _ _ h => h) (Or.inl ⟨by rfl, ?_⟩) ?_ ?_
             rotate_left
             ·intro w'
              go_simp
              with_reducible rfl
             rotate_left
             ·simp only [Act.put, List.setIfInBounds_toArray, List.set_cons_zero, List.set_cons_succ, i64_w, i32_w]
              rfl
             refine pure_ (i := 3) (N := some 21) (v := ?_) (a' := ?_) #[true, true, true, true, false, false, false, false, false, false, false, false, false, false] rfl rfl (any_of HT_.out (by kernel_rfl)) (fun _ _ _ h => h) (Or.inl ⟨by rfl, ?_⟩) ?_ ?_
             rotate_left
             ·intro w'
              go_simp
              with_reducible rfl
             rotate_left
             ·simp only [Act.put, List.setIfInBounds_toArray, List.set_cons_zero, List.set_cons_succ, i64_w, i32_w]
              rfl
             refine pure_ (i := 4) (N := some 22) (v := ?_) (a' := ?_) #[true, true, true, true, true, false, false, false, false, false, false, false, false, false] rfl rfl (any_of HT_.out (by kernel_rfl)) (fun _ _ _ h => h) (Or.inl ⟨by rfl, ?_⟩) ?_ ?_
             rotate_left
             ·intro w'
              go_simp
              with_reducible rfl
             rotate_left
             ·simp only [Act.put, List.setIfInBounds_toArray, List.set_cons_zero, List.set_cons_succ, i64_w, i32_w]
              rfl
             refine pure_ (i := 5) (N := some 23) (v := ?_) (a' := ?_) #[true, true, true, true, true, true, false, false, false, false, false, false, false, false] rfl rfl (any_of HT_.out (by kernel_rfl)) (fun _ _ _ h => h) (Or.inl ⟨by rfl, ?_⟩) ?_ ?_
             rotate_left
             ·intro w'
              go_simp
              with_reducible rfl
             rotate_left
             ·simp only [Act.put, List.setIfInBounds_toArray, List.set_cons_zero, List.set_cons_succ, i64_w, i32_w]
              rfl
             refine pure_ (i := 6) (N := some 24) (v := ?_) (a' := ?_) #[true, true, true, true, true, true, true, false, false, false, false, false, false, false] rfl rfl (any_of HT_.out (by kernel_rfl)) (fun _ _ _ h => h) (Or.inl ⟨by rfl, ?_⟩) ?_ ?_
             rotate_left
             ·intro w'
              go_simp
              with_reducible rfl
             rotate_left
             ·simp only [Act.put, List.setIfInBounds_toArray, List.set_cons_zero, List.set_cons_succ, i64_w, i32_w]
              rfl
             refine pure_ (i := 8) (N := some 26) (v := ?_) (a' := ?_) #[true, true, true, true, true, true, true, false, true, false, false, false, false, false] rfl rfl (any_of HT_.out (by kernel_rfl)) (fun _ _ _ h => h) (Or.inl ⟨by rfl, ?_⟩) ?_ ?_
             rotate_left
             ·intro w'
              go_simp
              with_reducible rfl
             rotate_left
             ·simp only [Act.put, List.setIfInBounds_toArray, List.set_cons_zero, List.set_cons_succ, i64_w, i32_w]
              rfl
             refine pure_ (i := 9) (N := some 27) (v := ?_) (a' := ?_) #[true, true, true, true, true, true, true, false, true, true, false, false, false, false] rfl rfl (any_of HT_.out (by kernel_rfl)) (fun _ _ _ h => h) (Or.inl ⟨by rfl, ?_⟩) ?_ ?_
             rotate_left
             ·intro w'
              go_simp
              with_reducible rfl
             rotate_left
             ·simp only [Act.put, List.setIfInBounds_toArray, List.set_cons_zero, List.set_cons_succ, i64_w, i32_w]
              rfl
             refine pure_ (i := 10) (N := some 28) (v := ?_) (a' := ?_) #[true, true, true, true, true, true, true, false, true, true, true, false, false, false] rfl rfl (any_of HT_.out (by kernel_rfl)) (fun _ _ _ h => h) (Or.inl ⟨by rfl, ?_⟩) ?_ ?_
             rotate_left
             ·intro w'
              go_simp
              with_reducible rfl
             rotate_left
             ·simp only [Act.put, List.setIfInBounds_toArray, List.set_cons_zero, List.set_cons_succ, i64_w, i32_w]
              rfl
             refine take_ (i := 7) (N := some 25) (v := ?_) (a' := ?_) #[true, true, true, true, true, true, true, true, true, true, true, false, false, false] rfl rfl (take_ofW HT_.out HW_.out (by kernel_rfl)) (fun _ _ _ h => h) (Or.inl ⟨by rfl, ?_⟩) hHeld ?_ ?_
             rotate_left
             ·rintro w' ⟨s0, s1⟩
              go_simp
              with_reducible rfl
             rotate_left
             ·simp only [Act.put, List.setIfInBounds_toArray, List.set_cons_zero, List.set_cons_succ, i64_w, i32_w]
              rfl
             refine take_ (i := 11) (N := some 29) (v := ?_) (a' := ?_) #[true, true, true, true, true, true, true, true, true, true, true, true, false, false] rfl rfl (take_ofW HT_.out HW_.out (by kernel_rfl)) (fun _ _ _ h => h) (Or.inl ⟨by rfl, ?_⟩) hHeld ?_ ?_
             rotate_left
             ·rintro w' ⟨s0, s1⟩
              go_simp
              with_reducible rfl
             rotate_left
             ·simp only [Act.put, List.setIfInBounds_toArray, List.set_cons_zero, List.set_cons_succ, i64_w, i32_w]
              rfl
             refine pure_ (i := 12) (N := some 30) (v := ?_) (a' := ?_) #[true, true, true, true, true, true, true, true, true, true, true, true, true, false] rfl rfl (any_of HT_.out (by kernel_rfl)) (fun _ _ _ h => h) (Or.inl ⟨by rfl, ?_⟩) ?_ ?_
             rotate_left
             ·intro w'
              go_simp
              with_reducible rfl
             rotate_left
             ·simp only [Act.put, List.setIfInBounds_toArray, List.set_cons_zero, List.set_cons_succ, i64_w, i32_w]
              rfl
             refine pure_ (i := 13) (N := some 31) (v := ?_) (a' := ?_) #[true, true, true, true, true, true, true, true, true, true, true, true, true, true] rfl rfl (any_of HT_.out (by kernel_rfl)) (fun _ _ _ h => h) (Or.inl ⟨by rfl, ?_⟩) ?_ ?_
             rotate_left
             ·intro w'
              go_simp
              with_reducible rfl
             rotate_left
             ·simp only [Act.put, List.setIfInBounds_toArray, List.set_cons_zero, List.set_cons_succ, i64_w, i32_w]
              rfl
             refine done_ (done_of HT_.out (by kernel_rfl)) ?_
             try go_wp2
             have n0_ := Aside0.mk (Kd.R_drew HO_4.out)
             have n1_ := Aside0.mk (below_drew1 HB.out)
             clear HO_4
             clear HB
             have HO_4 := n0_
             have HB := n1_
             clear n0_ n1_
             have p303 : 0 ≤ (x7_2 : Int) := of_decide_eq_true as_
             have q303 : x7_2 < (x4_2.length : Int) := of_decide_eq_true as_
             obtain ⟨ad303, e303, hx303_0⟩ := Kd.at_int (Kd.R_reads' HO_4.out).2.2 x7_2 p303 q303
             obtain rfl : ad301 = ad303 := (by injection e303)
             replace p303 := eq_true p303
             replace q303 := eq_true q303
             have p304 : 0 ≤ ((ji9) : Int) := of_decide_eq_true as_
             have q304 : (ji9) < (x4_2.length : Int) := of_decide_eq_true as_
             obtain ⟨ad304, e304, hx304_0⟩ := Kd.at_int (Kd.R_reads' HO_4.out).2.2 (ji9) p304 q304
             obtain rfl : ad301 = ad304 := (by injection e304)
             replace p304 := eq_true p304
             replace q304 := eq_true q304
             have p15 : 0 ≤ ((ji9) : Int) := of_decide_eq_true as_
             have q15 : ((ji9) : Int) < ((x4_2.length : Int) : Int) := of_decide_eq_true as_
             obtain ⟨go15, co15, eo15, gb15, gl15, cl15, HG15⟩ := Kd.R_form HO_4.out (by omega)
             (first | cases eo15 | (injection eo15 with ea_ en_ ec_; (first | subst ea_ | (injection ea_ with ea_; subst ea_)); subst ec_; clear en_))
             have GB15 := Aside0.mk gb15
             have GG15 := Aside0.mk HG15
             clear gb15 gl15 HG15
             (first | simp only [add_plain] at hx301_0 | skip)
             (first | simp only [add_plain] at hx302_0 | skip)
             (first | simp only [add_plain] at hx303_0 | skip)
             (first | simp only [add_plain] at hx304_0 | skip)
             obtain ⟨hx15_0, hf15_0⟩ := Kd.R_celln 0 HO_4.out ((ji9) : Int) p15 q15
             replace p15 := eq_true p15
             replace q15 := eq_true q15
             have HP19 := Kd.R_putn HO_4.out ((ji9) : Int) (rd x4_2 x7_2)
             rw [← Ny305.out] at HP19
             have HQ19 := Aside0.mk HP19
             clear HP19
             have p16 : 0 ≤ (x7_2 : Int) := of_decide_eq_true as_
             have q16 : (x7_2 : Int) < ((x4_2.length : Int) : Int) := of_decide_eq_true as_
             obtain ⟨hx16_0, hf16_0⟩ := Kd.R_celln 0 HQ19.out (x7_2 : Int) p16 q16
             replace p16 := eq_true p16
             replace q16 := eq_true q16
             have HP20 := Kd.R_putn HQ19.out (x7_2 : Int) (rd x4_2 (ji9))
             rw [← Ny306.out] at HP20
             have HQ20 := Aside0.mk HP20
             clear HP20
             refine start_ (n := 18) (S := fun w' => w'.cell? ⟨go15, (x7_2).toNat, none⟩ = some (.int .i64 (rd x4_2 x7_2)) ∧ w'.cell? ⟨go15, ((ji9)).toNat, none⟩ = some (.int .i64 (rd x4_2 (ji9)))) (ds := [15, 17]) #[false, false, false, false, false, false, false, false, false, false, false, false, false, false, false, false, false, false] (by kernel_rfl) rfl rfl ⟨hx303_0, hx304_0⟩ (fun hHeld => ?_); refine with_tabW torusref07_Sorted.tab9 torusref07_Sorted.bits9 (fun HT_ HW_ => ?_)
             generalize w17.drew = w18 at HO_4 HB GG15 HQ19 HQ20 hf15_0 hf16_0 hx15_0 hx16_0 hx301_0 hx302_0 hx303_0 hx304_0 hHeld ⊢
             refine pure_ (i := 0) (N := some 34) (v := ?_) (a' := ?_) #[true, false, false, false, false, false, false, false, false, false, false, false, false, false, false, false, false, false] rfl rfl (any_of HT_.out (by kernel_rfl)) (fun _ _ _ h => h) (Or.inl ⟨by rfl, ?_⟩) ?_ ?_
             rotate_left
             ·intro w'
              go_simp
              with_reducible rfl
             rotate_left
             ·simp only [Act.put, List.setIfInBounds_toArray, List.set_cons_zero, List.set_cons_succ, i64_w, i32_w]
              rfl
             refine pure_ (i := 1) (N := some 35) (v := ?_) (a' := ?_) #[true, true, false, false, false, false, false, false, false, false, false, false, false, false, false, false, false, false] rfl rfl (any_of HT_.out (by kernel_rfl)) (fun _ _ _ h => h) (Or.inl ⟨by rfl, ?_⟩) ?_ ?_
             rotate_left
             ·intro w'
              go_simp
              with_reducible rfl
             rotate_left
             ·simp only [Act.put, List.setIfInBounds_toArray, List.set_cons_zero, List.set_cons_succ, i64_w, i32_w]
              rfl
             refine pure_ (i := 2) (N := some 36) (v := ?_) (a' := ?_) #[true, true, true, false, false, false, false, false, false, false, false, false, false, false, false, false, false, false] rfl rfl (any_of HT_.out (by kernel_rfl)) (fun _ _ _ h => h) (Or.inl ⟨by rfl, ?_⟩) ?_ ?_
             rotate_left
             ·intro w'
              go_simp
              with_reducible rfl
             rotate_left
             ·simp only [Act.put, List.setIfInBounds_toArray, List.set_cons_zero, List.set_cons_succ, i64_w, i32_w]
              rfl
             refine pure_ (i := 3) (N := some 37) (v := ?_) (a' := ?_) #[true, true, true, true, false, false, false, false, false, false, false, false, false, false, false, false, false, false] rfl rfl (any_of HT_.out (by kernel_rfl)) (fun _ _ _ h => h) (Or.inl ⟨by rfl, ?_⟩) ?_ ?_
             rotate_left
             ·intro w'
              go_simp
              with_reducible rfl
             rotate_left
             ·simp only [Act.put, List.setIfInBounds_toArray, List.set_cons_zero, List.set_cons_succ, i64_w, i32_w]
              rfl
             refine pure_ (i := 4) (N := some 38) (v := ?_) (a' := ?_) #[true, true, true, true, true, false, false, false, false, false, false, false, false, false, false, false, false, false] rfl rfl (any_of HT_.out (by kernel_rfl)) (fun _ _ _ h => h) (Or.inl ⟨by rfl, ?_⟩) ?_ ?_
             rotate_left
             ·intro w'
              go_simp
              with_reducible rfl
             rotate_left
             ·simp only [Act.put, List.setIfInBounds_toArray, List.set_cons_zero, List.set_cons_succ, i64_w, i32_w]
              rfl
             refine pure_ (i := 5) (N := some 39) (v := ?_) (a' := ?_) #[true, true, true, true, true, true, false, false, false, false, false, false, false, false, false, false, false, false] rfl rfl (any_of HT_.out (by kernel_rfl)) (fun _ _ _ h => h) (Or.inl ⟨by rfl, ?_⟩) ?_ ?_
             rotate_left
             ·intro w'
              go_simp
              with_reducible rfl
             rotate_left
             ·simp only [Act.put, List.setIfInBounds_toArray, List.set_cons_zero, List.set_cons_succ, i64_w, i32_w]
              rfl
             refine pure_ (i := 6) (N := some 40) (v := ?_) (a' := ?_) #[true, true, true, true, true, true, true, false, false, false, false, false, false, false, false, false, false, false] rfl rfl (any_of HT_.out (by kernel_rfl)) (fun _ _ _ h => h) (Or.inl ⟨by rfl, ?_⟩) ?_ ?_
             rotate_left
             ·intro w'
              go_simp
              with_reducible rfl
             rotate_left
             ·simp only [Act.put, List.setIfInBounds_toArray, List.set_cons_zero, List.set_cons_succ, i64_w, i32_w]
              rfl
             refine pure_ (i := 7) (N := some 41) (v := ?_) (a' := ?_) #[true, true, true, true, true, true, true, true, false, false, false, false, false, false, false, false, false, false] rfl rfl (any_of HT_.out (by kernel_rfl)) (fun _ _ _ h => h) (Or.inl ⟨by rfl, ?_⟩) ?_ ?_
             rotate_left
             ·intro w'
              go_simp
              with_reducible rfl
             rotate_left
             ·simp only [Act.put, List.setIfInBounds_toArray, List.set_cons_zero, List.set_cons_succ, i64_w, i32_w]
              rfl
             refine pure_ (i := 9) (N := some 43) (v := ?_) (a' := ?_) #[true, true, true, true, true, true, true, true, false, true, false, false, false, false, false, false, false, false] rfl rfl (any_of HT_.out (by kernel_rfl)) (fun _ _ _ h => h) (Or.inl ⟨by rfl, ?_⟩) ?_ ?_
             rotate_left
             ·intro w'
              go_simp
              with_reducible rfl
             rotate_left
             ·simp only [Act.put, List.setIfInBounds_toArray, List.set_cons_zero, List.set_cons_succ, i64_w, i32_w]
              rfl
             refine pure_ (i := 10) (N := some 44) (v := ?_) (a' := ?_) #[true, true, true, true, true, true, true, true, false, true, true, false, false, false, false, false, false, false] rfl rfl (any_of HT_.out (by kernel_rfl)) (fun _ _ _ h => h) (Or.inl ⟨by rfl, ?_⟩) ?_ ?_
             rotate_left
             ·intro w'
              go_simp
              with_reducible rfl
             rotate_left
             ·simp only [Act.put, List.setIfInBounds_toArray, List.set_cons_zero, List.set_cons_succ, i64_w, i32_w]
              rfl
             refine pure_ (i := 11) (N := some 45) (v := ?_) (a' := ?_) #[true, true, true, true, true, true, true, true, false, true, true, true, false, false, false, false, false, false] rfl rfl (any_of HT_.out (by kernel_rfl)) (fun _ _ _ h => h) (Or.inl ⟨by rfl, ?_⟩) ?_ ?_
             rotate_left
             ·intro w'
              go_simp
              with_reducible rfl
             rotate_left
             ·simp only [Act.put, List.setIfInBounds_toArray, List.set_cons_zero, List.set_cons_succ, i64_w, i32_w]
              rfl
             refine pure_ (i := 12) (N := some 46) (v := ?_) (a' := ?_) #[true, true, true, true, true, true, true, true, false, true, true, true, true, false, false, false, false, false] rfl rfl (any_of HT_.out (by kernel_rfl)) (fun _ _ _ h => h) (Or.inl ⟨by rfl, ?_⟩) ?_ ?_
             rotate_left
             ·intro w'
              go_simp
              with_reducible rfl
             rotate_left
             ·simp only [Act.put, List.setIfInBounds_toArray, List.set_cons_zero, List.set_cons_succ, i64_w, i32_w]
              rfl
             refine take_ (i := 8) (N := some 42) (v := ?_) (a' := ?_) #[true, true, true, true, true, true, true, true, true, true, true, true, true, false, false, false, false, false] rfl rfl (take_ofW HT_.out HW_.out (by kernel_rfl)) (fun _ _ _ h => h) (Or.inl ⟨by rfl, ?_⟩) hHeld ?_ ?_
             rotate_left
             ·rintro w' ⟨s0, s1⟩
              go_simp
              with_reducible rfl
             rotate_left
             ·simp only [Act.put, List.setIfInBounds_toArray, List.set_cons_zero, List.set_cons_succ, i64_w, i32_w]
              rfl
             refine take_ (i := 13) (N := some 47) (v := ?_) (a' := ?_) #[true, true, true, true, true, true, true, true, true, true, true, true, true, true, false, false, false, false] rfl rfl (take_ofW HT_.out HW_.out (by kernel_rfl)) (fun _ _ _ h => h) (Or.inl ⟨by rfl, ?_⟩) hHeld ?_ ?_
             rotate_left
             ·rintro w' ⟨s0, s1⟩
              go_simp
              with_reducible rfl
             rotate_left
             ·simp only [Act.put, List.setIfInBounds_toArray, List.set_cons_zero, List.set_cons_succ, i64_w, i32_w]
              rfl
             refine pure_ (i := 14) (N := some 48) (v := ?_) (a' := ?_) #[true, true, true, true, true, true, true, true, true, true, true, true, true, true, true, false, false, false] rfl rfl (any_of HT_.out (by kernel_rfl)) (fun _ _ _ h => h) (Or.inl ⟨by rfl, ?_⟩) ?_ ?_
             rotate_left
             ·intro w'
              go_simp
              with_reducible rfl
             rotate_left
             ·simp only [Act.put, List.setIfInBounds_toArray, List.set_cons_zero, List.set_cons_succ, i64_w, i32_w]
              rfl
             refine last_ (i := 15) (N := none) #[true, true, true, true, true, true, true, true, true, true, true, true, true, true, true, true, false, false] rfl rfl (one_of HT_.out (by kernel_rfl)) (by decide) (fun K hK => ?_)
             refine skip_ (w1 := ?_) (by rfl) rfl ?_ ?_
             rotate_left
             ·go_simp
              rfl
             refine hK.out _ _ ?_
             clear hK K
             refine pure_ (i := 16) (N := some 49) (v := ?_) (a' := ?_) #[true, true, true, true, true, true, true, true, true, true, true, true, true, true, true, true, true, false] rfl rfl (any_of HT_.out (by kernel_rfl)) (fun _ _ _ h => h) (Or.inl ⟨by rfl, ?_⟩) ?_ ?_
             rotate_left
             ·intro w'
              go_simp
              with_reducible rfl
             rotate_left
             ·simp only [Act.put, List.setIfInBounds_toArray, List.set_cons_zero, List.set_cons_succ, i64_w, i32_w]
              rfl
             refine last_ (i := 17) (N := none) #[true, true, true, true, true, true, true, true, true, true, true, true, true, true, true, true, true, true] rfl rfl (one_of HT_.out (by kernel_rfl)) (by decide) (fun K hK => ?_)
             refine skip_ (w1 := ?_) (by rfl) rfl ?_ ?_
             rotate_left
             ·go_simp
              rfl
             refine hK.out _ _ ?_
             clear hK K
             refine done_ (done_of HT_.out (by kernel_rfl)) ?_
             try go_wp2
             (try simp only [← hl4_2])
             go_roundg k2
             case measure => have := HK1.out; have := HK2.out; omega
             case rel => exact ⟨(y306), (wrap64 (1 - x5_2)), (ji9), sd_, (by first | rfl | (simp; done) | (simp only [← hji9] <;> (first | rfl | simp)) | (simp [*]; done)), H', ⟨by have := HK1.out; have := HK2.out; omega⟩, ⟨by (try simp only [hl4_2]); (with_reducible repeat (first | apply Kd.R_alloc | apply Kd.R_drewN | apply Kd.R_drew)); exact HQ20.out⟩, ⟨by repeat (first | (with_reducible first | exact HB.out | apply below_alloc | apply pw_below_drewN | apply below_drew1 | refine below_set ?_ GB15.out | refine below_set ?_ GB15.out) | exact HB.out)⟩⟩
            ·rw [if_neg c14] at H
             have c14b0 : decide ((rd x4_2 x7_2) < (rd x4_2 (ji9))) = false := decide_eq_false c14
             clear c14
             have H' := Aside0.mk H
             clear H
             try go_wp2
             have n0_ := Aside0.mk (Kd.R_drew HO_4.out)
             have n1_ := Aside0.mk (below_drew1 HB.out)
             clear HO_4
             clear HB
             have HO_4 := n0_
             have HB := n1_
             clear n0_ n1_
             have p301 : 0 ≤ ((ji9) : Int) := of_decide_eq_true as_
             have q301 : (ji9) < (x4_2.length : Int) := of_decide_eq_true as_
             obtain ⟨ad301, e301, hx301_0⟩ := Kd.at_int (Kd.R_reads' HO_4.out).2.2 (ji9) p301 q301
             cases e301
             replace p301 := eq_true p301
             replace q301 := eq_true q301
             have p302 : 0 ≤ (x7_2 : Int) := of_decide_eq_true as_
             have q302 : x7_2 < (x4_2.length : Int) := of_decide_eq_true as_
             obtain ⟨ad302, e302, hx302_0⟩ := Kd.at_int (Kd.R_reads' HO_4.out).2.2 x7_2 p302 q302
             obtain rfl : ad301 = ad302 := (by injection e302)
             replace p302 := eq_true p302
             replace q302 := eq_true q302
             refine start_ (n := 14) (S := fun w' => w'.cell? (ad301.add ((ji9)).toNat) = some (.int .i64 (rd x4_2 (ji9))) ∧ w'.cell? (ad301.add (x7_2).toNat) = some (.int .i64 (rd x4_2 x7_2))) (ds := []) #[false, false, false, false, false, false, false, false, false, false, false, false, false, false] (by kernel_rfl) rfl rfl ⟨hx301_0, hx302_0⟩ (fun hHeld => ?_); refine with_tabW torusref07_Sorted.tab7 torusref07_Sorted.bits7 (fun HT_ HW_ => ?_)
             generalize wr.drew = w21 at HO_4 HB hx301_0 hx302_0 hHeld ⊢
             refine pure_ (i := 0) (N := some 18) (v := ?_) (a' := ?_) #[true, false, false, false, false, false, false, false, false, false, false, false, false, false] rfl rfl (any_of HT_.out (by kernel_rfl)) (fun _ _ _ h => h) (Or.inl ⟨by rfl, ?_⟩) ?_ ?_
             rotate_left
             ·intro w'
              go_simp
              with_reducible rfl
             rotate_left
             ·simp only [Act.put, List.setIfInBounds_toArray, List.set_cons_zero, List.set_cons_succ, i64_w, i32_w]
              rfl
             refine pure_ (i := 1) (N := some 19) (v := ?_) (a' := ?_) #[true, true, false, false, false, false, false, false, false, false, false, false, false, false] rfl rfl (any_of HT_.out (by kernel_rfl)) (fun _ _ _ h => h) (Or.inl ⟨by rfl, ?_⟩) ?_ ?_
             rotate_left
             ·intro w'
              go_simp
              with_reducible rfl
             rotate_left
             ·simp only [Act.put, List.setIfInBounds_toArray, List.set_cons_zero, List.set_cons_succ, i64_w, i32_w]
              rfl
             refine pure_ (i := 2) (N := some 20) (v := ?_) (a' := ?_) #[true, true, true, false, false, false, false, false, false, false, false, false, false, false] rfl rfl (any_of HT_.out (by kernel_rfl)) (fun _ _ _ h => h) (Or.inl ⟨by rfl, ?_⟩) ?_ ?_
             rotate_left
             ·intro w'
              go_simp
              with_reducible rfl
             rotate_left
             ·simp only [Act.put, List.setIfInBounds_toArray, List.set_cons_zero, List.set_cons_succ, i64_w, i32_w]
              rfl
             refine pure_ (i := 3) (N := some 21) (v := ?_) (a' := ?_) #[true, true, true, true, false, false, false, false, false, false, false, false, false, false] rfl rfl (any_of HT_.out (by kernel_rfl)) (fun _ _ _ h => h) (Or.inl ⟨by rfl, ?_⟩) ?_ ?_
             rotate_left
             ·intro w'
              go_simp
              with_reducible rfl
             rotate_left
             ·simp only [Act.put, List.setIfInBounds_toArray, List.set_cons_zero, List.set_cons_succ, i64_w, i32_w]
              rfl
             refine pure_ (i := 4) (N := some 22) (v := ?_) (a' := ?_) #[true, true, true, true, true, false, false, false, false, false, false, false, false, false] rfl rfl (any_of HT_.out (by kernel_rfl)) (fun _ _ _ h => h) (Or.inl ⟨by rfl, ?_⟩) ?_ ?_
             rotate_left
             ·intro w'
              go_simp
              with_reducible rfl
             rotate_left
             ·simp only [Act.put, List.setIfInBounds_toArray, List.set_cons_zero, List.set_cons_succ, i64_w, i32_w]
              rfl
             refine pure_ (i := 5) (N := some 23) (v := ?_) (a' := ?_) #[true, true, true, true, true, true, false, false, false, false, false, false, false, false] rfl rfl (any_of HT_.out (by kernel_rfl)) (fun _ _ _ h => h) (Or.inl ⟨by rfl, ?_⟩) ?_ ?_
             rotate_left
             ·intro w'
              go_simp
              with_reducible rfl
             rotate_left
             ·simp only [Act.put, List.setIfInBounds_toArray, List.set_cons_zero, List.set_cons_succ, i64_w, i32_w]
              rfl
             refine pure_ (i := 6) (N := some 24) (v := ?_) (a' := ?_) #[true, true, true, true, true, true, true, false, false, false, false, false, false, false] rfl rfl (any_of HT_.out (by kernel_rfl)) (fun _ _ _ h => h) (Or.inl ⟨by rfl, ?_⟩) ?_ ?_
             rotate_left
             ·intro w'
              go_simp
              with_reducible rfl
             rotate_left
             ·simp only [Act.put, List.setIfInBounds_toArray, List.set_cons_zero, List.set_cons_succ, i64_w, i32_w]
              rfl
             refine pure_ (i := 8) (N := some 26) (v := ?_) (a' := ?_) #[true, true, true, true, true, true, true, false, true, false, false, false, false, false] rfl rfl (any_of HT_.out (by kernel_rfl)) (fun _ _ _ h => h) (Or.inl ⟨by rfl, ?_⟩) ?_ ?_
             rotate_left
             ·intro w'
              go_simp
              with_reducible rfl
             rotate_left
             ·simp only [Act.put, List.setIfInBounds_toArray, List.set_cons_zero, List.set_cons_succ, i64_w, i32_w]
              rfl
             refine pure_ (i := 9) (N := some 27) (v := ?_) (a' := ?_) #[true, true, true, true, true, true, true, false, true, true, false, false, false, false] rfl rfl (any_of HT_.out (by kernel_rfl)) (fun _ _ _ h => h) (Or.inl ⟨by rfl, ?_⟩) ?_ ?_
             rotate_left
             ·intro w'
              go_simp
              with_reducible rfl
             rotate_left
             ·simp only [Act.put, List.setIfInBounds_toArray, List.set_cons_zero, List.set_cons_succ, i64_w, i32_w]
              rfl
             refine pure_ (i := 10) (N := some 28) (v := ?_) (a' := ?_) #[true, true, true, true, true, true, true, false, true, true, true, false, false, false] rfl rfl (any_of HT_.out (by kernel_rfl)) (fun _ _ _ h => h) (Or.inl ⟨by rfl, ?_⟩) ?_ ?_
             rotate_left
             ·intro w'
              go_simp
              with_reducible rfl
             rotate_left
             ·simp only [Act.put, List.setIfInBounds_toArray, List.set_cons_zero, List.set_cons_succ, i64_w, i32_w]
              rfl
             refine take_ (i := 7) (N := some 25) (v := ?_) (a' := ?_) #[true, true, true, true, true, true, true, true, true, true, true, false, false, false] rfl rfl (take_ofW HT_.out HW_.out (by kernel_rfl)) (fun _ _ _ h => h) (Or.inl ⟨by rfl, ?_⟩) hHeld ?_ ?_
             rotate_left
             ·rintro w' ⟨s0, s1⟩
              go_simp
              with_reducible rfl
             rotate_left
             ·simp only [Act.put, List.setIfInBounds_toArray, List.set_cons_zero, List.set_cons_succ, i64_w, i32_w]
              rfl
             refine take_ (i := 11) (N := some 29) (v := ?_) (a' := ?_) #[true, true, true, true, true, true, true, true, true, true, true, true, false, false] rfl rfl (take_ofW HT_.out HW_.out (by kernel_rfl)) (fun _ _ _ h => h) (Or.inl ⟨by rfl, ?_⟩) hHeld ?_ ?_
             rotate_left
             ·rintro w' ⟨s0, s1⟩
              go_simp
              with_reducible rfl
             rotate_left
             ·simp only [Act.put, List.setIfInBounds_toArray, List.set_cons_zero, List.set_cons_succ, i64_w, i32_w]
              rfl
             refine pure_ (i := 12) (N := some 30) (v := ?_) (a' := ?_) #[true, true, true, true, true, true, true, true, true, true, true, true, true, false] rfl rfl (any_of HT_.out (by kernel_rfl)) (fun _ _ _ h => h) (Or.inl ⟨by rfl, ?_⟩) ?_ ?_
             rotate_left
             ·intro w'
              go_simp
              with_reducible rfl
             rotate_left
             ·simp only [Act.put, List.setIfInBounds_toArray, List.set_cons_zero, List.set_cons_succ, i64_w, i32_w]
              rfl
             refine pure_ (i := 13) (N := some 31) (v := ?_) (a' := ?_) #[true, true, true, true, true, true, true, true, true, true, true, true, true, true] rfl rfl (any_of HT_.out (by kernel_rfl)) (fun _ _ _ h => h) (Or.inl ⟨by rfl, ?_⟩) ?_ ?_
             rotate_left
             ·intro w'
              go_simp
              with_reducible rfl
             rotate_left
             ·simp only [Act.put, List.setIfInBounds_toArray, List.set_cons_zero, List.set_cons_succ, i64_w, i32_w]
              rfl
             refine done_ (done_of HT_.out (by kernel_rfl)) ?_
             try go_wp2
             (try simp only [← hl4_2])
             go_roundg k2
             case measure => have := HK1.out; have := HK2.out; omega
             case rel => exact ⟨(x4_2), (x5_2), (wrap64 (x6_1 + 1)), sd_, sd_, H', ⟨by have := HK1.out; have := HK2.out; omega⟩, ⟨by (try simp only [hl4_2]); (with_reducible repeat (first | apply Kd.R_alloc | apply Kd.R_drewN | apply Kd.R_drew)); exact HO_4.out⟩, ⟨bw_⟩⟩
           ·rw [if_neg c13] at H
            exact absurd H (by simp)
          ·rw [if_neg c12] at H
           exact absurd H (by simp)
         ·rw [if_neg c11] at H
          exact absurd H (by simp)
        ·rw [if_neg c10] at H
         exact absurd H (by simp)
       ·rw [if_neg c8] at H
        have c8b0 : decide (0 < x7_2) = false := decide_eq_false c8
        clear c8
        have H' := Aside0.mk H
        clear H
        try go_wp2
        have n0_ := Aside0.mk (Kd.R_drew HO_4.out)
        have n1_ := Aside0.mk (below_drew1 HB.out)
        clear HO_4
        clear HB
        have HO_4 := n0_
        have HB := n1_
        clear n0_ n1_
        refine start_ (n := 14) (S := fun w' => True) (ds := []) #[false, false, false, false, false, false, false, false, false, false, false, false, false, false] (by kernel_rfl) rfl rfl trivial (fun hHeld => ?_); refine with_tabW torusref07_Sorted.tab7 torusref07_Sorted.bits7 (fun HT_ HW_ => ?_)
        generalize wr.drew = w22 at HO_4 HB hHeld ⊢
        refine pure_ (i := 0) (N := some 18) (v := ?_) (a' := ?_) #[true, false, false, false, false, false, false, false, false, false, false, false, false, false] rfl rfl (any_of HT_.out (by kernel_rfl)) (fun _ _ _ h => h) (Or.inl ⟨by rfl, ?_⟩) ?_ ?_
        rotate_left
        ·intro w'
         go_simp
         with_reducible rfl
        rotate_left
        ·simp only [Act.put, List.setIfInBounds_toArray, List.set_cons_zero, List.set_cons_succ, i64_w, i32_w]
         rfl
        refine pure_ (i := 1) (N := some 19) (v := ?_) (a' := ?_) #[true, true, false, false, false, false, false, false, false, false, false, false, false, false] rfl rfl (any_of HT_.out (by kernel_rfl)) (fun _ _ _ h => h) (Or.inl ⟨by rfl, ?_⟩) ?_ ?_
        rotate_left
        ·intro w'
         go_simp
         with_reducible rfl
        rotate_left
        ·simp only [Act.put, List.setIfInBounds_toArray, List.set_cons_zero, List.set_cons_succ, i64_w, i32_w]
         rfl
        refine pure_ (i := 2) (N := some 20) (v := ?_) (a' := ?_) #[true, true, true, false, false, false, false, false, false, false, false, false, false, false] rfl rfl (any_of HT_.out (by kernel_rfl)) (fun _ _ _ h => h) (Or.inl ⟨by rfl, ?_⟩) ?_ ?_
        rotate_left
        ·intro w'
         go_simp
         with_reducible rfl
        rotate_left
        ·simp only [Act.put, List.setIfInBounds_toArray, List.set_cons_zero, List.set_cons_succ, i64_w, i32_w]
         rfl
        refine pure_ (i := 3) (N := some 21) (v := undef) (a' := ?_) #[true, true, true, true, false, false, false, false, false, false, false, false, false, false] rfl rfl (any_of HT_.out (by kernel_rfl)) (fun _ _ _ h => h) (Or.inr ⟨by rfl, rfl⟩) ?_ ?_
        rotate_left
        ·simp only [Act.put, List.setIfInBounds_toArray, List.set_cons_zero, List.set_cons_succ, i64_w, i32_w]
         rfl
        refine pure_ (i := 4) (N := some 22) (v := undef) (a' := ?_) #[true, true, true, true, true, false, false, false, false, false, false, false, false, false] rfl rfl (any_of HT_.out (by kernel_rfl)) (fun _ _ _ h => h) (Or.inr ⟨by rfl, rfl⟩) ?_ ?_
        rotate_left
        ·simp only [Act.put, List.setIfInBounds_toArray, List.set_cons_zero, List.set_cons_succ, i64_w, i32_w]
         rfl
        refine pure_ (i := 5) (N := some 23) (v := undef) (a' := ?_) #[true, true, true, true, true, true, false, false, false, false, false, false, false, false] rfl rfl (any_of HT_.out (by kernel_rfl)) (fun _ _ _ h => h) (Or.inr ⟨by rfl, rfl⟩) ?_ ?_
        rotate_left
        ·simp only [Act.put, List.setIfInBounds_toArray, List.set_cons_zero, List.set_cons_succ, i64_w, i32_w]
         rfl
        refine pure_ (i := 6) (N := some 24) (v := undef) (a' := ?_) #[true, true, true, true, true, true, true, false, false, false, false, false, false, false] rfl rfl (any_of HT_.out (by kernel_rfl)) (fun _ _ _ h => h) (Or.inr ⟨by rfl, rfl⟩) ?_ ?_
        rotate_left
        ·simp only [Act.put, List.setIfInBounds_toArray, List.set_cons_zero, List.set_cons_succ, i64_w, i32_w]
         rfl
        refine pure_ (i := 7) (N := some 25) (v := undef) (a' := ?_) #[true, true, true, true, true, true, true, true, false, false, false, false, false, false] rfl rfl (any_of HT_.out (by kernel_rfl)) (fun _ _ _ h => h) (Or.inr ⟨by rfl, rfl⟩) ?_ ?_
        rotate_left
        ·simp only [Act.put, List.setIfInBounds_toArray, List.set_cons_zero, List.set_cons_succ, i64_w, i32_w]
         rfl
        refine pure_ (i := 8) (N := some 26) (v := undef) (a' := ?_) #[true, true, true, true, true, true, true, true, true, false, false, false, false, false] rfl rfl (any_of HT_.out (by kernel_rfl)) (fun _ _ _ h => h) (Or.inr ⟨by rfl, rfl⟩) ?_ ?_
        rotate_left
        ·simp only [Act.put, List.setIfInBounds_toArray, List.set_cons_zero, List.set_cons_succ, i64_w, i32_w]
         rfl
        refine pure_ (i := 9) (N := some 27) (v := undef) (a' := ?_) #[true, true, true, true, true, true, true, true, true, true, false, false, false, false] rfl rfl (any_of HT_.out (by kernel_rfl)) (fun _ _ _ h => h) (Or.inr ⟨by rfl, rfl⟩) ?_ ?_
        rotate_left
        ·simp only [Act.put, List.setIfInBounds_toArray, List.set_cons_zero, List.set_cons_succ, i64_w, i32_w]
         rfl
        refine pure_ (i := 10) (N := some 28) (v := undef) (a' := ?_) #[true, true, true, true, true, true, true, true, true, true, true, false, false, false] rfl rfl (any_of HT_.out (by kernel_rfl)) (fun _ _ _ h => h) (Or.inr ⟨by rfl, rfl⟩) ?_ ?_
        rotate_left
        ·simp only [Act.put, List.setIfInBounds_toArray, List.set_cons_zero, List.set_cons_succ, i64_w, i32_w]
         rfl
        refine pure_ (i := 11) (N := some 29) (v := undef) (a' := ?_) #[true, true, true, true, true, true, true, true, true, true, true, true, false, false] rfl rfl (any_of HT_.out (by kernel_rfl)) (fun _ _ _ h => h) (Or.inr ⟨by rfl, rfl⟩) ?_ ?_
        rotate_left
        ·simp only [Act.put, List.setIfInBounds_toArray, List.set_cons_zero, List.set_cons_succ, i64_w, i32_w]
         rfl
        refine pure_ (i := 12) (N := some 30) (v := undef) (a' := ?_) #[true, true, true, true, true, true, true, true, true, true, true, true, true, false] rfl rfl (any_of HT_.out (by kernel_rfl)) (fun _ _ _ h => h) (Or.inr ⟨by rfl, rfl⟩) ?_ ?_
        rotate_left
        ·simp only [Act.put, List.setIfInBounds_toArray, List.set_cons_zero, List.set_cons_succ, i64_w, i32_w]
         rfl
        refine pure_ (i := 13) (N := some 31) (v := ?_) (a' := ?_) #[true, true, true, true, true, true, true, true, true, true, true, true, true, true] rfl rfl (any_of HT_.out (by kernel_rfl)) (fun _ _ _ h => h) (Or.inl ⟨by rfl, ?_⟩) ?_ ?_
        rotate_left
        ·intro w'
         go_simp
         with_reducible rfl
        rotate_left
        ·simp only [Act.put, List.setIfInBounds_toArray, List.set_cons_zero, List.set_cons_succ, i64_w, i32_w]
         rfl
        refine done_ (done_of HT_.out (by kernel_rfl)) ?_
        try go_wp2
        (try simp only [← hl4_2])
        go_roundg k2
        case measure => have := HK1.out; have := HK2.out; omega
        case rel => exact ⟨(x4_2), (x5_2), (wrap64 (x6_1 + 1)), sd_, sd_, H', ⟨by have := HK1.out; have := HK2.out; omega⟩, ⟨by (try simp only [hl4_2]); (with_reducible repeat (first | apply Kd.R_alloc | apply Kd.R_drewN | apply Kd.R_drew)); exact HO_4.out⟩, ⟨bw_⟩⟩
    ·rw [if_neg c6] at H
     have c6b0 : decide (x6_1 < (x4_1.length : Int)) = false := decide_eq_false c6
     clear c6
     simp only [Option.some.injEq, Prod.mk.injEq] at H
     obtain ⟨rfl, rfl⟩ := H
     obtain ⟨Ao23, co23, eo23⟩ := Kd.R_slice HO_4.out
     subst eo23
     go_wp2
     go_ret2
     exact ⟨_, by first | rfl | (simp [errW_none, errW_some] <;> rfl) | (simp [*, errW_none, errW_some] <;> rfl), rRa_ HO_4.out, bw_⟩
 ·rw [if_neg c2] at H
  exact absurd H (by simp)

end Go.Proofs.YticckanjfdcpaaaDoor.PSimplex
namespace Go.Proofs.YticckanjfdcpaaaDoor.PSimplex
open Go.RowKit Go.Proofs.YticckanjfdcpaaaDoorW.PrintWords Go.Proofs.YticckanjfdcpaaaDoorW.PrintLast Go.Proofs.YticckanjfdcpaaaDoorW.PrintMore
attribute [local go_sem] max2_int min2_int max_two min_two max_three min_three max_four min_four   -- for this text's walks alone
set_option linter.unusedVariables false
set_option linter.unusedSimpArgs false

/-! ### torusref07_In: function 46 -/
def torusref07_In.l0 : Nat → List Int → Int → Int → Option (Bool)
 |0, _, _, _ => none
 |k + 1, x0, x1, x5 => if x5 < (x0.length : Int) then (if 0 ≤ x5 then (if (rd x0 x5) = x1 then (some true) else (torusref07_In.l0 k x0 x1 (wrap64 (x5 + 1)))) else (none)) else (some false)
def torusref07_In.f (k : Nat) (l0 : List Int) (a1 : Int) : Option (Bool) := torusref07_In.l0 k l0 a1 0
theorem torusref07_In.mono_l : ∀ k, (∀ y0 y1 y2, LeO (torusref07_In.l0 k y0 y1 y2) (torusref07_In.l0 (k + 1) y0 y1 y2))
 |0 => fun _ _ _ r h => by simp [torusref07_In.l0] at h
 |k + 1 => by
  have ih0 := torusref07_In.mono_l k
  ·intro y0 y1 y2
   unfold torusref07_In.l0
   repeat' first
   |(with_reducible exact ih0 _ _ _)
   |(with_reducible exact LeO.refl _)
   |(with_reducible exact LeO.none _)
   |(with_reducible refine LeO.ite ?_ ?_)
   |(with_reducible refine LeO.bind ?_ (fun _ => ?_))
   |exact ih0 _ _ _
   |exact LeO.none _
   |refine LeO.ite ?_ ?_
   |refine LeO.bind ?_ (fun _ => ?_)
theorem torusref07_In.mono : ∀ a0 a1 k, LeO (torusref07_In.f k a0 a1) (torusref07_In.f (k + 1) a0 a1) := by
 intro a0 a1 k
 have ih0 := torusref07_In.mono_l k
 unfold torusref07_In.f
 repeat' first
   |(with_reducible exact ih0 _ _ _)
   |(with_reducible exact LeO.refl _)
   |(with_reducible exact LeO.none _)
   |(with_reducible refine LeO.ite ?_ ?_)
   |(with_reducible refine LeO.bind ?_ (fun _ => ?_))
   |exact ih0 _ _ _
   |exact LeO.none _
   |refine LeO.ite ?_ ?_
   |refine LeO.bind ?_ (fun _ => ?_)
set_option maxHeartbeats 8000000 in
set_option maxRecDepth 100000 in
theorem torusref07_In.calls (k : Nat) (A0 : Option Addr) (c0 : Nat) (l0 : List Int) (a1 : Int) (r : Bool) (w : World) (hr0 : Kd.C (Kd.int .i64) w A0 l0.length l0) (hc0 : l0.length ≤ c0) (h : torusref07_In.f k l0 a1 = some r) :
  Calls Tryd.prog 46 #[.slice A0 l0.length c0, .int .i64 a1] w fun e w' => e = .returned (.bool r) ∧ Drawn0 w w' := by
 have HR0 := Aside0.mk hr0
 have HC0 := Aside0.mk hc0
 clear hr0 hc0
 have H : (torusref07_In.l0 k l0 a1 0) = some r := h
 clear h
 have H' := Aside0.mk H
 clear H
 go_enter Tryd.func46, Tryd.ntmps46
 go_wp2
 go_loopg [5] k (fun kq v5 w' => ∃ (x5_1 : Int), v5 = .int .i64 x5_1 ∧ Aside0 (torusref07_In.l0 kq l0 a1 x5_1 = some r) ∧ Aside0 (kq ≤ k) ∧ Drawn0 w w')
 case atStart => exact ⟨(0), sd_, H', ⟨Nat.le_refl _⟩, dr_⟩
 case round =>
  clear H'
  try clear p2
  obtain ⟨x5_1, rfl, HA, HK1, ⟨m1, rfl⟩⟩ := hrel
  cases gk with
  |zero => exact absurd HA.out (by simp [torusref07_In.l0])
  |succ k1 =>
   have H := HA.out
   clear HA
   simp only [torusref07_In.l0] at H
   by_cases c3 : x5_1 < (l0.length : Int)
   ·rw [if_pos c3] at H
    have c3b0 : decide (x5_1 < (l0.length : Int)) = true := decide_eq_true c3
    clear c3
    by_cases c4 : 0 ≤ x5_1
    ·rw [if_pos c4] at H
     have c4b0 : decide (0 ≤ x5_1) = true := decide_eq_true c4
     clear c4
     by_cases c5 : (rd l0 x5_1) = a1
     ·rw [if_pos c5] at H
      have c5b0 : ((rd l0 x5_1) == a1) = true := beq_iff_eq.mpr c5
      have c5b1 : ((rd l0 x5_1) != a1) = false := bne_eq_false_iff_eq.mpr c5
      clear c5
      obtain rfl := Option.some.inj H
      have p341 : 0 ≤ (x5_1 : Int) := of_decide_eq_true as_
      have q341 : x5_1 < (l0.length : Int) := of_decide_eq_true as_
      obtain ⟨ad341, e341, hx341_0⟩ := Kd.at_int HR0.out x5_1 p341 q341
      cases e341
      replace p341 := eq_true p341
      replace q341 := eq_true q341
      go_wp2
      go_ret
      exact ⟨sd_, dr_⟩
     ·rw [if_neg c5] at H
      have c5b0 : ((rd l0 x5_1) == a1) = false := beq_eq_false_iff_ne.mpr c5
      have c5b1 : ((rd l0 x5_1) != a1) = true := bne_iff_ne.mpr c5
      have H' := Aside0.mk H
      clear H
      have p341 : 0 ≤ (x5_1 : Int) := of_decide_eq_true as_
      have q341 : x5_1 < (l0.length : Int) := of_decide_eq_true as_
      obtain ⟨ad341, e341, hx341_0⟩ := Kd.at_int HR0.out x5_1 p341 q341
      cases e341
      replace p341 := eq_true p341
      replace q341 := eq_true q341
      go_wp2
      go_roundg k1
      case measure => have := HK1.out; omega
      case rel => exact ⟨(wrap64 (x5_1 + 1)), sd_, H', ⟨by have := HK1.out; omega⟩, dr_⟩
    ·rw [if_neg c4] at H
     exact absurd H (by simp)
   ·rw [if_neg c3] at H
    have c3b0 : decide (x5_1 < (l0.length : Int)) = false := decide_eq_false c3
    clear c3
    obtain rfl := Option.some.inj H
    go_wp2
    go_ret
    exact ⟨sd_, dr_⟩

end Go.Proofs.YticckanjfdcpaaaDoor.PSimplex
namespace Go.Proofs.YticckanjfdcpaaaDoor.PSimplex
open Go.RowKit Go.Proofs.YticckanjfdcpaaaDoorW.PrintWords Go.Proofs.YticckanjfdcpaaaDoorW.PrintLast Go.Proofs.YticckanjfdcpaaaDoorW.PrintMore
attribute [local go_sem] max2_int min2_int max_two min_two max_three min_three max_four min_four   -- for this text's walks alone
set_option linter.unusedVariables false
set_option linter.unusedSimpArgs false

/-! ### torusref07_Valid: function 21 -/
mutual
def torusref07_Valid.l0 : Nat → List Int → Int → Int → List Int → Int → Option (List Int)
 |0, _, _, _, _, _ => none
 |k + 1, x0, x1, x2, x7, x8 => if x8 < (x0.length : Int) then (torusref07_Valid.j1 k x0 x1 x2 x7 x8 (decide ((x7.length : Int) < x1))) else (torusref07_Valid.j1 k x0 x1 x2 x7 x8 false)
def torusref07_Valid.j1 : Nat → List Int → Int → Int → List Int → Int → Bool → Option (List Int)
 |0, _, _, _, _, _, _ => none
 |k + 1, x0, x1, x2, x7, x8, x19 => if x19 = true then (if 0 ≤ x8 then (if x8 < (x0.length : Int) then (if x2 = 0 then (none) else ((torusref07_In.f k x7 (Int.tmod (wrap64 ((Int.tmod (rd x0 x8) x2) + x2)) x2)).bind fun t343 => (if t343 = true then (torusref07_Valid.l0 k x0 x1 x2 x7 (wrap64 (x8 + 1))) else (if x7.length < 17592186044416 then (torusref07_Valid.l0 k x0 x1 x2 (x7 ++ [Int.tmod (wrap64 ((Int.tmod (rd x0 x8) x2) + x2)) x2]) (wrap64 (x8 + 1))) else (none))))) else (none)) else (none)) else (if (x7.length : Int) = 0 then (if x7.length < 17592186044416 then ((torusref07_Sorted.f k (x7 ++ [0])).bind fun bt350 => (some bt350.1)) else (none)) else ((torusref07_Sorted.f k x7).bind fun bt354 => (some bt354.1)))
end
def torusref07_Valid.f (k : Nat) (l0 : List Int) (a1 : Int) (a2 : Int) : Option (List Int) := torusref07_Valid.l0 k l0 a1 a2 ([] : List Int) 0
theorem torusref07_Valid.mono_l : ∀ k, (∀ y0 y1 y2 y3 y4, LeO (torusref07_Valid.l0 k y0 y1 y2 y3 y4) (torusref07_Valid.l0 (k + 1) y0 y1 y2 y3 y4)) ∧ (∀ y0 y1 y2 y3 y4 y5, LeO (torusref07_Valid.j1 k y0 y1 y2 y3 y4 y5) (torusref07_Valid.j1 (k + 1) y0 y1 y2 y3 y4 y5))
 |0 => ⟨fun _ _ _ _ _ r h => by simp [torusref07_Valid.l0] at h, fun _ _ _ _ _ _ r h => by simp [torusref07_Valid.j1] at h⟩
 |k + 1 => by
  obtain ⟨ih0, ih1⟩ := torusref07_Valid.mono_l k
  refine ⟨?_, ?_⟩
  ·intro y0 y1 y2 y3 y4
   unfold torusref07_Valid.l0
   repeat' first
   |(with_reducible exact ih0 _ _ _ _ _)
   |(with_reducible exact ih1 _ _ _ _ _ _)
   |(with_reducible exact torusref07_In.mono _ _ _)
   |(with_reducible exact torusref07_Sorted.mono _ _)
   |(with_reducible exact LeO.refl _)
   |(with_reducible exact LeO.none _)
   |(with_reducible refine LeO.ite ?_ ?_)
   |(with_reducible refine LeO.bind ?_ (fun _ => ?_))
   |exact ih0 _ _ _ _ _
   |exact ih1 _ _ _ _ _ _
   |exact torusref07_In.mono _ _ _
   |exact torusref07_Sorted.mono _ _
   |exact LeO.none _
   |refine LeO.ite ?_ ?_
   |refine LeO.bind ?_ (fun _ => ?_)
  ·intro y0 y1 y2 y3 y4 y5
   unfold torusref07_Valid.j1
   repeat' first
   |(with_reducible exact ih0 _ _ _ _ _)
   |(with_reducible exact ih1 _ _ _ _ _ _)
   |(with_reducible exact torusref07_In.mono _ _ _)
   |(with_reducible exact torusref07_Sorted.mono _ _)
   |(with_reducible exact LeO.refl _)
   |(with_reducible exact LeO.none _)
   |(with_reducible refine LeO.ite ?_ ?_)
   |(with_reducible refine LeO.bind ?_ (fun _ => ?_))
   |exact ih0 _ _ _ _ _
   |exact ih1 _ _ _ _ _ _
   |exact torusref07_In.mono _ _ _
   |exact torusref07_Sorted.mono _ _
   |exact LeO.none _
   |refine LeO.ite ?_ ?_
   |refine LeO.bind ?_ (fun _ => ?_)
theorem torusref07_Valid.mono : ∀ a0 a1 a2 k, LeO (torusref07_Valid.f k a0 a1 a2) (torusref07_Valid.f (k + 1) a0 a1 a2) := by
 intro a0 a1 a2 k
 obtain ⟨ih0, ih1⟩ := torusref07_Valid.mono_l k
 unfold torusref07_Valid.f
 repeat' first
   |(with_reducible exact ih0 _ _ _ _ _)
   |(with_reducible exact ih1 _ _ _ _ _ _)
   |(with_reducible exact torusref07_In.mono _ _ _)
   |(with_reducible exact torusref07_Sorted.mono _ _)
   |(with_reducible exact LeO.refl _)
   |(with_reducible exact LeO.none _)
   |(with_reducible refine LeO.ite ?_ ?_)
   |(with_reducible refine LeO.bind ?_ (fun _ => ?_))
   |exact ih0 _ _ _ _ _
   |exact ih1 _ _ _ _ _ _
   |exact torusref07_In.mono _ _ _
   |exact torusref07_Sorted.mono _ _
   |exact LeO.none _
   |refine LeO.ite ?_ ?_
   |refine LeO.bind ?_ (fun _ => ?_)
set_option maxHeartbeats 8000000 in
set_option maxRecDepth 100000 in
theorem torusref07_Valid.calls (k : Nat) (A0 : Option Addr) (c0 : Nat) (l0 : List Int) (a1 : Int) (a2 : Int) (r : List Int) (w : World) (hr0 : Kd.C (Kd.int .i64) w A0 l0.length l0) (hc0 : l0.length ≤ c0) (h : torusref07_Valid.f k l0 a1 a2 = some r) :
  Calls Tryd.prog 21 #[.slice A0 l0.length c0, .int .i64 a1, .int .i64 a2] w fun e w' => ∃ v0_ : Value, e = .returned (v0_) ∧ Kd.R (Kd.int .i64) 3 w' w.heap.size (fun _ => True) v0_ r ∧ Below w.heap.size w w' := by
 have HR0 := Aside0.mk hr0
 have HC0 := Aside0.mk hc0
 clear hr0 hc0
 have HB := Aside0.mk (Below.refl w.heap.size w)
 have H : (torusref07_Valid.l0 k l0 a1 a2 ([] : List Int) 0) = some r := h
 clear h
 have H' := Aside0.mk H
 clear H
 go_enter Tryd.func21, Tryd.ntmps21
 go_wp2
 go_loopg [7, 8] k (fun kq v7 v8 w' => ∃ (x7_1 : List Int) (x8_1 : Int), v8 = .int .i64 x8_1 ∧ Aside0 (torusref07_Valid.l0 kq l0 a1 a2 x7_1 x8_1 = some r) ∧ Aside0 (kq ≤ k) ∧ Aside0 (Kd.R (Kd.int .i64) 3 w' w.heap.size (fun _ => True) v7 x7_1) ∧ Aside0 (Below w.heap.size w w'))
 case atStart => exact ⟨(([] : List Int)), (0), sd_, H', ⟨Nat.le_refl _⟩, ⟨by first | exact Kd.R_nil _ _ _ _ _ | exact Kd.N_nil _ _ _ _ _ | exact Kd.V_nil _ _ _ _ _ | exact Kd.Q_nil _ _ _ _ _ | exact Kd.S_nil _ _ _ _ _⟩, ⟨bw_⟩⟩
 case round =>
  clear H'
  try clear c2
  try clear p2
  obtain ⟨x7_1, x8_1, rfl, HA, HK1, HO_7, HB⟩ := hrel
  cases gk with
  |zero => exact absurd HA.out (by simp [torusref07_Valid.l0])
  |succ k1 =>
   have H := HA.out
   clear HA
   simp only [torusref07_Valid.l0] at H
   have HC4 := Aside0.mk H
   clear H
   go_upto_region 3 with (fail)
   go_cut [19] (fun v19 wc => ∃ (kq : Nat) (x19_3 : Bool), v19 = .bool x19_3 ∧ Aside0 (torusref07_Valid.j1 kq l0 a1 a2 x7_1 x8_1 x19_3 = some r) ∧ Aside0 (kq ≤ k1) ∧ Aside0 (Kd.R (Kd.int .i64) 3 wc w.heap.size (fun _ => True) u7 x7_1) ∧ Aside0 (Below w.heap.size w wc))
   case first =>
    have H := HC4.out
    clear HC4
    by_cases c5 : x8_1 < (l0.length : Int)
    ·rw [if_pos c5] at H
     have c5b0 : decide (x8_1 < (l0.length : Int)) = true := decide_eq_true c5
     clear c5
     (first | rw [c5b0] | (simp only [i64_w, i32_w]; rw [c5b0]) | skip)
     have H' := Aside0.mk H
     clear H
     obtain ⟨Ao6, co6, eo6⟩ := Kd.R_slice HO_7.out
     subst eo6
     go_wp2
     go_meet
     case rel => exact ⟨_, (decide ((x7_1.length : Int) < a1)), sd_, H', ⟨by have := HK1.out; first | omega | exact Nat.le_refl _⟩, ⟨rRa_ HO_7.out⟩, ⟨bw_⟩⟩
    ·rw [if_neg c5] at H
     have c5b0 : decide (x8_1 < (l0.length : Int)) = false := decide_eq_false c5
     clear c5
     (first | rw [c5b0] | (simp only [i64_w, i32_w]; rw [c5b0]) | skip)
     have H' := Aside0.mk H
     clear H
     go_wp2
     go_meet
     case rel => exact ⟨_, (false), sd_, H', ⟨by have := HK1.out; first | omega | exact Nat.le_refl _⟩, ⟨rRa_ HO_7.out⟩, ⟨bw_⟩⟩
   case rest =>
    clear HC4
    try clear c2
    try clear p2
    try clear c5
    try clear c5b0
    try clear p2
    obtain ⟨kq, x19_3, rfl, HA, HJ3, HO_7, HB⟩ := hcut
    cases kq with
    |zero => exact absurd HA.out (by simp [torusref07_Valid.j1])
    |succ kj3 =>
     have H := HA.out
     clear HA
     simp only [torusref07_Valid.j1] at H
     by_cases c7 : x19_3 = true
     ·subst c7
      have H1 : (if 0 ≤ x8_1 then (if x8_1 < (l0.length : Int) then (if a2 = 0 then (none) else ((torusref07_In.f kj3 x7_1 (Int.tmod (wrap64 ((Int.tmod (rd l0 x8_1) a2) + a2)) a2)).bind fun t343 => (if t343 = true then (torusref07_Valid.l0 kj3 l0 a1 a2 x7_1 (wrap64 (x8_1 + 1))) else (if x7_1.length < 17592186044416 then (torusref07_Valid.l0 kj3 l0 a1 a2 (x7_1 ++ [Int.tmod (wrap64 ((Int.tmod (rd l0 x8_1) a2) + a2)) a2]) (wrap64 (x8_1 + 1))) else (none))))) else (none)) else (none)) = some r := by rw [if_pos rfl] at H; exact H
      clear H
      have H := H1
      clear H1
      by_cases c8 : 0 ≤ x8_1
      ·rw [if_pos c8] at H
       have c8b0 : decide (0 ≤ x8_1) = true := decide_eq_true c8
       clear c8
       by_cases c9 : x8_1 < (l0.length : Int)
       ·rw [if_pos c9] at H
        have c9b0 : decide (x8_1 < (l0.length : Int)) = true := decide_eq_true c9
        clear c9
        by_cases c10 : a2 = 0
        ·rw [if_pos c10] at H
         exact absurd H (by simp)
        ·rw [if_neg c10] at H
         have c10b0 : (a2 == 0) = false := beq_eq_false_iff_ne.mpr c10
         have c10b1 : (a2 != 0) = true := bne_iff_ne.mpr c10
         replace H := Option.bind_eq_some_iff.mp H
         obtain ⟨t343, A110, H⟩ := H
         replace H : (if t343 = true then (torusref07_Valid.l0 kj3 l0 a1 a2 x7_1 (wrap64 (x8_1 + 1))) else (if x7_1.length < 17592186044416 then (torusref07_Valid.l0 kj3 l0 a1 a2 (x7_1 ++ [Int.tmod (wrap64 ((Int.tmod (rd l0 x8_1) a2) + a2)) a2]) (wrap64 (x8_1 + 1))) else (none))) = some r := H
         have A11 := Aside0.mk A110
         clear A110
         by_cases c12 : t343 = true
         ·subst c12
          have H1 : (torusref07_Valid.l0 kj3 l0 a1 a2 x7_1 (wrap64 (x8_1 + 1))) = some r := by rw [if_pos rfl] at H; exact H
          clear H
          have H := H1
          clear H1
          have H' := Aside0.mk H
          clear H
          have p342 : 0 ≤ (x8_1 : Int) := of_decide_eq_true as_
          have q342 : x8_1 < (l0.length : Int) := of_decide_eq_true as_
          obtain ⟨ad342, e342, hx342_0⟩ := Kd.at_int HR0.out x8_1 p342 q342
          cases e342
          replace hx342_0 := (HB.out.cell (World.block_lt_of_cell? w _ hx342_0)).trans hx342_0
          replace p342 := eq_true p342
          replace q342 := eq_true q342
          obtain ⟨Ao13, co13, eo13⟩ := Kd.R_slice HO_7.out
          subst eo13
          go_wp2_with (first | ((with_reducible refine gate_callee (f := 46) rfl ?_); refine goesL_ (some 34) rfl rfl Tryd.func46 (by kernel_rfl) rfl #[.slice Ao13 x7_1.length co13, .int .i64 (Int.tmod (wrap64 ((Int.tmod (rd l0 x8_1) a2) + a2)) a2)] rfl ag_ ?_; (with_reducible refine (torusref07_In.calls kj3 _ _ x7_1 (Int.tmod (wrap64 ((Int.tmod (rd l0 x8_1) a2) + a2)) a2) true _ ?side1 ?side2 A11.out).mono ?_); (case side1 => repeat (first | exact (Kd.R_reads' HO_7.out).2.2 | (with_reducible refine Kd.C_alloc ?_ _) | (with_reducible refine Kd.C_drewN ?_ _) | (with_reducible refine Kd.C_drew ?_))); (case side2 => exact (Kd.R_reads' HO_7.out).2.1); rintro e w' ⟨rfl, ⟨nd, rfl⟩⟩; refine ⟨_, rfl, ?_⟩))
          go_roundg kj3
          case measure => have := HK1.out; have := HJ3.out; omega
          case rel => exact ⟨(x7_1), (wrap64 (x8_1 + 1)), sd_, H', ⟨by have := HK1.out; have := HJ3.out; omega⟩, ⟨rRa_ HO_7.out⟩, ⟨bw_⟩⟩
         ·replace c12 := Bool.eq_false_iff.mpr c12
          subst c12
          have H1 : (if x7_1.length < 17592186044416 then (torusref07_Valid.l0 kj3 l0 a1 a2 (x7_1 ++ [Int.tmod (wrap64 ((Int.tmod (rd l0 x8_1) a2) + a2)) a2]) (wrap64 (x8_1 + 1))) else (none)) = some r := by rw [if_neg (show ¬ (false = true) by decide)] at H; exact H
          clear H
          have H := H1
          clear H1
          by_cases c14 : x7_1.length < 17592186044416
          ·rw [if_pos c14] at H
           have LMc14 := Aside0.mk c14
           clear c14
           obtain ⟨y344, hy344⟩ : ∃ y_ : List Int, y_ = (x7_1 ++ [Int.tmod (wrap64 ((Int.tmod (rd l0 x8_1) a2) + a2)) a2]) := ⟨_, rfl⟩
           replace H : (torusref07_Valid.l0 kj3 l0 a1 a2 y344 (wrap64 (x8_1 + 1))) = some r := by first | (rw [hy344]; with_reducible exact H) | (have H2_ := (Option.bind_some _ _).symm.trans H; rw [hy344]; with_reducible exact H2_) | (have H2_ := (Option.bind_some _ _).symm.trans H; with_reducible exact H2_) | with_reducible exact H | (rw [hy344]; exact H) | exact H
           have Ny344 := Aside0.mk hy344
           clear hy344
           have H' := Aside0.mk H
           clear H
           have p342 : 0 ≤ (x8_1 : Int) := of_decide_eq_true as_
           have q342 : x8_1 < (l0.length : Int) := of_decide_eq_true as_
           obtain ⟨ad342, e342, hx342_0⟩ := Kd.at_int HR0.out x8_1 p342 q342
           cases e342
           replace hx342_0 := (HB.out.cell (World.block_lt_of_cell? w _ hx342_0)).trans hx342_0
           replace p342 := eq_true p342
           replace q342 := eq_true q342
           obtain ⟨Ao15, co15, eo15⟩ := Kd.R_slice HO_7.out
           subst eo15
           go_wp2_with (first | ((with_reducible refine gate_callee (f := 46) rfl ?_); refine goesL_ (some 34) rfl rfl Tryd.func46 (by kernel_rfl) rfl #[.slice Ao15 x7_1.length co15, .int .i64 (Int.tmod (wrap64 ((Int.tmod (rd l0 x8_1) a2) + a2)) a2)] rfl ag_ ?_; (with_reducible refine (torusref07_In.calls kj3 _ _ x7_1 (Int.tmod (wrap64 ((Int.tmod (rd l0 x8_1) a2) + a2)) a2) false _ ?side1 ?side2 A11.out).mono ?_); (case side1 => repeat (first | exact (Kd.R_reads' HO_7.out).2.2 | (with_reducible refine Kd.C_alloc ?_ _) | (with_reducible refine Kd.C_drewN ?_ _) | (with_reducible refine Kd.C_drew ?_))); (case side2 => exact (Kd.R_reads' HO_7.out).2.1); rintro e w' ⟨rfl, ⟨nd, rfl⟩⟩; refine ⟨_, rfl, ?_⟩) | ((with_reducible refine gate_builtin (b := .append) (xs := #[.tmp 36, .tmp 38]) rfl ?_); (try (refine gate_guard (by rfl) ?_; dsimp only)); at_builtin; refine Kd.R_append (Kd.int .i64) (w0 := w) w.heap.size rfl (.tmp 36) (.tmp 38) 22 3 (.int .i64 0) 8 rfl Tryd.underlying22 info3 rfl (by decide) (by omega) (.slice Ao15 x7_1.length co15) x7_1 (Int.tmod (wrap64 ((Int.tmod (rd l0 x8_1) a2) + a2)) a2) [.int .i64 (Int.tmod (wrap64 ((Int.tmod (rd l0 x8_1) a2) + a2)) a2)] (fun _ => True) (fun _ => False) rfl rfl ?aP (fun _ hk => hk.elim) ?aF ?aO ?aB ?aS ?aL ?_; (case aP => exact rfl); (case aB => exact bw_); (case aF => exact (fun _ _ => trivial)); (case aO => exact (rRa_ HO_7.out)); (case aS => exact (below_size bw_)); (case aL => have := LMc14.out; omega); intro v345 w16 ho hb hg hat; rw [← Ny344.out] at ho; have n0_ := Aside0.mk (hb); have n1_ := Aside0.mk (ho); clear HB; clear HO_7; have HB := n0_; have HO346 := n1_; clear n0_ n1_; clear ho hb hg hat))
           go_roundg kj3
           case measure => have := HK1.out; have := HJ3.out; omega
           case rel => exact ⟨(y344), (wrap64 (x8_1 + 1)), sd_, H', ⟨by have := HK1.out; have := HJ3.out; omega⟩, ⟨rRa_ HO346.out⟩, ⟨bw_⟩⟩
          ·rw [if_neg c14] at H
           exact absurd H (by simp)
       ·rw [if_neg c9] at H
        exact absurd H (by simp)
      ·rw [if_neg c8] at H
       exact absurd H (by simp)
     ·replace c7 := Bool.eq_false_iff.mpr c7
      subst c7
      have H1 : (if (x7_1.length : Int) = 0 then (if x7_1.length < 17592186044416 then ((torusref07_Sorted.f kj3 (x7_1 ++ [0])).bind fun bt350 => (some bt350.1)) else (none)) else ((torusref07_Sorted.f kj3 x7_1).bind fun bt354 => (some bt354.1))) = some r := by rw [if_neg (show ¬ (false = true) by decide)] at H; exact H
      clear H
      have H := H1
      clear H1
      by_cases c17 : (x7_1.length : Int) = 0
      ·rw [if_pos c17] at H
       have c17b0 : ((x7_1.length : Int) == 0) = true := beq_iff_eq.mpr c17
       have c17b1 : ((x7_1.length : Int) != 0) = false := bne_eq_false_iff_eq.mpr c17
       clear c17
       by_cases c18 : x7_1.length < 17592186044416
       ·rw [if_pos c18] at H
        have LMc18 := Aside0.mk c18
        clear c18
        obtain ⟨y347, hy347⟩ : ∃ y_ : List Int, y_ = (x7_1 ++ [0]) := ⟨_, rfl⟩
        replace H : ((torusref07_Sorted.f kj3 y347).bind fun bt350 => (some bt350.1)) = some r := by first | (rw [hy347]; with_reducible exact H) | (have H2_ := (Option.bind_some _ _).symm.trans H; rw [hy347]; with_reducible exact H2_) | (have H2_ := (Option.bind_some _ _).symm.trans H; with_reducible exact H2_) | with_reducible exact H | (rw [hy347]; exact H) | exact H
        have Ny347 := Aside0.mk hy347
        clear hy347
        replace H := Option.bind_eq_some_iff.mp H
        obtain ⟨⟨t350, t351⟩, A190, H⟩ := H
        replace H : (some t350) = some r := H
        have A19 := Aside0.mk A190
        clear A190
        obtain rfl := Option.some.inj H
        obtain ⟨Ao20, co20, eo20⟩ := Kd.R_slice HO_7.out
        subst eo20
        go_wp2_with (first | ((with_reducible refine gate_builtin (b := .append) (xs := #[.tmp 43, .tmp 44]) rfl ?_); (try (refine gate_guard (by rfl) ?_; dsimp only)); at_builtin; refine Kd.R_append (Kd.int .i64) (w0 := w) w.heap.size rfl (.tmp 43) (.tmp 44) 22 3 (.int .i64 0) 8 rfl Tryd.underlying22 info3 rfl (by decide) (by omega) (.slice Ao20 x7_1.length co20) x7_1 0 [.int .i64 0] (fun _ => True) (fun _ => False) rfl rfl ?aP (fun _ hk => hk.elim) ?aF ?aO ?aB ?aS ?aL ?_; (case aP => exact rfl); (case aB => exact bw_); (case aF => exact (fun _ _ => trivial)); (case aO => exact (rRa_ HO_7.out)); (case aS => exact (below_size bw_)); (case aL => have := LMc18.out; omega); intro v348 w21 ho hb hg hat; rw [← Ny347.out] at ho; have n0_ := Aside0.mk (hb); have n1_ := Aside0.mk (ho); clear HB; clear HO_7; have HB := n0_; have HO349 := n1_; clear n0_ n1_; clear ho hb hg hat; obtain ⟨Ao22, co22, eo22⟩ := Kd.R_slice HO349.out; subst eo22) | ((with_reducible refine gate_callee (f := 43) rfl ?_); refine goesL_ (some 48) rfl rfl Tryd.func43 (by kernel_rfl) rfl #[.slice Ao22 y347.length co22] rfl ag_ ?_; (with_reducible refine (torusref07_Sorted.calls kj3 _ _ y347 t350 t351 _ ?side1 ?side2 A19.out).mono ?_); (case side1 => repeat (first | exact (Kd.R_reads' HO349.out).2.2 | (with_reducible refine Kd.C_alloc ?_ _) | (with_reducible refine Kd.C_drewN ?_ _) | (with_reducible refine Kd.C_drew ?_))); (case side2 => exact (Kd.R_reads' HO349.out).2.1); rintro e w23 ⟨v352, rfl, ho0, hb⟩; refine ⟨_, rfl, ?_⟩; have n0_ := Aside0.mk (Kd.R_elder' (rRa_ HO349.out) (Kd.R_base ho0) hb); have n1_ := Aside0.mk (Kd.R_lower (Kd.R_new' ho0 (Kd.R_lt (rRa_ HO349.out))) (below_size bw_)); have n2_ := Aside0.mk (below_step bw_ hb); clear HO349; clear HB; have HO349 := n0_; have HO353 := n1_; have HB := n2_; clear n0_ n1_ n2_; (try clear hb); (try clear hb2); (try clear hk); (try clear hi); (try clear ho0)))
        go_ret
        exact ⟨_, by first | rfl | (simp [errW_none, errW_some] <;> rfl) | (simp [*, errW_none, errW_some] <;> rfl), by (with_reducible repeat (first | apply Kd.R_alloc | apply Kd.R_drewN | apply Kd.R_drew)); exact Kd.R_mono HO353.out (fun _ hk => trivial), bw_⟩
       ·rw [if_neg c18] at H
        exact absurd H (by simp)
      ·rw [if_neg c17] at H
       have c17b0 : ((x7_1.length : Int) == 0) = false := beq_eq_false_iff_ne.mpr c17
       have c17b1 : ((x7_1.length : Int) != 0) = true := bne_iff_ne.mpr c17
       have c17b2 : ¬ (x7_1 = []) := fun h_ => c17 (by rw [h_]; rfl)
       replace H := Option.bind_eq_some_iff.mp H
       obtain ⟨⟨t354, t355⟩, A240, H⟩ := H
       replace H : (some t354) = some r := H
       have A24 := Aside0.mk A240
       clear A240
       obtain rfl := Option.some.inj H
       obtain ⟨Ao25, co25, eo25⟩ := Kd.R_slice HO_7.out
       subst eo25
       go_wp2_with (first | ((with_reducible refine gate_callee (f := 43) rfl ?_); refine goesL_ (some 48) rfl rfl Tryd.func43 (by kernel_rfl) rfl #[.slice Ao25 x7_1.length co25] rfl ag_ ?_; (with_reducible refine (torusref07_Sorted.calls kj3 _ _ x7_1 t354 t355 _ ?side1 ?side2 A24.out).mono ?_); (case side1 => repeat (first | exact (Kd.R_reads' HO_7.out).2.2 | (with_reducible refine Kd.C_alloc ?_ _) | (with_reducible refine Kd.C_drewN ?_ _) | (with_reducible refine Kd.C_drew ?_))); (case side2 => exact (Kd.R_reads' HO_7.out).2.1); rintro e w26 ⟨v356, rfl, ho0, hb⟩; refine ⟨_, rfl, ?_⟩; have n0_ := Aside0.mk (Kd.R_elder' (rRa_ HO_7.out) (Kd.R_base ho0) hb); have n1_ := Aside0.mk (Kd.R_lower (Kd.R_new' ho0 (Kd.R_lt (rRa_ HO_7.out))) (below_size bw_)); have n2_ := Aside0.mk (below_step bw_ hb); clear HO_7; clear HB; have HO_7 := n0_; have HO357 := n1_; have HB := n2_; clear n0_ n1_ n2_; (try clear hb); (try clear hb2); (try clear hk); (try clear hi); (try clear ho0)))
       go_ret
       exact ⟨_, by first | rfl | (simp [errW_none, errW_some] <;> rfl) | (simp [*, errW_none, errW_some] <;> rfl), by (with_reducible repeat (first | apply Kd.R_alloc | apply Kd.R_drewN | apply Kd.R_drew)); exact Kd.R_mono HO357.out (fun _ hk => trivial), bw_⟩

end Go.Proofs.YticckanjfdcpaaaDoor.PSimplex
namespace Go.Proofs.YticckanjfdcpaaaDoor.PSimplex
open Go.RowKit Go.Proofs.YticckanjfdcpaaaDoorW.PrintWords Go.Proofs.YticckanjfdcpaaaDoorW.PrintLast Go.Proofs.YticckanjfdcpaaaDoorW.PrintMore
attribute [local go_sem] max2_int min2_int max_two min_two max_three min_three max_four min_four   -- for this text's walks alone
set_option linter.unusedVariables false
set_option linter.unusedSimpArgs false

/-! ### slices_isNaN_int: function 67 -/
def slices_isNaN_int.f (a0 : Int) : Option (Bool) := some (a0 != a0)
set_option maxHeartbeats 8000000 in
set_option maxRecDepth 100000 in
theorem slices_isNaN_int.calls (a0 : Int) (r : Bool) (w : World) (h : slices_isNaN_int.f a0 = some r) :
  Calls Tryd.prog 67 #[.int .i64 a0] w fun e w' => e = .returned (.bool r) ∧ Drawn0 w w' := by
 have H : (some (a0 != a0)) = some r := h
 clear h
 obtain rfl := Option.some.inj H
 go_enter Tryd.func67, Tryd.ntmps67
 go_wp2
 go_ret
 exact ⟨sd_, dr_⟩

end Go.Proofs.YticckanjfdcpaaaDoor.PSimplex
namespace Go.Proofs.YticckanjfdcpaaaDoor.PSimplex
open Go.RowKit Go.Proofs.YticckanjfdcpaaaDoorW.PrintWords Go.Proofs.YticckanjfdcpaaaDoorW.PrintLast Go.Proofs.YticckanjfdcpaaaDoorW.PrintMore
attribute [local go_sem] max2_int min2_int max_two min_two max_three min_three max_four min_four   -- for this text's walks alone
set_option linter.unusedVariables false
set_option linter.unusedSimpArgs false

/-! ### api_Simplex_int_55: function 55 -/
def api_Simplex_int_55.l0 : Nat → List Int → Int → Int → Int → Int → Option (Int × Bool)
 |0, _, _, _, _, _ => none
 |k + 1, x0, x1, x6, x7, x8 => if x7 < x8 then (if 0 ≤ (wrap64 ((IntKind.u64.wrap (wrap64 (x7 + x8))) / 2)) then (if (wrap64 ((IntKind.u64.wrap (wrap64 (x7 + x8))) / 2)) < (x0.length : Int) then ((cmp_Less_int.f (rd x0 (wrap64 ((IntKind.u64.wrap (wrap64 (x7 + x8))) / 2))) x1).bind fun t522 => (if t522 = true then (api_Simplex_int_55.l0 k x0 x1 x6 (wrap64 ((wrap64 ((IntKind.u64.wrap (wrap64 (x7 + x8))) / 2)) + 1)) x8) else (api_Simplex_int_55.l0 k x0 x1 x6 x7 (wrap64 ((IntKind.u64.wrap (wrap64 (x7 + x8))) / 2))))) else (none)) else (none)) else (if x7 < x6 then (if 0 ≤ x7 then (if x7 < (x0.length : Int) then (if (rd x0 x7) = x1 then (some (x7, true)) else ((slices_isNaN_int.f (rd x0 x7)).bind fun t525 => (if t525 = true then ((slices_isNaN_int.f x1).bind fun t526 => (some (x7, t526))) else (some (x7, false))))) else (none)) else (none)) else (some (x7, false)))
def api_Simplex_int_55.f (k : Nat) (l0 : List Int) (a1 : Int) : Option (Int × Bool) := api_Simplex_int_55.l0 k l0 a1 (l0.length : Int) 0 (l0.length : Int)
theorem api_Simplex_int_55.mono_l : ∀ k, (∀ y0 y1 y2 y3 y4, LeO (api_Simplex_int_55.l0 k y0 y1 y2 y3 y4) (api_Simplex_int_55.l0 (k + 1) y0 y1 y2 y3 y4))
 |0 => fun _ _ _ _ _ r h => by simp [api_Simplex_int_55.l0] at h
 |k + 1 => by
  have ih0 := api_Simplex_int_55.mono_l k
  ·intro y0 y1 y2 y3 y4
   unfold api_Simplex_int_55.l0
   repeat' first
   |(with_reducible exact ih0 _ _ _ _ _)
   |(with_reducible exact LeO.refl _)
   |(with_reducible exact LeO.none _)
   |(with_reducible refine LeO.ite ?_ ?_)
   |(with_reducible refine LeO.bind ?_ (fun _ => ?_))
   |exact ih0 _ _ _ _ _
   |exact LeO.none _
   |refine LeO.ite ?_ ?_
   |refine LeO.bind ?_ (fun _ => ?_)
theorem api_Simplex_int_55.mono : ∀ a0 a1 k, LeO (api_Simplex_int_55.f k a0 a1) (api_Simplex_int_55.f (k + 1) a0 a1) := by
 intro a0 a1 k
 have ih0 := api_Simplex_int_55.mono_l k
 unfold api_Simplex_int_55.f
 repeat' first
   |(with_reducible exact ih0 _ _ _ _ _)
   |(with_reducible exact LeO.refl _)
   |(with_reducible exact LeO.none _)
   |(with_reducible refine LeO.ite ?_ ?_)
   |(with_reducible refine LeO.bind ?_ (fun _ => ?_))
   |exact ih0 _ _ _ _ _
   |exact LeO.none _
   |refine LeO.ite ?_ ?_
   |refine LeO.bind ?_ (fun _ => ?_)
set_option maxHeartbeats 8000000 in
set_option maxRecDepth 100000 in
theorem api_Simplex_int_55.calls (k : Nat) (A0 : Option Addr) (c0 : Nat) (l0 : List Int) (a1 : Int) (r1 : Int) (r2 : Bool) (w : World) (hr0 : Kd.C (Kd.int .i64) w A0 l0.length l0) (hc0 : l0.length ≤ c0) (h : api_Simplex_int_55.f k l0 a1 = some (r1, r2)) :
  Calls Tryd.prog 55 #[.slice A0 l0.length c0, .int .i64 a1] w fun e w' => e = .returned (.tuple #[.int .i64 r1, .bool r2]) ∧ Drawn0 w w' := by
 have HR0 := Aside0.mk hr0
 have HC0 := Aside0.mk hc0
 clear hr0 hc0
 have H : (api_Simplex_int_55.l0 k l0 a1 (l0.length : Int) 0 (l0.length : Int)) = some (r1, r2) := h
 clear h
 have H' := Aside0.mk H
 clear H
 go_enter Tryd.func55, Tryd.ntmps55
 go_wp2
 go_loopg [7, 8] k (fun kq v7 v8 w' => ∃ (x7_1 : Int) (x8_1 : Int), v7 = .int .i64 x7_1 ∧ v8 = .int .i64 x8_1 ∧ Aside0 (api_Simplex_int_55.l0 kq l0 a1 (l0.length : Int) x7_1 x8_1 = some (r1, r2)) ∧ Aside0 (kq ≤ k) ∧ Drawn0 w w')
 case atStart => exact ⟨(0), ((l0.length : Int)), sd_, sd_, H', ⟨Nat.le_refl _⟩, dr_⟩
 case round =>
  clear H'
  try clear p2
  obtain ⟨x7_1, x8_1, rfl, rfl, HA, HK1, ⟨m1, rfl⟩⟩ := hrel
  cases gk with
  |zero => exact absurd HA.out (by simp [api_Simplex_int_55.l0])
  |succ k1 =>
   have H := HA.out
   clear HA
   simp only [api_Simplex_int_55.l0] at H
   by_cases c3 : x7_1 < x8_1
   ·rw [if_pos c3] at H
    have c3b0 : decide (x7_1 < x8_1) = true := decide_eq_true c3
    clear c3
    obtain ⟨ji4, hji4⟩ : ∃ j_ : Int, (wrap64 ((IntKind.u64.wrap (wrap64 (x7_1 + x8_1))) / 2)) = j_ := ⟨_, rfl⟩
    replace H : (if 0 ≤ (ji4) then (if (ji4) < (l0.length : Int) then ((cmp_Less_int.f (rd l0 (ji4)) a1).bind fun t522 => (if t522 = true then (api_Simplex_int_55.l0 k1 l0 a1 (l0.length : Int) (wrap64 ((ji4) + 1)) x8_1) else (api_Simplex_int_55.l0 k1 l0 a1 (l0.length : Int) x7_1 ji4))) else (none)) else (none)) = some (r1, r2) := by first | (rw [hji4] at H; exact H) | (simp only [hji4] at H ⊢; exact H)
    have hji4w : (IntKind.i64.wrap ((IntKind.u64.wrap (wrap64 (x7_1 + x8_1))) / 2)) = ji4 := (i64_w _).trans hji4
    by_cases c5 : 0 ≤ (ji4)
    ·rw [if_pos c5] at H
     have c5b0 : decide (0 ≤ (ji4)) = true := decide_eq_true c5
     clear c5
     by_cases c6 : (ji4) < (l0.length : Int)
     ·rw [if_pos c6] at H
      have c6b0 : decide ((ji4) < (l0.length : Int)) = true := decide_eq_true c6
      clear c6
      replace H := Option.bind_eq_some_iff.mp H
      obtain ⟨t522, A70, H⟩ := H
      replace H : (if t522 = true then (api_Simplex_int_55.l0 k1 l0 a1 (l0.length : Int) (wrap64 ((ji4) + 1)) x8_1) else (api_Simplex_int_55.l0 k1 l0 a1 (l0.length : Int) x7_1 ji4)) = some (r1, r2) := H
      have A7 := Aside0.mk A70
      clear A70
      by_cases c8 : t522 = true
      ·subst c8
       have H1 : (api_Simplex_int_55.l0 k1 l0 a1 (l0.length : Int) (wrap64 ((ji4) + 1)) x8_1) = some (r1, r2) := by rw [if_pos rfl] at H; exact H
       clear H
       have H := H1
       clear H1
       have H' := Aside0.mk H
       clear H
       have p521 : 0 ≤ ((ji4) : Int) := of_decide_eq_true as_
       have q521 : (ji4) < (l0.length : Int) := of_decide_eq_true as_
       obtain ⟨ad521, e521, hx521_0⟩ := Kd.at_int HR0.out (ji4) p521 q521
       cases e521
       replace p521 := eq_true p521
       replace q521 := eq_true q521
       go_wp2_with (first | ((with_reducible refine gate_callee (f := 66) rfl ?_); refine goesL_ (some 27) rfl rfl Tryd.func66 (by kernel_rfl) rfl #[.int .i64 (rd l0 (ji4)), .int .i64 a1] rfl (by (try simp only [List.map_toArray, List.map_cons, List.map_nil]); first | done | (simp only [hji4]; rfl) | rfl | (simp only [List.length_drop, List.length_take]; rfl)) ?_; (with_reducible refine (cmp_Less_int.calls (rd l0 (ji4)) a1 true _ A7.out).mono ?_); rintro e w' ⟨rfl, ⟨nd, rfl⟩⟩; refine ⟨_, rfl, ?_⟩))
       go_roundg k1
       case measure => have := HK1.out; omega
       case rel => exact ⟨(wrap64 ((ji4) + 1)), (x8_1), (by first | rfl | (simp; done) | (simp only [← hji4] <;> (first | rfl | simp)) | (simp [*]; done)), sd_, H', ⟨by have := HK1.out; omega⟩, dr_⟩
      ·replace c8 := Bool.eq_false_iff.mpr c8
       subst c8
       have H1 : (api_Simplex_int_55.l0 k1 l0 a1 (l0.length : Int) x7_1 ji4) = some (r1, r2) := by rw [if_neg (show ¬ (false = true) by decide)] at H; exact H
       clear H
       have H := H1
       clear H1
       have H' := Aside0.mk H
       clear H
       have p521 : 0 ≤ ((ji4) : Int) := of_decide_eq_true as_
       have q521 : (ji4) < (l0.length : Int) := of_decide_eq_true as_
       obtain ⟨ad521, e521, hx521_0⟩ := Kd.at_int HR0.out (ji4) p521 q521
       cases e521
       replace p521 := eq_true p521
       replace q521 := eq_true q521
       go_wp2_with (first | ((with_reducible refine gate_callee (f := 66) rfl ?_); refine goesL_ (some 27) rfl rfl Tryd.func66 (by kernel_rfl) rfl #[.int .i64 (rd l0 (ji4)), .int .i64 a1] rfl (by (try simp only [List.map_toArray, List.map_cons, List.map_nil]); first | done | (simp only [hji4]; rfl) | rfl | (simp only [List.length_drop, List.length_take]; rfl)) ?_; (with_reducible refine (cmp_Less_int.calls (rd l0 (ji4)) a1 false _ A7.out).mono ?_); rintro e w' ⟨rfl, ⟨nd, rfl⟩⟩; refine ⟨_, rfl, ?_⟩))
       go_roundg k1
       case measure => have := HK1.out; omega
       case rel => exact ⟨(x7_1), (ji4), sd_, (by first | rfl | (simp; done) | (simp only [← hji4] <;> (first | rfl | simp)) | (simp [*]; done)), H', ⟨by have := HK1.out; omega⟩, dr_⟩
     ·rw [if_neg c6] at H
      exact absurd H (by simp)
    ·rw [if_neg c5] at H
     exact absurd H (by simp)
   ·rw [if_neg c3] at H
    have c3b0 : decide (x7_1 < x8_1) = false := decide_eq_false c3
    clear c3
    by_cases c9 : x7_1 < (l0.length : Int)
    ·rw [if_pos c9] at H
     have c9b0 : decide (x7_1 < (l0.length : Int)) = true := decide_eq_true c9
     clear c9
     by_cases c10 : 0 ≤ x7_1
     ·rw [if_pos c10] at H
      have c10b0 : decide (0 ≤ x7_1) = true := decide_eq_true c10
      clear c10
      by_cases c11 : x7_1 < (l0.length : Int)
      ·rw [if_pos c11] at H
       have c11b0 : decide (x7_1 < (l0.length : Int)) = true := decide_eq_true c11
       clear c11
       by_cases c12 : (rd l0 x7_1) = a1
       ·rw [if_pos c12] at H
        have c12b0 : ((rd l0 x7_1) == a1) = true := beq_iff_eq.mpr c12
        have c12b1 : ((rd l0 x7_1) != a1) = false := bne_eq_false_iff_eq.mpr c12
        clear c12
        simp only [Option.some.injEq, Prod.mk.injEq] at H
        obtain ⟨rfl, rfl⟩ := H
        have p523 : 0 ≤ (x7_1 : Int) := of_decide_eq_true as_
        have q523 : x7_1 < (l0.length : Int) := of_decide_eq_true as_
        obtain ⟨ad523, e523, hx523_0⟩ := Kd.at_int HR0.out x7_1 p523 q523
        cases e523
        replace p523 := eq_true p523
        replace q523 := eq_true q523
        go_wp2
        go_ret2
        exact ⟨sd_, dr_⟩
       ·rw [if_neg c12] at H
        have c12b0 : ((rd l0 x7_1) == a1) = false := beq_eq_false_iff_ne.mpr c12
        have c12b1 : ((rd l0 x7_1) != a1) = true := bne_iff_ne.mpr c12
        replace H := Option.bind_eq_some_iff.mp H
        obtain ⟨t525, A130, H⟩ := H
        replace H : (if t525 = true then ((slices_isNaN_int.f a1).bind fun t526 => (some (x7_1, t526))) else (some (x7_1, false))) = some (r1, r2) := H
        have A13 := Aside0.mk A130
        clear A130
        by_cases c14 : t525 = true
        ·subst c14
         have H1 : ((slices_isNaN_int.f a1).bind fun t526 => (some (x7_1, t526))) = some (r1, r2) := by rw [if_pos rfl] at H; exact H
         clear H
         have H := H1
         clear H1
         replace H := Option.bind_eq_some_iff.mp H
         obtain ⟨t526, A150, H⟩ := H
         replace H : (some (x7_1, t526)) = some (r1, r2) := H
         have A15 := Aside0.mk A150
         clear A150
         simp only [Option.some.injEq, Prod.mk.injEq] at H
         obtain ⟨rfl, rfl⟩ := H
         have p523 : 0 ≤ (x7_1 : Int) := of_decide_eq_true as_
         have q523 : x7_1 < (l0.length : Int) := of_decide_eq_true as_
         obtain ⟨ad523, e523, hx523_0⟩ := Kd.at_int HR0.out x7_1 p523 q523
         cases e523
         replace p523 := eq_true p523
         replace q523 := eq_true q523
         have p524 : 0 ≤ (x7_1 : Int) := of_decide_eq_true as_
         have q524 : x7_1 < (l0.length : Int) := of_decide_eq_true as_
         obtain ⟨ad524, e524, hx524_0⟩ := Kd.at_int HR0.out x7_1 p524 q524
         obtain rfl : ad523 = ad524 := (by injection e524)
         replace p524 := eq_true p524
         replace q524 := eq_true q524
         go_wp2_with (first | (go_at_call 67; (with_reducible refine (slices_isNaN_int.calls (rd l0 x7_1) true _ A13.out).mono ?_); rintro e w' ⟨rfl, ⟨nd, rfl⟩⟩) | (go_at_call 67; (with_reducible refine (slices_isNaN_int.calls a1 t526 _ A15.out).mono ?_); rintro e w' ⟨rfl, ⟨nd, rfl⟩⟩))
         go_ret2
         exact ⟨sd_, dr_⟩
        ·replace c14 := Bool.eq_false_iff.mpr c14
         subst c14
         have H1 : (some (x7_1, false)) = some (r1, r2) := by rw [if_neg (show ¬ (false = true) by decide)] at H; exact H
         clear H
         have H := H1
         clear H1
         simp only [Option.some.injEq, Prod.mk.injEq] at H
         obtain ⟨rfl, rfl⟩ := H
         have p523 : 0 ≤ (x7_1 : Int) := of_decide_eq_true as_
         have q523 : x7_1 < (l0.length : Int) := of_decide_eq_true as_
         obtain ⟨ad523, e523, hx523_0⟩ := Kd.at_int HR0.out x7_1 p523 q523
         cases e523
         replace p523 := eq_true p523
         replace q523 := eq_true q523
         have p524 : 0 ≤ (x7_1 : Int) := of_decide_eq_true as_
         have q524 : x7_1 < (l0.length : Int) := of_decide_eq_true as_
         obtain ⟨ad524, e524, hx524_0⟩ := Kd.at_int HR0.out x7_1 p524 q524
         obtain rfl : ad523 = ad524 := (by injection e524)
         replace p524 := eq_true p524
         replace q524 := eq_true q524
         go_wp2_with (first | (go_at_call 67; (with_reducible refine (slices_isNaN_int.calls (rd l0 x7_1) false _ A13.out).mono ?_); rintro e w' ⟨rfl, ⟨nd, rfl⟩⟩))
         go_ret2
         exact ⟨sd_, dr_⟩
      ·rw [if_neg c11] at H
       exact absurd H (by simp)
     ·rw [if_neg c10] at H
      exact absurd H (by simp)
    ·rw [if_neg c9] at H
     have c9b0 : decide (x7_1 < (l0.length : Int)) = false := decide_eq_false c9
     clear c9
     simp only [Option.some.injEq, Prod.mk.injEq] at H
     obtain ⟨rfl, rfl⟩ := H
     go_wp2
     go_ret2
     exact ⟨sd_, dr_⟩

end Go.Proofs.YticckanjfdcpaaaDoor.PSimplex
namespace Go.Proofs.YticckanjfdcpaaaDoor.PSimplex
open Go.RowKit Go.Proofs.YticckanjfdcpaaaDoorW.PrintWords Go.Proofs.YticckanjfdcpaaaDoorW.PrintLast Go.Proofs.YticckanjfdcpaaaDoorW.PrintMore
set_option linter.unusedVariables false
set_option linter.unusedSimpArgs false

theorem wpList_copy_run {P : Program} (w : World) {ops : Array Oper} {rest : List Oper} {o : Oper} {a : Act} {Q : Exit → Act → World → Prop} (hgd : o.guard = none) (d s : Operand) (t t' : TypeId)
    (ho : o.op = .call { callee := .builtin .copy, args := #[d, s], argTypes := #[t, t'] }) (v u : Value) (hd : a.eval d = v) (hs : a.eval s = u) {v' : Value} {w' : World}
    (hr : (Builtin.copy_ #[t, t'] o.type #[v, u]).run P w = .ok v' w') (h : wpList P ops Q rest (a.put o.dst v') w') : wpList P ops Q (o :: rest) a w := by
  refine wpList_plain hgd fun K hK => ?_
  unfold Oper.wp
  simp [execOp, ho, resolve, invoke, builtin, hd, hs, hr, Result.andThen]
  exact hK _ _ h
theorem append_types (W : World) (vs vx : Value) : (Builtin.append_ #[28, 22] 28 #[vs, vx]).run Tryd.prog W = (Builtin.append_ #[28, 28] 28 #[vs, vx]).run Tryd.prog W := by
  have e1 := run_underlying (P := Tryd.prog) Tryd.underlying28
  have e2 := run_underlying (P := Tryd.prog) Tryd.underlying22
  have z3 : ∀ w, (sizeOf 3).run Tryd.prog w = .ok 1 w := fun w => by kernel_rfl
  cases vs <;> simp [Builtin.append_, Sem.run_bind, e1, e2, z3, Result.andThen]
theorem sz3 : (Tryd.prog.info? 3).map (·.size) = some 1 := by kernel_rfl

theorem setRow_twice (w : World) (g : Nat) (cur A B : Array Value) (t : TypeId) (hg : w.heap[g]? = some (.cells cur t (0, 0))) : ((w.setRow g A).setRow g B).heap = (w.setRow g B).heap := by
  apply Array.ext_getElem?
  intro k
  by_cases c : k = g
  · subst c
    rw [setRow_heap _ k A B t (0, 0) (setRow_heap w k cur A t (0, 0) hg), setRow_heap w k cur B t (0, 0) hg]
  · rw [setRow_other _ _ _ _ c, setRow_other _ _ _ _ c, setRow_other _ _ _ _ c]
/-- A row's block, as the insertion leaves it where there is room. -/
def shift1 (cur : List Value) (xs : List Value) (i : Nat) : List Value := (cur.take (i + 1) ++ xs.drop i) ++ cur.drop (i + 1 + (xs.drop i).length)
def put1 (cur : List Value) (v : Value) (i : Nat) : List Value := (cur.take i ++ [v]) ++ cur.drop (i + 1)
theorem put1_len (cur : List Value) (v : Value) (i : Nat) (h : i < cur.length) : (put1 cur v i).length = cur.length := by simp [put1]; omega
theorem shift1_len (cur xs : List Value) (i : Nat) (h : xs.length < cur.length) (hi : i ≤ xs.length) : (shift1 cur xs i).length = cur.length := by simp [shift1]; omega
theorem put_shift (cur xs : List Value) (v : Value) (i : Nat) (hi : i ≤ xs.length) (hx : cur.take xs.length = xs) (hl : xs.length < cur.length) : (put1 (shift1 cur xs i) v i).take (xs.length + 1) = xs.take i ++ [v] ++ xs.drop i := by
  have e1 : (shift1 cur xs i).take i = xs.take i := by
    unfold shift1
    rw [List.append_assoc, List.take_append_of_le_length (by simp; omega), List.take_take]
    have : cur.take i = (cur.take xs.length).take i := by rw [List.take_take]; congr 1; omega
    rw [show min i (i + 1) = i by omega, this, hx]
  have e2 : (shift1 cur xs i).drop (i + 1) = xs.drop i ++ cur.drop (i + 1 + (xs.drop i).length) := by
    unfold shift1
    have hlen : (cur.take (i + 1)).length = i + 1 := by simp; omega
    rw [List.append_assoc, List.drop_append_of_le_length (by omega), List.drop_of_length_le (by omega), List.nil_append]
  unfold put1
  rw [e1, e2, ← List.append_assoc]
  refine List.take_left' ?_
  simp
  omega

set_option maxHeartbeats 8000000 in
set_option maxRecDepth 100000 in
theorem ins_shift (g cap n i g2 c2 : Nat) (cur cur2 : Array Value) (xs : List Value) (v : Value) (w : World) (hi : i < n) (hroom : n + 1 ≤ cap) (hcap : cap ≤ 9223372036854775807) (hn : n ≤ 1000) (hne : g2 ≠ g) (hg : w.heap[g]? = some (.cells cur 3 (0, 0))) (hs : cur.size = cap)
    (hx : cur.toList.take n = xs) (hxl : xs.length = n) (h1 : ∀ x ∈ xs, x.oneCell' = true) (hg2 : w.heap[g2]? = some (.cells cur2 3 (0, 0))) (hv : cur2[0]? = some v) (hv1 : v.oneCell' = true) :
    Calls Tryd.prog 56 #[.slice (some ⟨g, 0, none⟩) n cap, .int .i64 (i : Int), .slice (some ⟨g2, 0, none⟩) 1 c2] w fun e w' => e = .returned (.slice (some ⟨g, 0, none⟩) (n + 1) cap) ∧ w'.heap = (w.setRow g (put1 (shift1 cur.toList xs i) v i).toArray).heap ∧ w'.os = w.os ∧ w'.tape = w.tape ∧ w'.output = w.output := by
  have hz1 : ¬ ((1 : Int) = 0) := by omega
  have hz2 : ¬ ((i : Int) = (n : Int)) := by omega
  have hdl : (xs.drop i).length = n - i := by rw [List.length_drop, hxl]
  have hcl : cur.toList.length = cap := by rw [Array.length_toList]; exact hs
  have e22 := run_underlying (P := Tryd.prog) Tryd.underlying22
  have z3 : ∀ w, (sizeOf 3).run Tryd.prog w = .ok 1 w := fun w => by kernel_rfl
  have hov : ∀ lb cb, (callFunc 68 #[.slice (some ⟨g2, 0, none⟩) 1 c2, .slice (some ⟨g, i + 1, none⟩) lb cb]).run Tryd.prog w = .ok (.value (.bool false)) w := fun lb cb => by
    rw [run_callFunc_extern Tryd.func68 (by kernel_rfl) (by kernel_rfl) (by kernel_rfl) (e := Extern.SlicesOverlaps.overlaps #[22, 22] #[4]) (by kernel_rfl),
      Lib.run_overlaps_apart w 22 4 3 Tryd.underlying22 1 z3 ⟨g2, 0, none⟩ ⟨g, i + 1, none⟩ 1 c2 lb cb hne 3 3 cur2.size cur.size (by simp [World.shape?, hg2]) (by simp [World.shape?, hg]) (by omega) (blk_frozen hg2 0) (blk_frozen hg2 _)]
    rfl
  have hcp1 : ∀ ty dc sc, (Builtin.copy_ #[28, 28] ty #[.slice (some ⟨g, i + 1, none⟩) (n - i) dc, .slice (some ⟨g, i, none⟩) (n + 1 - i) sc]).run Tryd.prog w.drew = .ok (goInt (xs.drop i).length) (w.drew.setRow g (shift1 cur.toList xs i).toArray) := fun ty dc sc => by
    refine run_copy_row (P := Tryd.prog) w.drew 28 28 ty 3 g (i + 1) (n - i) dc ⟨g, i, none⟩ (n + 1 - i) sc cur 3 (xs.drop i) Tryd.underlying28 sz3 hg (by rw [hdl]; simp only [Nat.min_def]; split <;> omega) ?_ (by rw [hdl]; omega) (fun x hx' => h1 x (List.mem_of_mem_drop hx'))
    intro j x hj
    rw [add_at]
    rw [blk_cell (w := w.drew) hg (i + j)]
    have hj' : j < n - i := by rw [← hdl]; exact (List.getElem?_eq_some_iff.1 hj).1
    rw [List.getElem?_drop, ← hx, List.getElem?_take, if_pos (by omega), Array.getElem?_toList] at hj
    exact hj
  obtain ⟨X1, hX1⟩ : ∃ X1, X1 = shift1 cur.toList xs i := ⟨_, rfl⟩
  have hX1l : X1.length = cap := by rw [hX1, shift1_len _ _ _ (by omega) (by omega), hcl]
  rw [← hX1] at hcp1
  have hcp2 : ∀ W : World, W.heap = (w.setRow g X1.toArray).heap → ∀ ty dc, (Builtin.copy_ #[28, 22] ty #[.slice (some ⟨g, i, none⟩) (n + 1 - i) dc, .slice (some ⟨g2, 0, none⟩) 1 c2]).run Tryd.prog W = .ok (goInt 1) (W.setRow g (put1 X1 v i).toArray) := fun W hW ty dc => by
    have h := run_copy_row (P := Tryd.prog) W 28 22 ty 3 g i (n + 1 - i) dc ⟨g2, 0, none⟩ 1 c2 X1.toArray 3 [v] Tryd.underlying28 sz3 (by rw [hW]; exact setRow_heap w g cur X1.toArray 3 (0, 0) hg) (by simp only [List.length_cons, List.length_nil, Nat.min_def]; split <;> omega) ?_ (by simp; omega) (by simpa using hv1)
    · exact h
    · intro j x hj
      rw [add_at]
      have hb : W.heap[g2]? = some (.cells cur2 3 (0, 0)) := by rw [hW, setRow_other w g g2 _ hne]; exact hg2
      rw [blk_cell hb]
      cases j with
      | zero => simp at hj; subst hj; simpa using hv
      | succ j => simp at hj
  have hw1 : IntKind.i64.wrap ((i : Int) + 1) = (i : Int) + 1 := by rw [i64_w]; unfold wrap64; omega
  have hw2 : IntKind.i64.wrap ((n : Int) + 1) = (n : Int) + 1 := by rw [i64_w]; unfold wrap64; omega
  have hb1 : (0 : Int) ≤ (i : Int) + 1 := by omega
  have hb0 : (0 : Int) ≤ (n : Int) + 1 := by omega
  have hin : i ≤ n := by omega
  have htn : ((i : Int) + 1).toNat = i + 1 := by omega
  have htn2 : ((n : Int) + 1).toNat = n + 1 := by omega
  have hb2 : ¬ (cap = i + 1) := by omega
  have hb3 : (i : Int) ≤ (n : Int) + 1 := by omega
  have hb4 : ¬ (cap = i) := by omega
  have hb5 : ¬ ((cap : Int) < (n : Int) + 1) := by omega
  have hb6 : (n : Int) + 1 ≤ (cap : Int) := by omega
  have HX1 := Aside0.mk hX1
  have HX := Aside0.mk hx
  have HXL := Aside0.mk hxl
  have HDL := Aside0.mk hdl
  have HCL := Aside0.mk hcl
  have HX1L := Aside0.mk hX1l
  have HS := Aside0.mk hs
  have HC1 := Aside0.mk hcp1
  have HC2 := Aside0.mk hcp2
  clear hX1 hx hxl hdl hcl hX1l hs e22 z3 hcp1 hcp2
  go_enter Tryd.func56, Tryd.ntmps56
  go_wp2_with (simp only [hov])
  go_still_tail 8, (by kernel_rfl)
  go_wp2_with (first
    | ((with_reducible refine gate_builtin (b := .copy) (xs := #[.tmp 73, .tmp 76]) rfl ?_); refine wpList_copy_run _ rfl (.tmp 73) (.tmp 76) 28 28 rfl _ _ rfl rfl (HC1.out _ _ _) ?_)
    | ((with_reducible refine gate_builtin (b := .copy) (xs := #[.tmp 80, .tmp 81]) rfl ?_); refine wpList_copy_run _ rfl (.tmp 80) (.tmp 81) 28 22 rfl _ _ rfl rfl (HC2.out (w.drew.setRow g X1.toArray) rfl _ _) ?_))
  go_ret
  refine ⟨rfl, ?_, rfl, rfl, rfl⟩
  rw [← HX1.out]
  exact setRow_twice w.drew g cur _ _ 3 hg
theorem alloc_setRow (w : World) (A B : Array Value) (t : TypeId) : ((w.alloc (.cells A t)).setRow w.heap.size B).heap = (w.alloc (.cells B t)).heap := by
  apply Array.ext_getElem?
  intro k
  by_cases c : k = w.heap.size
  · subst c
    rw [setRow_heap _ _ A B t (0, 0) (blk_new w _), blk_new w _]
  · rw [setRow_other _ _ _ _ c]
    by_cases c' : k < w.heap.size
    · rw [Below.heap_alloc _ _ _ c', Below.heap_alloc _ _ _ c']
    · have h1 : ∀ o : Obj, (w.alloc o).heap[k]? = none := fun o => by rw [Array.getElem?_eq_none]; simp; omega
      rw [h1, h1]
theorem grow_row (row xs : List Value) (v : Value) (i : Nat) (hi : i ≤ xs.length) (hl : xs.length < row.length) (hr : row.take i = xs.take i) :
    ((((row.take i ++ [v]) ++ row.drop (i + 1)).take (i + 1) ++ xs.drop i) ++ ((row.take i ++ [v]) ++ row.drop (i + 1)).drop (i + 1 + (xs.drop i).length)).take (xs.length + 1) = xs.take i ++ [v] ++ xs.drop i := by
  have e1 : ((row.take i ++ [v]) ++ row.drop (i + 1)).take (i + 1) = row.take i ++ [v] := List.take_left' (by simp; omega)
  rw [e1, hr]
  refine List.take_left' ?_
  simp
  omega

set_option maxHeartbeats 8000000 in
set_option maxRecDepth 100000 in
theorem ins_grow (g cap n i g2 c2 : Nat) (cur cur2 : Array Value) (xs : List Value) (v : Value) (w : World) (hi : i < n) (hroom : cap < n + 1) (hnc : n ≤ cap) (hn : n ≤ 1000) (hg : w.heap[g]? = some (.cells cur 3 (0, 0))) (hs : cur.size = cap)
    (hx : cur.toList.take n = xs) (hxl : xs.length = n) (h1 : ∀ x ∈ xs, x.oneCell' = true) (hg2 : w.heap[g2]? = some (.cells cur2 3 (0, 0))) (hv : cur2[0]? = some v) (hv1 : v.oneCell' = true) :
    Calls Tryd.prog 56 #[.slice (some ⟨g, 0, none⟩) n cap, .int .i64 (i : Int), .slice (some ⟨g2, 0, none⟩) 1 c2] w fun e w' => ∃ (G : Nat) (X : List Value), e = .returned (.slice (some ⟨w.heap.size, 0, none⟩) (n + 1) G) ∧ w'.heap = (w.alloc (.cells X.toArray 3)).heap ∧ w'.os = w.os ∧ w'.tape = w.tape ∧ w'.output = w.output ∧
      X.length = G ∧ n + 1 ≤ G ∧ G ≤ maxLen ∧ X.take (n + 1) = xs.take i ++ [v] ++ xs.drop i := by
  have hz1 : ¬ ((1 : Int) = 0) := by omega
  have hz2 : ¬ ((i : Int) = (n : Int)) := by omega
  have hdl : (xs.drop i).length = n - i := by rw [List.length_drop, hxl]
  have hcl : cur.toList.length = cap := by rw [Array.length_toList]; exact hs
  obtain ⟨i0, hi0, hzz⟩ := Option.map_eq_some_iff.1 info3
  simp only [Prod.mk.injEq] at hzz
  obtain ⟨hz0, hzs, hzb⟩ := hzz
  have hcell : ∀ j x, xs[j]? = some x → w.cell? ⟨g, j, none⟩ = some x := fun j x hj => by
    rw [blk_cell hg j]
    have hj' : j < n := by rw [← hxl]; exact (List.getElem?_eq_some_iff.1 hj).1
    rw [← hx, List.getElem?_take, if_pos (by omega), Array.getElem?_toList] at hj
    exact hj
  have hold : (Builtin.firstCells i0.size i (.slice (some ⟨g, 0, none⟩) i cap)).run Tryd.prog w.drew = .ok (xs.take i).toArray w.drew := by
    rw [hzs]
    refine run_firstCells_some w.drew 1 i ⟨g, 0, none⟩ i cap (xs.take i) (by rw [List.length_take]; omega) (fun j x hj => ?_)
    rw [add_plain]
    rw [List.getElem?_take] at hj
    split at hj
    · exact hcell j x hj
    · cases hj
  have hik : i + (n + 1 - i) = n + 1 := by omega
  have hkk : (n : Int) + 1 - (i : Int) = ((n + 1 - i : Nat) : Int) := by omega
  have hrz : ∀ ty, (Builtin.append_ #[28, 3] ty #[.slice (some ⟨g, 0, none⟩) i cap, .int .i64 ((n : Int) + 1 - (i : Int))]).run Tryd.prog w =
      .ok (.slice (some ⟨w.heap.size, 0, none⟩) (n + 1) (grownCap w (n + 1) cap 3)) (w.drew.alloc (.cells ((xs.take i).toArray ++ Builtin.zeroCells (Value.int .i64 0).cells (n + 1 - i) ++ Builtin.zeroCells (Value.int .i64 0).cells (grownCap w (n + 1) cap 3 - (n + 1))) 3)) := fun ty => by
    have h := Lib.run_append_grow_zeros w 28 3 ty 3 i0 _ .i64 .i64 Tryd.underlying28 Tryd.underlying3 hi0 hz0 (some ⟨g, 0, none⟩) i cap (xs.take i) hold (n + 1 - i) (by omega) (by omega) (by omega) (by omega) (by rw [hzb]; omega) (by rw [hzb, hik]; exact growslice_fits hroom (by omega))
    rw [hik] at h
    rw [hkk]
    exact h
  obtain ⟨G, hG⟩ : ∃ G, G = grownCap w (n + 1) cap 3 := ⟨_, rfl⟩
  obtain ⟨ROW, hROW⟩ : ∃ ROW : Array Value, ROW = (xs.take i).toArray ++ Builtin.zeroCells (Value.int .i64 0).cells (n + 1 - i) ++ Builtin.zeroCells (Value.int .i64 0).cells (G - (n + 1)) := ⟨_, rfl⟩
  rw [← hG] at hrz
  rw [← hROW] at hrz
  have hGn : n + 1 ≤ G := by rw [hG]; exact grownCap_ge w _ _ _
  have hGm : G ≤ maxLen := by rw [hG]; exact grownCap_le_maxLen w (n + 1) cap 3 (by simp only [maxLen]; omega)
  have hG63 : G ≤ 9223372036854775807 := by simpa only [maxLen] using hGm
  have htk : (xs.take i).length = i := by rw [List.length_take]; omega
  have hRs : ROW.size = G := by rw [hROW]; simp [Builtin.zeroCells, Value.cells, htk]; omega
  have hRt : ROW.toList.take i = xs.take i := by
    rw [hROW]
    simp only [Array.toList_append, List.append_assoc]
    exact List.take_left' htk
  have hRl : ROW.toList.length = G := by rw [Array.length_toList]; exact hRs
  obtain ⟨Y1, hY1⟩ : ∃ Y1, Y1 = put1 ROW.toList v i := ⟨_, rfl⟩
  have hY1l : Y1.length = G := by rw [hY1, put1_len _ _ _ (by omega)]; exact hRl
  have hcpA : ∀ W : World, W.heap = (w.alloc (.cells ROW 3)).heap → ∀ ty dc, (Builtin.copy_ #[28, 22] ty #[.slice (some ⟨w.heap.size, i, none⟩) (n + 1 - i) dc, .slice (some ⟨g2, 0, none⟩) 1 c2]).run Tryd.prog W = .ok (goInt 1) (W.setRow w.heap.size Y1.toArray) := fun W hW ty dc => by
    have hN : W.heap[w.heap.size]? = some (.cells ROW 3 (0, 0)) := by rw [hW]; exact blk_new w _
    have h := run_copy_row (P := Tryd.prog) W 28 22 ty 3 w.heap.size i (n + 1 - i) dc ⟨g2, 0, none⟩ 1 c2 ROW 3 [v] Tryd.underlying28 sz3 hN (by simp only [List.length_cons, List.length_nil, Nat.min_def]; split <;> omega) ?_ (by simp; omega) (by simpa using hv1)
    · rw [hY1]
      exact h
    · intro j x hj
      rw [add_at]
      have hb : W.heap[g2]? = some (.cells cur2 3 (0, 0)) := by rw [hW, Below.heap_alloc _ _ _ (blk_lt hg2)]; exact hg2
      rw [blk_cell hb]
      cases j with
      | zero => simp at hj; subst hj; simpa using hv
      | succ j => simp at hj
  obtain ⟨Y2, hY2⟩ : ∃ Y2, Y2 = (Y1.take (i + 1) ++ xs.drop i) ++ Y1.drop (i + 1 + (xs.drop i).length) := ⟨_, rfl⟩
  have hcpB : ∀ W : World, W.heap = ((w.alloc (.cells ROW 3)).setRow w.heap.size Y1.toArray).heap → ∀ ty dc sc, (Builtin.copy_ #[28, 28] ty #[.slice (some ⟨w.heap.size, i + 1, none⟩) (n - i) dc, .slice (some ⟨g, i, none⟩) (n - i) sc]).run Tryd.prog W = .ok (goInt (xs.drop i).length) (W.setRow w.heap.size Y2.toArray) := fun W hW ty dc sc => by
    have hN : W.heap[w.heap.size]? = some (.cells Y1.toArray 3 (0, 0)) := by rw [hW]; exact setRow_heap _ _ ROW _ 3 (0, 0) (blk_new w _)
    have h := run_copy_row (P := Tryd.prog) W 28 28 ty 3 w.heap.size (i + 1) (n - i) dc ⟨g, i, none⟩ (n - i) sc Y1.toArray 3 (xs.drop i) Tryd.underlying28 sz3 hN (by rw [hdl]; simp) ?_ (by rw [hdl]; simp; omega) (fun x hx' => h1 x (List.mem_of_mem_drop hx'))
    · rw [hY2]
      exact h
    · intro j x hj
      rw [add_at]
      have hb : W.heap[g]? = some (.cells cur 3 (0, 0)) := by rw [hW, setRow_other _ _ _ _ (by have := blk_lt hg; omega), Below.heap_alloc _ _ _ (blk_lt hg)]; exact hg
      have hj' : j < n - i := by rw [← hdl]; exact (List.getElem?_eq_some_iff.1 hj).1
      rw [blk_cell hb, ← blk_cell hg]
      rw [List.getElem?_drop] at hj
      exact hcell _ _ hj
  have hfin : Y2.take (n + 1) = xs.take i ++ [v] ++ xs.drop i := by
    have := grow_row ROW.toList xs v i (by omega) (by omega) hRt
    rw [hxl] at this
    rw [hY2, hY1]
    exact this
  have hY2l : Y2.length = G := by rw [hY2]; simp [hdl]; omega
  have hGi : ¬ (G = i) := by omega
  have hGim : ¬ (G = i + 1) := by omega
  have hci : ¬ (cap = i) := by omega
  have hw1 : IntKind.i64.wrap ((i : Int) + 1) = (i : Int) + 1 := by rw [i64_w]; unfold wrap64; omega
  have hw2 : IntKind.i64.wrap ((n : Int) + 1) = (n : Int) + 1 := by rw [i64_w]; unfold wrap64; omega
  have hb1 : (0 : Int) ≤ (i : Int) + 1 := by omega
  have hb0 : (0 : Int) ≤ (n : Int) + 1 := by omega
  have hin : i ≤ n := by omega
  have htn : ((i : Int) + 1).toNat = i + 1 := by omega
  have hb3 : (i : Int) ≤ (n : Int) := by omega
  have hb5 : (cap : Int) < (n : Int) + 1 := by omega
  have HRZ := Aside0.mk hrz
  have HA := Aside0.mk hcpA
  have HBB := Aside0.mk hcpB
  have HF := Aside0.mk hfin
  have HL2 := Aside0.mk hY2l
  have HGM := Aside0.mk hGm
  clear hrz hcpA hcpB hfin hY2l hY1l hY2 hY1 hRl hRt hRs htk hROW hG hkk hik hold hz0 hzs hzb hi0 hdl hcl hx hxl hs hcell hGm
  go_enter Tryd.func56, Tryd.ntmps56
  go_wp2_with (first
    | ((with_reducible refine gate_builtin (b := .append) (xs := #[.tmp 34, .tmp 39]) rfl ?_); at_builtin; refine Lib.wpList_append_run _ rfl _ _ _ _ rfl _ _ rfl rfl _ _ (HRZ.out _) ?_)
    | ((with_reducible refine gate_builtin (b := .copy) (xs := #[.tmp 43, .tmp 44]) rfl ?_); refine wpList_copy_run _ rfl (.tmp 43) (.tmp 44) 28 22 rfl _ _ rfl rfl (HA.out _ ?hh _ _) ?_; (case hh => rfl)))
  go_still_tail 8, (by kernel_rfl)
  go_wp2_with ((with_reducible refine gate_builtin (b := .copy) (xs := #[.tmp 50, .tmp 53]) rfl ?_); refine wpList_copy_run _ rfl (.tmp 50) (.tmp 53) 28 28 rfl _ _ rfl rfl (HBB.out _ ?hh _ _ _) ?_; (case hh => rfl))
  go_ret
  refine ⟨G, Y2, rfl, ?_, rfl, rfl, rfl, HL2.out, hGn, HGM.out, HF.out⟩
  exact (setRow_twice (w.alloc (.cells ROW 3)) w.heap.size ROW _ _ 3 (blk_new w _)).trans (alloc_setRow w _ _ 3)

def api_Simplex_int_56.f (l0 : List Int) (a1 : Int) (l2 : List Int) : Option (List Int) := if l2.length = 1 ∧ 0 ≤ a1 ∧ a1 ≤ (l0.length : Int) ∧ l0.length ≤ 1000 then some (l0.take a1.toNat ++ l2 ++ l0.drop a1.toNat) else none
set_option maxHeartbeats 8000000 in
set_option maxRecDepth 100000 in
/-- At the end. -/
theorem ins_end (P0_ : Nat → Prop) (u0 : Value) (l0 : List Int) (P2_ : Nat → Prop) (A2 : Option Addr) (c2 : Nat) (v : Int) (w0 w : World) (hB : Below w0.heap.size w0 w) (ho0 : Kd.R (Kd.int .i64) 3 w w0.heap.size P0_ u0 l0) (hC : Kd.C (Kd.int .i64) w A2 1 [v]) (hl : l0.length ≤ 1000) :
    Calls Tryd.prog 56 #[u0, .int .i64 (l0.length : Int), .slice A2 1 c2] w fun e w' => ∃ v0_ : Value, e = .returned v0_ ∧ Kd.R (Kd.int .i64) 3 w' w0.heap.size (fun k_ => (P0_ k_ ∨ P2_ k_) ∨ w.heap.size ≤ k_) v0_ (l0 ++ [v]) ∧ Below w0.heap.size w0 w' ∧ Kept w w' (fun k_ => P0_ k_ ∨ P2_ k_) := by
  have hown0 := ho0.1
  obtain ⟨v1, w1, hrun, hR1, hB1, hg1, hor⟩ := run_append_rows (w0 := w0) w0.heap.size u0 l0 [v] A2 1 c2 (fun k_ => P0_ k_ ∨ w.heap.size ≤ k_) (Kd.R_mono ho0 (fun _ h => .inl h)) hC (fun k h => .inr h) hB hB.size (by omega)
  obtain ⟨A0, c0, rfl⟩ := Kd.R_slice ho0
  have hrun2 := (append_types w (.slice A0 l0.length c0) (.slice A2 1 c2)).trans hrun
  have hz1 : ¬ ((1 : Int) = 0) := by omega
  have hcn : l0.length ≤ c0 := (Kd.R_reads' ho0).2.1
  have hb3 : (l0.length : Int) ≤ (c0 : Int) := by omega
  have HRUN := Aside0.mk hrun2
  have HR := Aside0.mk hR1
  have HB := Aside0.mk hB1
  have HG := Aside0.mk hg1
  have HO := Aside0.mk hown0
  clear hrun hrun2 hR1 hB1 hg1 hor hown0 ho0 hC hB
  go_enter Tryd.func56, Tryd.ntmps56
  go_wp2_with ((with_reducible refine gate_builtin (b := .append) (xs := #[.tmp 23, .tmp 24]) rfl ?_); at_builtin; refine Lib.wpList_append_run _ rfl _ _ _ _ rfl _ _ rfl rfl _ _ HRUN.out ?_)
  all_goals
    go_ret
    refine ⟨_, rfl, Kd.R_mono HR.out (fun k h => h.imp .inl id), HB.out, ?_⟩
    exact ⟨HG.out.size, fun i hi hne => HG.out.block i hi (fun e => hne (.inl (HO.out i e.symm)))⟩
/-- A row of the call's own, as its block holds it. -/
theorem own_block {P0_ : Nat → Prop} {u0 : Value} {l0 : List Int} {b : Nat} {w : World} (h : Kd.R (Kd.int .i64) 3 w b P0_ u0 l0) (h0 : 0 < l0.length) : ∃ (g cap : Nat) (cur : Array Value), u0 = .slice (some ⟨g, 0, none⟩) l0.length cap ∧ b ≤ g ∧ w.heap[g]? = some (.cells cur 3 (0, 0)) ∧ l0.length ≤ cap ∧ cap ≤ 9223372036854775807 ∧ cur.size = cap ∧ cur.toList.take l0.length = nums .i64 l0 ∧ P0_ g := by
  have ho := Kd.own_of_R h
  obtain ⟨hl, hh⟩ := ho
  rcases hh with ⟨_, hn⟩ | ⟨g, cap, cur, rfl, hbg, hg, hle, hm, hs, hx⟩
  · exfalso; simp at hl; have : (encs (Value.int .i64) l0).length = l0.length := by simp [encs]
    rw [hn] at this; simp at this; omega
  · refine ⟨g, cap, cur, rfl, hbg, hg, hle, by simpa only [maxLen] using hm, by simpa using hs, ?_, h.1 g rfl⟩
    simpa [encs, nums] using hx
theorem nums_one (l : List Int) : ∀ x ∈ nums .i64 l, x.oneCell' = true := fun x hx => by
  simp only [nums, List.mem_map] at hx
  obtain ⟨a, _, rfl⟩ := hx
  rfl
theorem api_Simplex_int_56.calls (P0_ : Nat → Prop) (u0 : Value) (l0 : List Int) (a1 : Int) (P2_ : Nat → Prop) (u2 : Value) (l2 : List Int) (r : List Int) (w0 w : World) (hB : Below w0.heap.size w0 w) (ho0 : Kd.R (Kd.int .i64) 3 w w0.heap.size P0_ u0 l0) (hx0 : ∀ k_, P0_ k_ → ¬ P2_ k_)
    (ho2 : Kd.R (Kd.int .i64) 3 w w0.heap.size P2_ u2 l2) (hx2 : ∀ k_, P2_ k_ → ¬ P0_ k_) (h : api_Simplex_int_56.f l0 a1 l2 = some r) :
    Calls Tryd.prog 56 #[u0, .int .i64 a1, u2] w fun e w' => ∃ v0_ : Value, e = .returned v0_ ∧ Kd.R (Kd.int .i64) 3 w' w0.heap.size (fun k_ => (P0_ k_ ∨ P2_ k_) ∨ w.heap.size ≤ k_) v0_ r ∧ Below w0.heap.size w0 w' ∧ Kept w w' (fun k_ => P0_ k_ ∨ P2_ k_) := by
  unfold api_Simplex_int_56.f at h
  by_cases c : l2.length = 1 ∧ 0 ≤ a1 ∧ a1 ≤ (l0.length : Int) ∧ l0.length ≤ 1000
  case neg => rw [if_neg c] at h; cases h
  rw [if_pos c] at h
  obtain ⟨c1, c2, c3, c4⟩ := c
  obtain rfl := Option.some.inj h
  obtain ⟨v, rfl⟩ : ∃ v, l2 = [v] := List.length_eq_one_iff.1 c1
  obtain ⟨i, rfl⟩ := Int.eq_ofNat_of_zero_le c2
  simp only [Int.toNat_natCast]
  by_cases hend : i = l0.length
  · subst hend
    obtain ⟨A2, cc, rfl, _, hC⟩ := Kd.R_reads ho2
    have := ins_end P0_ u0 l0 P2_ A2 cc v w0 w hB ho0 hC c4
    simpa using this
  · have hi : i < l0.length := by omega
    obtain ⟨g, cap, cur, rfl, hbg, hg, hle, hm, hs, hx, hpg⟩ := own_block ho0 (by omega)
    obtain ⟨g2, cap2, cur2, rfl, hbg2, hg2, hle2, hm2, hs2, hxx2, hpg2⟩ := own_block ho2 (by simp)
    have hne : g2 ≠ g := fun e => hx0 g hpg (by rw [← e]; exact hpg2)
    have hv : cur2[0]? = some (.int .i64 v) := by
      have : (cur2.toList.take ([v] : List Int).length)[0]? = some (.int .i64 v) := by rw [hxx2]; rfl
      simpa using this
    have hnl : (nums .i64 l0).length = l0.length := nums_length _ _
    have enums : (nums .i64 l0).take i ++ [Value.int .i64 v] ++ (nums .i64 l0).drop i = nums .i64 (l0.take i ++ [v] ++ l0.drop i) := by simp [nums, List.map_take, List.map_drop]
    have hlen : (l0.take i ++ [v] ++ l0.drop i).length = l0.length + 1 := by simp; omega
    by_cases hroom : l0.length + 1 ≤ cap
    · refine (ins_shift g cap l0.length i g2 cap2 cur cur2 (nums .i64 l0) (.int .i64 v) w hi hroom hm c4 hne hg hs hx hnl (nums_one l0) hg2 hv rfl).mono ?_
      rintro e w' ⟨rfl, hh, ho, ht, hp⟩
      have hcl : cur.toList.length = cap := by rw [Array.length_toList]; exact hs
      have hX : (put1 (shift1 cur.toList (nums .i64 l0) i) (.int .i64 v) i).length = cap := by rw [put1_len, shift1_len, hcl] <;> first | omega | (rw [shift1_len] <;> omega)
      have hgw : w'.heap[g]? = some (.cells (put1 (shift1 cur.toList (nums .i64 l0) i) (.int .i64 v) i).toArray 3 (0, 0)) := by rw [hh]; exact setRow_heap w g cur _ 3 (0, 0) hg
      have hoth : ∀ k, k ≠ g → w'.heap[k]? = w.heap[k]? := fun k hk => by rw [hh]; exact setRow_other w g k _ hk
      have hsz : w'.heap.size = w.heap.size := by rw [hh]; simp
      refine ⟨_, rfl, Kd.R_of_own (h1 := fun _ => rfl) (enc := Value.int .i64) ⟨?_, .inr ⟨g, cap, _, by rw [hlen], hbg, hgw, by omega, by simp only [maxLen]; omega, by simp [hX], ?_⟩⟩ (fun k hk => ?_), ?_, ?_⟩
      · simp [encs]
      · have := put_shift cur.toList (nums .i64 l0) (.int .i64 v) i (by omega) (by rw [hnl]; exact hx) (by omega)
        rw [hnl, enums] at this
        rw [hlen]
        first | exact this | (rw [Nat.mul_one]; exact this)
      · simp [Value.ownBlock] at hk; subst hk; exact .inl (.inl hpg)
      · exact ⟨ho.trans hB.os, ht.trans hB.tape, hp.trans hB.output, by rw [hsz]; exact hB.size, fun k hk => (hoth k (by omega)).trans (hB.block k hk)⟩
      · exact ⟨by omega, fun k hk hn => hoth k (fun e => hn (.inl (e ▸ hpg)))⟩
    · refine (ins_grow g cap l0.length i g2 cap2 cur cur2 (nums .i64 l0) (.int .i64 v) w hi (by omega) hle c4 hg hs hx hnl (nums_one l0) hg2 hv rfl).mono ?_
      rintro e w' ⟨G, X, rfl, hh, ho, ht, hp, hXl, hG, hGm, hXt⟩
      rw [enums] at hXt
      have hoth : ∀ k, k < w.heap.size → w'.heap[k]? = w.heap[k]? := fun k hk => by rw [hh]; exact Below.heap_alloc w _ k hk
      have hsz : w'.heap.size = w.heap.size + 1 := by rw [hh]; simp
      have hgw : w'.heap[w.heap.size]? = some (.cells X.toArray 3 (0, 0)) := by rw [hh]; exact blk_new w _
      have hBs := hB.size
      refine ⟨_, rfl, Kd.R_of_own (h1 := fun _ => rfl) (enc := Value.int .i64) ⟨?_, .inr ⟨w.heap.size, G, _, by rw [hlen], hB.size, hgw, by omega, hGm, by simp [hXl], ?_⟩⟩ (fun k hk => ?_), ?_, ?_⟩
      · simp [encs]
      · rw [hlen]
        first | exact hXt | (rw [Nat.mul_one]; exact hXt)
      · simp [Value.ownBlock] at hk; subst hk; exact .inr (Nat.le_refl _)
      · exact ⟨ho.trans hB.os, ht.trans hB.tape, hp.trans hB.output, by omega, fun k hk => (hoth k (by omega)).trans (hB.block k hk)⟩
      · exact ⟨by omega, fun k hk hn => hoth k hk⟩
end Go.Proofs.YticckanjfdcpaaaDoor.PSimplex
namespace Go.Proofs.YticckanjfdcpaaaDoor.PSimplex
open Go.RowKit Go.Proofs.YticckanjfdcpaaaDoorW.PrintWords Go.Proofs.YticckanjfdcpaaaDoorW.PrintLast Go.Proofs.YticckanjfdcpaaaDoorW.PrintMore
attribute [local go_sem] max2_int min2_int max_two min_two max_three min_three max_four min_four   -- for this text's walks alone
set_option linter.unusedVariables false
set_option linter.unusedSimpArgs false

/-! ### simplex_Cofacets: function 35 -/
mutual
def simplex_Cofacets.j0 : Nat → List Int → Int → List (List Int) → Bool → Option ((List (List Int)) × Int)
 |0, _, _, _, _ => none
 |k + 1, x0, x1, x4, x29 => if x29 = true then (some (([] : List (List Int)), 1)) else (simplex_Cofacets.l0 k x0 x4 x1 0)
def simplex_Cofacets.l0 : Nat → List Int → List (List Int) → Int → Int → Option ((List (List Int)) × Int)
 |0, _, _, _, _ => none
 |k + 1, x0, x4, x30, x31 => if x31 < x30 then ((api_Simplex_int_55.f k x0 x31).bind fun bt529 => (if bt529.2 = true then (simplex_Cofacets.j2 k x0 x4 x31 bt529.1 x30 x31 false) else (simplex_Cofacets.j2 k x0 x4 x31 bt529.1 x30 x31 (decide ((x0.length : Int) ≤ 4))))) else (some (x4, 0))
def simplex_Cofacets.j2 : Nat → List Int → List (List Int) → Int → Int → Int → Int → Bool → Option ((List (List Int)) × Int)
 |0, _, _, _, _, _, _, _ => none
 |k + 1, x0, x4, x6, x7, x30, x31, x46 => if x46 = true then ((api_Simplex_int_41.f x0).bind fun t531 => ((api_Simplex_int_56.f t531 x7 (([x6] : List Int))).bind fun t537 => (if x4.length < 5864062014805 then (simplex_Cofacets.l0 k x0 (x4 ++ [t537]) x30 (wrap64 (x31 + 1))) else (none)))) else (simplex_Cofacets.l0 k x0 x4 x30 (wrap64 (x31 + 1)))
end
def simplex_Cofacets.f (k : Nat) (l0 : List Int) (a1 : Int) : Option ((List (List Int)) × Int) := (simplex_Check.f k l0).bind fun t527 => (if t527 = 0 then (if a1 < 0 then (simplex_Cofacets.j0 k l0 a1 ([] : List (List Int)) true) else (if a1 > 64 then (simplex_Cofacets.j0 k l0 a1 ([] : List (List Int)) true) else (if 0 ≤ (wrap64 ((l0.length : Int) - 1)) then (if (wrap64 ((l0.length : Int) - 1)) < (l0.length : Int) then (simplex_Cofacets.j0 k l0 a1 ([] : List (List Int)) (decide ((rd l0 (wrap64 ((l0.length : Int) - 1))) ≥ a1))) else (none)) else (none)))) else (some (([] : List (List Int)), t527)))
theorem simplex_Cofacets.mono_l : ∀ k, (∀ y0 y1 y2 y3, LeO (simplex_Cofacets.j0 k y0 y1 y2 y3) (simplex_Cofacets.j0 (k + 1) y0 y1 y2 y3)) ∧ (∀ y0 y1 y2 y3, LeO (simplex_Cofacets.l0 k y0 y1 y2 y3) (simplex_Cofacets.l0 (k + 1) y0 y1 y2 y3)) ∧ (∀ y0 y1 y2 y3 y4 y5 y6, LeO (simplex_Cofacets.j2 k y0 y1 y2 y3 y4 y5 y6) (simplex_Cofacets.j2 (k + 1) y0 y1 y2 y3 y4 y5 y6))
 |0 => ⟨fun _ _ _ _ r h => by simp [simplex_Cofacets.j0] at h, fun _ _ _ _ r h => by simp [simplex_Cofacets.l0] at h, fun _ _ _ _ _ _ _ r h => by simp [simplex_Cofacets.j2] at h⟩
 |k + 1 => by
  obtain ⟨ih0, ih1, ih2⟩ := simplex_Cofacets.mono_l k
  refine ⟨?_, ?_, ?_⟩
  ·intro y0 y1 y2 y3
   unfold simplex_Cofacets.j0
   repeat' first
   |(with_reducible exact ih0 _ _ _ _)
   |(with_reducible exact ih1 _ _ _ _)
   |(with_reducible exact ih2 _ _ _ _ _ _ _)
   |(with_reducible exact api_Simplex_int_55.mono _ _ _)
   |(with_reducible exact simplex_Check.mono _ _)
   |(with_reducible exact LeO.refl _)
   |(with_reducible exact LeO.none _)
   |(with_reducible refine LeO.ite ?_ ?_)
   |(with_reducible refine LeO.bind ?_ (fun _ => ?_))
   |exact ih0 _ _ _ _
   |exact ih1 _ _ _ _
   |exact ih2 _ _ _ _ _ _ _
   |exact api_Simplex_int_55.mono _ _ _
   |exact simplex_Check.mono _ _
   |exact LeO.none _
   |refine LeO.ite ?_ ?_
   |refine LeO.bind ?_ (fun _ => ?_)
  ·intro y0 y1 y2 y3
   unfold simplex_Cofacets.l0
   repeat' first
   |(with_reducible exact ih0 _ _ _ _)
   |(with_reducible exact ih1 _ _ _ _)
   |(with_reducible exact ih2 _ _ _ _ _ _ _)
   |(with_reducible exact api_Simplex_int_55.mono _ _ _)
   |(with_reducible exact simplex_Check.mono _ _)
   |(with_reducible exact LeO.refl _)
   |(with_reducible exact LeO.none _)
   |(with_reducible refine LeO.ite ?_ ?_)
   |(with_reducible refine LeO.bind ?_ (fun _ => ?_))
   |exact ih0 _ _ _ _
   |exact ih1 _ _ _ _
   |exact ih2 _ _ _ _ _ _ _
   |exact api_Simplex_int_55.mono _ _ _
   |exact simplex_Check.mono _ _
   |exact LeO.none _
   |refine LeO.ite ?_ ?_
   |refine LeO.bind ?_ (fun _ => ?_)
  ·intro y0 y1 y2 y3 y4 y5 y6
   unfold simplex_Cofacets.j2
   repeat' first
   |(with_reducible exact ih0 _ _ _ _)
   |(with_reducible exact ih1 _ _ _ _)
   |(with_reducible exact ih2 _ _ _ _ _ _ _)
   |(with_reducible exact api_Simplex_int_55.mono _ _ _)
   |(with_reducible exact simplex_Check.mono _ _)
   |(with_reducible exact LeO.refl _)
   |(with_reducible exact LeO.none _)
   |(with_reducible refine LeO.ite ?_ ?_)
   |(with_reducible refine LeO.bind ?_ (fun _ => ?_))
   |exact ih0 _ _ _ _
   |exact ih1 _ _ _ _
   |exact ih2 _ _ _ _ _ _ _
   |exact api_Simplex_int_55.mono _ _ _
   |exact simplex_Check.mono _ _
   |exact LeO.none _
   |refine LeO.ite ?_ ?_
   |refine LeO.bind ?_ (fun _ => ?_)
theorem simplex_Cofacets.mono : ∀ a0 a1 k, LeO (simplex_Cofacets.f k a0 a1) (simplex_Cofacets.f (k + 1) a0 a1) := by
 intro a0 a1 k
 obtain ⟨ih0, ih1, ih2⟩ := simplex_Cofacets.mono_l k
 unfold simplex_Cofacets.f
 repeat' first
   |(with_reducible exact ih0 _ _ _ _)
   |(with_reducible exact ih1 _ _ _ _)
   |(with_reducible exact ih2 _ _ _ _ _ _ _)
   |(with_reducible exact api_Simplex_int_55.mono _ _ _)
   |(with_reducible exact simplex_Check.mono _ _)
   |(with_reducible exact LeO.refl _)
   |(with_reducible exact LeO.none _)
   |(with_reducible refine LeO.ite ?_ ?_)
   |(with_reducible refine LeO.bind ?_ (fun _ => ?_))
   |exact ih0 _ _ _ _
   |exact ih1 _ _ _ _
   |exact ih2 _ _ _ _ _ _ _
   |exact api_Simplex_int_55.mono _ _ _
   |exact simplex_Check.mono _ _
   |exact LeO.none _
   |refine LeO.ite ?_ ?_
   |refine LeO.bind ?_ (fun _ => ?_)
set_option maxHeartbeats 8000000 in
set_option maxRecDepth 100000 in
theorem simplex_Cofacets.calls (k : Nat) (A0 : Option Addr) (c0 : Nat) (l0 : List Int) (a1 : Int) (r1 : List (List Int)) (r2 : Int) (w : World) (hr0 : Kd.C (Kd.int .i64) w A0 l0.length l0) (hc0 : l0.length ≤ c0) (h : simplex_Cofacets.f k l0 a1 = some (r1, r2)) :
  Calls Tryd.prog 35 #[.slice A0 l0.length c0, .int .i64 a1] w fun e w' => ∃ v0_ : Value, e = .returned (.tuple #[v0_, .int .i64 r2]) ∧ Kd.S (Kd.slice 3 (Kd.int .i64)) 28 w' w.heap.size (fun _ => True) v0_ r1 ∧ Below w.heap.size w w' := by
 have HR0 := Aside0.mk hr0
 have HC0 := Aside0.mk hc0
 clear hr0 hc0
 have HB := Aside0.mk (Below.refl w.heap.size w)
 have H : ((simplex_Check.f k l0).bind fun t527 => (if t527 = 0 then (if a1 < 0 then (simplex_Cofacets.j0 k l0 a1 ([] : List (List Int)) true) else (if a1 > 64 then (simplex_Cofacets.j0 k l0 a1 ([] : List (List Int)) true) else (if 0 ≤ (wrap64 ((l0.length : Int) - 1)) then (if (wrap64 ((l0.length : Int) - 1)) < (l0.length : Int) then (simplex_Cofacets.j0 k l0 a1 ([] : List (List Int)) (decide ((rd l0 (wrap64 ((l0.length : Int) - 1))) ≥ a1))) else (none)) else (none)))) else (some (([] : List (List Int)), t527)))) = some (r1, r2) := h
 clear h
 replace H := Option.bind_eq_some_iff.mp H
 obtain ⟨t527, A30, H⟩ := H
 replace H : (if t527 = 0 then (if a1 < 0 then (simplex_Cofacets.j0 k l0 a1 ([] : List (List Int)) true) else (if a1 > 64 then (simplex_Cofacets.j0 k l0 a1 ([] : List (List Int)) true) else (if 0 ≤ (wrap64 ((l0.length : Int) - 1)) then (if (wrap64 ((l0.length : Int) - 1)) < (l0.length : Int) then (simplex_Cofacets.j0 k l0 a1 ([] : List (List Int)) (decide ((rd l0 (wrap64 ((l0.length : Int) - 1))) ≥ a1))) else (none)) else (none)))) else (some (([] : List (List Int)), t527))) = some (r1, r2) := H
 have A3 := Aside0.mk A30
 clear A30
 by_cases c4 : t527 = 0
 ·rw [if_pos c4] at H
  have c4b0 : (t527 == 0) = true := beq_iff_eq.mpr c4
  have c4b1 : (t527 != 0) = false := bne_eq_false_iff_eq.mpr c4
  clear c4
  have HC5 := Aside0.mk H
  clear H
  go_enter Tryd.func35, Tryd.ntmps35
  go_upto_region 4 with (first | ((with_reducible refine gate_callee (f := 25) rfl ?_); refine goesL_ (some 10) rfl rfl Tryd.func25 (by kernel_rfl) rfl #[.slice A0 l0.length c0] rfl ag_ ?_; (with_reducible refine (simplex_Check.calls k _ _ l0 t527 _ ?side1 ?side2 A3.out).mono ?_); (case side1 => exact cs_ HR0.out); (case side2 => exact HC0.out); rintro e w' ⟨rfl, ⟨nd, rfl⟩⟩; refine ⟨_, rfl, ?_⟩))
  (try simp only [Act.put, List.setIfInBounds_toArray, List.set_cons_zero, List.set_cons_succ])
  go_cut [29] (fun v29 wc => ∃ (kq : Nat) (x29_4 : Bool), v29 = .bool x29_4 ∧ Aside0 (simplex_Cofacets.j0 kq l0 a1 ([] : List (List Int)) x29_4 = some (r1, r2)) ∧ Aside0 (kq ≤ k) ∧ Aside0 (Kd.S (Kd.slice 3 (Kd.int .i64)) 28 wc w.heap.size (fun _ => True) (.slice none 0 0) ([] : List (List Int))) ∧ Aside0 (Below w.heap.size w wc))
  case first =>
   have H := HC5.out
   clear HC5
   by_cases c6 : a1 < 0
   ·rw [if_pos c6] at H
    have c6b0 : decide (a1 < 0) = true := decide_eq_true c6
    clear c6
    (first | rw [c6b0] | (simp only [i64_w, i32_w]; rw [c6b0]) | skip)
    have H' := Aside0.mk H
    clear H
    go_wp2
    go_meet
    case rel => exact ⟨_, (true), sd_, H', ⟨by first | omega | exact Nat.le_refl _⟩, ⟨by first | exact Kd.S_nil _ _ _ _ _ | exact Kd.N_nil _ _ _ _ _ | exact Kd.V_nil _ _ _ _ _ | exact Kd.Q_nil _ _ _ _ _ | exact Kd.R_nil _ _ _ _ _⟩, ⟨bw_⟩⟩
   ·rw [if_neg c6] at H
    have c6b0 : decide (a1 < 0) = false := decide_eq_false c6
    clear c6
    (first | rw [c6b0] | (simp only [i64_w, i32_w]; rw [c6b0]) | skip)
    by_cases c7 : a1 > 64
    ·rw [if_pos c7] at H
     have c7b0 : decide (64 < a1) = true := decide_eq_true c7
     clear c7
     have H' := Aside0.mk H
     clear H
     go_wp2
     go_meet
     case rel => exact ⟨_, (true), sd_, H', ⟨by first | omega | exact Nat.le_refl _⟩, ⟨by first | exact Kd.S_nil _ _ _ _ _ | exact Kd.N_nil _ _ _ _ _ | exact Kd.V_nil _ _ _ _ _ | exact Kd.Q_nil _ _ _ _ _ | exact Kd.R_nil _ _ _ _ _⟩, ⟨bw_⟩⟩
    ·rw [if_neg c7] at H
     have c7b0 : decide (64 < a1) = false := decide_eq_false c7
     clear c7
     obtain ⟨ji8, hji8⟩ : ∃ j_ : Int, (wrap64 ((l0.length : Int) - 1)) = j_ := ⟨_, rfl⟩
     replace H : (if 0 ≤ (ji8) then (if (ji8) < (l0.length : Int) then (simplex_Cofacets.j0 k l0 a1 ([] : List (List Int)) (decide ((rd l0 (ji8)) ≥ a1))) else (none)) else (none)) = some (r1, r2) := by first | (rw [hji8] at H; exact H) | (simp only [hji8] at H ⊢; exact H)
     have hji8w : (IntKind.i64.wrap ((l0.length : Int) - 1)) = ji8 := (i64_w _).trans hji8
     by_cases c9 : 0 ≤ (ji8)
     ·rw [if_pos c9] at H
      have c9b0 : decide (0 ≤ (ji8)) = true := decide_eq_true c9
      clear c9
      by_cases c10 : (ji8) < (l0.length : Int)
      ·rw [if_pos c10] at H
       have c10b0 : decide ((ji8) < (l0.length : Int)) = true := decide_eq_true c10
       clear c10
       have H' := Aside0.mk H
       clear H
       have p528 : 0 ≤ ((ji8) : Int) := of_decide_eq_true as_
       have q528 : (ji8) < (l0.length : Int) := of_decide_eq_true as_
       obtain ⟨ad528, e528, hx528_0⟩ := Kd.at_int HR0.out (ji8) p528 q528
       cases e528
       replace hx528_0 := (HB.out.cell (World.block_lt_of_cell? w _ hx528_0)).trans hx528_0
       replace p528 := eq_true p528
       replace q528 := eq_true q528
       go_wp2
       go_meet
       case rel => exact ⟨_, (decide ((rd l0 (ji8)) ≥ a1)), (by first | rfl | (simp; done) | (simp only [← hji8] <;> (first | rfl | simp)) | (simp [*]; done)), H', ⟨by first | omega | exact Nat.le_refl _⟩, ⟨by first | exact Kd.S_nil _ _ _ _ _ | exact Kd.N_nil _ _ _ _ _ | exact Kd.V_nil _ _ _ _ _ | exact Kd.Q_nil _ _ _ _ _ | exact Kd.R_nil _ _ _ _ _⟩, ⟨bw_⟩⟩
      ·rw [if_neg c10] at H
       exact absurd H (by simp)
     ·rw [if_neg c9] at H
      exact absurd H (by simp)
  case rest =>
   clear HC5
   try clear c1
   try clear c2
   try clear p2
   try clear c3
   try clear c4
   try clear c4b0
   try clear c4b1
   try clear p5
   try clear q5
   try clear hx5
   try clear c6
   try clear c6b0
   try clear p6
   try clear c7
   try clear c7b0
   try clear c9
   try clear c9b0
   try clear c10
   try clear c10b0
   try clear hx528_0
   try clear p528
   try clear q528
   obtain ⟨kq, x29_4, rfl, HA, HJ4, HO_4, HB⟩ := hcut
   cases kq with
   |zero => exact absurd HA.out (by simp [simplex_Cofacets.j0])
   |succ kj4 =>
    have H := HA.out
    clear HA
    simp only [simplex_Cofacets.j0] at H
    by_cases c11 : x29_4 = true
    ·subst c11
     have H1 : (some (([] : List (List Int)), 1)) = some (r1, r2) := by rw [if_pos rfl] at H; exact H
     clear H
     have H := H1
     clear H1
     simp only [Option.some.injEq, Prod.mk.injEq] at H
     obtain ⟨rfl, rfl⟩ := H
     go_wp2
     go_ret2
     exact ⟨_, by first | rfl | (simp [errW_none, errW_some] <;> rfl) | (simp [*, errW_none, errW_some] <;> rfl), by first | exact Kd.S_nil _ _ _ _ _ | exact Kd.N_nil _ _ _ _ _ | exact Kd.V_nil _ _ _ _ _ | exact Kd.Q_nil _ _ _ _ _ | exact Kd.R_nil _ _ _ _ _, bw_⟩
    ·replace c11 := Bool.eq_false_iff.mpr c11
     subst c11
     have H1 : (simplex_Cofacets.l0 kj4 l0 ([] : List (List Int)) a1 0) = some (r1, r2) := by rw [if_neg (show ¬ (false = true) by decide)] at H; exact H
     clear H
     have H := H1
     clear H1
     have H' := Aside0.mk H
     clear H
     go_wp2
     go_loopg [4, 31] kj4 (fun kq v4 v31 w' => ∃ (x4_2 : List (List Int)) (x31_2 : Int), v31 = .int .i64 x31_2 ∧ Aside0 (simplex_Cofacets.l0 kq l0 x4_2 a1 x31_2 = some (r1, r2)) ∧ Aside0 (kq ≤ kj4) ∧ Aside0 (Kd.S (Kd.slice 3 (Kd.int .i64)) 28 w' w.heap.size (fun _ => True) v4 x4_2) ∧ Aside0 (Below w.heap.size w w'))
     case atStart => exact ⟨(([] : List (List Int))), (0), sd_, H', ⟨Nat.le_refl _⟩, ⟨rSa_ HO_4.out⟩, ⟨bw_⟩⟩
     case round =>
      clear H'
      try clear c1
      try clear c2
      try clear p2
      try clear c3
      try clear c4
      try clear c4b0
      try clear c4b1
      try clear p5
      try clear q5
      try clear hx5
      try clear c6
      try clear c6b0
      try clear p6
      try clear c7
      try clear c7b0
      try clear c9
      try clear c9b0
      try clear c10
      try clear c10b0
      try clear c11
      try clear hx528_0
      try clear p2
      try clear p5
      try clear p528
      try clear p6
      try clear q5
      try clear q528
      obtain ⟨x4_2, x31_2, rfl, HA, HK2, HO_4, HB⟩ := hrel
      cases gk with
      |zero => exact absurd HA.out (by simp [simplex_Cofacets.l0])
      |succ k2 =>
       have H := HA.out
       clear HA
       simp only [simplex_Cofacets.l0] at H
       by_cases c12 : x31_2 < a1
       ·rw [if_pos c12] at H
        have c12b0 : decide (x31_2 < a1) = true := decide_eq_true c12
        clear c12
        replace H := Option.bind_eq_some_iff.mp H
        obtain ⟨⟨t529, t530⟩, A130, H⟩ := H
        replace H : (if t530 = true then (simplex_Cofacets.j2 k2 l0 x4_2 x31_2 t529 a1 x31_2 false) else (simplex_Cofacets.j2 k2 l0 x4_2 x31_2 t529 a1 x31_2 (decide ((l0.length : Int) ≤ 4)))) = some (r1, r2) := H
        have A13 := Aside0.mk A130
        clear A130
        have HC14 := Aside0.mk H
        clear H
        go_upto_region 10 with (first | ((with_reducible refine gate_callee (f := 55) rfl ?_); refine goesL_ (some 37) rfl rfl Tryd.func55 (by kernel_rfl) rfl #[.slice A0 l0.length c0, .int .i64 x31_2] rfl ag_ ?_; (with_reducible refine (api_Simplex_int_55.calls k2 _ _ l0 x31_2 t529 t530 _ ?side1 ?side2 A13.out).mono ?_); (case side1 => exact cs_ (Kd.C_below HR0.out HB.out)); (case side2 => exact HC0.out); rintro e w' ⟨rfl, ⟨nd, rfl⟩⟩; refine ⟨_, rfl, ?_⟩))
        (try simp only [Act.put, List.setIfInBounds_toArray, List.set_cons_zero, List.set_cons_succ])
        go_cut [46] (fun v46 wc => ∃ (kq : Nat) (x46_13 : Bool), v46 = .bool x46_13 ∧ Aside0 (simplex_Cofacets.j2 kq l0 x4_2 x31_2 t529 a1 x31_2 x46_13 = some (r1, r2)) ∧ Aside0 (kq ≤ k2) ∧ Aside0 (Kd.S (Kd.slice 3 (Kd.int .i64)) 28 wc w.heap.size (fun _ => True) u4 x4_2) ∧ Aside0 (Below w.heap.size w wc))
        case first =>
         have H := HC14.out
         clear HC14
         by_cases c15 : t530 = true
         ·subst c15
          have H1 : (simplex_Cofacets.j2 k2 l0 x4_2 x31_2 t529 a1 x31_2 false) = some (r1, r2) := by rw [if_pos rfl] at H; exact H
          clear H
          have H := H1
          clear H1
          have H' := Aside0.mk H
          clear H
          go_wp2
          go_meet
          case rel => exact ⟨_, (false), sd_, H', ⟨by have := HJ4.out; have := HK2.out; first | omega | exact Nat.le_refl _⟩, ⟨rSa_ HO_4.out⟩, ⟨bw_⟩⟩
         ·replace c15 := Bool.eq_false_iff.mpr c15
          subst c15
          have H1 : (simplex_Cofacets.j2 k2 l0 x4_2 x31_2 t529 a1 x31_2 (decide ((l0.length : Int) ≤ 4))) = some (r1, r2) := by rw [if_neg (show ¬ (false = true) by decide)] at H; exact H
          clear H
          have H := H1
          clear H1
          have H' := Aside0.mk H
          clear H
          go_wp2
          go_meet
          case rel => exact ⟨_, (decide ((l0.length : Int) ≤ 4)), sd_, H', ⟨by have := HJ4.out; have := HK2.out; first | omega | exact Nat.le_refl _⟩, ⟨rSa_ HO_4.out⟩, ⟨bw_⟩⟩
        case rest =>
         clear HC14
         try clear c1
         try clear c2
         try clear p2
         try clear c3
         try clear c4
         try clear c4b0
         try clear c4b1
         try clear c5
         try clear p5
         try clear q5
         try clear hx5
         try clear c6
         try clear c6b0
         try clear p6
         try clear c7
         try clear c7b0
         try clear c9
         try clear c9b0
         try clear c10
         try clear c10b0
         try clear c11
         try clear c12
         try clear c12b0
         try clear c15
         try clear hx528_0
         try clear p2
         try clear p5
         try clear p528
         try clear p6
         try clear q5
         try clear q528
         obtain ⟨kq, x46_13, rfl, HA, HJ13, HO_4, HB⟩ := hcut
         cases kq with
         |zero => exact absurd HA.out (by simp [simplex_Cofacets.j2])
         |succ kj13 =>
          have H := HA.out
          clear HA
          simp only [simplex_Cofacets.j2] at H
          by_cases c16 : x46_13 = true
          ·subst c16
           have H1 : ((api_Simplex_int_41.f l0).bind fun t531 => ((api_Simplex_int_56.f t531 t529 (([x31_2] : List Int))).bind fun t537 => (if x4_2.length < 5864062014805 then (simplex_Cofacets.l0 kj13 l0 (x4_2 ++ [t537]) a1 (wrap64 (x31_2 + 1))) else (none)))) = some (r1, r2) := by rw [if_pos rfl] at H; exact H
           clear H
           have H := H1
           clear H1
           replace H := Option.bind_eq_some_iff.mp H
           obtain ⟨t531, A170, H⟩ := H
           replace H : ((api_Simplex_int_56.f t531 t529 (([x31_2] : List Int))).bind fun t537 => (if x4_2.length < 5864062014805 then (simplex_Cofacets.l0 kj13 l0 (x4_2 ++ [t537]) a1 (wrap64 (x31_2 + 1))) else (none))) = some (r1, r2) := H
           have A17 := Aside0.mk A170
           clear A170
           obtain ⟨y534, hy534⟩ : ∃ y_ : List Int, y_ = (([x31_2] : List Int)) := ⟨_, rfl⟩
           replace H : ((api_Simplex_int_56.f t531 t529 y534).bind fun t537 => (if x4_2.length < 5864062014805 then (simplex_Cofacets.l0 kj13 l0 (x4_2 ++ [t537]) a1 (wrap64 (x31_2 + 1))) else (none))) = some (r1, r2) := by first | (rw [hy534]; with_reducible exact H) | (have H2_ := (Option.bind_some _ _).symm.trans H; rw [hy534]; with_reducible exact H2_) | (have H2_ := (Option.bind_some _ _).symm.trans H; with_reducible exact H2_) | with_reducible exact H | (rw [hy534]; exact H) | exact H
           have Ny534 := Aside0.mk hy534
           clear hy534
           replace H := Option.bind_eq_some_iff.mp H
           obtain ⟨t537, A180, H⟩ := H
           replace H : (if x4_2.length < 5864062014805 then (simplex_Cofacets.l0 kj13 l0 (x4_2 ++ [t537]) a1 (wrap64 (x31_2 + 1))) else (none)) = some (r1, r2) := H
           have A18 := Aside0.mk A180
           clear A180
           by_cases c19 : x4_2.length < 5864062014805
           ·rw [if_pos c19] at H
            have LMc19 := Aside0.mk c19
            clear c19
            obtain ⟨y540, hy540⟩ : ∃ y_ : List (List Int), y_ = (x4_2 ++ [t537]) := ⟨_, rfl⟩
            replace H : (simplex_Cofacets.l0 kj13 l0 y540 a1 (wrap64 (x31_2 + 1))) = some (r1, r2) := by first | (rw [hy540]; with_reducible exact H) | (have H2_ := (Option.bind_some _ _).symm.trans H; rw [hy540]; with_reducible exact H2_) | (have H2_ := (Option.bind_some _ _).symm.trans H; with_reducible exact H2_) | with_reducible exact H | (rw [hy540]; exact H) | exact H
            have Ny540 := Aside0.mk hy540
            clear hy540
            have H' := Aside0.mk H
            clear H
            go_wp2_with (first | ((with_reducible refine gate_callee (f := 41) rfl ?_); refine goesL_ (some 49) rfl rfl Tryd.func41 (by kernel_rfl) rfl #[.slice A0 l0.length c0] rfl ag_ ?_; (with_reducible refine (api_Simplex_int_41.calls _ _ l0 t531 _ ?side1 ?side2 A17.out).mono ?_); (case side1 => exact cs_ (Kd.C_below HR0.out HB.out)); (case side2 => exact HC0.out); rintro e w20 ⟨v532, rfl, ho0, hb⟩; refine ⟨_, rfl, ?_⟩; have n0_ := Aside0.mk (Kd.S_elder' (rSa_ HO_4.out) (Kd.R_base ho0) hb); have n1_ := Aside0.mk (Kd.R_lower ho0 (below_size bw_)); have n2_ := Aside0.mk (below_step bw_ hb); clear HO_4; clear HB; have HO_4 := n0_; have HO533 := n1_; have HB := n2_; clear n0_ n1_ n2_; (try clear hb); (try clear hb2); (try clear hk); (try clear hi); (try clear ho0)) | ((with_reducible refine gate_dst (N := 52) rfl ?_); (try (refine gate_guard (by rfl) ?_; dsimp only)); refine Kd.R_lit (Kd.int .i64) _ 3 ?hg (N := 52) ?hd (xs := ([x31_2] : List Int)) (inner := [.int .i64 x31_2]) (ok := fun _ => True) (okp := fun _ => True) ?hr ?hp (fun _ hk => hk) trivial (Below.refl _ _) (Nat.le_refl _) (by simp) ?_; (case hd => rfl); (case hg => rfl); (case hr => first | (go_simp; done) | (go_simp; rfl)); (case hp => exact (Reps.one (show Kd.M (Kd.int .i64) _ _ _ x31_2 [.int .i64 x31_2] from rfl) (Reps.none _ _))); intro v535 w21 ho22 hb hg_ hnew_; clear hg_ hnew_; (first | rw [← Ny534.out] at ho22 | (simp only [Int.reduceToNat] at ho22; rw [← Ny534.out] at ho22)); have n0_ := Aside0.mk (Kd.S_elder' (rSa_ HO_4.out) (Kd.R_base ho22) hb); have n1_ := Aside0.mk (Kd.R_elder' (rRa_ HO533.out) (Kd.R_base ho22) hb); have n2_ := Aside0.mk (Kd.R_lower (Kd.R_new' ho22 (Kd.R_lt (rRa_ HO533.out))) (below_size bw_)); have n3_ := Aside0.mk (below_step bw_ hb); clear HO_4; clear HO533; clear HB; have HO_4 := n0_; have HO533 := n1_; have HO536 := n2_; have HB := n3_; clear n0_ n1_ n2_ n3_; clear hb ho22; obtain ⟨Ao23, co23, eo23⟩ := Kd.R_slice HO533.out; subst eo23; obtain ⟨Ao24, co24, eo24⟩ := Kd.R_slice HO536.out; subst eo24) | ((with_reducible refine gate_callee (f := 56) rfl ?_); refine goesL_ (some 53) rfl rfl Tryd.func56 (by kernel_rfl) rfl #[.slice Ao23 t531.length co23, .int .i64 t529, .slice Ao24 y534.length co24] rfl ag_ ?_; (with_reducible refine (api_Simplex_int_56.calls (fun k_ => some k_ = (.slice Ao23 t531.length co23 : Value).ownBlock) (.slice Ao23 t531.length co23) t531 t529 (fun k_ => some k_ = (.slice Ao24 y534.length co24 : Value).ownBlock) (.slice Ao24 y534.length co24) y534 t537 w _ ?side1 ?side2 ?side3 ?side4 ?side5 A18.out).mono ?_); (case side1 => exact bw_); (case side2 => exact Kd.R_tight rfl HO533.out); (case side3 => exact fun k_ e_ => (HO533.out.1 k_ e_.symm).2); (case side4 => exact Kd.R_tight rfl HO536.out); (case side5 => exact fun k_ e_ => (HO536.out.1 k_ e_.symm).2); rintro e w25 ⟨v538, rfl, ho0, hb, hkp⟩; refine ⟨_, rfl, ?_⟩; have n0_ := Aside0.mk (Kd.S_mono (ok' := fun k_ => some k_ ≠ (v538 : Value).ownBlock) (Kd.S_keptB (HO_4.out) hkp (fun k_ hk_ hs_ => Or.elim hs_ (fun e_ => (hk_.1.2) e_) (fun e_ => (hk_.2) e_))) (fun k_ hk_ => fun e_ => Or.elim (ho0.1 k_ e_.symm) (fun hs_ => hk_.2.1 hs_) (fun hn_ => Nat.not_le.2 hk_.2.2 hn_))); have n1_ := Aside0.mk (Kd.R_mono (ok' := fun k_ => True) ho0 (fun k_ hk_ => trivial)); have n2_ := Aside0.mk (hb); clear HO_4; clear HB; clear HO533; clear HO536; have HO_4 := n0_; have HO539 := n1_; have HB := n2_; clear n0_ n1_ n2_; (try clear hb); (try clear hkp); (try clear ho0); obtain ⟨Ao27, co27, eo27⟩ := Kd.R_slice HO539.out; subst eo27) | ((with_reducible refine gate_builtin (b := .append) (xs := #[.tmp 47, .tmp 54]) rfl ?_); (try (refine gate_guard (by rfl) ?_; dsimp only)); at_builtin; refine Kd.S_append (Kd.slice 3 (Kd.int .i64)) (w0 := w) w.heap.size rfl (.tmp 47) (.tmp 54) 56 28 (.slice none 0 0) 24 rfl Tryd.underlying56 info28 rfl (by decide) (by omega) u4 x4_2 t537 [.slice Ao27 t537.length co27] (fun _ => True) (fun k_ => some k_ = (.slice Ao27 t537.length co27 : Value).ownBlock) rfl rfl ?aP (fun k_ hk_ => ((Kd.R_mono (ok' := fun k_ => ((fun _ => True)) k_ ∧ some k_ ≠ (u4 : Value).ownBlock) (Kd.R_apart' (HO539.out) (Kd.S_typed HO_4.out) (by decide)) (fun k_ hk => ⟨trivial, hk.2⟩))).1 k_ hk_.symm) ?aF ?aO ?aB ?aS ?aL ?_; (case aP => exact Kd.M_row (Kd.R_mono (Kd.R_tight rfl (Kd.R_mono (ok' := fun k_ => ((fun _ => True)) k_ ∧ some k_ ≠ (u4 : Value).ownBlock) (Kd.R_apart' (HO539.out) (Kd.S_typed HO_4.out) (by decide)) (fun k_ hk => ⟨trivial, hk.2⟩))) (fun _ h_ => h_))); (case aB => exact bw_); (case aF => exact (fun _ _ => trivial)); (case aO => exact (by (with_reducible repeat (first | apply Kd.S_alloc | apply Kd.S_drewN | apply Kd.S_drew)); exact Kd.S_mono HO_4.out (fun k_ hk => ⟨trivial, fun e_ => hk e_⟩))); (case aS => exact (below_size bw_)); (case aL => have := LMc19.out; omega); intro v541 w26 ho hb hg hat; rw [← Ny540.out] at ho; have n0_ := Aside0.mk (hb); have n1_ := Aside0.mk (ho); clear HB; clear HO_4; clear HO539; have HB := n0_; have HO542 := n1_; clear n0_ n1_; clear ho hb hg hat))
            go_roundg kj13
            case measure => have := HJ4.out; have := HK2.out; have := HJ13.out; omega
            case rel => exact ⟨(y540), (wrap64 (x31_2 + 1)), sd_, H', ⟨by have := HJ4.out; have := HK2.out; have := HJ13.out; omega⟩, ⟨rSa_ HO542.out⟩, ⟨bw_⟩⟩
           ·rw [if_neg c19] at H
            exact absurd H (by simp)
          ·replace c16 := Bool.eq_false_iff.mpr c16
           subst c16
           have H1 : (simplex_Cofacets.l0 kj13 l0 x4_2 a1 (wrap64 (x31_2 + 1))) = some (r1, r2) := by rw [if_neg (show ¬ (false = true) by decide)] at H; exact H
           clear H
           have H := H1
           clear H1
           have H' := Aside0.mk H
           clear H
           go_wp2
           go_roundg kj13
           case measure => have := HJ4.out; have := HK2.out; have := HJ13.out; omega
           case rel => exact ⟨(x4_2), (wrap64 (x31_2 + 1)), sd_, H', ⟨by have := HJ4.out; have := HK2.out; have := HJ13.out; omega⟩, ⟨rSa_ HO_4.out⟩, ⟨bw_⟩⟩
       ·rw [if_neg c12] at H
        have c12b0 : decide (x31_2 < a1) = false := decide_eq_false c12
        clear c12
        simp only [Option.some.injEq, Prod.mk.injEq] at H
        obtain ⟨rfl, rfl⟩ := H
        go_wp2
        go_ret2
        exact ⟨_, by first | rfl | (simp [errW_none, errW_some] <;> rfl) | (simp [*, errW_none, errW_some] <;> rfl), rSa_ HO_4.out, bw_⟩
 ·rw [if_neg c4] at H
  have c4b0 : (t527 == 0) = false := beq_eq_false_iff_ne.mpr c4
  have c4b1 : (t527 != 0) = true := bne_iff_ne.mpr c4
  simp only [Option.some.injEq, Prod.mk.injEq] at H
  obtain ⟨rfl, rfl⟩ := H
  go_enter Tryd.func35, Tryd.ntmps35
  go_wp2_with (first | ((with_reducible refine gate_callee (f := 25) rfl ?_); refine goesL_ (some 10) rfl rfl Tryd.func25 (by kernel_rfl) rfl #[.slice A0 l0.length c0] rfl ag_ ?_; (with_reducible refine (simplex_Check.calls k _ _ l0 t527 _ ?side1 ?side2 A3.out).mono ?_); (case side1 => exact cs_ HR0.out); (case side2 => exact HC0.out); rintro e w' ⟨rfl, ⟨nd, rfl⟩⟩; refine ⟨_, rfl, ?_⟩))
  go_ret2
  exact ⟨_, by first | rfl | (simp [errW_none, errW_some] <;> rfl) | (simp [*, errW_none, errW_some] <;> rfl), by first | exact Kd.S_nil _ _ _ _ _ | exact Kd.N_nil _ _ _ _ _ | exact Kd.V_nil _ _ _ _ _ | exact Kd.Q_nil _ _ _ _ _ | exact Kd.R_nil _ _ _ _ _, bw_⟩

end Go.Proofs.YticckanjfdcpaaaDoor.PSimplex
namespace Go.Proofs.YticckanjfdcpaaaDoor.PSimplex
open Go.RowKit Go.Proofs.YticckanjfdcpaaaDoorW.PrintWords Go.Proofs.YticckanjfdcpaaaDoorW.PrintLast Go.Proofs.YticckanjfdcpaaaDoorW.PrintMore
attribute [local go_sem] max2_int min2_int max_two min_two max_three min_three max_four min_four   -- for this text's walks alone
set_option linter.unusedVariables false
set_option linter.unusedSimpArgs false

/-! ### toruslaw07_SimplexFacets: function 11 -/
mutual
def toruslaw07_SimplexFacets.j0 : Nat → List Int → Bool → Option (Bool)
 |0, _, _ => none
 |k + 1, x0, x23 => if x23 = true then ((toruslaw07_awake.f k).bind fun t741 => (some t741)) else ((torusref07_Valid.f k x0 5 64).bind fun t742 => ((simplex_Facets.f k t742).bind fun bt745 => (if bt745.2 = 0 then (if (t742.length : Int) > 1 then (toruslaw07_SimplexFacets.j1 k t742 bt745.1 ((bt745.1.length : Int) != (t742.length : Int))) else (toruslaw07_SimplexFacets.j1 k t742 bt745.1 false)) else (toruslaw07_SimplexFacets.j1 k t742 bt745.1 true))))
def toruslaw07_SimplexFacets.j1 : Nat → List Int → List (List Int) → Bool → Option (Bool)
 |0, _, _, _ => none
 |k + 1, x3, x4, x45 => if x45 = true then (none) else (toruslaw07_SimplexFacets.l0 k x3 x4 0)
def toruslaw07_SimplexFacets.l0 : Nat → List Int → List (List Int) → Int → Option (Bool)
 |0, _, _, _ => none
 |k + 1, x3, x4, x6 => if (x3.length : Int) > 1 then (toruslaw07_SimplexFacets.j3 k x3 x4 x6 (decide (x6 < (x3.length : Int)))) else (toruslaw07_SimplexFacets.j3 k x3 x4 x6 false)
def toruslaw07_SimplexFacets.j3 : Nat → List Int → List (List Int) → Int → Bool → Option (Bool)
 |0, _, _, _, _ => none
 |k + 1, x3, x4, x6, x54 => if x54 = true then (if 0 ≤ x6 then (if x6 < (x4.length : Int) then ((simplex_Cofacets.f k (rd_L1 x4 x6) 64).bind fun bt750 => (toruslaw07_SimplexFacets.l1 k x3 x4 x6 bt750.2 false bt750.1 (bt750.1.length : Int) 0)) else (none)) else (none)) else (some true)
def toruslaw07_SimplexFacets.l1 : Nat → List Int → List (List Int) → Int → Int → Bool → List (List Int) → Int → Int → Option (Bool)
 |0, _, _, _, _, _, _, _, _ => none
 |k + 1, x3, x4, x6, x8, x9, x65, x66, x67 => if x67 < x66 then (if 0 ≤ x67 then (if x67 < (x65.length : Int) then (if x9 = true then (toruslaw07_SimplexFacets.l1 k x3 x4 x6 x8 true x65 x66 (wrap64 (x67 + 1))) else ((torusref07_Cmp.f k (rd_L1 x65 x67) x3).bind fun t755 => (toruslaw07_SimplexFacets.l1 k x3 x4 x6 x8 (t755 == 0) x65 x66 (wrap64 (x67 + 1))))) else (none)) else (none)) else (if x8 = 0 then (toruslaw07_SimplexFacets.j5 k x3 x4 x6 (!x9)) else (toruslaw07_SimplexFacets.j5 k x3 x4 x6 true))
def toruslaw07_SimplexFacets.j5 : Nat → List Int → List (List Int) → Int → Bool → Option (Bool)
 |0, _, _, _, _ => none
 |k + 1, x3, x4, x6, x84 => if x84 = true then (none) else (toruslaw07_SimplexFacets.l2 k x3 x4 x6 0)
def toruslaw07_SimplexFacets.l2 : Nat → List Int → List (List Int) → Int → Int → Option (Bool)
 |0, _, _, _, _ => none
 |k + 1, x3, x4, x6, x12 => if (x3.length : Int) > 2 then (toruslaw07_SimplexFacets.j7 k x3 x4 x6 x12 (decide (x12 < x6))) else (toruslaw07_SimplexFacets.j7 k x3 x4 x6 x12 false)
def toruslaw07_SimplexFacets.j7 : Nat → List Int → List (List Int) → Int → Int → Bool → Option (Bool)
 |0, _, _, _, _, _ => none
 |k + 1, x3, x4, x6, x12, x92 => if x92 = true then (if 0 ≤ x6 then (if x6 < (x4.length : Int) then ((simplex_Facets.f k (rd_L1 x4 x6)).bind fun bt757 => (if 0 ≤ x12 then (if x12 < (x4.length : Int) then ((simplex_Facets.f k (rd_L1 x4 x12)).bind fun bt762 => (if bt757.2 = 0 then (if bt762.2 = 0 then (if (bt757.1.length : Int) = (wrap64 ((x3.length : Int) - 1)) then (if (bt762.1.length : Int) = (wrap64 ((x3.length : Int) - 1)) then (if x12 < (bt757.1.length : Int) then (if 0 ≤ (wrap64 (x6 - 1)) then (if (wrap64 (x6 - 1)) < (bt762.1.length : Int) then ((torusref07_Cmp.f k (rd_L1 bt757.1 x12) (rd_L1 bt762.1 (wrap64 (x6 - 1)))).bind fun t768 => (if t768 = 0 then (toruslaw07_SimplexFacets.l2 k x3 x4 x6 (wrap64 (x12 + 1))) else (none))) else (none)) else (none)) else (none)) else (none)) else (none)) else (none)) else (none))) else (none)) else (none))) else (none)) else (none)) else (toruslaw07_SimplexFacets.l0 k x3 x4 (wrap64 (x6 + 1)))
end
def toruslaw07_SimplexFacets.f (k : Nat) (l0 : List Int) : Option (Bool) := if (l0.length : Int) > 50 then (toruslaw07_SimplexFacets.j0 k l0 true) else ((toruslaw07_awake.f k).bind fun t740 => (toruslaw07_SimplexFacets.j0 k l0 (!t740)))
theorem toruslaw07_SimplexFacets.mono_l : ∀ k, (∀ y0 y1, LeO (toruslaw07_SimplexFacets.j0 k y0 y1) (toruslaw07_SimplexFacets.j0 (k + 1) y0 y1)) ∧ (∀ y0 y1 y2, LeO (toruslaw07_SimplexFacets.j1 k y0 y1 y2) (toruslaw07_SimplexFacets.j1 (k + 1) y0 y1 y2)) ∧ (∀ y0 y1 y2, LeO (toruslaw07_SimplexFacets.l0 k y0 y1 y2) (toruslaw07_SimplexFacets.l0 (k + 1) y0 y1 y2)) ∧ (∀ y0 y1 y2 y3, LeO (toruslaw07_SimplexFacets.j3 k y0 y1 y2 y3) (toruslaw07_SimplexFacets.j3 (k + 1) y0 y1 y2 y3)) ∧ (∀ y0 y1 y2 y3 y4 y5 y6 y7, LeO (toruslaw07_SimplexFacets.l1 k y0 y1 y2 y3 y4 y5 y6 y7) (toruslaw07_SimplexFacets.l1 (k + 1) y0 y1 y2 y3 y4 y5 y6 y7)) ∧ (∀ y0 y1 y2 y3, LeO (toruslaw07_SimplexFacets.j5 k y0 y1 y2 y3) (toruslaw07_SimplexFacets.j5 (k + 1) y0 y1 y2 y3)) ∧ (∀ y0 y1 y2 y3, LeO (toruslaw07_SimplexFacets.l2 k y0 y1 y2 y3) (toruslaw07_SimplexFacets.l2 (k + 1) y0 y1 y2 y3)) ∧ (∀ y0 y1 y2 y3 y4, LeO (toruslaw07_SimplexFacets.j7 k y0 y1 y2 y3 y4) (toruslaw07_SimplexFacets.j7 (k + 1) y0 y1 y2 y3 y4))
 |0 => ⟨fun _ _ r h => by simp [toruslaw07_SimplexFacets.j0] at h, fun _ _ _ r h => by simp [toruslaw07_SimplexFacets.j1] at h, fun _ _ _ r h => by simp [toruslaw07_SimplexFacets.l0] at h, fun _ _ _ _ r h => by simp [toruslaw07_SimplexFacets.j3] at h, fun _ _ _ _ _ _ _ _ r h => by simp [toruslaw07_SimplexFacets.l1] at h, fun _ _ _ _ r h => by simp [toruslaw07_SimplexFacets.j5] at h, fun _ _ _ _ r h => by simp [toruslaw07_SimplexFacets.l2] at h, fun _ _ _ _ _ r h => by simp [toruslaw07_SimplexFacets.j7] at h⟩
 |k + 1 => by
  obtain ⟨ih0, ih1, ih2, ih3, ih4, ih5, ih6, ih7⟩ := toruslaw07_SimplexFacets.mono_l k
  refine ⟨?_, ?_, ?_, ?_, ?_, ?_, ?_, ?_⟩
  ·intro y0 y1
   unfold toruslaw07_SimplexFacets.j0
   repeat' first
   |(with_reducible exact ih0 _ _)
   |(with_reducible exact ih1 _ _ _)
   |(with_reducible exact ih2 _ _ _)
   |(with_reducible exact ih3 _ _ _ _)
   |(with_reducible exact ih4 _ _ _ _ _ _ _ _)
   |(with_reducible exact ih5 _ _ _ _)
   |(with_reducible exact ih6 _ _ _ _)
   |(with_reducible exact ih7 _ _ _ _ _)
   |(with_reducible exact simplex_Cofacets.mono _ _ _)
   |(with_reducible exact simplex_Facets.mono _ _)
   |(with_reducible exact toruslaw07_awake.mono _)
   |(with_reducible exact torusref07_Cmp.mono _ _ _)
   |(with_reducible exact torusref07_Valid.mono _ _ _ _)
   |(with_reducible exact LeO.refl _)
   |(with_reducible exact LeO.none _)
   |(with_reducible refine LeO.ite ?_ ?_)
   |(with_reducible refine LeO.bind ?_ (fun _ => ?_))
   |exact ih0 _ _
   |exact ih1 _ _ _
   |exact ih2 _ _ _
   |exact ih3 _ _ _ _
   |exact ih4 _ _ _ _ _ _ _ _
   |exact ih5 _ _ _ _
   |exact ih6 _ _ _ _
   |exact ih7 _ _ _ _ _
   |exact simplex_Cofacets.mono _ _ _
   |exact simplex_Facets.mono _ _
   |exact toruslaw07_awake.mono _
   |exact torusref07_Cmp.mono _ _ _
   |exact torusref07_Valid.mono _ _ _ _
   |exact LeO.none _
   |refine LeO.ite ?_ ?_
   |refine LeO.bind ?_ (fun _ => ?_)
  ·intro y0 y1 y2
   unfold toruslaw07_SimplexFacets.j1
   repeat' first
   |(with_reducible exact ih0 _ _)
   |(with_reducible exact ih1 _ _ _)
   |(with_reducible exact ih2 _ _ _)
   |(with_reducible exact ih3 _ _ _ _)
   |(with_reducible exact ih4 _ _ _ _ _ _ _ _)
   |(with_reducible exact ih5 _ _ _ _)
   |(with_reducible exact ih6 _ _ _ _)
   |(with_reducible exact ih7 _ _ _ _ _)
   |(with_reducible exact simplex_Cofacets.mono _ _ _)
   |(with_reducible exact simplex_Facets.mono _ _)
   |(with_reducible exact toruslaw07_awake.mono _)
   |(with_reducible exact torusref07_Cmp.mono _ _ _)
   |(with_reducible exact torusref07_Valid.mono _ _ _ _)
   |(with_reducible exact LeO.refl _)
   |(with_reducible exact LeO.none _)
   |(with_reducible refine LeO.ite ?_ ?_)
   |(with_reducible refine LeO.bind ?_ (fun _ => ?_))
   |exact ih0 _ _
   |exact ih1 _ _ _
   |exact ih2 _ _ _
   |exact ih3 _ _ _ _
   |exact ih4 _ _ _ _ _ _ _ _
   |exact ih5 _ _ _ _
   |exact ih6 _ _ _ _
   |exact ih7 _ _ _ _ _
   |exact simplex_Cofacets.mono _ _ _
   |exact simplex_Facets.mono _ _
   |exact toruslaw07_awake.mono _
   |exact torusref07_Cmp.mono _ _ _
   |exact torusref07_Valid.mono _ _ _ _
   |exact LeO.none _
   |refine LeO.ite ?_ ?_
   |refine LeO.bind ?_ (fun _ => ?_)
  ·intro y0 y1 y2
   unfold toruslaw07_SimplexFacets.l0
   repeat' first
   |(with_reducible exact ih0 _ _)
   |(with_reducible exact ih1 _ _ _)
   |(with_reducible exact ih2 _ _ _)
   |(with_reducible exact ih3 _ _ _ _)
   |(with_reducible exact ih4 _ _ _ _ _ _ _ _)
   |(with_reducible exact ih5 _ _ _ _)
   |(with_reducible exact ih6 _ _ _ _)
   |(with_reducible exact ih7 _ _ _ _ _)
   |(with_reducible exact simplex_Cofacets.mono _ _ _)
   |(with_reducible exact simplex_Facets.mono _ _)
   |(with_reducible exact toruslaw07_awake.mono _)
   |(with_reducible exact torusref07_Cmp.mono _ _ _)
   |(with_reducible exact torusref07_Valid.mono _ _ _ _)
   |(with_reducible exact LeO.refl _)
   |(with_reducible exact LeO.none _)
   |(with_reducible refine LeO.ite ?_ ?_)
   |(with_reducible refine LeO.bind ?_ (fun _ => ?_))
   |exact ih0 _ _
   |exact ih1 _ _ _
   |exact ih2 _ _ _
   |exact ih3 _ _ _ _
   |exact ih4 _ _ _ _ _ _ _ _
   |exact ih5 _ _ _ _
   |exact ih6 _ _ _ _
   |exact ih7 _ _ _ _ _
   |exact simplex_Cofacets.mono _ _ _
   |exact simplex_Facets.mono _ _
   |exact toruslaw07_awake.mono _
   |exact torusref07_Cmp.mono _ _ _
   |exact torusref07_Valid.mono _ _ _ _
   |exact LeO.none _
   |refine LeO.ite ?_ ?_
   |refine LeO.bind ?_ (fun _ => ?_)
  ·intro y0 y1 y2 y3
   unfold toruslaw07_SimplexFacets.j3
   repeat' first
   |(with_reducible exact ih0 _ _)
   |(with_reducible exact ih1 _ _ _)
   |(with_reducible exact ih2 _ _ _)
   |(with_reducible exact ih3 _ _ _ _)
   |(with_reducible exact ih4 _ _ _ _ _ _ _ _)
   |(with_reducible exact ih5 _ _ _ _)
   |(with_reducible exact ih6 _ _ _ _)
   |(with_reducible exact ih7 _ _ _ _ _)
   |(with_reducible exact simplex_Cofacets.mono _ _ _)
   |(with_reducible exact simplex_Facets.mono _ _)
   |(with_reducible exact toruslaw07_awake.mono _)
   |(with_reducible exact torusref07_Cmp.mono _ _ _)
   |(with_reducible exact torusref07_Valid.mono _ _ _ _)
   |(with_reducible exact LeO.refl _)
   |(with_reducible exact LeO.none _)
   |(with_reducible refine LeO.ite ?_ ?_)
   |(with_reducible refine LeO.bind ?_ (fun _ => ?_))
   |exact ih0 _ _
   |exact ih1 _ _ _
   |exact ih2 _ _ _
   |exact ih3 _ _ _ _
   |exact ih4 _ _ _ _ _ _ _ _
   |exact ih5 _ _ _ _
   |exact ih6 _ _ _ _
   |exact ih7 _ _ _ _ _
   |exact simplex_Cofacets.mono _ _ _
   |exact simplex_Facets.mono _ _
   |exact toruslaw07_awake.mono _
   |exact torusref07_Cmp.mono _ _ _
   |exact torusref07_Valid.mono _ _ _ _
   |exact LeO.none _
   |refine LeO.ite ?_ ?_
   |refine LeO.bind ?_ (fun _ => ?_)
  ·intro y0 y1 y2 y3 y4 y5 y6 y7
   unfold toruslaw07_SimplexFacets.l1
   repeat' first
   |(with_reducible exact ih0 _ _)
   |(with_reducible exact ih1 _ _ _)
   |(with_reducible exact ih2 _ _ _)
   |(with_reducible exact ih3 _ _ _ _)
   |(with_reducible exact ih4 _ _ _ _ _ _ _ _)
   |(with_reducible exact ih5 _ _ _ _)
   |(with_reducible exact ih6 _ _ _ _)
   |(with_reducible exact ih7 _ _ _ _ _)
   |(with_reducible exact simplex_Cofacets.mono _ _ _)
   |(with_reducible exact simplex_Facets.mono _ _)
   |(with_reducible exact toruslaw07_awake.mono _)
   |(with_reducible exact torusref07_Cmp.mono _ _ _)
   |(with_reducible exact torusref07_Valid.mono _ _ _ _)
   |(with_reducible exact LeO.refl _)
   |(with_reducible exact LeO.none _)
   |(with_reducible refine LeO.ite ?_ ?_)
   |(with_reducible refine LeO.bind ?_ (fun _ => ?_))
   |exact ih0 _ _
   |exact ih1 _ _ _
   |exact ih2 _ _ _
   |exact ih3 _ _ _ _
   |exact ih4 _ _ _ _ _ _ _ _
   |exact ih5 _ _ _ _
   |exact ih6 _ _ _ _
   |exact ih7 _ _ _ _ _
   |exact simplex_Cofacets.mono _ _ _
   |exact simplex_Facets.mono _ _
   |exact toruslaw07_awake.mono _
   |exact torusref07_Cmp.mono _ _ _
   |exact torusref07_Valid.mono _ _ _ _
   |exact LeO.none _
   |refine LeO.ite ?_ ?_
   |refine LeO.bind ?_ (fun _ => ?_)
  ·intro y0 y1 y2 y3
   unfold toruslaw07_SimplexFacets.j5
   repeat' first
   |(with_reducible exact ih0 _ _)
   |(with_reducible exact ih1 _ _ _)
   |(with_reducible exact ih2 _ _ _)
   |(with_reducible exact ih3 _ _ _ _)
   |(with_reducible exact ih4 _ _ _ _ _ _ _ _)
   |(with_reducible exact ih5 _ _ _ _)
   |(with_reducible exact ih6 _ _ _ _)
   |(with_reducible exact ih7 _ _ _ _ _)
   |(with_reducible exact simplex_Cofacets.mono _ _ _)
   |(with_reducible exact simplex_Facets.mono _ _)
   |(with_reducible exact toruslaw07_awake.mono _)
   |(with_reducible exact torusref07_Cmp.mono _ _ _)
   |(with_reducible exact torusref07_Valid.mono _ _ _ _)
   |(with_reducible exact LeO.refl _)
   |(with_reducible exact LeO.none _)
   |(with_reducible refine LeO.ite ?_ ?_)
   |(with_reducible refine LeO.bind ?_ (fun _ => ?_))
   |exact ih0 _ _
   |exact ih1 _ _ _
   |exact ih2 _ _ _
   |exact ih3 _ _ _ _
   |exact ih4 _ _ _ _ _ _ _ _
   |exact ih5 _ _ _ _
   |exact ih6 _ _ _ _
   |exact ih7 _ _ _ _ _
   |exact simplex_Cofacets.mono _ _ _
   |exact simplex_Facets.mono _ _
   |exact toruslaw07_awake.mono _
   |exact torusref07_Cmp.mono _ _ _
   |exact torusref07_Valid.mono _ _ _ _
   |exact LeO.none _
   |refine LeO.ite ?_ ?_
   |refine LeO.bind ?_ (fun _ => ?_)
  ·intro y0 y1 y2 y3
   unfold toruslaw07_SimplexFacets.l2
   repeat' first
   |(with_reducible exact ih0 _ _)
   |(with_reducible exact ih1 _ _ _)
   |(with_reducible exact ih2 _ _ _)
   |(with_reducible exact ih3 _ _ _ _)
   |(with_reducible exact ih4 _ _ _ _ _ _ _ _)
   |(with_reducible exact ih5 _ _ _ _)
   |(with_reducible exact ih6 _ _ _ _)
   |(with_reducible exact ih7 _ _ _ _ _)
   |(with_reducible exact simplex_Cofacets.mono _ _ _)
   |(with_reducible exact simplex_Facets.mono _ _)
   |(with_reducible exact toruslaw07_awake.mono _)
   |(with_reducible exact torusref07_Cmp.mono _ _ _)
   |(with_reducible exact torusref07_Valid.mono _ _ _ _)
   |(with_reducible exact LeO.refl _)
   |(with_reducible exact LeO.none _)
   |(with_reducible refine LeO.ite ?_ ?_)
   |(with_reducible refine LeO.bind ?_ (fun _ => ?_))
   |exact ih0 _ _
   |exact ih1 _ _ _
   |exact ih2 _ _ _
   |exact ih3 _ _ _ _
   |exact ih4 _ _ _ _ _ _ _ _
   |exact ih5 _ _ _ _
   |exact ih6 _ _ _ _
   |exact ih7 _ _ _ _ _
   |exact simplex_Cofacets.mono _ _ _
   |exact simplex_Facets.mono _ _
   |exact toruslaw07_awake.mono _
   |exact torusref07_Cmp.mono _ _ _
   |exact torusref07_Valid.mono _ _ _ _
   |exact LeO.none _
   |refine LeO.ite ?_ ?_
   |refine LeO.bind ?_ (fun _ => ?_)
  ·intro y0 y1 y2 y3 y4
   unfold toruslaw07_SimplexFacets.j7
   repeat' first
   |(with_reducible exact ih0 _ _)
   |(with_reducible exact ih1 _ _ _)
   |(with_reducible exact ih2 _ _ _)
   |(with_reducible exact ih3 _ _ _ _)
   |(with_reducible exact ih4 _ _ _ _ _ _ _ _)
   |(with_reducible exact ih5 _ _ _ _)
   |(with_reducible exact ih6 _ _ _ _)
   |(with_reducible exact ih7 _ _ _ _ _)
   |(with_reducible exact simplex_Cofacets.mono _ _ _)
   |(with_reducible exact simplex_Facets.mono _ _)
   |(with_reducible exact toruslaw07_awake.mono _)
   |(with_reducible exact torusref07_Cmp.mono _ _ _)
   |(with_reducible exact torusref07_Valid.mono _ _ _ _)
   |(with_reducible exact LeO.refl _)
   |(with_reducible exact LeO.none _)
   |(with_reducible refine LeO.ite ?_ ?_)
   |(with_reducible refine LeO.bind ?_ (fun _ => ?_))
   |exact ih0 _ _
   |exact ih1 _ _ _
   |exact ih2 _ _ _
   |exact ih3 _ _ _ _
   |exact ih4 _ _ _ _ _ _ _ _
   |exact ih5 _ _ _ _
   |exact ih6 _ _ _ _
   |exact ih7 _ _ _ _ _
   |exact simplex_Cofacets.mono _ _ _
   |exact simplex_Facets.mono _ _
   |exact toruslaw07_awake.mono _
   |exact torusref07_Cmp.mono _ _ _
   |exact torusref07_Valid.mono _ _ _ _
   |exact LeO.none _
   |refine LeO.ite ?_ ?_
   |refine LeO.bind ?_ (fun _ => ?_)
theorem toruslaw07_SimplexFacets.mono : ∀ a0 k, LeO (toruslaw07_SimplexFacets.f k a0) (toruslaw07_SimplexFacets.f (k + 1) a0) := by
 intro a0 k
 obtain ⟨ih0, ih1, ih2, ih3, ih4, ih5, ih6, ih7⟩ := toruslaw07_SimplexFacets.mono_l k
 unfold toruslaw07_SimplexFacets.f
 repeat' first
   |(with_reducible exact ih0 _ _)
   |(with_reducible exact ih1 _ _ _)
   |(with_reducible exact ih2 _ _ _)
   |(with_reducible exact ih3 _ _ _ _)
   |(with_reducible exact ih4 _ _ _ _ _ _ _ _)
   |(with_reducible exact ih5 _ _ _ _)
   |(with_reducible exact ih6 _ _ _ _)
   |(with_reducible exact ih7 _ _ _ _ _)
   |(with_reducible exact simplex_Cofacets.mono _ _ _)
   |(with_reducible exact simplex_Facets.mono _ _)
   |(with_reducible exact toruslaw07_awake.mono _)
   |(with_reducible exact torusref07_Cmp.mono _ _ _)
   |(with_reducible exact torusref07_Valid.mono _ _ _ _)
   |(with_reducible exact LeO.refl _)
   |(with_reducible exact LeO.none _)
   |(with_reducible refine LeO.ite ?_ ?_)
   |(with_reducible refine LeO.bind ?_ (fun _ => ?_))
   |exact ih0 _ _
   |exact ih1 _ _ _
   |exact ih2 _ _ _
   |exact ih3 _ _ _ _
   |exact ih4 _ _ _ _ _ _ _ _
   |exact ih5 _ _ _ _
   |exact ih6 _ _ _ _
   |exact ih7 _ _ _ _ _
   |exact simplex_Cofacets.mono _ _ _
   |exact simplex_Facets.mono _ _
   |exact toruslaw07_awake.mono _
   |exact torusref07_Cmp.mono _ _ _
   |exact torusref07_Valid.mono _ _ _ _
   |exact LeO.none _
   |refine LeO.ite ?_ ?_
   |refine LeO.bind ?_ (fun _ => ?_)
def toruslaw07_SimplexFacets.T24 : Bool × List (List Nat × List Nat) := (true, [([], []), ([0], [0]), ([1], [1]), ([2], [2]), ([3, 2], [2, 3]), ([2, 4], [2, 4]), ([5, 2], [5]), ([6], [6]), ([7, 6], [6, 7]), ([6], [6]), ([9, 6], [6, 9]), ([10, 6], [6, 10]), ([8, 11, 6], [6, 8, 11]), ([6, 12], [6, 12]), ([13, 6], [13]), ([14], [14]), ([15, 14], [14, 15]), ([14], [14]), ([17, 14], [14, 17]), ([18, 14], [14, 18]), ([16, 19, 14], [14, 16, 19]), ([14, 20], [14, 20]), ([21, 14], [21]), ([22], [22]), ([22], [22]), ([23, 24, 22], [22, 23, 24]), ([25, 22], [22, 25]), ([22], [22]), ([22], [22]), ([28, 22], [22, 28]), ([27, 29, 22], [22, 27, 29]), ([30, 22], [22, 30]), ([26, 31, 22, 22], [22, 26, 31]), ([32, 22], [22, 32]), ([22, 33], [22, 33])])
def toruslaw07_SimplexFacets.B24 : List Nat := [0, 1, 3, 7, 15, 31, 63, 127, 255, 127, 639, 1663, 4095, 8191, 16383, 32767, 65535, 32767, 163839, 425983, 1048575, 2097151, 4194303, 8388607, 8388607, 33554431, 67108863, 8388607, 8388607, 276824063, 947912703, 2021654527, 4294967295, 8589934591, 17179869183]
theorem toruslaw07_SimplexFacets.tab24 : rtab .any (opsOf Tryd.f11 24) = toruslaw07_SimplexFacets.T24 := by kernel_rfl
theorem toruslaw07_SimplexFacets.bits24 : waitsOk toruslaw07_SimplexFacets.T24.2 toruslaw07_SimplexFacets.B24 = true := by kernel_rfl
set_option maxHeartbeats 8000000 in
set_option maxRecDepth 100000 in
theorem toruslaw07_SimplexFacets.calls (k : Nat) (A0 : Option Addr) (c0 : Nat) (l0 : List Int) (r : Bool) (w : World) (hr0 : Kd.C (Kd.int .i64) w A0 l0.length l0) (hc0 : l0.length ≤ c0) (hg : Aside0 (Glob w)) (hrt : Aside0 (r = true)) (h : toruslaw07_SimplexFacets.f k l0 = some r) :
  Calls Tryd.prog 11 #[.slice A0 l0.length c0] w fun e w' => e = .returned (.bool r) ∧ Below w.heap.size w w' := by
 have HR0 := Aside0.mk hr0
 have HC0 := Aside0.mk hc0
 clear hr0 hc0
 have HB := Aside0.mk (Below.refl w.heap.size w)
 have H : (if (l0.length : Int) > 50 then (toruslaw07_SimplexFacets.j0 k l0 true) else ((toruslaw07_awake.f k).bind fun t740 => (toruslaw07_SimplexFacets.j0 k l0 (!t740)))) = some r := h
 clear h
 have HC2 := Aside0.mk H
 clear H
 go_enter Tryd.func11, Tryd.ntmps11
 go_upto_region 1 with (fail)
 go_cut [23] (fun v23 wc => ∃ (kq : Nat) (x23_1 : Bool), v23 = .bool x23_1 ∧ Aside0 (toruslaw07_SimplexFacets.j0 kq l0 x23_1 = some r) ∧ Aside0 (kq ≤ k) ∧ Aside0 (Below w.heap.size w wc))
 case first =>
  have H := HC2.out
  clear HC2
  by_cases c3 : (l0.length : Int) > 50
  ·rw [if_pos c3] at H
   have c3b0 : decide (50 < (l0.length : Int)) = true := decide_eq_true c3
   have c3b1 : decide (50 < l0.length) = true := decide_eq_true (by omega)
   clear c3
   (first | rw [c3b0] | (simp only [i64_w, i32_w]; rw [c3b0]) | skip)
   have H' := Aside0.mk H
   clear H
   go_wp2
   go_meet
   case rel => exact ⟨_, (true), sd_, H', ⟨by first | omega | exact Nat.le_refl _⟩, ⟨bw_⟩⟩
  ·rw [if_neg c3] at H
   have c3b0 : decide (50 < (l0.length : Int)) = false := decide_eq_false c3
   have c3b1 : decide (50 < l0.length) = false := decide_eq_false (by omega)
   clear c3
   (first | rw [c3b0] | (simp only [i64_w, i32_w]; rw [c3b0]) | skip)
   replace H := Option.bind_eq_some_iff.mp H
   obtain ⟨t740, A40, H⟩ := H
   replace H : (toruslaw07_SimplexFacets.j0 k l0 (!t740)) = some r := H
   have A4 := Aside0.mk A40
   clear A40
   have H' := Aside0.mk H
   clear H
   go_wp2_with (first | (go_at_call 12; (with_reducible refine (toruslaw07_awake.calls k  t740 _ ?side1 A4.out).mono ?_); (case side1 => first | exact hg | exact ⟨Glob.below hg.out bw_⟩); rintro e w5 ⟨rfl, hb⟩; have n0_ := Aside0.mk (below_step bw_ hb); clear HB; have HB := n0_; clear n0_; (try clear hb); (try clear hb2); (try clear hk); (try clear hi)))
   go_meet
   case rel => exact ⟨_, (!t740), sd_, H', ⟨by first | omega | exact Nat.le_refl _⟩, ⟨bw_⟩⟩
 case rest => as_aux_lemma =>
  clear HC2
  try clear c1
  try clear p2
  try clear c3
  try clear c3b0
  try clear c3b1
  obtain ⟨kq, x23_1, rfl, HA, HJ1, HB⟩ := hcut
  cases kq with
  |zero => exact absurd HA.out (by simp [toruslaw07_SimplexFacets.j0])
  |succ kj1 =>
   have H := HA.out
   clear HA
   simp only [toruslaw07_SimplexFacets.j0] at H
   by_cases c6 : x23_1 = true
   ·subst c6
    have H1 : ((toruslaw07_awake.f kj1).bind fun t741 => (some t741)) = some r := by rw [if_pos rfl] at H; exact H
    clear H
    have H := H1
    clear H1
    replace H := Option.bind_eq_some_iff.mp H
    obtain ⟨t741, A70, H⟩ := H
    replace H : (some t741) = some r := H
    have A7 := Aside0.mk A70
    clear A70
    first
    |with_reducible exact absurd ((Option.some.inj H).trans hrt.out) Bool.false_ne_true
    |skip
     obtain rfl := Option.some.inj H
     go_wp2_with (first | ((with_reducible refine gate_callee (f := 12) rfl ?_); refine goesL_ (some 24) rfl rfl Tryd.func12 (by kernel_rfl) rfl #[] rfl ag_ ?_; (with_reducible refine (toruslaw07_awake.calls kj1  t741 _ ?side1 A7.out).mono ?_); (case side1 => first | exact hg | exact ⟨Glob.below hg.out bw_⟩); rintro e w8 ⟨rfl, hb⟩; refine ⟨_, rfl, ?_⟩; have n0_ := Aside0.mk (below_step bw_ hb); clear HB; have HB := n0_; clear n0_; (try clear hb); (try clear hb2); (try clear hk); (try clear hi)))
     go_ret
     exact ⟨by first | rfl | (simp [errW_none, errW_some] <;> rfl) | (simp [*, errW_none, errW_some] <;> rfl), bw_⟩
   ·replace c6 := Bool.eq_false_iff.mpr c6
    subst c6
    have H1 : ((torusref07_Valid.f kj1 l0 5 64).bind fun t742 => ((simplex_Facets.f kj1 t742).bind fun bt745 => (if bt745.2 = 0 then (if (t742.length : Int) > 1 then (toruslaw07_SimplexFacets.j1 kj1 t742 bt745.1 ((bt745.1.length : Int) != (t742.length : Int))) else (toruslaw07_SimplexFacets.j1 kj1 t742 bt745.1 false)) else (toruslaw07_SimplexFacets.j1 kj1 t742 bt745.1 true)))) = some r := by rw [if_neg (show ¬ (false = true) by decide)] at H; exact H
    clear H
    have H := H1
    clear H1
    replace H := Option.bind_eq_some_iff.mp H
    obtain ⟨t742, A90, H⟩ := H
    replace H : ((simplex_Facets.f kj1 t742).bind fun bt745 => (if bt745.2 = 0 then (if (t742.length : Int) > 1 then (toruslaw07_SimplexFacets.j1 kj1 t742 bt745.1 ((bt745.1.length : Int) != (t742.length : Int))) else (toruslaw07_SimplexFacets.j1 kj1 t742 bt745.1 false)) else (toruslaw07_SimplexFacets.j1 kj1 t742 bt745.1 true))) = some r := H
    have A9 := Aside0.mk A90
    clear A90
    replace H := Option.bind_eq_some_iff.mp H
    obtain ⟨⟨t745, t746⟩, A100, H⟩ := H
    replace H : (if t746 = 0 then (if (t742.length : Int) > 1 then (toruslaw07_SimplexFacets.j1 kj1 t742 t745 ((t745.length : Int) != (t742.length : Int))) else (toruslaw07_SimplexFacets.j1 kj1 t742 t745 false)) else (toruslaw07_SimplexFacets.j1 kj1 t742 t745 true)) = some r := H
    have A10 := Aside0.mk A100
    clear A100
    have HC11 := Aside0.mk H
    clear H
    go_upto_region 5 with (first | ((with_reducible refine gate_callee (f := 21) rfl ?_); refine goesL_ (some 26) rfl rfl Tryd.func21 (by kernel_rfl) rfl #[.slice A0 l0.length c0, .int .i64 5, .int .i64 64] rfl ag_ ?_; (with_reducible refine (torusref07_Valid.calls kj1 _ _ l0 5 64 t742 _ ?side1 ?side2 A9.out).mono ?_); (case side1 => exact cs_ (Kd.C_below HR0.out HB.out)); (case side2 => exact HC0.out); rintro e w12 ⟨v743, rfl, ho0, hb⟩; refine ⟨_, rfl, ?_⟩; have n0_ := Aside0.mk (Kd.R_lower ho0 (below_size bw_)); have n1_ := Aside0.mk (below_step bw_ hb); clear HB; have HO744 := n0_; have HB := n1_; clear n0_ n1_; (try clear hb); (try clear hb2); (try clear hk); (try clear hi); (try clear ho0); obtain ⟨Ao13, co13, eo13⟩ := Kd.R_slice HO744.out; subst eo13) | ((with_reducible refine gate_callee (f := 33) rfl ?_); refine goesL_ (some 29) rfl rfl Tryd.func33 (by kernel_rfl) rfl #[.slice Ao13 t742.length co13] rfl ag_ ?_; (with_reducible refine (simplex_Facets.calls kj1 _ _ t742 t745 t746 _ ?side1 ?side2 A10.out).mono ?_); (case side1 => repeat (first | exact (Kd.R_reads' HO744.out).2.2 | (with_reducible refine Kd.C_alloc ?_ _) | (with_reducible refine Kd.C_drewN ?_ _) | (with_reducible refine Kd.C_drew ?_))); (case side2 => exact (Kd.R_reads' HO744.out).2.1); rintro e w14 ⟨v747, rfl, ho0, hb⟩; refine ⟨_, rfl, ?_⟩; have n0_ := Aside0.mk (Kd.R_below (rRa_ HO744.out) hb); have n1_ := Aside0.mk (Kd.S_lower (Kd.S_new' ho0 (Kd.R_lt (rRa_ HO744.out))) (below_size bw_)); have n2_ := Aside0.mk (below_step bw_ hb); clear HO744; clear HB; have HO744 := n0_; have HO748 := n1_; have HB := n2_; clear n0_ n1_ n2_; (try clear hb); (try clear hb2); (try clear hk); (try clear hi); (try clear ho0)))
    (try simp only [Act.put, List.setIfInBounds_toArray, List.set_cons_zero, List.set_cons_succ])
    go_cut [45] (fun v45 wc => ∃ (kq : Nat) (x45_10 : Bool), v45 = .bool x45_10 ∧ Aside0 (toruslaw07_SimplexFacets.j1 kq t742 t745 x45_10 = some r) ∧ Aside0 (kq ≤ kj1) ∧ Aside0 (Kd.R (Kd.int .i64) 3 wc w.heap.size (fun _ => True) (.slice Ao13 t742.length co13) t742) ∧ Aside0 (Kd.S (Kd.slice 3 (Kd.int .i64)) 28 wc w.heap.size (fun k_ => some k_ ≠ ((.slice Ao13 t742.length co13) : Value).ownBlock) v747 t745) ∧ Aside0 (Below w.heap.size w wc))
    case first =>
     have H := HC11.out
     clear HC11
     by_cases c15 : t746 = 0
     ·rw [if_pos c15] at H
      have c15b0 : (t746 == 0) = true := beq_iff_eq.mpr c15
      have c15b1 : (t746 != 0) = false := bne_eq_false_iff_eq.mpr c15
      clear c15
      (first | rw [c15b0] | (simp only [i64_w, i32_w]; rw [c15b0]) | skip)
      by_cases c16 : (t742.length : Int) > 1
      ·rw [if_pos c16] at H
       have c16b0 : decide (1 < (t742.length : Int)) = true := decide_eq_true c16
       have c16b1 : decide (1 < t742.length) = true := decide_eq_true (by omega)
       clear c16
       have H' := Aside0.mk H
       clear H
       obtain ⟨Ao17, co17, eo17⟩ := Kd.S_slice HO748.out
       subst eo17
       go_wp2
       go_meet
       case rel => exact ⟨_, (((t745.length : Int) != (t742.length : Int))), sd_, H', ⟨by have := HJ1.out; first | omega | exact Nat.le_refl _⟩, ⟨rRa_ HO744.out⟩, ⟨by (with_reducible repeat (first | apply Kd.S_alloc | apply Kd.S_drewN | apply Kd.S_drew)); exact Kd.S_mono HO748.out (fun _ hk => hk.2)⟩, ⟨bw_⟩⟩
      ·rw [if_neg c16] at H
       have c16b0 : decide (1 < (t742.length : Int)) = false := decide_eq_false c16
       have c16b1 : decide (1 < t742.length) = false := decide_eq_false (by omega)
       clear c16
       have H' := Aside0.mk H
       clear H
       go_wp2
       go_meet
       case rel => exact ⟨_, (false), sd_, H', ⟨by have := HJ1.out; first | omega | exact Nat.le_refl _⟩, ⟨rRa_ HO744.out⟩, ⟨by (with_reducible repeat (first | apply Kd.S_alloc | apply Kd.S_drewN | apply Kd.S_drew)); exact Kd.S_mono HO748.out (fun _ hk => hk.2)⟩, ⟨bw_⟩⟩
     ·rw [if_neg c15] at H
      have c15b0 : (t746 == 0) = false := beq_eq_false_iff_ne.mpr c15
      have c15b1 : (t746 != 0) = true := bne_iff_ne.mpr c15
      (first | rw [c15b0] | (simp only [i64_w, i32_w]; rw [c15b0]) | skip)
      have H' := Aside0.mk H
      clear H
      go_wp2
      go_meet
      case rel => exact ⟨_, (true), sd_, H', ⟨by have := HJ1.out; first | omega | exact Nat.le_refl _⟩, ⟨rRa_ HO744.out⟩, ⟨by (with_reducible repeat (first | apply Kd.S_alloc | apply Kd.S_drewN | apply Kd.S_drew)); exact Kd.S_mono HO748.out (fun _ hk => hk.2)⟩, ⟨bw_⟩⟩
    case rest => as_aux_lemma =>
     clear HC11
     try clear c1
     try clear c2
     try clear p2
     try clear c3
     try clear c3b0
     try clear c3b1
     try clear c6
     try clear c11
     try clear c12
     try clear c15
     try clear c15b0
     try clear c15b1
     try clear c16
     try clear c16b0
     try clear c16b1
     try clear p2
     obtain ⟨kq, x45_10, rfl, HA, HJ10, HO_3, HO_4, HB⟩ := hcut
     cases kq with
     |zero => exact absurd HA.out (by simp [toruslaw07_SimplexFacets.j1])
     |succ kj10 =>
      have H := HA.out
      clear HA
      simp only [toruslaw07_SimplexFacets.j1] at H
      by_cases c18 : x45_10 = true
      ·subst c18
       have H1 : (none) = some r := by rw [if_pos rfl] at H; exact H
       clear H
       have H := H1
       clear H1
       exact absurd H (by simp)
      ·replace c18 := Bool.eq_false_iff.mpr c18
       subst c18
       have H1 : (toruslaw07_SimplexFacets.l0 kj10 t742 t745 0) = some r := by rw [if_neg (show ¬ (false = true) by decide)] at H; exact H
       clear H
       have H := H1
       clear H1
       have H' := Aside0.mk H
       clear H
       go_wp2
       go_loopg [6] kj10 (fun kq v6 w' => ∃ (x6_3 : Int), v6 = .int .i64 x6_3 ∧ Aside0 (toruslaw07_SimplexFacets.l0 kq t742 t745 x6_3 = some r) ∧ Aside0 (kq ≤ kj10) ∧ Aside0 (Kd.R (Kd.int .i64) 3 w' w.heap.size (fun _ => True) (.slice Ao13 t742.length co13) t742) ∧ Aside0 (Kd.S (Kd.slice 3 (Kd.int .i64)) 28 w' w.heap.size (fun k_ => some k_ ≠ ((.slice Ao13 t742.length co13) : Value).ownBlock) v747 t745) ∧ Aside0 (Below w.heap.size w w'))
       case atStart => exact ⟨(0), sd_, H', ⟨Nat.le_refl _⟩, ⟨rRa_ HO_3.out⟩, ⟨rSa_ HO_4.out⟩, ⟨bw_⟩⟩
       case round =>
        clear H'
        try clear c1
        try clear c2
        try clear p2
        try clear c3
        try clear c3b0
        try clear c3b1
        try clear c6
        try clear c11
        try clear c12
        try clear c15
        try clear c15b0
        try clear c15b1
        try clear c16
        try clear c16b0
        try clear c16b1
        try clear c18
        try clear p2
        obtain ⟨x6_3, rfl, HA, HK3, HO_3, HO_4, HB⟩ := hrel
        cases gk with
        |zero => exact absurd HA.out (by simp [toruslaw07_SimplexFacets.l0])
        |succ k3 =>
         have H := HA.out
         clear HA
         simp only [toruslaw07_SimplexFacets.l0] at H
         have HC19 := Aside0.mk H
         clear H
         go_upto_region 8 with (fail)
         go_cut [54] (fun v54 wc => ∃ (kq : Nat) (x54_18 : Bool), v54 = .bool x54_18 ∧ Aside0 (toruslaw07_SimplexFacets.j3 kq t742 t745 x6_3 x54_18 = some r) ∧ Aside0 (kq ≤ k3) ∧ Aside0 (Kd.R (Kd.int .i64) 3 wc w.heap.size (fun _ => True) (.slice Ao13 t742.length co13) t742) ∧ Aside0 (Kd.S (Kd.slice 3 (Kd.int .i64)) 28 wc w.heap.size (fun k_ => some k_ ≠ ((.slice Ao13 t742.length co13) : Value).ownBlock) v747 t745) ∧ Aside0 (Below w.heap.size w wc))
         case first =>
          have H := HC19.out
          clear HC19
          by_cases c20 : (t742.length : Int) > 1
          ·rw [if_pos c20] at H
           have c20b0 : decide (1 < (t742.length : Int)) = true := decide_eq_true c20
           have c20b1 : decide (1 < t742.length) = true := decide_eq_true (by omega)
           clear c20
           (first | rw [c20b0] | (simp only [i64_w, i32_w]; rw [c20b0]) | skip)
           have H' := Aside0.mk H
           clear H
           go_wp2
           go_meet
           case rel => exact ⟨_, (decide (x6_3 < (t742.length : Int))), sd_, H', ⟨by have := HJ1.out; have := HJ10.out; have := HK3.out; first | omega | exact Nat.le_refl _⟩, ⟨rRa_ HO_3.out⟩, ⟨rSa_ HO_4.out⟩, ⟨bw_⟩⟩
          ·rw [if_neg c20] at H
           have c20b0 : decide (1 < (t742.length : Int)) = false := decide_eq_false c20
           have c20b1 : decide (1 < t742.length) = false := decide_eq_false (by omega)
           clear c20
           (first | rw [c20b0] | (simp only [i64_w, i32_w]; rw [c20b0]) | skip)
           have H' := Aside0.mk H
           clear H
           go_wp2
           go_meet
           case rel => exact ⟨_, (false), sd_, H', ⟨by have := HJ1.out; have := HJ10.out; have := HK3.out; first | omega | exact Nat.le_refl _⟩, ⟨rRa_ HO_3.out⟩, ⟨rSa_ HO_4.out⟩, ⟨bw_⟩⟩
         case rest => as_aux_lemma =>
          clear HC19
          try clear c1
          try clear c2
          try clear p2
          try clear c3
          try clear c3b0
          try clear c3b1
          try clear c6
          try clear c11
          try clear c12
          try clear c15
          try clear c15b0
          try clear c15b1
          try clear c16
          try clear c16b0
          try clear c16b1
          try clear c18
          try clear c20
          try clear c20b0
          try clear c20b1
          try clear p2
          obtain ⟨kq, x54_18, rfl, HA, HJ18, HO_3, HO_4, HB⟩ := hcut
          cases kq with
          |zero => exact absurd HA.out (by simp [toruslaw07_SimplexFacets.j3])
          |succ kj18 =>
           have H := HA.out
           clear HA
           simp only [toruslaw07_SimplexFacets.j3] at H
           by_cases c21 : x54_18 = true
           ·subst c21
            have H1 : (if 0 ≤ x6_3 then (if x6_3 < (t745.length : Int) then ((simplex_Cofacets.f kj18 (rd_L1 t745 x6_3) 64).bind fun bt750 => (toruslaw07_SimplexFacets.l1 kj18 t742 t745 x6_3 bt750.2 false bt750.1 (bt750.1.length : Int) 0)) else (none)) else (none)) = some r := by rw [if_pos rfl] at H; exact H
            clear H
            have H := H1
            clear H1
            by_cases c22 : 0 ≤ x6_3
            ·rw [if_pos c22] at H
             have c22b0 : decide (0 ≤ x6_3) = true := decide_eq_true c22
             clear c22
             by_cases c23 : x6_3 < (t745.length : Int)
             ·rw [if_pos c23] at H
              have c23b0 : decide (x6_3 < (t745.length : Int)) = true := decide_eq_true c23
              clear c23
              replace H := Option.bind_eq_some_iff.mp H
              obtain ⟨⟨t750, t751⟩, A240, H⟩ := H
              replace H : (toruslaw07_SimplexFacets.l1 kj18 t742 t745 x6_3 t751 false t750 (t750.length : Int) 0) = some r := H
              have A24 := Aside0.mk A240
              clear A240
              have H' := Aside0.mk H
              clear H
              obtain ⟨Ao25, co25, eo25⟩ := Kd.S_slice HO_4.out
              subst eo25
              have p749 : 0 ≤ (x6_3 : Int) := of_decide_eq_true as_
              have q749 : x6_3 < (t745.length : Int) := of_decide_eq_true as_
              obtain ⟨ad749, A749_0, c749_0, e749, hx749_0, hl749_0, hi749_0⟩ := at_L1 (Kd.S_reads' HO_4.out).2.2 x6_3 p749 q749
              cases e749
              obtain ⟨ce749, hce749, hMe749, hcc749⟩ := Kd.S_get HO_4.out [] x6_3 p749 (by first | exact q749 | exact of_decide_eq_true as_ | (have e_ := (Kd.S_reads' HO_4.out).1; omega))
              obtain ⟨ve749_0, rfl, ge749_0⟩ := hMe749
              have hv749_0 := hcc749 0 _ rfl
              rw [Nat.add_zero, show ((Kd.slice 3 (Kd.int .i64))).sz = 1 from rfl, Nat.mul_one] at hv749_0
              replace hv749_0 := Option.some.inj (hv749_0.symm.trans hx749_0)
              rw [hv749_0] at ge749_0
              have HL749_0 := Aside0.mk (show Kd.R (Kd.int .i64) 3 _ _ _ _ (rd_L1 t745 x6_3) from ge749_0)
              clear hv749_0 ge749_0
              clear hcc749 hce749
              have HR749_0 := Aside0.mk hi749_0
              have HC749_0 := Aside0.mk hl749_0
              clear hi749_0 hl749_0
              replace p749 := eq_true p749
              replace q749 := eq_true q749
              go_wp2_with (first | ((with_reducible refine gate_callee (f := 35) rfl ?_); refine goesL_ (some 62) rfl rfl Tryd.func35 (by kernel_rfl) rfl #[.slice A749_0 (rd_L1 t745 x6_3).length c749_0, .int .i64 64] rfl ag_ ?_; (with_reducible refine (simplex_Cofacets.calls kj18 _ _ (rd_L1 t745 x6_3) 64 t750 t751 _ ?side1 ?side2 A24.out).mono ?_); (case side1 => repeat (first | exact (by repeat (first | (with_reducible exact HR749_0.out) | (with_reducible refine Kd.C_alloc ?_ _) | (with_reducible refine Kd.C_drewN ?_ _) | (with_reducible refine Kd.C_drew ?_) | exact HR749_0.out)) | (with_reducible refine Kd.C_alloc ?_ _) | (with_reducible refine Kd.C_drewN ?_ _) | (with_reducible refine Kd.C_drew ?_))); (case side2 => exact HC749_0.out); rintro e w26 ⟨v752, rfl, ho0, hb⟩; refine ⟨_, rfl, ?_⟩; have n0_ := Aside0.mk (Kd.R_below (rRa_ HO_3.out) hb); have n1_ := Aside0.mk (Kd.S_elder' (rSa_ HO_4.out) (Kd.S_base ho0) hb); have n2_ := Aside0.mk (Kd.R_below (rRa_ HL749_0.out) hb); have n3_ := Aside0.mk (Kd.S_lower (Kd.S_new' (Kd.S_new' (Kd.S_new' ho0 (Kd.R_lt (rRa_ HO_3.out))) (Kd.S_lt (rSa_ HO_4.out))) (Kd.R_lt (rRa_ HL749_0.out))) (below_size bw_)); have n4_ := Aside0.mk (Kd.C_below (by repeat (first | (with_reducible exact HR749_0.out) | (with_reducible refine Kd.C_alloc ?_ _) | (with_reducible refine Kd.C_drewN ?_ _) | (with_reducible refine Kd.C_drew ?_) | exact HR749_0.out)) hb); have n5_ := Aside0.mk (below_step bw_ hb); clear HO_3; clear HO_4; clear HL749_0; clear HR749_0; clear HB; have HO_3 := n0_; have HO_4 := n1_; have HL749_0 := n2_; have HO753 := n3_; have HR749_0 := n4_; have HB := n5_; clear n0_ n1_ n2_ n3_ n4_ n5_; (try clear hb); (try clear hb2); (try clear hk); (try clear hi); (try clear ho0); obtain ⟨Ao27, co27, eo27⟩ := Kd.S_slice HO753.out; subst eo27))
              go_loopg [9, 67] kj18 (fun kq v9 v67 w' => ∃ (x9_5 : Bool) (x67_5 : Int), v9 = .bool x9_5 ∧ v67 = .int .i64 x67_5 ∧ Aside0 (toruslaw07_SimplexFacets.l1 kq t742 t745 x6_3 t751 x9_5 t750 (t750.length : Int) x67_5 = some r) ∧ Aside0 (kq ≤ kj18) ∧ Aside0 (Kd.R (Kd.int .i64) 3 w' w.heap.size (fun _ => True) (.slice Ao13 t742.length co13) t742) ∧ Aside0 (Kd.S (Kd.slice 3 (Kd.int .i64)) 28 w' w.heap.size (fun k_ => some k_ ≠ ((.slice Ao13 t742.length co13) : Value).ownBlock ∧ some k_ ≠ ((.slice Ao27 t750.length co27) : Value).ownBlock) (.slice (some ad749) t745.length co25) t745) ∧ Aside0 (Kd.S (Kd.slice 3 (Kd.int .i64)) 28 w' w.heap.size (fun k_ => some k_ ≠ ((.slice Ao13 t742.length co13) : Value).ownBlock ∧ some k_ ≠ ((.slice (some ad749) t745.length co25) : Value).ownBlock) (.slice Ao27 t750.length co27) t750) ∧ Aside0 (Kd.C (Kd.int .i64) w' A749_0 (rd_L1 t745 x6_3).length (rd_L1 t745 x6_3)) ∧ Aside0 (Below w.heap.size w w'))
              case atStart => exact ⟨(false), (0), sd_, sd_, H', ⟨Nat.le_refl _⟩, ⟨rRa_ HO_3.out⟩, ⟨rSa_ HO_4.out⟩, ⟨by (with_reducible repeat (first | apply Kd.S_alloc | apply Kd.S_drewN | apply Kd.S_drew)); exact Kd.S_mono HO753.out (fun _ hk => ⟨hk.1.1.2, hk.1.2⟩)⟩, ⟨by repeat (first | (with_reducible exact HR749_0.out) | (with_reducible refine Kd.C_alloc ?_ _) | (with_reducible refine Kd.C_drewN ?_ _) | (with_reducible refine Kd.C_drew ?_) | exact HR749_0.out)⟩, ⟨bw_⟩⟩
              case round =>
               clear H'
               try clear c1
               try clear c2
               try clear p2
               try clear c3
               try clear c3b0
               try clear c3b1
               try clear c6
               try clear c7
               try clear p7
               try clear q7
               try clear hx7
               try clear c11
               try clear c12
               try clear c15
               try clear c15b0
               try clear c15b1
               try clear c16
               try clear c16b0
               try clear c16b1
               try clear c18
               try clear c20
               try clear c20b0
               try clear c20b1
               try clear c21
               try clear c22
               try clear c22b0
               try clear c23
               try clear c23b0
               try clear hx749_0
               try clear p2
               try clear p749
               try clear q749
               obtain ⟨x9_5, x67_5, rfl, rfl, HA, HK5, HO_3, HO_4, HO_65, HR749_0, HB⟩ := hrel
               cases gk with
               |zero => exact absurd HA.out (by simp [toruslaw07_SimplexFacets.l1])
               |succ k5 =>
                have H := HA.out
                clear HA
                simp only [toruslaw07_SimplexFacets.l1] at H
                by_cases c28 : x67_5 < (t750.length : Int)
                ·rw [if_pos c28] at H
                 have c28b0 : decide (x67_5 < (t750.length : Int)) = true := decide_eq_true c28
                 clear c28
                 by_cases c29 : 0 ≤ x67_5
                 ·rw [if_pos c29] at H
                  have c29b0 : decide (0 ≤ x67_5) = true := decide_eq_true c29
                  clear c29
                  by_cases c30 : x67_5 < (t750.length : Int)
                  ·rw [if_pos c30] at H
                   have c30b0 : decide (x67_5 < (t750.length : Int)) = true := decide_eq_true c30
                   clear c30
                   by_cases c31 : x9_5 = true
                   ·subst c31
                    have H1 : (toruslaw07_SimplexFacets.l1 k5 t742 t745 x6_3 t751 true t750 (t750.length : Int) (wrap64 (x67_5 + 1))) = some r := by rw [if_pos rfl] at H; exact H
                    clear H
                    have H := H1
                    clear H1
                    have H' := Aside0.mk H
                    clear H
                    have p754 : 0 ≤ (x67_5 : Int) := of_decide_eq_true as_
                    have q754 : x67_5 < (t750.length : Int) := of_decide_eq_true as_
                    obtain ⟨ad754, A754_0, c754_0, e754, hx754_0, hl754_0, hi754_0⟩ := at_L1 (Kd.S_reads' HO_65.out).2.2 x67_5 p754 q754
                    cases e754
                    obtain ⟨ce754, hce754, hMe754, hcc754⟩ := Kd.S_get HO_65.out [] x67_5 p754 (by first | exact q754 | exact of_decide_eq_true as_ | (have e_ := (Kd.S_reads' HO_65.out).1; omega))
                    obtain ⟨ve754_0, rfl, ge754_0⟩ := hMe754
                    have hv754_0 := hcc754 0 _ rfl
                    rw [Nat.add_zero, show ((Kd.slice 3 (Kd.int .i64))).sz = 1 from rfl, Nat.mul_one] at hv754_0
                    replace hv754_0 := Option.some.inj (hv754_0.symm.trans hx754_0)
                    rw [hv754_0] at ge754_0
                    have HL754_0 := Aside0.mk (show Kd.R (Kd.int .i64) 3 _ _ _ _ (rd_L1 t750 x67_5) from ge754_0)
                    clear hv754_0 ge754_0
                    clear hcc754 hce754
                    have HR754_0 := Aside0.mk hi754_0
                    have HC754_0 := Aside0.mk hl754_0
                    clear hi754_0 hl754_0
                    replace p754 := eq_true p754
                    replace q754 := eq_true q754
                    go_wp2
                    go_roundg k5
                    case measure => have := HJ1.out; have := HJ10.out; have := HK3.out; have := HJ18.out; have := HK5.out; omega
                    case rel => exact ⟨(true), (wrap64 (x67_5 + 1)), sd_, sd_, H', ⟨by have := HJ1.out; have := HJ10.out; have := HK3.out; have := HJ18.out; have := HK5.out; omega⟩, ⟨rRa_ HO_3.out⟩, ⟨rSa_ HO_4.out⟩, ⟨rSa_ HO_65.out⟩, ⟨by repeat (first | (with_reducible exact HR749_0.out) | (with_reducible refine Kd.C_alloc ?_ _) | (with_reducible refine Kd.C_drewN ?_ _) | (with_reducible refine Kd.C_drew ?_) | exact HR749_0.out)⟩, ⟨bw_⟩⟩
                   ·replace c31 := Bool.eq_false_iff.mpr c31
                    subst c31
                    have H1 : ((torusref07_Cmp.f k5 (rd_L1 t750 x67_5) t742).bind fun t755 => (toruslaw07_SimplexFacets.l1 k5 t742 t745 x6_3 t751 (t755 == 0) t750 (t750.length : Int) (wrap64 (x67_5 + 1)))) = some r := by rw [if_neg (show ¬ (false = true) by decide)] at H; exact H
                    clear H
                    have H := H1
                    clear H1
                    replace H := Option.bind_eq_some_iff.mp H
                    obtain ⟨t755, A320, H⟩ := H
                    replace H : (toruslaw07_SimplexFacets.l1 k5 t742 t745 x6_3 t751 (t755 == 0) t750 (t750.length : Int) (wrap64 (x67_5 + 1))) = some r := H
                    have A32 := Aside0.mk A320
                    clear A320
                    have H' := Aside0.mk H
                    clear H
                    have p754 : 0 ≤ (x67_5 : Int) := of_decide_eq_true as_
                    have q754 : x67_5 < (t750.length : Int) := of_decide_eq_true as_
                    obtain ⟨ad754, A754_0, c754_0, e754, hx754_0, hl754_0, hi754_0⟩ := at_L1 (Kd.S_reads' HO_65.out).2.2 x67_5 p754 q754
                    cases e754
                    obtain ⟨ce754, hce754, hMe754, hcc754⟩ := Kd.S_get HO_65.out [] x67_5 p754 (by first | exact q754 | exact of_decide_eq_true as_ | (have e_ := (Kd.S_reads' HO_65.out).1; omega))
                    obtain ⟨ve754_0, rfl, ge754_0⟩ := hMe754
                    have hv754_0 := hcc754 0 _ rfl
                    rw [Nat.add_zero, show ((Kd.slice 3 (Kd.int .i64))).sz = 1 from rfl, Nat.mul_one] at hv754_0
                    replace hv754_0 := Option.some.inj (hv754_0.symm.trans hx754_0)
                    rw [hv754_0] at ge754_0
                    have HL754_0 := Aside0.mk (show Kd.R (Kd.int .i64) 3 _ _ _ _ (rd_L1 t750 x67_5) from ge754_0)
                    clear hv754_0 ge754_0
                    clear hcc754 hce754
                    have HR754_0 := Aside0.mk hi754_0
                    have HC754_0 := Aside0.mk hl754_0
                    clear hi754_0 hl754_0
                    replace p754 := eq_true p754
                    replace q754 := eq_true q754
                    go_wp2_with (first | (go_at_call 17; (with_reducible refine (torusref07_Cmp.calls k5 _ _ (rd_L1 t750 x67_5) _ _ t742 t755 _ ?side1 ?side2 ?side3 ?side4 A32.out).mono ?_); (case side1 => repeat (first | exact (by repeat (first | (with_reducible exact HR754_0.out) | (with_reducible refine Kd.C_alloc ?_ _) | (with_reducible refine Kd.C_drewN ?_ _) | (with_reducible refine Kd.C_drew ?_) | exact HR754_0.out)) | (with_reducible refine Kd.C_alloc ?_ _) | (with_reducible refine Kd.C_drewN ?_ _) | (with_reducible refine Kd.C_drew ?_))); (case side2 => exact HC754_0.out); (case side3 => repeat (first | exact (Kd.R_reads' HO_3.out).2.2 | (with_reducible refine Kd.C_alloc ?_ _) | (with_reducible refine Kd.C_drewN ?_ _) | (with_reducible refine Kd.C_drew ?_))); (case side4 => exact (Kd.R_reads' HO_3.out).2.1); rintro e w' ⟨rfl, ⟨nd, rfl⟩⟩))
                    go_roundg k5
                    case measure => have := HJ1.out; have := HJ10.out; have := HK3.out; have := HJ18.out; have := HK5.out; omega
                    case rel => exact ⟨((t755 == 0)), (wrap64 (x67_5 + 1)), sd_, sd_, H', ⟨by have := HJ1.out; have := HJ10.out; have := HK3.out; have := HJ18.out; have := HK5.out; omega⟩, ⟨rRa_ HO_3.out⟩, ⟨rSa_ HO_4.out⟩, ⟨rSa_ HO_65.out⟩, ⟨by repeat (first | (with_reducible exact HR749_0.out) | (with_reducible refine Kd.C_alloc ?_ _) | (with_reducible refine Kd.C_drewN ?_ _) | (with_reducible refine Kd.C_drew ?_) | exact HR749_0.out)⟩, ⟨bw_⟩⟩
                  ·rw [if_neg c30] at H
                   exact absurd H (by simp)
                 ·rw [if_neg c29] at H
                  exact absurd H (by simp)
                ·rw [if_neg c28] at H
                 have c28b0 : decide (x67_5 < (t750.length : Int)) = false := decide_eq_false c28
                 clear c28
                 have HC33 := Aside0.mk H
                 clear H
                 go_upto_region 17 with (fail)
                 go_cut [84] (fun v84 wc => ∃ (kq : Nat) (x84_32 : Bool), v84 = .bool x84_32 ∧ Aside0 (toruslaw07_SimplexFacets.j5 kq t742 t745 x6_3 x84_32 = some r) ∧ Aside0 (kq ≤ k5) ∧ Aside0 (Kd.R (Kd.int .i64) 3 wc w.heap.size (fun _ => True) (.slice Ao13 t742.length co13) t742) ∧ Aside0 (Kd.S (Kd.slice 3 (Kd.int .i64)) 28 wc w.heap.size (fun k_ => some k_ ≠ ((.slice Ao13 t742.length co13) : Value).ownBlock) (.slice (some ad749) t745.length co25) t745) ∧ Aside0 (Kd.C (Kd.int .i64) wc A749_0 (rd_L1 t745 x6_3).length (rd_L1 t745 x6_3)) ∧ Aside0 (Below w.heap.size w wc))
                 case first =>
                  have H := HC33.out
                  clear HC33
                  by_cases c34 : t751 = 0
                  ·rw [if_pos c34] at H
                   have c34b0 : (t751 == 0) = true := beq_iff_eq.mpr c34
                   have c34b1 : (t751 != 0) = false := bne_eq_false_iff_eq.mpr c34
                   clear c34
                   (first | rw [c34b0] | (simp only [i64_w, i32_w]; rw [c34b0]) | skip)
                   have H' := Aside0.mk H
                   clear H
                   go_wp2
                   go_meet
                   case rel => exact ⟨_, (!x9_5), sd_, H', ⟨by have := HJ1.out; have := HJ10.out; have := HK3.out; have := HJ18.out; have := HK5.out; first | omega | exact Nat.le_refl _⟩, ⟨rRa_ HO_3.out⟩, ⟨by (with_reducible repeat (first | apply Kd.S_alloc | apply Kd.S_drewN | apply Kd.S_drew)); exact Kd.S_mono HO_4.out (fun _ hk => hk.1)⟩, ⟨by repeat (first | (with_reducible exact HR749_0.out) | (with_reducible refine Kd.C_alloc ?_ _) | (with_reducible refine Kd.C_drewN ?_ _) | (with_reducible refine Kd.C_drew ?_) | exact HR749_0.out)⟩, ⟨bw_⟩⟩
                  ·rw [if_neg c34] at H
                   have c34b0 : (t751 == 0) = false := beq_eq_false_iff_ne.mpr c34
                   have c34b1 : (t751 != 0) = true := bne_iff_ne.mpr c34
                   (first | rw [c34b0] | (simp only [i64_w, i32_w]; rw [c34b0]) | skip)
                   have H' := Aside0.mk H
                   clear H
                   go_wp2
                   go_meet
                   case rel => exact ⟨_, (true), sd_, H', ⟨by have := HJ1.out; have := HJ10.out; have := HK3.out; have := HJ18.out; have := HK5.out; first | omega | exact Nat.le_refl _⟩, ⟨rRa_ HO_3.out⟩, ⟨by (with_reducible repeat (first | apply Kd.S_alloc | apply Kd.S_drewN | apply Kd.S_drew)); exact Kd.S_mono HO_4.out (fun _ hk => hk.1)⟩, ⟨by repeat (first | (with_reducible exact HR749_0.out) | (with_reducible refine Kd.C_alloc ?_ _) | (with_reducible refine Kd.C_drewN ?_ _) | (with_reducible refine Kd.C_drew ?_) | exact HR749_0.out)⟩, ⟨bw_⟩⟩
                 case rest => as_aux_lemma =>
                  clear HC33
                  try clear c1
                  try clear c2
                  try clear p2
                  try clear c3
                  try clear c3b0
                  try clear c3b1
                  try clear c6
                  try clear p6
                  try clear c7
                  try clear p7
                  try clear q7
                  try clear hx7
                  try clear c11
                  try clear c12
                  try clear c15
                  try clear c15b0
                  try clear c15b1
                  try clear c16
                  try clear c16b0
                  try clear c16b1
                  try clear c18
                  try clear c20
                  try clear c20b0
                  try clear c20b1
                  try clear c21
                  try clear c22
                  try clear c22b0
                  try clear c23
                  try clear c23b0
                  try clear c28
                  try clear c28b0
                  try clear c29
                  try clear c29b0
                  try clear c30
                  try clear c30b0
                  try clear c31
                  try clear c33
                  try clear c34
                  try clear c34b0
                  try clear c34b1
                  try clear hx749_0
                  try clear hx754_0
                  try clear p2
                  try clear p7
                  try clear p749
                  try clear p754
                  try clear q7
                  try clear q749
                  try clear q754
                  obtain ⟨kq, x84_32, rfl, HA, HJ32, HO_3, HO_4, HR749_0, HB⟩ := hcut
                  cases kq with
                  |zero => exact absurd HA.out (by simp [toruslaw07_SimplexFacets.j5])
                  |succ kj32 =>
                   have H := HA.out
                   clear HA
                   simp only [toruslaw07_SimplexFacets.j5] at H
                   by_cases c35 : x84_32 = true
                   ·subst c35
                    have H1 : (none) = some r := by rw [if_pos rfl] at H; exact H
                    clear H
                    have H := H1
                    clear H1
                    exact absurd H (by simp)
                   ·replace c35 := Bool.eq_false_iff.mpr c35
                    subst c35
                    have H1 : (toruslaw07_SimplexFacets.l2 kj32 t742 t745 x6_3 0) = some r := by rw [if_neg (show ¬ (false = true) by decide)] at H; exact H
                    clear H
                    have H := H1
                    clear H1
                    have H' := Aside0.mk H
                    clear H
                    go_wp2
                    go_loopg [12] kj32 (fun kq v12 w' => ∃ (x12_7 : Int), v12 = .int .i64 x12_7 ∧ Aside0 (toruslaw07_SimplexFacets.l2 kq t742 t745 x6_3 x12_7 = some r) ∧ Aside0 (kq ≤ kj32) ∧ Aside0 (Kd.R (Kd.int .i64) 3 w' w.heap.size (fun _ => True) (.slice Ao13 t742.length co13) t742) ∧ Aside0 (Kd.S (Kd.slice 3 (Kd.int .i64)) 28 w' w.heap.size (fun k_ => some k_ ≠ ((.slice Ao13 t742.length co13) : Value).ownBlock) (.slice (some ad749) t745.length co25) t745) ∧ Aside0 (Kd.C (Kd.int .i64) w' A749_0 (rd_L1 t745 x6_3).length (rd_L1 t745 x6_3)) ∧ Aside0 (Below w.heap.size w w'))
                    case atStart => exact ⟨(0), sd_, H', ⟨Nat.le_refl _⟩, ⟨rRa_ HO_3.out⟩, ⟨rSa_ HO_4.out⟩, ⟨by repeat (first | (with_reducible exact HR749_0.out) | (with_reducible refine Kd.C_alloc ?_ _) | (with_reducible refine Kd.C_drewN ?_ _) | (with_reducible refine Kd.C_drew ?_) | exact HR749_0.out)⟩, ⟨bw_⟩⟩
                    case round =>
                     clear H'
                     try clear c1
                     try clear c2
                     try clear p2
                     try clear c3
                     try clear c3b0
                     try clear c3b1
                     try clear c6
                     try clear p6
                     try clear c7
                     try clear p7
                     try clear q7
                     try clear hx7
                     try clear c11
                     try clear c12
                     try clear c15
                     try clear c15b0
                     try clear c15b1
                     try clear c16
                     try clear c16b0
                     try clear c16b1
                     try clear c18
                     try clear c20
                     try clear c20b0
                     try clear c20b1
                     try clear c21
                     try clear c22
                     try clear c22b0
                     try clear c23
                     try clear c23b0
                     try clear c28
                     try clear c28b0
                     try clear c29
                     try clear c29b0
                     try clear c30
                     try clear c30b0
                     try clear c31
                     try clear c33
                     try clear c34
                     try clear c34b0
                     try clear c34b1
                     try clear c35
                     try clear hx749_0
                     try clear hx754_0
                     try clear p2
                     try clear p6
                     try clear p7
                     try clear p749
                     try clear p754
                     try clear q7
                     try clear q749
                     try clear q754
                     obtain ⟨x12_7, rfl, HA, HK7, HO_3, HO_4, HR749_0, HB⟩ := hrel
                     cases gk with
                     |zero => exact absurd HA.out (by simp [toruslaw07_SimplexFacets.l2])
                     |succ k7 =>
                      have H := HA.out
                      clear HA
                      simp only [toruslaw07_SimplexFacets.l2] at H
                      have HC36 := Aside0.mk H
                      clear H
                      go_upto_region 20 with (fail)
                      go_cut [92] (fun v92 wc => ∃ (kq : Nat) (x92_35 : Bool), v92 = .bool x92_35 ∧ Aside0 (toruslaw07_SimplexFacets.j7 kq t742 t745 x6_3 x12_7 x92_35 = some r) ∧ Aside0 (kq ≤ k7) ∧ Aside0 (Kd.R (Kd.int .i64) 3 wc w.heap.size (fun _ => True) (.slice Ao13 t742.length co13) t742) ∧ Aside0 (Kd.S (Kd.slice 3 (Kd.int .i64)) 28 wc w.heap.size (fun k_ => some k_ ≠ ((.slice Ao13 t742.length co13) : Value).ownBlock) (.slice (some ad749) t745.length co25) t745) ∧ Aside0 (Kd.C (Kd.int .i64) wc A749_0 (rd_L1 t745 x6_3).length (rd_L1 t745 x6_3)) ∧ Aside0 (Below w.heap.size w wc))
                      case first =>
                       have H := HC36.out
                       clear HC36
                       by_cases c37 : (t742.length : Int) > 2
                       ·rw [if_pos c37] at H
                        have c37b0 : decide (2 < (t742.length : Int)) = true := decide_eq_true c37
                        have c37b1 : decide (2 < t742.length) = true := decide_eq_true (by omega)
                        clear c37
                        (first | rw [c37b0] | (simp only [i64_w, i32_w]; rw [c37b0]) | skip)
                        have H' := Aside0.mk H
                        clear H
                        go_wp2
                        go_meet
                        case rel => exact ⟨_, (decide (x12_7 < x6_3)), sd_, H', ⟨by have := HJ1.out; have := HJ10.out; have := HK3.out; have := HJ18.out; have := HK5.out; have := HJ32.out; have := HK7.out; first | omega | exact Nat.le_refl _⟩, ⟨rRa_ HO_3.out⟩, ⟨rSa_ HO_4.out⟩, ⟨by repeat (first | (with_reducible exact HR749_0.out) | (with_reducible refine Kd.C_alloc ?_ _) | (with_reducible refine Kd.C_drewN ?_ _) | (with_reducible refine Kd.C_drew ?_) | exact HR749_0.out)⟩, ⟨bw_⟩⟩
                       ·rw [if_neg c37] at H
                        have c37b0 : decide (2 < (t742.length : Int)) = false := decide_eq_false c37
                        have c37b1 : decide (2 < t742.length) = false := decide_eq_false (by omega)
                        clear c37
                        (first | rw [c37b0] | (simp only [i64_w, i32_w]; rw [c37b0]) | skip)
                        have H' := Aside0.mk H
                        clear H
                        go_wp2
                        go_meet
                        case rel => exact ⟨_, (false), sd_, H', ⟨by have := HJ1.out; have := HJ10.out; have := HK3.out; have := HJ18.out; have := HK5.out; have := HJ32.out; have := HK7.out; first | omega | exact Nat.le_refl _⟩, ⟨rRa_ HO_3.out⟩, ⟨rSa_ HO_4.out⟩, ⟨by repeat (first | (with_reducible exact HR749_0.out) | (with_reducible refine Kd.C_alloc ?_ _) | (with_reducible refine Kd.C_drewN ?_ _) | (with_reducible refine Kd.C_drew ?_) | exact HR749_0.out)⟩, ⟨bw_⟩⟩
                      case rest => as_aux_lemma =>
                       clear HC36
                       try clear c1
                       try clear c2
                       try clear p2
                       try clear c3
                       try clear c3b0
                       try clear c3b1
                       try clear c6
                       try clear p6
                       try clear c7
                       try clear p7
                       try clear q7
                       try clear hx7
                       try clear c11
                       try clear c12
                       try clear c15
                       try clear c15b0
                       try clear c15b1
                       try clear c16
                       try clear c16b0
                       try clear c16b1
                       try clear c18
                       try clear c20
                       try clear c20b0
                       try clear c20b1
                       try clear c21
                       try clear c22
                       try clear c22b0
                       try clear c23
                       try clear c23b0
                       try clear c28
                       try clear c28b0
                       try clear c29
                       try clear c29b0
                       try clear c30
                       try clear c30b0
                       try clear c31
                       try clear c33
                       try clear c34
                       try clear c34b0
                       try clear c34b1
                       try clear c35
                       try clear c37
                       try clear c37b0
                       try clear c37b1
                       try clear hx749_0
                       try clear hx754_0
                       try clear p2
                       try clear p6
                       try clear p7
                       try clear p749
                       try clear p754
                       try clear q7
                       try clear q749
                       try clear q754
                       obtain ⟨kq, x92_35, rfl, HA, HJ35, HO_3, HO_4, HR749_0, HB⟩ := hcut
                       cases kq with
                       |zero => exact absurd HA.out (by simp [toruslaw07_SimplexFacets.j7])
                       |succ kj35 =>
                        have H := HA.out
                        clear HA
                        simp only [toruslaw07_SimplexFacets.j7] at H
                        by_cases c38 : x92_35 = true
                        ·subst c38
                         have H1 : (if 0 ≤ x6_3 then (if x6_3 < (t745.length : Int) then ((simplex_Facets.f kj35 (rd_L1 t745 x6_3)).bind fun bt757 => (if 0 ≤ x12_7 then (if x12_7 < (t745.length : Int) then ((simplex_Facets.f kj35 (rd_L1 t745 x12_7)).bind fun bt762 => (if bt757.2 = 0 then (if bt762.2 = 0 then (if (bt757.1.length : Int) = (wrap64 ((t742.length : Int) - 1)) then (if (bt762.1.length : Int) = (wrap64 ((t742.length : Int) - 1)) then (if x12_7 < (bt757.1.length : Int) then (if 0 ≤ (wrap64 (x6_3 - 1)) then (if (wrap64 (x6_3 - 1)) < (bt762.1.length : Int) then ((torusref07_Cmp.f kj35 (rd_L1 bt757.1 x12_7) (rd_L1 bt762.1 (wrap64 (x6_3 - 1)))).bind fun t768 => (if t768 = 0 then (toruslaw07_SimplexFacets.l2 kj35 t742 t745 x6_3 (wrap64 (x12_7 + 1))) else (none))) else (none)) else (none)) else (none)) else (none)) else (none)) else (none)) else (none))) else (none)) else (none))) else (none)) else (none)) = some r := by rw [if_pos rfl] at H; exact H
                         clear H
                         have H := H1
                         clear H1
                         by_cases c39 : 0 ≤ x6_3
                         ·rw [if_pos c39] at H
                          have c39b0 : decide (0 ≤ x6_3) = true := decide_eq_true c39
                          clear c39
                          by_cases c40 : x6_3 < (t745.length : Int)
                          ·rw [if_pos c40] at H
                           have c40b0 : decide (x6_3 < (t745.length : Int)) = true := decide_eq_true c40
                           clear c40
                           replace H := Option.bind_eq_some_iff.mp H
                           obtain ⟨⟨t757, t758⟩, A410, H⟩ := H
                           replace H : (if 0 ≤ x12_7 then (if x12_7 < (t745.length : Int) then ((simplex_Facets.f kj35 (rd_L1 t745 x12_7)).bind fun bt762 => (if t758 = 0 then (if bt762.2 = 0 then (if (t757.length : Int) = (wrap64 ((t742.length : Int) - 1)) then (if (bt762.1.length : Int) = (wrap64 ((t742.length : Int) - 1)) then (if x12_7 < (t757.length : Int) then (if 0 ≤ (wrap64 (x6_3 - 1)) then (if (wrap64 (x6_3 - 1)) < (bt762.1.length : Int) then ((torusref07_Cmp.f kj35 (rd_L1 t757 x12_7) (rd_L1 bt762.1 (wrap64 (x6_3 - 1)))).bind fun t768 => (if t768 = 0 then (toruslaw07_SimplexFacets.l2 kj35 t742 t745 x6_3 (wrap64 (x12_7 + 1))) else (none))) else (none)) else (none)) else (none)) else (none)) else (none)) else (none)) else (none))) else (none)) else (none)) = some r := H
                           have A41 := Aside0.mk A410
                           clear A410
                           by_cases c42 : 0 ≤ x12_7
                           ·rw [if_pos c42] at H
                            have c42b0 : decide (0 ≤ x12_7) = true := decide_eq_true c42
                            clear c42
                            by_cases c43 : x12_7 < (t745.length : Int)
                            ·rw [if_pos c43] at H
                             have c43b0 : decide (x12_7 < (t745.length : Int)) = true := decide_eq_true c43
                             clear c43
                             replace H := Option.bind_eq_some_iff.mp H
                             obtain ⟨⟨t762, t763⟩, A440, H⟩ := H
                             replace H : (if t758 = 0 then (if t763 = 0 then (if (t757.length : Int) = (wrap64 ((t742.length : Int) - 1)) then (if (t762.length : Int) = (wrap64 ((t742.length : Int) - 1)) then (if x12_7 < (t757.length : Int) then (if 0 ≤ (wrap64 (x6_3 - 1)) then (if (wrap64 (x6_3 - 1)) < (t762.length : Int) then ((torusref07_Cmp.f kj35 (rd_L1 t757 x12_7) (rd_L1 t762 (wrap64 (x6_3 - 1)))).bind fun t768 => (if t768 = 0 then (toruslaw07_SimplexFacets.l2 kj35 t742 t745 x6_3 (wrap64 (x12_7 + 1))) else (none))) else (none)) else (none)) else (none)) else (none)) else (none)) else (none)) else (none)) = some r := H
                             have A44 := Aside0.mk A440
                             clear A440
                             by_cases c45 : t758 = 0
                             ·rw [if_pos c45] at H
                              have c45b0 : (t758 == 0) = true := beq_iff_eq.mpr c45
                              have c45b1 : (t758 != 0) = false := bne_eq_false_iff_eq.mpr c45
                              clear c45
                              by_cases c46 : t763 = 0
                              ·rw [if_pos c46] at H
                               have c46b0 : (t763 == 0) = true := beq_iff_eq.mpr c46
                               have c46b1 : (t763 != 0) = false := bne_eq_false_iff_eq.mpr c46
                               clear c46
                               by_cases c47 : (t757.length : Int) = (wrap64 ((t742.length : Int) - 1))
                               ·rw [if_pos c47] at H
                                have c47b0 : ((t757.length : Int) == (wrap64 ((t742.length : Int) - 1))) = true := beq_iff_eq.mpr c47
                                have c47b1 : ((t757.length : Int) != (wrap64 ((t742.length : Int) - 1))) = false := bne_eq_false_iff_eq.mpr c47
                                clear c47
                                by_cases c48 : (t762.length : Int) = (wrap64 ((t742.length : Int) - 1))
                                ·rw [if_pos c48] at H
                                 have c48b0 : ((t762.length : Int) == (wrap64 ((t742.length : Int) - 1))) = true := beq_iff_eq.mpr c48
                                 have c48b1 : ((t762.length : Int) != (wrap64 ((t742.length : Int) - 1))) = false := bne_eq_false_iff_eq.mpr c48
                                 clear c48
                                 by_cases c49 : x12_7 < (t757.length : Int)
                                 ·rw [if_pos c49] at H
                                  have c49b0 : decide (x12_7 < (t757.length : Int)) = true := decide_eq_true c49
                                  clear c49
                                  obtain ⟨ji50, hji50⟩ : ∃ j_ : Int, (wrap64 (x6_3 - 1)) = j_ := ⟨_, rfl⟩
                                  replace H : (if 0 ≤ (ji50) then (if (ji50) < (t762.length : Int) then ((torusref07_Cmp.f kj35 (rd_L1 t757 x12_7) (rd_L1 t762 (ji50))).bind fun t768 => (if t768 = 0 then (toruslaw07_SimplexFacets.l2 kj35 t742 t745 x6_3 (wrap64 (x12_7 + 1))) else (none))) else (none)) else (none)) = some r := by first | (rw [hji50] at H; exact H) | (simp only [hji50] at H ⊢; exact H)
                                  (try rw [hji50] at A41)
                                  (try rw [hji50] at A44)
                                  have hji50w : (IntKind.i64.wrap (x6_3 - 1)) = ji50 := (i64_w _).trans hji50
                                  by_cases c51 : 0 ≤ (ji50)
                                  ·rw [if_pos c51] at H
                                   have c51b0 : decide (0 ≤ (ji50)) = true := decide_eq_true c51
                                   clear c51
                                   by_cases c52 : (ji50) < (t762.length : Int)
                                   ·rw [if_pos c52] at H
                                    have c52b0 : decide ((ji50) < (t762.length : Int)) = true := decide_eq_true c52
                                    clear c52
                                    replace H := Option.bind_eq_some_iff.mp H
                                    obtain ⟨t768, A530, H⟩ := H
                                    replace H : (if t768 = 0 then (toruslaw07_SimplexFacets.l2 kj35 t742 t745 x6_3 (wrap64 (x12_7 + 1))) else (none)) = some r := H
                                    have A53 := Aside0.mk A530
                                    clear A530
                                    by_cases c54 : t768 = 0
                                    ·rw [if_pos c54] at H
                                     have c54b0 : (t768 == 0) = true := beq_iff_eq.mpr c54
                                     have c54b1 : (t768 != 0) = false := bne_eq_false_iff_eq.mpr c54
                                     clear c54
                                     have H' := Aside0.mk H
                                     clear H
                                     have p756 : 0 ≤ (x6_3 : Int) := of_decide_eq_true as_
                                     have q756 : x6_3 < (t745.length : Int) := of_decide_eq_true as_
                                     obtain ⟨ad756, A756_0, c756_0, e756, hx756_0, hl756_0, hi756_0⟩ := at_L1 (Kd.S_reads' HO_4.out).2.2 x6_3 p756 q756
                                     obtain rfl : ad749 = ad756 := (by injection e756)
                                     obtain ⟨ce756, hce756, hMe756, hcc756⟩ := Kd.S_get HO_4.out [] x6_3 p756 (by first | exact q756 | exact of_decide_eq_true as_ | (have e_ := (Kd.S_reads' HO_4.out).1; omega))
                                     obtain ⟨ve756_0, rfl, ge756_0⟩ := hMe756
                                     have hv756_0 := hcc756 0 _ rfl
                                     rw [Nat.add_zero, show ((Kd.slice 3 (Kd.int .i64))).sz = 1 from rfl, Nat.mul_one] at hv756_0
                                     replace hv756_0 := Option.some.inj (hv756_0.symm.trans hx756_0)
                                     rw [hv756_0] at ge756_0
                                     have HL756_0 := Aside0.mk (show Kd.R (Kd.int .i64) 3 _ _ _ _ (rd_L1 t745 x6_3) from ge756_0)
                                     clear hv756_0 ge756_0
                                     clear hcc756 hce756
                                     have HR756_0 := Aside0.mk hi756_0
                                     have HC756_0 := Aside0.mk hl756_0
                                     clear hi756_0 hl756_0
                                     replace p756 := eq_true p756
                                     replace q756 := eq_true q756
                                     try go_wp2_with (first | ((with_reducible refine gate_callee (f := 33) rfl ?_); refine goesL_ (some 100) rfl rfl Tryd.func33 (by kernel_rfl) rfl #[.slice A756_0 (rd_L1 t745 x6_3).length c756_0] rfl ag_ ?_; (with_reducible refine (simplex_Facets.calls kj35 _ _ (rd_L1 t745 x6_3) t757 t758 _ ?side1 ?side2 A41.out).mono ?_); (case side1 => repeat (first | exact (by repeat (first | (with_reducible exact HR756_0.out) | (with_reducible refine Kd.C_alloc ?_ _) | (with_reducible refine Kd.C_drewN ?_ _) | (with_reducible refine Kd.C_drew ?_) | exact HR756_0.out)) | (with_reducible refine Kd.C_alloc ?_ _) | (with_reducible refine Kd.C_drewN ?_ _) | (with_reducible refine Kd.C_drew ?_))); (case side2 => exact HC756_0.out); rintro e w55 ⟨v759, rfl, ho0, hb⟩; refine ⟨_, rfl, ?_⟩; have n0_ := Aside0.mk (Kd.R_below (rRa_ HO_3.out) hb); have n1_ := Aside0.mk (Kd.S_elder' (rSa_ HO_4.out) (Kd.S_base ho0) hb); have n2_ := Aside0.mk (Kd.R_below (rRa_ HL756_0.out) hb); have n3_ := Aside0.mk (Kd.S_lower (Kd.S_new' (Kd.S_new' (Kd.S_new' ho0 (Kd.R_lt (rRa_ HO_3.out))) (Kd.S_lt (rSa_ HO_4.out))) (Kd.R_lt (rRa_ HL756_0.out))) (below_size bw_)); have n4_ := Aside0.mk (Kd.C_below (by repeat (first | (with_reducible exact HR749_0.out) | (with_reducible refine Kd.C_alloc ?_ _) | (with_reducible refine Kd.C_drewN ?_ _) | (with_reducible refine Kd.C_drew ?_) | exact HR749_0.out)) hb); have n5_ := Aside0.mk (Kd.C_below (by repeat (first | (with_reducible exact HR756_0.out) | (with_reducible refine Kd.C_alloc ?_ _) | (with_reducible refine Kd.C_drewN ?_ _) | (with_reducible refine Kd.C_drew ?_) | exact HR756_0.out)) hb); have n6_ := Aside0.mk (below_step bw_ hb); clear HO_3; clear HO_4; clear HL756_0; clear HR749_0; clear HR756_0; clear HB; have HO_3 := n0_; have HO_4 := n1_; have HL756_0 := n2_; have HO760 := n3_; have HR749_0 := n4_; have HR756_0 := n5_; have HB := n6_; clear n0_ n1_ n2_ n3_ n4_ n5_ n6_; (try clear hb); (try clear hb2); (try clear hk); (try clear hi); (try clear ho0); have p761 : 0 ≤ (x12_7 : Int) := of_decide_eq_true as_; have q761 : x12_7 < (t745.length : Int) := of_decide_eq_true as_; obtain ⟨ad761, A761_0, c761_0, e761, hx761_0, hl761_0, hi761_0⟩ := at_L1 (Kd.S_reads' HO_4.out).2.2 x12_7 p761 q761; obtain rfl : ad749 = ad761 := (by injection e761); obtain ⟨ce761, hce761, hMe761, hcc761⟩ := Kd.S_get HO_4.out [] x12_7 p761 (by first | exact q761 | exact of_decide_eq_true as_ | (have e_ := (Kd.S_reads' HO_4.out).1; omega)); obtain ⟨ve761_0, rfl, ge761_0⟩ := hMe761; have hv761_0 := hcc761 0 _ rfl; rw [Nat.add_zero, show ((Kd.slice 3 (Kd.int .i64))).sz = 1 from rfl, Nat.mul_one] at hv761_0; replace hv761_0 := Option.some.inj (hv761_0.symm.trans hx761_0); rw [hv761_0] at ge761_0; have HL761_0 := Aside0.mk (show Kd.R (Kd.int .i64) 3 _ _ _ _ (rd_L1 t745 x12_7) from ge761_0); clear hv761_0 ge761_0; clear hcc761 hce761; have HR761_0 := Aside0.mk hi761_0; have HC761_0 := Aside0.mk hl761_0; clear hi761_0 hl761_0; replace p761 := eq_true p761; replace q761 := eq_true q761) | ((with_reducible refine gate_callee (f := 33) rfl ?_); refine goesL_ (some 108) rfl rfl Tryd.func33 (by kernel_rfl) rfl #[.slice A761_0 (rd_L1 t745 x12_7).length c761_0] rfl ag_ ?_; (with_reducible refine (simplex_Facets.calls kj35 _ _ (rd_L1 t745 x12_7) t762 t763 _ ?side1 ?side2 A44.out).mono ?_); (case side1 => repeat (first | exact (by repeat (first | (with_reducible exact HR761_0.out) | (with_reducible refine Kd.C_alloc ?_ _) | (with_reducible refine Kd.C_drewN ?_ _) | (with_reducible refine Kd.C_drew ?_) | exact HR761_0.out)) | (with_reducible refine Kd.C_alloc ?_ _) | (with_reducible refine Kd.C_drewN ?_ _) | (with_reducible refine Kd.C_drew ?_))); (case side2 => exact HC761_0.out); rintro e w56 ⟨v764, rfl, ho0, hb⟩; refine ⟨_, rfl, ?_⟩; have n0_ := Aside0.mk (Kd.R_below (rRa_ HO_3.out) hb); have n1_ := Aside0.mk (Kd.S_elder' (rSa_ HO_4.out) (Kd.S_base ho0) hb); have n2_ := Aside0.mk (Kd.R_below (rRa_ HL756_0.out) hb); have n3_ := Aside0.mk (Kd.S_elder' (rSa_ HO760.out) (Kd.S_base ho0) hb); have n4_ := Aside0.mk (Kd.R_below (rRa_ HL761_0.out) hb); have n5_ := Aside0.mk (Kd.S_lower (Kd.S_new' (Kd.S_new' (Kd.S_new' (Kd.S_new' (Kd.S_new' ho0 (Kd.R_lt (rRa_ HO_3.out))) (Kd.S_lt (rSa_ HO_4.out))) (Kd.R_lt (rRa_ HL756_0.out))) (Kd.S_lt (rSa_ HO760.out))) (Kd.R_lt (rRa_ HL761_0.out))) (below_size bw_)); have n6_ := Aside0.mk (Kd.C_below (by repeat (first | (with_reducible exact HR749_0.out) | (with_reducible refine Kd.C_alloc ?_ _) | (with_reducible refine Kd.C_drewN ?_ _) | (with_reducible refine Kd.C_drew ?_) | exact HR749_0.out)) hb); have n7_ := Aside0.mk (Kd.C_below (by repeat (first | (with_reducible exact HR756_0.out) | (with_reducible refine Kd.C_alloc ?_ _) | (with_reducible refine Kd.C_drewN ?_ _) | (with_reducible refine Kd.C_drew ?_) | exact HR756_0.out)) hb); have n8_ := Aside0.mk (Kd.C_below (by repeat (first | (with_reducible exact HR761_0.out) | (with_reducible refine Kd.C_alloc ?_ _) | (with_reducible refine Kd.C_drewN ?_ _) | (with_reducible refine Kd.C_drew ?_) | exact HR761_0.out)) hb); have n9_ := Aside0.mk (below_step bw_ hb); clear HO_3; clear HO_4; clear HL756_0; clear HO760; clear HL761_0; clear HR749_0; clear HR756_0; clear HR761_0; clear HB; have HO_3 := n0_; have HO_4 := n1_; have HL756_0 := n2_; have HO760 := n3_; have HL761_0 := n4_; have HO765 := n5_; have HR749_0 := n6_; have HR756_0 := n7_; have HR761_0 := n8_; have HB := n9_; clear n0_ n1_ n2_ n3_ n4_ n5_ n6_ n7_ n8_ n9_; (try clear hb); (try clear hb2); (try clear hk); (try clear hi); (try clear ho0)))
                                     have n0_ := Aside0.mk (Kd.R_drew HO_3.out)
                                     have n1_ := Aside0.mk (Kd.S_drew HO_4.out)
                                     have n2_ := Aside0.mk (Kd.R_drew HL756_0.out)
                                     have n3_ := Aside0.mk (Kd.S_drew HO760.out)
                                     have n4_ := Aside0.mk (Kd.R_drew HL761_0.out)
                                     have n5_ := Aside0.mk (Kd.S_drew HO765.out)
                                     have n6_ := Aside0.mk (Kd.C_drew HR749_0.out)
                                     have n7_ := Aside0.mk (Kd.C_drew HR756_0.out)
                                     have n8_ := Aside0.mk (Kd.C_drew HR761_0.out)
                                     have n9_ := Aside0.mk (below_drew1 HB.out)
                                     clear HO_3
                                     clear HO_4
                                     clear HL756_0
                                     clear HO760
                                     clear HL761_0
                                     clear HO765
                                     clear HR749_0
                                     clear HR756_0
                                     clear HR761_0
                                     clear HB
                                     have HO_3 := n0_
                                     have HO_4 := n1_
                                     have HL756_0 := n2_
                                     have HO760 := n3_
                                     have HL761_0 := n4_
                                     have HO765 := n5_
                                     have HR749_0 := n6_
                                     have HR756_0 := n7_
                                     have HR761_0 := n8_
                                     have HB := n9_
                                     clear n0_ n1_ n2_ n3_ n4_ n5_ n6_ n7_ n8_ n9_
                                     obtain ⟨Ao58, co58, eo58⟩ := Kd.S_slice HO760.out
                                     (first | subst eo58 | (injection eo58 with f1_ f2_ f3_; have f4_ := f1_.symm; have f5_ := f3_.symm; clear f1_ f2_ f3_; subst f4_; subst f5_))
                                     obtain ⟨Ao59, co59, eo59⟩ := Kd.S_slice HO765.out
                                     (first | subst eo59 | (injection eo59 with f1_ f2_ f3_; have f4_ := f1_.symm; have f5_ := f3_.symm; clear f1_ f2_ f3_; subst f4_; subst f5_))
                                     have p766 : 0 ≤ (x12_7 : Int) := of_decide_eq_true as_
                                     have q766 : x12_7 < (t757.length : Int) := of_decide_eq_true as_
                                     obtain ⟨ad766, A766_0, c766_0, e766, hx766_0, hl766_0, hi766_0⟩ := at_L1 (Kd.S_reads' HO760.out).2.2 x12_7 p766 q766
                                     cases e766
                                     obtain ⟨ce766, hce766, hMe766, hcc766⟩ := Kd.S_get HO760.out [] x12_7 p766 (by first | exact q766 | exact of_decide_eq_true as_ | (have e_ := (Kd.S_reads' HO760.out).1; omega))
                                     obtain ⟨ve766_0, rfl, ge766_0⟩ := hMe766
                                     have hv766_0 := hcc766 0 _ rfl
                                     rw [Nat.add_zero, show ((Kd.slice 3 (Kd.int .i64))).sz = 1 from rfl, Nat.mul_one] at hv766_0
                                     replace hv766_0 := Option.some.inj (hv766_0.symm.trans hx766_0)
                                     rw [hv766_0] at ge766_0
                                     have HL766_0 := Aside0.mk (show Kd.R (Kd.int .i64) 3 _ _ _ _ (rd_L1 t757 x12_7) from ge766_0)
                                     clear hv766_0 ge766_0
                                     clear hcc766 hce766
                                     have HR766_0 := Aside0.mk hi766_0
                                     have HC766_0 := Aside0.mk hl766_0
                                     clear hi766_0 hl766_0
                                     replace p766 := eq_true p766
                                     replace q766 := eq_true q766
                                     have p767 : 0 ≤ ((ji50) : Int) := of_decide_eq_true as_
                                     have q767 : (ji50) < (t762.length : Int) := of_decide_eq_true as_
                                     obtain ⟨ad767, A767_0, c767_0, e767, hx767_0, hl767_0, hi767_0⟩ := at_L1 (Kd.S_reads' HO765.out).2.2 (ji50) p767 q767
                                     cases e767
                                     obtain ⟨ce767, hce767, hMe767, hcc767⟩ := Kd.S_get HO765.out [] (ji50) p767 (by first | exact q767 | exact of_decide_eq_true as_ | (have e_ := (Kd.S_reads' HO765.out).1; omega))
                                     obtain ⟨ve767_0, rfl, ge767_0⟩ := hMe767
                                     have hv767_0 := hcc767 0 _ rfl
                                     rw [Nat.add_zero, show ((Kd.slice 3 (Kd.int .i64))).sz = 1 from rfl, Nat.mul_one] at hv767_0
                                     replace hv767_0 := Option.some.inj (hv767_0.symm.trans hx767_0)
                                     rw [hv767_0] at ge767_0
                                     have HL767_0 := Aside0.mk (show Kd.R (Kd.int .i64) 3 _ _ _ _ (rd_L1 t762 (ji50)) from ge767_0)
                                     clear hv767_0 ge767_0
                                     clear hcc767 hce767
                                     have HR767_0 := Aside0.mk hi767_0
                                     have HC767_0 := Aside0.mk hl767_0
                                     clear hi767_0 hl767_0
                                     replace p767 := eq_true p767
                                     replace q767 := eq_true q767
                                     refine start_ (n := 35) (S := fun w' => w'.cell? (ad766.add (x12_7).toNat) = some (.slice A766_0 (rd_L1 t757 x12_7).length c766_0) ∧ w'.cell? (ad767.add ((ji50)).toNat) = some (.slice A767_0 (rd_L1 t762 (ji50)).length c767_0)) (ds := []) #[false, false, false, false, false, false, false, false, false, false, false, false, false, false, false, false, false, false, false, false, false, false, false, false, false, false, false, false, false, false, false, false, false, false, false] (by kernel_rfl) rfl rfl ⟨hx766_0, hx767_0⟩ (fun hHeld => ?_); refine with_tabW toruslaw07_SimplexFacets.tab24 toruslaw07_SimplexFacets.bits24 (fun HT_ HW_ => ?_)
                                     generalize w56.drew = w57 at HO_3 HO_4 HL756_0 HO760 HL761_0 HO765 HR749_0 HR756_0 HR761_0 HB HL766_0 HL767_0 HR766_0 HR767_0 hx766_0 hx767_0 hHeld ⊢
                                     refine pure_ (i := 0) (N := some 111) (v := ?_) (a' := ?_) #[true, false, false, false, false, false, false, false, false, false, false, false, false, false, false, false, false, false, false, false, false, false, false, false, false, false, false, false, false, false, false, false, false, false, false] rfl rfl (any_of HT_.out (by kernel_rfl)) (fun _ _ _ h => h) (Or.inl ⟨by rfl, ?_⟩) ?_ ?_
                                     rotate_left
                                     ·intro w'
                                      go_simp
                                      with_reducible rfl
                                     rotate_left
                                     ·simp only [Act.put, List.setIfInBounds_toArray, List.set_cons_zero, List.set_cons_succ, i64_w, i32_w]
                                      rfl
                                     refine pure_ (i := 1) (N := some 112) (v := ?_) (a' := ?_) #[true, true, false, false, false, false, false, false, false, false, false, false, false, false, false, false, false, false, false, false, false, false, false, false, false, false, false, false, false, false, false, false, false, false, false] rfl rfl (any_of HT_.out (by kernel_rfl)) (fun _ _ _ h => h) (Or.inl ⟨by rfl, ?_⟩) ?_ ?_
                                     rotate_left
                                     ·intro w'
                                      go_simp
                                      with_reducible rfl
                                     rotate_left
                                     ·simp only [Act.put, List.setIfInBounds_toArray, List.set_cons_zero, List.set_cons_succ, i64_w, i32_w]
                                      rfl
                                     refine pure_ (i := 2) (N := some 113) (v := ?_) (a' := ?_) #[true, true, true, false, false, false, false, false, false, false, false, false, false, false, false, false, false, false, false, false, false, false, false, false, false, false, false, false, false, false, false, false, false, false, false] rfl rfl (any_of HT_.out (by kernel_rfl)) (fun _ _ _ h => h) (Or.inl ⟨by rfl, ?_⟩) ?_ ?_
                                     rotate_left
                                     ·intro w'
                                      go_simp
                                      with_reducible rfl
                                     rotate_left
                                     ·simp only [Act.put, List.setIfInBounds_toArray, List.set_cons_zero, List.set_cons_succ, i64_w, i32_w]
                                      rfl
                                     refine pure_ (i := 3) (N := some 114) (v := ?_) (a' := ?_) #[true, true, true, true, false, false, false, false, false, false, false, false, false, false, false, false, false, false, false, false, false, false, false, false, false, false, false, false, false, false, false, false, false, false, false] rfl rfl (any_of HT_.out (by kernel_rfl)) (fun _ _ _ h => h) (Or.inl ⟨by rfl, ?_⟩) ?_ ?_
                                     rotate_left
                                     ·intro w'
                                      go_simp
                                      with_reducible rfl
                                     rotate_left
                                     ·simp only [Act.put, List.setIfInBounds_toArray, List.set_cons_zero, List.set_cons_succ, i64_w, i32_w]
                                      rfl
                                     refine pure_ (i := 4) (N := some 115) (v := ?_) (a' := ?_) #[true, true, true, true, true, false, false, false, false, false, false, false, false, false, false, false, false, false, false, false, false, false, false, false, false, false, false, false, false, false, false, false, false, false, false] rfl rfl (any_of HT_.out (by kernel_rfl)) (fun _ _ _ h => h) (Or.inl ⟨by rfl, ?_⟩) ?_ ?_
                                     rotate_left
                                     ·intro w'
                                      go_simp
                                      with_reducible rfl
                                     rotate_left
                                     ·simp only [Act.put, List.setIfInBounds_toArray, List.set_cons_zero, List.set_cons_succ, i64_w, i32_w]
                                      rfl
                                     refine pure_ (i := 5) (N := some 116) (v := ?_) (a' := ?_) #[true, true, true, true, true, true, false, false, false, false, false, false, false, false, false, false, false, false, false, false, false, false, false, false, false, false, false, false, false, false, false, false, false, false, false] rfl rfl (any_of HT_.out (by kernel_rfl)) (fun _ _ _ h => h) (Or.inl ⟨by rfl, ?_⟩) ?_ ?_
                                     rotate_left
                                     ·intro w'
                                      go_simp
                                      with_reducible rfl
                                     rotate_left
                                     ·simp only [Act.put, List.setIfInBounds_toArray, List.set_cons_zero, List.set_cons_succ, i64_w, i32_w]
                                      rfl
                                     refine pure_ (i := 6) (N := some 117) (v := ?_) (a' := ?_) #[true, true, true, true, true, true, true, false, false, false, false, false, false, false, false, false, false, false, false, false, false, false, false, false, false, false, false, false, false, false, false, false, false, false, false] rfl rfl (any_of HT_.out (by kernel_rfl)) (fun _ _ _ h => h) (Or.inl ⟨by rfl, ?_⟩) ?_ ?_
                                     rotate_left
                                     ·intro w'
                                      go_simp
                                      with_reducible rfl
                                     rotate_left
                                     ·simp only [Act.put, List.setIfInBounds_toArray, List.set_cons_zero, List.set_cons_succ, i64_w, i32_w]
                                      rfl
                                     refine pure_ (i := 7) (N := some 118) (v := ?_) (a' := ?_) #[true, true, true, true, true, true, true, true, false, false, false, false, false, false, false, false, false, false, false, false, false, false, false, false, false, false, false, false, false, false, false, false, false, false, false] rfl rfl (any_of HT_.out (by kernel_rfl)) (fun _ _ _ h => h) (Or.inl ⟨by rfl, ?_⟩) ?_ ?_
                                     rotate_left
                                     ·intro w'
                                      go_simp
                                      with_reducible rfl
                                     rotate_left
                                     ·simp only [Act.put, List.setIfInBounds_toArray, List.set_cons_zero, List.set_cons_succ, i64_w, i32_w]
                                      rfl
                                     refine pure_ (i := 8) (N := some 119) (v := ?_) (a' := ?_) #[true, true, true, true, true, true, true, true, true, false, false, false, false, false, false, false, false, false, false, false, false, false, false, false, false, false, false, false, false, false, false, false, false, false, false] rfl rfl (any_of HT_.out (by kernel_rfl)) (fun _ _ _ h => h) (Or.inl ⟨by rfl, ?_⟩) ?_ ?_
                                     rotate_left
                                     ·intro w'
                                      go_simp
                                      with_reducible rfl
                                     rotate_left
                                     ·simp only [Act.put, List.setIfInBounds_toArray, List.set_cons_zero, List.set_cons_succ, i64_w, i32_w]
                                      rfl
                                     refine pure_ (i := 9) (N := some 120) (v := ?_) (a' := ?_) #[true, true, true, true, true, true, true, true, true, true, false, false, false, false, false, false, false, false, false, false, false, false, false, false, false, false, false, false, false, false, false, false, false, false, false] rfl rfl (any_of HT_.out (by kernel_rfl)) (fun _ _ _ h => h) (Or.inl ⟨by rfl, ?_⟩) ?_ ?_
                                     rotate_left
                                     ·intro w'
                                      go_simp
                                      with_reducible rfl
                                     rotate_left
                                     ·simp only [Act.put, List.setIfInBounds_toArray, List.set_cons_zero, List.set_cons_succ, i64_w, i32_w]
                                      rfl
                                     refine pure_ (i := 10) (N := some 121) (v := ?_) (a' := ?_) #[true, true, true, true, true, true, true, true, true, true, true, false, false, false, false, false, false, false, false, false, false, false, false, false, false, false, false, false, false, false, false, false, false, false, false] rfl rfl (any_of HT_.out (by kernel_rfl)) (fun _ _ _ h => h) (Or.inl ⟨by rfl, ?_⟩) ?_ ?_
                                     rotate_left
                                     ·intro w'
                                      go_simp
                                      with_reducible rfl
                                     rotate_left
                                     ·simp only [Act.put, List.setIfInBounds_toArray, List.set_cons_zero, List.set_cons_succ, i64_w, i32_w]
                                      rfl
                                     refine pure_ (i := 11) (N := some 122) (v := ?_) (a' := ?_) #[true, true, true, true, true, true, true, true, true, true, true, true, false, false, false, false, false, false, false, false, false, false, false, false, false, false, false, false, false, false, false, false, false, false, false] rfl rfl (any_of HT_.out (by kernel_rfl)) (fun _ _ _ h => h) (Or.inl ⟨by rfl, ?_⟩) ?_ ?_
                                     rotate_left
                                     ·intro w'
                                      go_simp
                                      with_reducible rfl
                                     rotate_left
                                     ·simp only [Act.put, List.setIfInBounds_toArray, List.set_cons_zero, List.set_cons_succ, i64_w, i32_w]
                                      rfl
                                     refine pure_ (i := 12) (N := some 123) (v := ?_) (a' := ?_) #[true, true, true, true, true, true, true, true, true, true, true, true, true, false, false, false, false, false, false, false, false, false, false, false, false, false, false, false, false, false, false, false, false, false, false] rfl rfl (any_of HT_.out (by kernel_rfl)) (fun _ _ _ h => h) (Or.inl ⟨by rfl, ?_⟩) ?_ ?_
                                     rotate_left
                                     ·intro w'
                                      go_simp
                                      with_reducible rfl
                                     rotate_left
                                     ·simp only [Act.put, List.setIfInBounds_toArray, List.set_cons_zero, List.set_cons_succ, i64_w, i32_w]
                                      rfl
                                     refine pure_ (i := 13) (N := some 124) (v := ?_) (a' := ?_) #[true, true, true, true, true, true, true, true, true, true, true, true, true, true, false, false, false, false, false, false, false, false, false, false, false, false, false, false, false, false, false, false, false, false, false] rfl rfl (any_of HT_.out (by kernel_rfl)) (fun _ _ _ h => h) (Or.inl ⟨by rfl, ?_⟩) ?_ ?_
                                     rotate_left
                                     ·intro w'
                                      go_simp
                                      with_reducible rfl
                                     rotate_left
                                     ·simp only [Act.put, List.setIfInBounds_toArray, List.set_cons_zero, List.set_cons_succ, i64_w, i32_w]
                                      rfl
                                     refine pure_ (i := 14) (N := some 125) (v := ?_) (a' := ?_) #[true, true, true, true, true, true, true, true, true, true, true, true, true, true, true, false, false, false, false, false, false, false, false, false, false, false, false, false, false, false, false, false, false, false, false] rfl rfl (any_of HT_.out (by kernel_rfl)) (fun _ _ _ h => h) (Or.inl ⟨by rfl, ?_⟩) ?_ ?_
                                     rotate_left
                                     ·intro w'
                                      go_simp
                                      with_reducible rfl
                                     rotate_left
                                     ·simp only [Act.put, List.setIfInBounds_toArray, List.set_cons_zero, List.set_cons_succ, i64_w, i32_w]
                                      rfl
                                     refine pure_ (i := 15) (N := some 126) (v := ?_) (a' := ?_) #[true, true, true, true, true, true, true, true, true, true, true, true, true, true, true, true, false, false, false, false, false, false, false, false, false, false, false, false, false, false, false, false, false, false, false] rfl rfl (any_of HT_.out (by kernel_rfl)) (fun _ _ _ h => h) (Or.inl ⟨by rfl, ?_⟩) ?_ ?_
                                     rotate_left
                                     ·intro w'
                                      go_simp
                                      with_reducible rfl
                                     rotate_left
                                     ·simp only [Act.put, List.setIfInBounds_toArray, List.set_cons_zero, List.set_cons_succ, i64_w, i32_w]
                                      rfl
                                     refine pure_ (i := 16) (N := some 127) (v := ?_) (a' := ?_) #[true, true, true, true, true, true, true, true, true, true, true, true, true, true, true, true, true, false, false, false, false, false, false, false, false, false, false, false, false, false, false, false, false, false, false] rfl rfl (any_of HT_.out (by kernel_rfl)) (fun _ _ _ h => h) (Or.inl ⟨by rfl, ?_⟩) ?_ ?_
                                     rotate_left
                                     ·intro w'
                                      go_simp
                                      with_reducible rfl
                                     rotate_left
                                     ·simp only [Act.put, List.setIfInBounds_toArray, List.set_cons_zero, List.set_cons_succ, i64_w, i32_w]
                                      rfl
                                     refine pure_ (i := 17) (N := some 128) (v := ?_) (a' := ?_) #[true, true, true, true, true, true, true, true, true, true, true, true, true, true, true, true, true, true, false, false, false, false, false, false, false, false, false, false, false, false, false, false, false, false, false] rfl rfl (any_of HT_.out (by kernel_rfl)) (fun _ _ _ h => h) (Or.inl ⟨by rfl, ?_⟩) ?_ ?_
                                     rotate_left
                                     ·intro w'
                                      go_simp
                                      with_reducible rfl
                                     rotate_left
                                     ·simp only [Act.put, List.setIfInBounds_toArray, List.set_cons_zero, List.set_cons_succ, i64_w, i32_w]
                                      rfl
                                     refine pure_ (i := 18) (N := some 129) (v := ?_) (a' := ?_) #[true, true, true, true, true, true, true, true, true, true, true, true, true, true, true, true, true, true, true, false, false, false, false, false, false, false, false, false, false, false, false, false, false, false, false] rfl rfl (any_of HT_.out (by kernel_rfl)) (fun _ _ _ h => h) (Or.inl ⟨by rfl, ?_⟩) ?_ ?_
                                     rotate_left
                                     ·intro w'
                                      go_simp
                                      with_reducible rfl
                                     rotate_left
                                     ·simp only [Act.put, List.setIfInBounds_toArray, List.set_cons_zero, List.set_cons_succ, i64_w, i32_w]
                                      rfl
                                     refine pure_ (i := 19) (N := some 130) (v := ?_) (a' := ?_) #[true, true, true, true, true, true, true, true, true, true, true, true, true, true, true, true, true, true, true, true, false, false, false, false, false, false, false, false, false, false, false, false, false, false, false] rfl rfl (any_of HT_.out (by kernel_rfl)) (fun _ _ _ h => h) (Or.inl ⟨by rfl, ?_⟩) ?_ ?_
                                     rotate_left
                                     ·intro w'
                                      go_simp
                                      with_reducible rfl
                                     rotate_left
                                     ·simp only [Act.put, List.setIfInBounds_toArray, List.set_cons_zero, List.set_cons_succ, i64_w, i32_w]
                                      rfl
                                     refine pure_ (i := 20) (N := some 131) (v := ?_) (a' := ?_) #[true, true, true, true, true, true, true, true, true, true, true, true, true, true, true, true, true, true, true, true, true, false, false, false, false, false, false, false, false, false, false, false, false, false, false] rfl rfl (any_of HT_.out (by kernel_rfl)) (fun _ _ _ h => h) (Or.inl ⟨by rfl, ?_⟩) ?_ ?_
                                     rotate_left
                                     ·intro w'
                                      go_simp
                                      with_reducible rfl
                                     rotate_left
                                     ·simp only [Act.put, List.setIfInBounds_toArray, List.set_cons_zero, List.set_cons_succ, i64_w, i32_w]
                                      rfl
                                     refine pure_ (i := 21) (N := some 132) (v := ?_) (a' := ?_) #[true, true, true, true, true, true, true, true, true, true, true, true, true, true, true, true, true, true, true, true, true, true, false, false, false, false, false, false, false, false, false, false, false, false, false] rfl rfl (any_of HT_.out (by kernel_rfl)) (fun _ _ _ h => h) (Or.inl ⟨by rfl, ?_⟩) ?_ ?_
                                     rotate_left
                                     ·intro w'
                                      go_simp
                                      with_reducible rfl
                                     rotate_left
                                     ·simp only [Act.put, List.setIfInBounds_toArray, List.set_cons_zero, List.set_cons_succ, i64_w, i32_w]
                                      rfl
                                     refine pure_ (i := 22) (N := some 133) (v := ?_) (a' := ?_) #[true, true, true, true, true, true, true, true, true, true, true, true, true, true, true, true, true, true, true, true, true, true, true, false, false, false, false, false, false, false, false, false, false, false, false] rfl rfl (any_of HT_.out (by kernel_rfl)) (fun _ _ _ h => h) (Or.inl ⟨by rfl, ?_⟩) ?_ ?_
                                     rotate_left
                                     ·intro w'
                                      go_simp
                                      with_reducible rfl
                                     rotate_left
                                     ·simp only [Act.put, List.setIfInBounds_toArray, List.set_cons_zero, List.set_cons_succ, i64_w, i32_w]
                                      rfl
                                     refine pure_ (i := 23) (N := some 134) (v := ?_) (a' := ?_) #[true, true, true, true, true, true, true, true, true, true, true, true, true, true, true, true, true, true, true, true, true, true, true, true, false, false, false, false, false, false, false, false, false, false, false] rfl rfl (any_of HT_.out (by kernel_rfl)) (fun _ _ _ h => h) (Or.inl ⟨by rfl, ?_⟩) ?_ ?_
                                     rotate_left
                                     ·intro w'
                                      go_simp
                                      with_reducible rfl
                                     rotate_left
                                     ·simp only [Act.put, List.setIfInBounds_toArray, List.set_cons_zero, List.set_cons_succ, i64_w, i32_w]
                                      rfl
                                     refine pure_ (i := 24) (N := some 135) (v := ?_) (a' := ?_) #[true, true, true, true, true, true, true, true, true, true, true, true, true, true, true, true, true, true, true, true, true, true, true, true, true, false, false, false, false, false, false, false, false, false, false] rfl rfl (any_of HT_.out (by kernel_rfl)) (fun _ _ _ h => h) (Or.inl ⟨by rfl, ?_⟩) ?_ ?_
                                     rotate_left
                                     ·intro w'
                                      go_simp
                                      with_reducible rfl
                                     rotate_left
                                     ·simp only [Act.put, List.setIfInBounds_toArray, List.set_cons_zero, List.set_cons_succ, i64_w, i32_w]
                                      rfl
                                     refine pure_ (i := 25) (N := some 136) (v := ?_) (a' := ?_) #[true, true, true, true, true, true, true, true, true, true, true, true, true, true, true, true, true, true, true, true, true, true, true, true, true, true, false, false, false, false, false, false, false, false, false] rfl rfl (any_of HT_.out (by kernel_rfl)) (fun _ _ _ h => h) (Or.inl ⟨by rfl, ?_⟩) ?_ ?_
                                     rotate_left
                                     ·intro w'
                                      go_simp
                                      with_reducible rfl
                                     rotate_left
                                     ·simp only [Act.put, List.setIfInBounds_toArray, List.set_cons_zero, List.set_cons_succ, i64_w, i32_w]
                                      rfl
                                     refine pure_ (i := 27) (N := some 138) (v := ?_) (a' := ?_) #[true, true, true, true, true, true, true, true, true, true, true, true, true, true, true, true, true, true, true, true, true, true, true, true, true, true, false, true, false, false, false, false, false, false, false] rfl rfl (any_of HT_.out (by kernel_rfl)) (fun _ _ _ h => h) (Or.inl ⟨by rfl, ?_⟩) ?_ ?_
                                     rotate_left
                                     ·intro w'
                                      go_simp
                                      with_reducible rfl
                                     rotate_left
                                     ·simp only [Act.put, List.setIfInBounds_toArray, List.set_cons_zero, List.set_cons_succ, i64_w, i32_w]
                                      rfl
                                     refine pure_ (i := 28) (N := some 139) (v := ?_) (a' := ?_) #[true, true, true, true, true, true, true, true, true, true, true, true, true, true, true, true, true, true, true, true, true, true, true, true, true, true, false, true, true, false, false, false, false, false, false] rfl rfl (any_of HT_.out (by kernel_rfl)) (fun _ _ _ h => h) (Or.inl ⟨by rfl, ?_⟩) ?_ ?_
                                     rotate_left
                                     ·intro w'
                                      go_simp
                                      with_reducible rfl
                                     rotate_left
                                     ·simp only [Act.put, List.setIfInBounds_toArray, List.set_cons_zero, List.set_cons_succ, i64_w, i32_w]
                                      rfl
                                     refine pure_ (i := 29) (N := some 140) (v := ?_) (a' := ?_) #[true, true, true, true, true, true, true, true, true, true, true, true, true, true, true, true, true, true, true, true, true, true, true, true, true, true, false, true, true, true, false, false, false, false, false] rfl rfl (any_of HT_.out (by kernel_rfl)) (fun _ _ _ h => h) (Or.inl ⟨by rfl, ?_⟩) ?_ ?_
                                     rotate_left
                                     ·intro w'
                                      go_simp
                                      with_reducible rfl
                                     rotate_left
                                     ·simp only [Act.put, List.setIfInBounds_toArray, List.set_cons_zero, List.set_cons_succ, i64_w, i32_w]
                                      rfl
                                     refine pure_ (i := 30) (N := some 141) (v := ?_) (a' := ?_) #[true, true, true, true, true, true, true, true, true, true, true, true, true, true, true, true, true, true, true, true, true, true, true, true, true, true, false, true, true, true, true, false, false, false, false] rfl rfl (any_of HT_.out (by kernel_rfl)) (fun _ _ _ h => h) (Or.inl ⟨by rfl, ?_⟩) ?_ ?_
                                     rotate_left
                                     ·intro w'
                                      go_simp
                                      with_reducible rfl
                                     rotate_left
                                     ·simp only [Act.put, List.setIfInBounds_toArray, List.set_cons_zero, List.set_cons_succ, i64_w, i32_w]
                                      rfl
                                     refine take_ (i := 26) (N := some 137) (v := ?_) (a' := ?_) #[true, true, true, true, true, true, true, true, true, true, true, true, true, true, true, true, true, true, true, true, true, true, true, true, true, true, true, true, true, true, true, false, false, false, false] rfl rfl (take_ofW HT_.out HW_.out (by kernel_rfl)) (fun _ _ _ h => h) (Or.inl ⟨by rfl, ?_⟩) hHeld ?_ ?_
                                     rotate_left
                                     ·rintro w' ⟨s0, s1⟩
                                      go_simp
                                      with_reducible rfl
                                     rotate_left
                                     ·simp only [Act.put, List.setIfInBounds_toArray, List.set_cons_zero, List.set_cons_succ, i64_w, i32_w]
                                      rfl
                                     refine take_ (i := 31) (N := some 142) (v := ?_) (a' := ?_) #[true, true, true, true, true, true, true, true, true, true, true, true, true, true, true, true, true, true, true, true, true, true, true, true, true, true, true, true, true, true, true, true, false, false, false] rfl rfl (take_ofW HT_.out HW_.out (by kernel_rfl)) (fun _ _ _ h => h) (Or.inl ⟨by rfl, ?_⟩) hHeld ?_ ?_
                                     rotate_left
                                     ·rintro w' ⟨s0, s1⟩
                                      go_simp
                                      with_reducible rfl
                                     rotate_left
                                     ·simp only [Act.put, List.setIfInBounds_toArray, List.set_cons_zero, List.set_cons_succ, i64_w, i32_w]
                                      rfl
                                     refine one_ (i := 32) (N := some 143) #[true, true, true, true, true, true, true, true, true, true, true, true, true, true, true, true, true, true, true, true, true, true, true, true, true, true, true, true, true, true, true, true, true, false, false] rfl rfl (one_of HT_.out (by kernel_rfl)) (by decide) (fun K hK => ?_)
                                     refine goes_ Tryd.func17 (by kernel_rfl) rfl #[.slice A766_0 (rd_L1 t757 x12_7).length c766_0, .slice A767_0 (rd_L1 t762 (ji50)).length c767_0] (by rfl) rfl rfl (by (try simp only [List.map_toArray, List.map_cons, List.map_nil]); first | done | (simp only [hji50]; rfl) | rfl | (simp only [List.length_drop, List.length_take]; rfl)) ?_
                                     with_reducible refine (torusref07_Cmp.calls kj35 _ _ (rd_L1 t757 x12_7) _ _ (rd_L1 t762 (ji50)) t768 _ ?side1 ?side2 ?side3 ?side4 A53.out).mono ?_
                                     (case side1 => repeat (first | exact (by repeat (first | (with_reducible exact HR766_0.out) | (with_reducible refine Kd.C_alloc ?_ _) | (with_reducible refine Kd.C_drewN ?_ _) | (with_reducible refine Kd.C_drew ?_) | exact HR766_0.out)) | (with_reducible refine Kd.C_alloc ?_ _) | (with_reducible refine Kd.C_drewN ?_ _) | (with_reducible refine Kd.C_drew ?_)))
                                     (case side2 => exact HC766_0.out)
                                     (case side3 => repeat (first | exact (by repeat (first | (with_reducible exact HR767_0.out) | (with_reducible refine Kd.C_alloc ?_ _) | (with_reducible refine Kd.C_drewN ?_ _) | (with_reducible refine Kd.C_drew ?_) | exact HR767_0.out)) | (with_reducible refine Kd.C_alloc ?_ _) | (with_reducible refine Kd.C_drewN ?_ _) | (with_reducible refine Kd.C_drew ?_)))
                                     (case side4 => exact HC767_0.out)
                                     rintro e w' ⟨rfl, ⟨nd, rfl⟩⟩
                                     refine ⟨_, rfl, ?_⟩
                                     refine hK.out _ _ ⟨hHeld.1, hHeld.2⟩ (fun hHeld => ?_)
                                     clear hK K
                                     refine norm_ (a' := ?_) ?_ ?_
                                     rotate_left
                                     ·show Act.put _ (some 143) _ = _
                                      simp only [Act.put, List.setIfInBounds_toArray, List.set_cons_zero, List.set_cons_succ, i64_w, i32_w]
                                      rfl
                                     refine pure_ (i := 33) (N := some 144) (v := ?_) (a' := ?_) #[true, true, true, true, true, true, true, true, true, true, true, true, true, true, true, true, true, true, true, true, true, true, true, true, true, true, true, true, true, true, true, true, true, true, false] rfl rfl (any_of HT_.out (by kernel_rfl)) (fun _ _ _ h => h) (Or.inl ⟨by rfl, ?_⟩) ?_ ?_
                                     rotate_left
                                     ·intro w'
                                      go_simp
                                      with_reducible rfl
                                     rotate_left
                                     ·simp only [Act.put, List.setIfInBounds_toArray, List.set_cons_zero, List.set_cons_succ, i64_w, i32_w]
                                      rfl
                                     refine pure_ (i := 34) (N := some 145) (v := ?_) (a' := ?_) #[true, true, true, true, true, true, true, true, true, true, true, true, true, true, true, true, true, true, true, true, true, true, true, true, true, true, true, true, true, true, true, true, true, true, true] rfl rfl (any_of HT_.out (by kernel_rfl)) (fun _ _ _ h => h) (Or.inl ⟨by rfl, ?_⟩) ?_ ?_
                                     rotate_left
                                     ·intro w'
                                      go_simp
                                      with_reducible rfl
                                     rotate_left
                                     ·simp only [Act.put, List.setIfInBounds_toArray, List.set_cons_zero, List.set_cons_succ, i64_w, i32_w]
                                      rfl
                                     refine done_ (done_of HT_.out (by kernel_rfl)) ?_
                                     try go_wp2
                                     go_roundg kj35
                                     case measure => have := HJ1.out; have := HJ10.out; have := HK3.out; have := HJ18.out; have := HK5.out; have := HJ32.out; have := HK7.out; have := HJ35.out; omega
                                     case rel => exact ⟨(wrap64 (x12_7 + 1)), sd_, H', ⟨by have := HJ1.out; have := HJ10.out; have := HK3.out; have := HJ18.out; have := HK5.out; have := HJ32.out; have := HK7.out; have := HJ35.out; omega⟩, ⟨rRa_ HO_3.out⟩, ⟨by (with_reducible repeat (first | apply Kd.S_alloc | apply Kd.S_drewN | apply Kd.S_drew)); exact Kd.S_mono HO_4.out (fun _ hk => hk.1.1)⟩, ⟨by repeat (first | (with_reducible exact HR749_0.out) | (with_reducible refine Kd.C_alloc ?_ _) | (with_reducible refine Kd.C_drewN ?_ _) | (with_reducible refine Kd.C_drew ?_) | exact HR749_0.out)⟩, ⟨bw_⟩⟩
                                    ·rw [if_neg c54] at H
                                     exact absurd H (by simp)
                                   ·rw [if_neg c52] at H
                                    exact absurd H (by simp)
                                  ·rw [if_neg c51] at H
                                   exact absurd H (by simp)
                                 ·rw [if_neg c49] at H
                                  exact absurd H (by simp)
                                ·rw [if_neg c48] at H
                                 have c48b0 : ((t762.length : Int) == (wrap64 ((t742.length : Int) - 1))) = false := beq_eq_false_iff_ne.mpr c48
                                 have c48b1 : ((t762.length : Int) != (wrap64 ((t742.length : Int) - 1))) = true := bne_iff_ne.mpr c48
                                 exact absurd H (by simp)
                               ·rw [if_neg c47] at H
                                have c47b0 : ((t757.length : Int) == (wrap64 ((t742.length : Int) - 1))) = false := beq_eq_false_iff_ne.mpr c47
                                have c47b1 : ((t757.length : Int) != (wrap64 ((t742.length : Int) - 1))) = true := bne_iff_ne.mpr c47
                                exact absurd H (by simp)
                              ·rw [if_neg c46] at H
                               have c46b0 : (t763 == 0) = false := beq_eq_false_iff_ne.mpr c46
                               have c46b1 : (t763 != 0) = true := bne_iff_ne.mpr c46
                               exact absurd H (by simp)
                             ·rw [if_neg c45] at H
                              have c45b0 : (t758 == 0) = false := beq_eq_false_iff_ne.mpr c45
                              have c45b1 : (t758 != 0) = true := bne_iff_ne.mpr c45
                              exact absurd H (by simp)
                            ·rw [if_neg c43] at H
                             exact absurd H (by simp)
                           ·rw [if_neg c42] at H
                            exact absurd H (by simp)
                          ·rw [if_neg c40] at H
                           exact absurd H (by simp)
                         ·rw [if_neg c39] at H
                          exact absurd H (by simp)
                        ·replace c38 := Bool.eq_false_iff.mpr c38
                         subst c38
                         have H1 : (toruslaw07_SimplexFacets.l0 kj35 t742 t745 (wrap64 (x6_3 + 1))) = some r := by rw [if_neg (show ¬ (false = true) by decide)] at H; exact H
                         clear H
                         have H := H1
                         clear H1
                         have H' := Aside0.mk H
                         clear H
                         go_wp2
                         go_roundg kj35
                         case measure => have := HJ1.out; have := HJ10.out; have := HK3.out; have := HJ18.out; have := HK5.out; have := HJ32.out; have := HK7.out; have := HJ35.out; omega
                         case rel => exact ⟨(wrap64 (x6_3 + 1)), sd_, H', ⟨by have := HJ1.out; have := HJ10.out; have := HK3.out; have := HJ18.out; have := HK5.out; have := HJ32.out; have := HK7.out; have := HJ35.out; omega⟩, ⟨rRa_ HO_3.out⟩, ⟨rSa_ HO_4.out⟩, ⟨bw_⟩⟩
             ·rw [if_neg c23] at H
              exact absurd H (by simp)
            ·rw [if_neg c22] at H
             exact absurd H (by simp)
           ·replace c21 := Bool.eq_false_iff.mpr c21
            subst c21
            have H1 : (some true) = some r := by rw [if_neg (show ¬ (false = true) by decide)] at H; exact H
            clear H
            have H := H1
            clear H1
            first
            |with_reducible exact absurd ((Option.some.inj H).trans hrt.out) Bool.false_ne_true
            |skip
             obtain rfl := Option.some.inj H
             go_wp2
             go_ret
             exact ⟨by first | rfl | (simp [errW_none, errW_some] <;> rfl) | (simp [*, errW_none, errW_some] <;> rfl), bw_⟩

/-- THE ONE PURE STATEMENT of toruslaw07_SimplexFacets: yours. -/
def toruslaw07_SimplexFacets.Pure : Prop := ∀ (l0 : List Int), l0.length ≤ maxLen → l0.length * 8 ≤ 140737488351232 → (∀ x ∈ l0, (Lit.int .i64 x).wf = true) → ∃ k, toruslaw07_SimplexFacets.f k l0 = some true
theorem toruslaw07_SimplexFacets.walk (P : toruslaw07_SimplexFacets.Pure) (a0 : Option Addr) (len0 cap0 : Nat) (z0 : List Int) (w : World) (hg : Aside0 (Glob w)) (w0 : (a0 = none ∧ len0 = 0 ∧ cap0 = 0 ∧ z0 = []) ∨ ∃ x, a0 = some x ∧ len0 ≤ cap0 ∧ cap0 ≤ maxLen ∧ z0.length = cap0 ∧ (∀ i, i < z0.length → w.cell? (x.add i) = some (.int .i64 (z0.getD i 0))) ∧ ∀ n ∈ z0, (Lit.int .i64 n).wf = true) (y0 : len0 * 8 ≤ 140737488351232) :
  Calls Tryd.prog 11 #[.slice a0 len0 cap0] w fun e w' => e = .returned (.bool true) ∧ Below w.heap.size w w' := by
 obtain ⟨l0, rfl, hr0, hm0, hw0, hc0⟩ := ReadsInt.ofRowC w0
 obtain ⟨k, h⟩ := P l0 hm0 y0 hw0
 refine (toruslaw07_SimplexFacets.calls k _ _ l0 true w (Kd.C_of_reads (d := (0 : Int)) (h1 := fun _ => rfl) hr0) hc0 hg ⟨rfl⟩ h).mono ?_
 rintro e w' ⟨rfl, hd⟩
 exact ⟨rfl, hd⟩

end Go.Proofs.YticckanjfdcpaaaDoor.PSimplex
namespace Go.Proofs.YticckanjfdcpaaaDoor.PSimplex
open Go.RowKit Go.Proofs.YticckanjfdcpaaaDoorW.PrintWords Go.Proofs.YticckanjfdcpaaaDoorW.PrintLast Go.Proofs.YticckanjfdcpaaaDoorW.PrintMore
set_option linter.unusedVariables false
set_option linter.unusedSimpArgs false
set_option maxRecDepth 100000
theorem awake_now : toruslaw07_awake.f 100 = some true := by decide +kernel
theorem wrap_id {a : Int} (h0 : -9223372036854775808 ≤ a) (h1 : a ≤ 9223372036854775807) : wrap64 a = a := by unfold wrap64; omega
theorem ev_bind {α β : Type} {g : Nat → Option α} {f : Nat → α → Option β} {a : α} {r : β} (h : Ev g a) : Ev (fun n => (g n).bind (f n)) r ↔ Ev (fun n => f n a) r := by
  refine ⟨fun hb => ?_, fun hf => Ev.bind h hf⟩
  obtain ⟨K, h⟩ := h
  obtain ⟨K', hb⟩ := hb
  refine ⟨max K K', fun n hn => ?_⟩
  have h2 : (g n).bind (f n) = some r := hb n (by omega)
  rw [h n (by omega)] at h2
  exact h2
theorem ev_succ {α : Type} {g : Nat → Option α} {r : α} (h : Ev (fun k => g (k + 1)) r) : Ev g r := Ev.step (fun _ => rfl) h
theorem awake_ev : Ev (fun k => toruslaw07_awake.f k) true := Ev.of toruslaw07_awake.mono (k := 100) awake_now

/-! ### The order -/
/-- The first difference of two lists. -/
def lex : List Int → List Int → Int
  | x :: xs, y :: ys => if x < y then -1 else if y < x then 1 else lex xs ys
  | _, _ => 0
/-- Lists by length, then by the first difference. -/
def cm (a b : List Int) : Int := if a.length < b.length then -1 else if b.length < a.length then 1 else lex a b
theorem lex_cons (x y : Int) (xs ys : List Int) : lex (x :: xs) (y :: ys) = if x < y then -1 else if y < x then 1 else lex xs ys := rfl
theorem lex_self : ∀ a, lex a a = 0
  | [] => rfl
  | x :: xs => by simp [lex, lex_self xs]
theorem lex_swap : ∀ a b, lex b a = -lex a b
  | [], [] => rfl
  | [], _ :: _ => rfl
  | _ :: _, [] => rfl
  | x :: xs, y :: ys => by
    have := lex_swap xs ys
    unfold lex
    split <;> split <;> (try split) <;> omega
theorem lex_range : ∀ a b, lex a b = -1 ∨ lex a b = 0 ∨ lex a b = 1
  | [], [] => by simp [lex]
  | [], _ :: _ => by simp [lex]
  | _ :: _, [] => by simp [lex]
  | x :: xs, y :: ys => by
    have := lex_range xs ys
    unfold lex
    split
    · simp
    · split
      · simp
      · exact this
theorem lex_eq : ∀ a b, a.length = b.length → lex a b = 0 → a = b
  | [], [], _, _ => rfl
  | x :: xs, y :: ys, h, e => by
    unfold lex at e
    split at e
    · simp at e
    · split at e
      · simp at e
      · rw [lex_eq xs ys (by simpa using h) e]
        congr 1
        omega
theorem lex_le : ∀ a b c, a.length = b.length → b.length = c.length → lex a b ≤ 0 → lex b c ≤ 0 → lex a c ≤ 0
  | [], [], [], _, _, _, _ => by simp [lex]
  | x :: xs, y :: ys, z :: zs, h, h', e, e' => by
    have ih := lex_le xs ys zs (by simpa using h) (by simpa using h')
    unfold lex at e e' ⊢
    split at e <;> split at e' <;> split <;> (try split) <;> (try split at e) <;> (try split at e') <;> first | omega | (exact ih e e') | skip
theorem cm_self (a : List Int) : cm a a = 0 := by simp [cm, lex_self]
theorem cm_swap (a b : List Int) : cm b a = -cm a b := by
  have := lex_swap a b
  unfold cm
  split <;> split <;> omega
theorem cm_range (a b : List Int) : cm a b = -1 ∨ cm a b = 0 ∨ cm a b = 1 := by
  have := lex_range a b
  unfold cm
  split
  · simp
  · split
    · simp
    · exact this
theorem cm_eq (a b : List Int) (h : cm a b = 0) : a = b := by
  unfold cm at h
  split at h
  · simp at h
  · split at h
    · simp at h
    · exact lex_eq a b (by omega) h
theorem cm_le (a b c : List Int) (h : cm a b ≤ 0) (h' : cm b c ≤ 0) : cm a c ≤ 0 := by
  have := lex_le a b c
  unfold cm at h h' ⊢
  split at h <;> split at h' <;> (try split at h) <;> (try split at h') <;> split <;> (try split) <;> first | omega | (exact this (by omega) (by omega) h h')

theorem drop_cons (a : List Int) (i : Nat) (h : i < a.length) : a.drop i = rd a (i : Int) :: a.drop (i + 1) := by
  rw [List.drop_eq_getElem_cons h]
  simp [rd, h]
theorem rcmp_l (a b : List Int) (he : a.length = b.length) (hl : a.length ≤ 9223372036854775806) : ∀ (m i k : Nat), m = a.length - i → m < k → i ≤ a.length →
    torusref07_Cmp.l0 k a b (i : Int) = some (lex (a.drop i) (b.drop i))
  | 0, i, k + 1, hm, hk, hi => by
    have e : ¬ ((i : Int) < (a.length : Int)) := by omega
    unfold torusref07_Cmp.l0
    rw [if_neg e, List.drop_of_length_le (by omega), List.drop_of_length_le (by omega)]
    rfl
  | m + 1, i, k + 1, hm, hk, hi => by
    have ih := rcmp_l a b he hl m (i + 1) k (by omega) (by omega) (by omega)
    have w : wrap64 ((i : Int) + 1) = ((i + 1 : Nat) : Int) := by rw [wrap_id (by omega) (by omega)]; omega
    unfold torusref07_Cmp.l0
    rw [if_pos (by omega), if_pos (by omega), if_pos (by omega), drop_cons a i (by omega), drop_cons b i (by omega), w, ih, lex_cons]
    by_cases c : rd a (i : Int) < rd b (i : Int)
    · rw [if_pos c, if_pos c]
    · rw [if_neg c, if_neg c]
      by_cases c' : rd b (i : Int) < rd a (i : Int)
      · rw [if_pos c', if_pos c']
      · rw [if_neg c', if_neg c']
theorem rcmp_ev (a b : List Int) (hl : a.length ≤ 9223372036854775806) : Ev (fun k => torusref07_Cmp.f k a b) (cm a b) := by
  refine Ev.of (torusref07_Cmp.mono a b) (k := a.length + 1) ?_
  unfold torusref07_Cmp.f cm
  by_cases c : (a.length : Int) = (b.length : Int)
  · rw [if_pos c, if_neg (by omega), if_neg (by omega)]
    simpa using rcmp_l a b (by omega) hl a.length 0 (a.length + 1) (by omega) (by omega) (by omega)
  · rw [if_neg c]
    by_cases c' : (a.length : Int) < (b.length : Int)
    · rw [if_pos c', if_pos (by omega)]
    · rw [if_neg c', if_neg (by omega), if_pos (by omega)]
theorem ccmp (a b : Int) : cmp_Compare_int.f a b = some (if a < b then -1 else if b < a then 1 else 0) := by
  have h : ∀ x : Int, cmp_isNaN_int.f x = some false := fun x => by simp [cmp_isNaN_int.f]
  unfold cmp_Compare_int.f
  rw [h, h]
  simp only [Option.bind_some]
  rw [if_neg (by simp), if_neg (by simp)]
  split
  · rfl
  · split <;> rfl
theorem scmp_l (a b : List Int) (he : a.length = b.length) (hl : a.length ≤ 9223372036854775806) : ∀ (m i k : Nat), m = a.length - i → m < k → i ≤ a.length →
    api_Simplex_int_45.l0 k a b a (a.length : Int) (i : Int) = some (lex (a.drop i) (b.drop i))
  | 0, i, k + 1, hm, hk, hi => by
    unfold api_Simplex_int_45.l0
    rw [if_neg (by omega), if_neg (by omega), List.drop_of_length_le (by omega), List.drop_of_length_le (by omega)]
    rfl
  | m + 1, i, k + 1, hm, hk, hi => by
    have ih := scmp_l a b he hl m (i + 1) k (by omega) (by omega) (by omega)
    have w : wrap64 ((i : Int) + 1) = ((i + 1 : Nat) : Int) := by rw [wrap_id (by omega) (by omega)]; omega
    unfold api_Simplex_int_45.l0
    rw [if_pos (by omega), if_pos (by omega), if_pos (by omega), if_neg (by omega), if_pos (by omega), ccmp, drop_cons a i (by omega), drop_cons b i (by omega), w, ih, lex_cons]
    simp only [Option.bind_some]
    by_cases c : rd a (i : Int) < rd b (i : Int)
    · rw [if_pos c, if_pos c]; rfl
    · rw [if_neg c, if_neg c]
      by_cases c' : rd b (i : Int) < rd a (i : Int)
      · rw [if_pos c', if_pos c']; rfl
      · rw [if_neg c', if_neg c', if_pos rfl]
theorem scmp_ev (a b : List Int) (hl : a.length ≤ 9223372036854775806) : Ev (fun k => simplex_Cmp.f k a b) (cm a b) := by
  refine Ev.of (simplex_Cmp.mono a b) (k := a.length + 1) ?_
  unfold simplex_Cmp.f cm
  rw [ccmp]
  simp only [Option.bind_some]
  by_cases c : (a.length : Int) < (b.length : Int)
  · rw [if_pos c, if_neg (by decide), if_pos (by omega)]
  · rw [if_neg c]
    by_cases c' : (b.length : Int) < (a.length : Int)
    · rw [if_pos c', if_neg (by decide), if_neg (by omega), if_pos (by omega)]
    · rw [if_neg c', if_pos rfl, if_neg (by omega), if_neg (by omega)]
      unfold api_Simplex_int_45.f
      have := scmp_l a b (by omega) hl a.length 0 (a.length + 1) (by omega) (by omega) (by omega)
      simp only [List.drop_zero] at this
      rw [show ((0 : Nat) : Int) = 0 from rfl] at this
      rw [this]
      rfl

theorem law_long {α : Type} {g : Nat → Option α} {f : Nat → α → Option Bool} {a : α} (h : Ev g a) (hf : Ev (fun n => f n a) true) : Ev (fun n => (g n).bind (f n)) true := (ev_bind h).mpr hf
end Go.Proofs.YticckanjfdcpaaaDoor.PSimplex
