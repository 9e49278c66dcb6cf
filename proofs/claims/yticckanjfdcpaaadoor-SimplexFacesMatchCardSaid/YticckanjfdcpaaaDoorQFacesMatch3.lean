/- Go functions as plain Lean functions, each with a proof that the Go code computes just that, and facts on them; conditions: those that each theorem states. -/
import Derived.Test.YticckanjfdcpaaaDoorQFacesMatch2
import Derived.Lib.AppendZeros
import Derived.Lib.AppendZerosOnto
import Derived.Lib.Overlaps
import Derived.Laws.Externs
import Derived.Laws.CopyOwn
import Derived.StillTailTactics
import Derived.WalkKit
namespace Go.Proofs.YticckanjfdcpaaaDoor.PSimplex
open Go.RowKit Go.Proofs.YticckanjfdcpaaaDoorW.PrintWords Go.Proofs.YticckanjfdcpaaaDoorW.PrintLast Go.Proofs.YticckanjfdcpaaaDoorW.PrintMore
attribute [local go_sem] max2_int min2_int max_two min_two max_three min_three max_four min_four   -- for this text's walks alone
set_option linter.unusedVariables false
set_option linter.unusedSimpArgs false

/-! ### torusref07_Sorted: function 43 -/
mutual
def torusref07_Sorted.l0 : Nat → List Int → Int → Int → Option (List Int × Int)
 |0, _, _, _ => none
 |k + 1, x4, x5, x6 => if x6 < (x4.length : Int) then (torusref07_Sorted.l1 k x4 x5 x6 x6) else (some (x4, x5))
def torusref07_Sorted.l1 : Nat → List Int → Int → Int → Int → Option (List Int × Int)
 |0, _, _, _, _ => none
 |k + 1, x4, x5, x6, x7 => if x7 > 0 then (if 0 ≤ (wrap64 (x7 - 1)) then (if (wrap64 (x7 - 1)) < (x4.length : Int) then (if 0 ≤ x7 then (if x7 < (x4.length : Int) then (if (rd x4 (wrap64 (x7 - 1))) > (rd x4 x7) then (torusref07_Sorted.l1 k ((x4.set ((wrap64 (x7 - 1)) : Int).toNat (rd x4 x7)).set (x7 : Int).toNat (rd x4 (wrap64 (x7 - 1)))) (wrap64 (1 - x5)) x6 (wrap64 (x7 - 1))) else (torusref07_Sorted.l0 k x4 x5 (wrap64 (x6 + 1)))) else (none)) else (none)) else (none)) else (none)) else (torusref07_Sorted.l0 k x4 x5 (wrap64 (x6 + 1)))
end
def torusref07_Sorted.f (k : Nat) (l0 : List Int) : Option (List Int × Int) := (some (([] : List Int) : List Int)).bind fun y295 => (if y295.length + l0.length < 17592186044416 then (torusref07_Sorted.l0 k (y295 ++ l0) 0 0) else (none))
theorem torusref07_Sorted.mono_l : ∀ k, (∀ y0 y1 y2, LeO (torusref07_Sorted.l0 k y0 y1 y2) (torusref07_Sorted.l0 (k + 1) y0 y1 y2)) ∧ (∀ y0 y1 y2 y3, LeO (torusref07_Sorted.l1 k y0 y1 y2 y3) (torusref07_Sorted.l1 (k + 1) y0 y1 y2 y3))
 |0 => ⟨fun _ _ _ r h => by simp [torusref07_Sorted.l0] at h, fun _ _ _ _ r h => by simp [torusref07_Sorted.l1] at h⟩
 |k + 1 => by
  obtain ⟨ih0, ih1⟩ := torusref07_Sorted.mono_l k
  refine ⟨?_, ?_⟩
  ·intro y0 y1 y2
   unfold torusref07_Sorted.l0
   repeat' first
   |(with_reducible exact ih0 _ _ _)
   |(with_reducible exact ih1 _ _ _ _)
   |(with_reducible exact LeO.refl _)
   |(with_reducible exact LeO.none _)
   |(with_reducible refine LeO.ite ?_ ?_)
   |(with_reducible refine LeO.bind ?_ (fun _ => ?_))
  ·intro y0 y1 y2 y3
   unfold torusref07_Sorted.l1
   repeat' first
   |(with_reducible exact ih0 _ _ _)
   |(with_reducible exact ih1 _ _ _ _)
   |(with_reducible exact LeO.refl _)
   |(with_reducible exact LeO.none _)
   |(with_reducible refine LeO.ite ?_ ?_)
   |(with_reducible refine LeO.bind ?_ (fun _ => ?_))
theorem torusref07_Sorted.mono : ∀ a0 k, LeO (torusref07_Sorted.f k a0) (torusref07_Sorted.f (k + 1) a0) := by
 intro a0 k
 obtain ⟨ih0, ih1⟩ := torusref07_Sorted.mono_l k
 unfold torusref07_Sorted.f
 repeat' first
   |(with_reducible exact ih0 _ _ _)
   |(with_reducible exact ih1 _ _ _ _)
   |(with_reducible exact LeO.refl _)
   |(with_reducible exact LeO.none _)
   |(with_reducible refine LeO.ite ?_ ?_)
   |(with_reducible refine LeO.bind ?_ (fun _ => ?_))
def torusref07_Sorted.T7 : Bool × List (List Nat × List Nat) := (true, [([], []), ([0], [0]), ([1], [1]), ([2], [2]), ([2], [2]), ([4, 2], [2, 4]), ([3, 5, 2], [2, 3, 5]), ([6, 2], [2, 6]), ([2], [2]), ([2], [2]), ([8, 9, 2], [2, 8, 9]), ([10, 2], [2, 10]), ([7, 11, 2], [2, 7, 11]), ([2, 12], [2, 12])])
def torusref07_Sorted.B7 : List Nat := [0, 1, 3, 7, 7, 23, 63, 127, 7, 7, 775, 1799, 4095, 8191]
theorem torusref07_Sorted.tab7 : rtab .any (opsOf Tryd.f43 7) = torusref07_Sorted.T7 := by kernel_rfl
theorem torusref07_Sorted.bits7 : waitsOk torusref07_Sorted.T7.2 torusref07_Sorted.B7 = true := by kernel_rfl
def torusref07_Sorted.T9 : Bool × List (List Nat × List Nat) := (true, [([], []), ([], []), ([1], [1]), ([], []), ([], []), ([], []), ([], []), ([5, 6], [5, 6]), ([7], [7]), ([], []), ([], []), ([10], [10]), ([9, 11], [9, 11]), ([12], [12]), ([0, 2, 0, 1, 2, 5, 6, 7, 8, 13], [0, 2]), ([14, 8, 0, 1, 2, 5, 6, 7, 8, 13], [8, 14]), ([3, 4, 0, 1, 2, 3, 4, 5, 6, 7, 8, 9, 10, 11, 12, 13, 14, 15], [3, 4]), ([16, 13, 15, 0, 1, 2, 3, 4, 5, 6, 7, 8, 9, 10, 11, 12, 13, 14, 15], [13, 16])])
def torusref07_Sorted.B9 : List Nat := [0, 0, 2, 0, 0, 0, 0, 96, 224, 0, 0, 1024, 3584, 7680, 16359, 32743, 65535, 131071]
theorem torusref07_Sorted.tab9 : rtab .any (opsOf Tryd.f43 9) = torusref07_Sorted.T9 := by kernel_rfl
theorem torusref07_Sorted.bits9 : waitsOk torusref07_Sorted.T9.2 torusref07_Sorted.B9 = true := by kernel_rfl
set_option maxHeartbeats 8000000 in
set_option maxRecDepth 100000 in
theorem torusref07_Sorted.calls (k : Nat) (A0 : Option Addr) (c0 : Nat) (l0 : List Int) (r1 : List Int) (r2 : Int) (w : World) (hr0 : Kd.C (Kd.int .i64) w A0 l0.length l0) (hc0 : l0.length ≤ c0) (h : torusref07_Sorted.f k l0 = some (r1, r2)) :
  Calls Tryd.prog 43 #[.slice A0 l0.length c0] w fun e w' => ∃ v0_ : Value, e = .returned (.tuple #[v0_, .int .i64 r2]) ∧ Kd.R (Kd.int .i64) 3 w' w.heap.size (fun _ => True) v0_ r1 ∧ Below w.heap.size w w' := by
 have HR0 := Aside0.mk hr0
 have HC0 := Aside0.mk hc0
 clear hr0 hc0
 have HB := Aside0.mk (Below.refl w.heap.size w)
 have H : ((some (([] : List Int) : List Int)).bind fun y295 => (if y295.length + l0.length < 17592186044416 then (torusref07_Sorted.l0 k (y295 ++ l0) 0 0) else (none))) = some (r1, r2) := h
 clear h
 obtain ⟨y295, hy295⟩ : ∃ y_ : List Int, y_ = (([] : List Int)) := ⟨_, rfl⟩
 replace H : (if y295.length + l0.length < 17592186044416 then (torusref07_Sorted.l0 k (y295 ++ l0) 0 0) else (none)) = some (r1, r2) := by first | (rw [hy295]; with_reducible exact H) | (have H2_ := (Option.bind_some _ _).symm.trans H; rw [hy295]; with_reducible exact H2_) | (have H2_ := (Option.bind_some _ _).symm.trans H; with_reducible exact H2_) | with_reducible exact H | (rw [hy295]; exact H) | exact H
 have Ny295 := Aside0.mk hy295
 clear hy295
 by_cases c2 : y295.length + l0.length < 17592186044416
 ·rw [if_pos c2] at H
  have LMc2 := Aside0.mk c2
  clear c2
  obtain ⟨y298, hy298⟩ : ∃ y_ : List Int, y_ = (y295 ++ l0) := ⟨_, rfl⟩
  replace H : (torusref07_Sorted.l0 k y298 0 0) = some (r1, r2) := by first | (rw [hy298]; with_reducible exact H) | (have H2_ := (Option.bind_some _ _).symm.trans H; rw [hy298]; with_reducible exact H2_) | (have H2_ := (Option.bind_some _ _).symm.trans H; with_reducible exact H2_) | with_reducible exact H | (rw [hy298]; exact H) | exact H
  have Ny298 := Aside0.mk hy298
  clear hy298
  have H' := Aside0.mk H
  clear H
  go_enter Tryd.func43, Tryd.ntmps43
  go_wp2_with (first | ((with_reducible refine gate_dst (N := 8) rfl ?_); refine Kd.R_lit (Kd.int .i64) _ 3 ?hg (N := 8) ?hd (xs := ([] : List Int)) (inner := []) (ok := fun _ => True) (okp := fun _ => True) ?hr ?hp (fun _ hk => hk) trivial (Below.refl _ _) (Nat.le_refl _) (by simp) ?_; (case hd => rfl); (case hg => rfl); (case hr => first | (go_simp; done) | (go_simp; rfl)); (case hp => exact (Reps.none _ _)); intro v296 w3 ho4 hb hg_ hnew_; clear hg_ hnew_; (first | rw [← Ny295.out] at ho4 | (simp only [Int.reduceToNat] at ho4; rw [← Ny295.out] at ho4)); have n0_ := Aside0.mk (Kd.R_lower ho4 (below_size bw_)); have n1_ := Aside0.mk (below_step bw_ hb); clear HB; have HO297 := n0_; have HB := n1_; clear n0_ n1_; clear hb ho4) | ((with_reducible refine gate_builtin (b := .append) (xs := #[.tmp 8, .tmp 9]) rfl ?_); at_builtin; refine Kd.R_append_rows (Kd.int .i64) (w0 := w) w.heap.size rfl (.tmp 8) (.tmp 9) 22 3 (.int .i64 0) 8 rfl Tryd.underlying22 info3 rfl (by decide) (by omega) v296 y295 l0 _ _ _ (fun _ => True) (fun _ => False) rfl rfl ?aO ?aR (fun _ _ h => h) (fun _ h => h.elim) ?aF ?aB ?aS ?aL ?_; (case aR => exact cs_ (Kd.C_below HR0.out HB.out)); (case aB => exact bw_); (case aF => exact (fun _ _ => trivial)); (case aO => exact (rRa_ HO297.out)); (case aS => exact (below_size bw_)); (case aL => have := LMc2.out; omega); intro v299 w5 ho hb hg hat; rw [← Ny298.out] at ho; have n0_ := Aside0.mk (hb); have n1_ := Aside0.mk (ho); clear HB; clear HO297; have HB := n0_; have HO300 := n1_; clear n0_ n1_; clear ho hb hg hat))
  go_loopg [5, 6] k (fun kq v5 v6 w' => ∃ (x4_1 : List Int) (x5_1 : Int) (x6_1 : Int), v5 = .int .i64 x5_1 ∧ v6 = .int .i64 x6_1 ∧ Aside0 (torusref07_Sorted.l0 kq x4_1 x5_1 x6_1 = some (r1, r2)) ∧ Aside0 (kq ≤ k) ∧ Aside0 (Kd.R (Kd.int .i64) 3 w' w.heap.size (fun _ => True) v299 x4_1) ∧ Aside0 (Below w.heap.size w w'))
  case atStart => exact ⟨(y298), (0), (0), sd_, sd_, H', ⟨Nat.le_refl _⟩, ⟨rRa_ HO300.out⟩, ⟨bw_⟩⟩
  case round =>
   clear H'
   try clear c2
   try clear p2
   try clear c4
   obtain ⟨x4_1, x5_1, x6_1, rfl, rfl, HA, HK1, HO_4, HB⟩ := hrel
   cases gk with
   |zero => exact absurd HA.out (by simp [torusref07_Sorted.l0])
   |succ k1 =>
    have H := HA.out
    clear HA
    simp only [torusref07_Sorted.l0] at H
    by_cases c6 : x6_1 < (x4_1.length : Int)
    ·rw [if_pos c6] at H
     have c6b0 : decide (x6_1 < (x4_1.length : Int)) = true := decide_eq_true c6
     clear c6
     have H' := Aside0.mk H
     clear H
     obtain ⟨Ao7, co7, eo7⟩ := Kd.R_slice HO_4.out
     subst eo7
     go_wp2
     go_loopg [5, 7] k1 (fun kq v5 v7 w' => ∃ (x4_2 : List Int) (x5_2 : Int) (x7_2 : Int), v5 = .int .i64 x5_2 ∧ v7 = .int .i64 x7_2 ∧ Aside0 (torusref07_Sorted.l1 kq x4_2 x5_2 x6_1 x7_2 = some (r1, r2)) ∧ Aside0 (kq ≤ k1) ∧ Aside0 (Kd.R (Kd.int .i64) 3 w' w.heap.size (fun _ => True) (.slice Ao7 x4_1.length co7) x4_2) ∧ Aside0 (Below w.heap.size w w'))
     case atStart => exact ⟨(x4_1), (x5_1), (x6_1), sd_, sd_, H', ⟨Nat.le_refl _⟩, ⟨rRa_ HO_4.out⟩, ⟨bw_⟩⟩
     case round =>
      clear H'
      try clear c2
      try clear p2
      try clear c4
      try clear c6
      try clear c6b0
      try clear p2
      obtain ⟨x4_2, x5_2, x7_2, rfl, rfl, HA, HK2, HO_4, HB⟩ := hrel
      have hl4_2 := (Kd.R_reads' HO_4.out).1
      rw [hl4_2] at HO_4
      (try simp only [hl4_2])
      cases gk with
      |zero => exact absurd HA.out (by simp [torusref07_Sorted.l1])
      |succ k2 =>
       have H := HA.out
       clear HA
       simp only [torusref07_Sorted.l1] at H
       by_cases c8 : x7_2 > 0
       ·rw [if_pos c8] at H
        have c8b0 : decide (0 < x7_2) = true := decide_eq_true c8
        clear c8
        obtain ⟨ji9, hji9⟩ : ∃ j_ : Int, (wrap64 (x7_2 - 1)) = j_ := ⟨_, rfl⟩
        replace H : (if 0 ≤ (ji9) then (if (ji9) < (x4_2.length : Int) then (if 0 ≤ x7_2 then (if x7_2 < (x4_2.length : Int) then (if (rd x4_2 (ji9)) > (rd x4_2 x7_2) then (torusref07_Sorted.l1 k2 ((x4_2.set ((ji9) : Int).toNat (rd x4_2 x7_2)).set (x7_2 : Int).toNat (rd x4_2 (ji9))) (wrap64 (1 - x5_2)) x6_1 ji9) else (torusref07_Sorted.l0 k2 x4_2 x5_2 (wrap64 (x6_1 + 1)))) else (none)) else (none)) else (none)) else (none)) = some (r1, r2) := by first | (rw [hji9] at H; exact H) | (simp only [hji9] at H ⊢; exact H)
        have hji9w : (IntKind.i64.wrap (x7_2 - 1)) = ji9 := (i64_w _).trans hji9
        by_cases c10 : 0 ≤ (ji9)
        ·rw [if_pos c10] at H
         have c10b0 : decide (0 ≤ (ji9)) = true := decide_eq_true c10
         clear c10
         by_cases c11 : (ji9) < (x4_2.length : Int)
         ·rw [if_pos c11] at H
          have c11b0 : decide ((ji9) < (x4_2.length : Int)) = true := decide_eq_true c11
          clear c11
          by_cases c12 : 0 ≤ x7_2
          ·rw [if_pos c12] at H
           have c12b0 : decide (0 ≤ x7_2) = true := decide_eq_true c12
           clear c12
           by_cases c13 : x7_2 < (x4_2.length : Int)
           ·rw [if_pos c13] at H
            have c13b0 : decide (x7_2 < (x4_2.length : Int)) = true := decide_eq_true c13
            clear c13
            by_cases c14 : (rd x4_2 (ji9)) > (rd x4_2 x7_2)
            ·rw [if_pos c14] at H
             have c14b0 : decide ((rd x4_2 x7_2) < (rd x4_2 (ji9))) = true := decide_eq_true c14
             clear c14
             obtain ⟨y305, hy305⟩ : ∃ y_ : List Int, y_ = (x4_2.set ((ji9) : Int).toNat (rd x4_2 x7_2)) := ⟨_, rfl⟩
             replace H : (torusref07_Sorted.l1 k2 (y305.set (x7_2 : Int).toNat (rd x4_2 (ji9))) (wrap64 (1 - x5_2)) x6_1 ji9) = some (r1, r2) := by first | (rw [hy305]; with_reducible exact H) | (have H2_ := (Option.bind_some _ _).symm.trans H; rw [hy305]; with_reducible exact H2_) | (have H2_ := (Option.bind_some _ _).symm.trans H; with_reducible exact H2_) | with_reducible exact H | (rw [hy305]; exact H) | exact H
             have Ny305 := Aside0.mk hy305
             clear hy305
             obtain ⟨y306, hy306⟩ : ∃ y_ : List Int, y_ = (y305.set (x7_2 : Int).toNat (rd x4_2 (ji9))) := ⟨_, rfl⟩
             replace H : (torusref07_Sorted.l1 k2 y306 (wrap64 (1 - x5_2)) x6_1 ji9) = some (r1, r2) := by first | (rw [hy306]; with_reducible exact H) | (have H2_ := (Option.bind_some _ _).symm.trans H; rw [hy306]; with_reducible exact H2_) | (have H2_ := (Option.bind_some _ _).symm.trans H; with_reducible exact H2_) | with_reducible exact H | (rw [hy306]; exact H) | exact H
             have Ny306 := Aside0.mk hy306
             clear hy306
             have H' := Aside0.mk H
             clear H
             try go_wp2
             have n0_ := Aside0.mk (Kd.R_drew HO_4.out)
             have n1_ := Aside0.mk (below_drew1 HB.out)
             clear HO_4
             clear HB
             have HO_4 := n0_
             have HB := n1_
             clear n0_ n1_
             have p301 : 0 ≤ ((ji9) : Int) := of_decide_eq_true as_
             have q301 : (ji9) < (x4_2.length : Int) := of_decide_eq_true as_
             obtain ⟨ad301, e301, hx301_0⟩ := Kd.at_int (Kd.R_reads' HO_4.out).2.2 (ji9) p301 q301
             cases e301
             replace p301 := eq_true p301
             replace q301 := eq_true q301
             have p302 : 0 ≤ (x7_2 : Int) := of_decide_eq_true as_
             have q302 : x7_2 < (x4_2.length : Int) := of_decide_eq_true as_
             obtain ⟨ad302, e302, hx302_0⟩ := Kd.at_int (Kd.R_reads' HO_4.out).2.2 x7_2 p302 q302
             obtain rfl : ad301 = ad302 := (by injection e302)
             replace p302 := eq_true p302
             replace q302 := eq_true q302
             refine start_ (n := 14) (S := fun w' => w'.cell? (ad301.add ((ji9)).toNat) = some (.int .i64 (rd x4_2 (ji9))) ∧ w'.cell? (ad301.add (x7_2).toNat) = some (.int .i64 (rd x4_2 x7_2))) (ds := []) #[false, false, false, false, false, false, false, false, false, false, false, false, false, false] (by kernel_rfl) rfl rfl ⟨hx301_0, hx302_0⟩ (fun hHeld => ?_); refine with_tabW torusref07_Sorted.tab7 torusref07_Sorted.bits7 (fun HT_ HW_ => ?_)
             generalize wr.drew = w17 at HO_4 HB hx301_0 hx302_0 hHeld ⊢
             refine pure_ (i := 0) (N := some 18) (v := ?_) (a' := ?_) #[true, false, false, false, false, false, false, false, false, false, false, false, false, false] rfl rfl (any_of HT_.out (by kernel_rfl)) (fun _ _ _ h => h) (Or.inl ⟨by rfl, ?_⟩) ?_ ?_
             rotate_left
             ·intro w'
              go_simp
              with_reducible rfl
             rotate_left
             ·simp only [Act.put, List.setIfInBounds_toArray, List.set_cons_zero, List.set_cons_succ, i64_w, i32_w]
              rfl
             refine pure_ (i := 1) (N := some 19) (v := ?_) (a' := ?_) #[true, true, false, false, false, false, false, false, false, false, false, false, false, false] rfl rfl (any_of HT_.out (by kernel_rfl)) (fun _ _ _ h => h) (Or.inl ⟨by rfl, ?_⟩) ?_ ?_
             rotate_left
             ·intro w'
              go_simp
              with_reducible rfl
             rotate_left
             ·simp only [Act.put, List.setIfInBounds_toArray, List.set_cons_zero, List.set_cons_succ, i64_w, i32_w]
              rfl
             refine pure_ (i := 2) (N := some 20) (v := ?_) (a' := ?_) #[true, true, true, false, false, false, false, false, false, false, false, false, false, false] rfl rfl (any_of HT_.out (by kernel_rfl)) (fun _ _ _ h => h) (Or.inl ⟨by rfl, ?_⟩) ?_ ?_
             rotate_left
             ·intro w'
              go_simp
              with_reducible rfl
             rotate_left
             ·simp only [Act.put, List.setIfInBounds_toArray, List.set_cons_zero, List.set_cons_succ, i64_w, i32_w]
              rfl
             refine pure_ (i := 3) (N := some 21) (v := ?_) (a' := ?_) #[true, true, true, true, false, false, false, false, false, false, false, false, false, false] rfl rfl (any_of HT_.out (by kernel_rfl)) (fun _ _ _ h => h) (Or.inl ⟨by rfl, ?_⟩) ?_ ?_
             rotate_left
             ·intro w'
              go_simp
              with_reducible rfl
             rotate_left
             ·simp only [Act.put, List.setIfInBounds_toArray, List.set_cons_zero, List.set_cons_succ, i64_w, i32_w]
              rfl
             refine pure_ (i := 4) (N := some 22) (v := ?_) (a' := ?_) #[true, true, true, true, true, false, false, false, false, false, false, false, false, false] rfl rfl (any_of HT_.out (by kernel_rfl)) (fun _ _ _ h => h) (Or.inl ⟨by rfl, ?_⟩) ?_ ?_
             rotate_left
             ·intro w'
              go_simp
              with_reducible rfl
             rotate_left
             ·simp only [Act.put, List.setIfInBounds_toArray, List.set_cons_zero, List.set_cons_succ, i64_w, i32_w]
              rfl
             refine pure_ (i := 5) (N := some 23) (v := ?_) (a' := ?_) #[true, true, true, true, true, true, false, false, false, false, false, false, false, false] rfl rfl (any_of HT_.out (by kernel_rfl)) (fun _ _ _ h => h) (Or.inl ⟨by rfl, ?_⟩) ?_ ?_
             rotate_left
             ·intro w'
              go_simp
              with_reducible rfl
             rotate_left
             ·simp only [Act.put, List.setIfInBounds_toArray, List.set_cons_zero, List.set_cons_succ, i64_w, i32_w]
              rfl
             refine pure_ (i := 6) (N := some 24) (v := ?_) (a' := ?_) #[true, true, true, true, true, true, true, false, false, false, false, false, false, false] rfl rfl (any_of HT_.out (by kernel_rfl)) (fun _ _ _ h => h) (Or.inl ⟨by rfl, ?_⟩) ?_ ?_
             rotate_left
             ·intro w'
              go_simp
              with_reducible rfl
             rotate_left
             ·simp only [Act.put, List.setIfInBounds_toArray, List.set_cons_zero, List.set_cons_succ, i64_w, i32_w]
              rfl
             refine pure_ (i := 8) (N := some 26) (v := ?_) (a' := ?_) #[true, true, true, true, true, true, true, false, true, false, false, false, false, false] rfl rfl (any_of HT_.out (by kernel_rfl)) (fun _ _ _ h => h) (Or.inl ⟨by rfl, ?_⟩) ?_ ?_
             rotate_left
             ·intro w'
              go_simp
              with_reducible rfl
             rotate_left
             ·simp only [Act.put, List.setIfInBounds_toArray, List.set_cons_zero, List.set_cons_succ, i64_w, i32_w]
              rfl
             refine pure_ (i := 9) (N := some 27) (v := ?_) (a' := ?_) #[true, true, true, true, true, true, true, false, true, true, false, false, false, false] rfl rfl (any_of HT_.out (by kernel_rfl)) (fun _ _ _ h => h) (Or.inl ⟨by rfl, ?_⟩) ?_ ?_
             rotate_left
             ·intro w'
              go_simp
              with_reducible rfl
             rotate_left
             ·simp only [Act.put, List.setIfInBounds_toArray, List.set_cons_zero, List.set_cons_succ, i64_w, i32_w]
              rfl
             refine pure_ (i := 10) (N := some 28) (v := ?_) (a' := ?_) #[true, true, true, true, true, true, true, false, true, true, true, false, false, false] rfl rfl (any_of HT_.out (by kernel_rfl)) (fun _ _ _ h => h) (Or.inl ⟨by rfl, ?_⟩) ?_ ?_
             rotate_left
             ·intro w'
              go_simp
              with_reducible rfl
             rotate_left
             ·simp only [Act.put, List.setIfInBounds_toArray, List.set_cons_zero, List.set_cons_succ, i64_w, i32_w]
              rfl
             refine take_ (i := 7) (N := some 25) (v := ?_) (a' := ?_) #[true, true, true, true, true, true, true, true, true, true, true, false, false, false] rfl rfl (take_ofW HT_.out HW_.out (by kernel_rfl)) (fun _ _ _ h => h) (Or.inl ⟨by rfl, ?_⟩) hHeld ?_ ?_
             rotate_left
             ·rintro w' ⟨s0, s1⟩
              go_simp
              with_reducible rfl
             rotate_left
             ·simp only [Act.put, List.setIfInBounds_toArray, List.set_cons_zero, List.set_cons_succ, i64_w, i32_w]
              rfl
             refine take_ (i := 11) (N := some 29) (v := ?_) (a' := ?_) #[true, true, true, true, true, true, true, true, true, true, true, true, false, false] rfl rfl (take_ofW HT_.out HW_.out (by kernel_rfl)) (fun _ _ _ h => h) (Or.inl ⟨by rfl, ?_⟩) hHeld ?_ ?_
             rotate_left
             ·rintro w' ⟨s0, s1⟩
              go_simp
              with_reducible rfl
             rotate_left
             ·simp only [Act.put, List.setIfInBounds_toArray, List.set_cons_zero, List.set_cons_succ, i64_w, i32_w]
              rfl
             refine pure_ (i := 12) (N := some 30) (v := ?_) (a' := ?_) #[true, true, true, true, true, true, true, true, true, true, true, true, true, false] rfl rfl (any_of HT_.out (by kernel_rfl)) (fun _ _ _ h => h) (Or.inl ⟨by rfl, ?_⟩) ?_ ?_
             rotate_left
             ·intro w'
              go_simp
              with_reducible rfl
             rotate_left
             ·simp only [Act.put, List.setIfInBounds_toArray, List.set_cons_zero, List.set_cons_succ, i64_w, i32_w]
              rfl
             refine pure_ (i := 13) (N := some 31) (v := ?_) (a' := ?_) #[true, true, true, true, true, true, true, true, true, true, true, true, true, true] rfl rfl (any_of HT_.out (by kernel_rfl)) (fun _ _ _ h => h) (Or.inl ⟨by rfl, ?_⟩) ?_ ?_
             rotate_left
             ·intro w'
              go_simp
              with_reducible rfl
             rotate_left
             ·simp only [Act.put, List.setIfInBounds_toArray, List.set_cons_zero, List.set_cons_succ, i64_w, i32_w]
              rfl
             refine done_ (done_of HT_.out (by kernel_rfl)) ?_
             try go_wp2
             have n0_ := Aside0.mk (Kd.R_drew HO_4.out)
             have n1_ := Aside0.mk (below_drew1 HB.out)
             clear HO_4
             clear HB
             have HO_4 := n0_
             have HB := n1_
             clear n0_ n1_
             have p303 : 0 ≤ (x7_2 : Int) := of_decide_eq_true as_
             have q303 : x7_2 < (x4_2.length : Int) := of_decide_eq_true as_
             obtain ⟨ad303, e303, hx303_0⟩ := Kd.at_int (Kd.R_reads' HO_4.out).2.2 x7_2 p303 q303
             obtain rfl : ad301 = ad303 := (by injection e303)
             replace p303 := eq_true p303
             replace q303 := eq_true q303
             have p304 : 0 ≤ ((ji9) : Int) := of_decide_eq_true as_
             have q304 : (ji9) < (x4_2.length : Int) := of_decide_eq_true as_
             obtain ⟨ad304, e304, hx304_0⟩ := Kd.at_int (Kd.R_reads' HO_4.out).2.2 (ji9) p304 q304
             obtain rfl : ad301 = ad304 := (by injection e304)
             replace p304 := eq_true p304
             replace q304 := eq_true q304
             have p15 : 0 ≤ ((ji9) : Int) := of_decide_eq_true as_
             have q15 : ((ji9) : Int) < ((x4_2.length : Int) : Int) := of_decide_eq_true as_
             obtain ⟨go15, co15, eo15, gb15, gl15, cl15, HG15⟩ := Kd.R_form HO_4.out (by omega)
             (first | cases eo15 | (injection eo15 with ea_ en_ ec_; (first | subst ea_ | (injection ea_ with ea_; subst ea_)); subst ec_; clear en_))
             have GB15 := Aside0.mk gb15
             have GG15 := Aside0.mk HG15
             clear gb15 gl15 HG15
             (first | simp only [add_plain] at hx301_0 | skip)
             (first | simp only [add_plain] at hx302_0 | skip)
             (first | simp only [add_plain] at hx303_0 | skip)
             (first | simp only [add_plain] at hx304_0 | skip)
             obtain ⟨hx15_0, hf15_0⟩ := Kd.R_celln 0 HO_4.out ((ji9) : Int) p15 q15
             replace p15 := eq_true p15
             replace q15 := eq_true q15
             have HP19 := Kd.R_putn HO_4.out ((ji9) : Int) (rd x4_2 x7_2)
             rw [← Ny305.out] at HP19
             have HQ19 := Aside0.mk HP19
             clear HP19
             have p16 : 0 ≤ (x7_2 : Int) := of_decide_eq_true as_
             have q16 : (x7_2 : Int) < ((x4_2.length : Int) : Int) := of_decide_eq_true as_
             obtain ⟨hx16_0, hf16_0⟩ := Kd.R_celln 0 HQ19.out (x7_2 : Int) p16 q16
             replace p16 := eq_true p16
             replace q16 := eq_true q16
             have HP20 := Kd.R_putn HQ19.out (x7_2 : Int) (rd x4_2 (ji9))
             rw [← Ny306.out] at HP20
             have HQ20 := Aside0.mk HP20
             clear HP20
             refine start_ (n := 18) (S := fun w' => w'.cell? ⟨go15, (x7_2).toNat, none⟩ = some (.int .i64 (rd x4_2 x7_2)) ∧ w'.cell? ⟨go15, ((ji9)).toNat, none⟩ = some (.int .i64 (rd x4_2 (ji9)))) (ds := [15, 17]) #[false, false, false, false, false, false, false, false, false, false, false, false, false, false, false, false, false, false] (by kernel_rfl) rfl rfl ⟨hx303_0, hx304_0⟩ (fun hHeld => ?_); refine with_tabW torusref07_Sorted.tab9 torusref07_Sorted.bits9 (fun HT_ HW_ => ?_)
             generalize w17.drew = w18 at HO_4 HB GG15 HQ19 HQ20 hf15_0 hf16_0 hx15_0 hx16_0 hx301_0 hx302_0 hx303_0 hx304_0 hHeld ⊢
             refine pure_ (i := 0) (N := some 34) (v := ?_) (a' := ?_) #[true, false, false, false, false, false, false, false, false, false, false, false, false, false, false, false, false, false] rfl rfl (any_of HT_.out (by kernel_rfl)) (fun _ _ _ h => h) (Or.inl ⟨by rfl, ?_⟩) ?_ ?_
             rotate_left
             ·intro w'
              go_simp
              with_reducible rfl
             rotate_left
             ·simp only [Act.put, List.setIfInBounds_toArray, List.set_cons_zero, List.set_cons_succ, i64_w, i32_w]
              rfl
             refine pure_ (i := 1) (N := some 35) (v := ?_) (a' := ?_) #[true, true, false, false, false, false, false, false, false, false, false, false, false, false, false, false, false, false] rfl rfl (any_of HT_.out (by kernel_rfl)) (fun _ _ _ h => h) (Or.inl ⟨by rfl, ?_⟩) ?_ ?_
             rotate_left
             ·intro w'
              go_simp
              with_reducible rfl
             rotate_left
             ·simp only [Act.put, List.setIfInBounds_toArray, List.set_cons_zero, List.set_cons_succ, i64_w, i32_w]
              rfl
             refine pure_ (i := 2) (N := some 36) (v := ?_) (a' := ?_) #[true, true, true, false, false, false, false, false, false, false, false, false, false, false, false, false, false, false] rfl rfl (any_of HT_.out (by kernel_rfl)) (fun _ _ _ h => h) (Or.inl ⟨by rfl, ?_⟩) ?_ ?_
             rotate_left
             ·intro w'
              go_simp
              with_reducible rfl
             rotate_left
             ·simp only [Act.put, List.setIfInBounds_toArray, List.set_cons_zero, List.set_cons_succ, i64_w, i32_w]
              rfl
             refine pure_ (i := 3) (N := some 37) (v := ?_) (a' := ?_) #[true, true, true, true, false, false, false, false, false, false, false, false, false, false, false, false, false, false] rfl rfl (any_of HT_.out (by kernel_rfl)) (fun _ _ _ h => h) (Or.inl ⟨by rfl, ?_⟩) ?_ ?_
             rotate_left
             ·intro w'
              go_simp
              with_reducible rfl
             rotate_left
             ·simp only [Act.put, List.setIfInBounds_toArray, List.set_cons_zero, List.set_cons_succ, i64_w, i32_w]
              rfl
             refine pure_ (i := 4) (N := some 38) (v := ?_) (a' := ?_) #[true, true, true, true, true, false, false, false, false, false, false, false, false, false, false, false, false, false] rfl rfl (any_of HT_.out (by kernel_rfl)) (fun _ _ _ h => h) (Or.inl ⟨by rfl, ?_⟩) ?_ ?_
             rotate_left
             ·intro w'
              go_simp
              with_reducible rfl
             rotate_left
             ·simp only [Act.put, List.setIfInBounds_toArray, List.set_cons_zero, List.set_cons_succ, i64_w, i32_w]
              rfl
             refine pure_ (i := 5) (N := some 39) (v := ?_) (a' := ?_) #[true, true, true, true, true, true, false, false, false, false, false, false, false, false, false, false, false, false] rfl rfl (any_of HT_.out (by kernel_rfl)) (fun _ _ _ h => h) (Or.inl ⟨by rfl, ?_⟩) ?_ ?_
             rotate_left
             ·intro w'
              go_simp
              with_reducible rfl
             rotate_left
             ·simp only [Act.put, List.setIfInBounds_toArray, List.set_cons_zero, List.set_cons_succ, i64_w, i32_w]
              rfl
             refine pure_ (i := 6) (N := some 40) (v := ?_) (a' := ?_) #[true, true, true, true, true, true, true, false, false, false, false, false, false, false, false, false, false, false] rfl rfl (any_of HT_.out (by kernel_rfl)) (fun _ _ _ h => h) (Or.inl ⟨by rfl, ?_⟩) ?_ ?_
             rotate_left
             ·intro w'
              go_simp
              with_reducible rfl
             rotate_left
             ·simp only [Act.put, List.setIfInBounds_toArray, List.set_cons_zero, List.set_cons_succ, i64_w, i32_w]
              rfl
             refine pure_ (i := 7) (N := some 41) (v := ?_) (a' := ?_) #[true, true, true, true, true, true, true, true, false, false, false, false, false, false, false, false, false, false] rfl rfl (any_of HT_.out (by kernel_rfl)) (fun _ _ _ h => h) (Or.inl ⟨by rfl, ?_⟩) ?_ ?_
             rotate_left
             ·intro w'
              go_simp
              with_reducible rfl
             rotate_left
             ·simp only [Act.put, List.setIfInBounds_toArray, List.set_cons_zero, List.set_cons_succ, i64_w, i32_w]
              rfl
             refine pure_ (i := 9) (N := some 43) (v := ?_) (a' := ?_) #[true, true, true, true, true, true, true, true, false, true, false, false, false, false, false, false, false, false] rfl rfl (any_of HT_.out (by kernel_rfl)) (fun _ _ _ h => h) (Or.inl ⟨by rfl, ?_⟩) ?_ ?_
             rotate_left
             ·intro w'
              go_simp
              with_reducible rfl
             rotate_left
             ·simp only [Act.put, List.setIfInBounds_toArray, List.set_cons_zero, List.set_cons_succ, i64_w, i32_w]
              rfl
             refine pure_ (i := 10) (N := some 44) (v := ?_) (a' := ?_) #[true, true, true, true, true, true, true, true, false, true, true, false, false, false, false, false, false, false] rfl rfl (any_of HT_.out (by kernel_rfl)) (fun _ _ _ h => h) (Or.inl ⟨by rfl, ?_⟩) ?_ ?_
             rotate_left
             ·intro w'
              go_simp
              with_reducible rfl
             rotate_left
             ·simp only [Act.put, List.setIfInBounds_toArray, List.set_cons_zero, List.set_cons_succ, i64_w, i32_w]
              rfl
             refine pure_ (i := 11) (N := some 45) (v := ?_) (a' := ?_) #[true, true, true, true, true, true, true, true, false, true, true, true, false, false, false, false, false, false] rfl rfl (any_of HT_.out (by kernel_rfl)) (fun _ _ _ h => h) (Or.inl ⟨by rfl, ?_⟩) ?_ ?_
             rotate_left
             ·intro w'
              go_simp
              with_reducible rfl
             rotate_left
             ·simp only [Act.put, List.setIfInBounds_toArray, List.set_cons_zero, List.set_cons_succ, i64_w, i32_w]
              rfl
             refine pure_ (i := 12) (N := some 46) (v := ?_) (a' := ?_) #[true, true, true, true, true, true, true, true, false, true, true, true, true, false, false, false, false, false] rfl rfl (any_of HT_.out (by kernel_rfl)) (fun _ _ _ h => h) (Or.inl ⟨by rfl, ?_⟩) ?_ ?_
             rotate_left
             ·intro w'
              go_simp
              with_reducible rfl
             rotate_left
             ·simp only [Act.put, List.setIfInBounds_toArray, List.set_cons_zero, List.set_cons_succ, i64_w, i32_w]
              rfl
             refine take_ (i := 8) (N := some 42) (v := ?_) (a' := ?_) #[true, true, true, true, true, true, true, true, true, true, true, true, true, false, false, false, false, false] rfl rfl (take_ofW HT_.out HW_.out (by kernel_rfl)) (fun _ _ _ h => h) (Or.inl ⟨by rfl, ?_⟩) hHeld ?_ ?_
             rotate_left
             ·rintro w' ⟨s0, s1⟩
              go_simp
              with_reducible rfl
             rotate_left
             ·simp only [Act.put, List.setIfInBounds_toArray, List.set_cons_zero, List.set_cons_succ, i64_w, i32_w]
              rfl
             refine take_ (i := 13) (N := some 47) (v := ?_) (a' := ?_) #[true, true, true, true, true, true, true, true, true, true, true, true, true, true, false, false, false, false] rfl rfl (take_ofW HT_.out HW_.out (by kernel_rfl)) (fun _ _ _ h => h) (Or.inl ⟨by rfl, ?_⟩) hHeld ?_ ?_
             rotate_left
             ·rintro w' ⟨s0, s1⟩
              go_simp
              with_reducible rfl
             rotate_left
             ·simp only [Act.put, List.setIfInBounds_toArray, List.set_cons_zero, List.set_cons_succ, i64_w, i32_w]
              rfl
             refine pure_ (i := 14) (N := some 48) (v := ?_) (a' := ?_) #[true, true, true, true, true, true, true, true, true, true, true, true, true, true, true, false, false, false] rfl rfl (any_of HT_.out (by kernel_rfl)) (fun _ _ _ h => h) (Or.inl ⟨by rfl, ?_⟩) ?_ ?_
             rotate_left
             ·intro w'
              go_simp
              with_reducible rfl
             rotate_left
             ·simp only [Act.put, List.setIfInBounds_toArray, List.set_cons_zero, List.set_cons_succ, i64_w, i32_w]
              rfl
             refine last_ (i := 15) (N := none) #[true, true, true, true, true, true, true, true, true, true, true, true, true, true, true, true, false, false] rfl rfl (one_of HT_.out (by kernel_rfl)) (by decide) (fun K hK => ?_)
             refine skip_ (w1 := ?_) (by rfl) rfl ?_ ?_
             rotate_left
             ·go_simp
              rfl
             refine hK.out _ _ ?_
             clear hK K
             refine pure_ (i := 16) (N := some 49) (v := ?_) (a' := ?_) #[true, true, true, true, true, true, true, true, true, true, true, true, true, true, true, true, true, false] rfl rfl (any_of HT_.out (by kernel_rfl)) (fun _ _ _ h => h) (Or.inl ⟨by rfl, ?_⟩) ?_ ?_
             rotate_left
             ·intro w'
              go_simp
              with_reducible rfl
             rotate_left
             ·simp only [Act.put, List.setIfInBounds_toArray, List.set_cons_zero, List.set_cons_succ, i64_w, i32_w]
              rfl
             refine last_ (i := 17) (N := none) #[true, true, true, true, true, true, true, true, true, true, true, true, true, true, true, true, true, true] rfl rfl (one_of HT_.out (by kernel_rfl)) (by decide) (fun K hK => ?_)
             refine skip_ (w1 := ?_) (by rfl) rfl ?_ ?_
             rotate_left
             ·go_simp
              rfl
             refine hK.out _ _ ?_
             clear hK K
             refine done_ (done_of HT_.out (by kernel_rfl)) ?_
             try go_wp2
             (try simp only [← hl4_2])
             go_roundg k2
             case measure => have := HK1.out; have := HK2.out; omega
             case rel => exact ⟨(y306), (wrap64 (1 - x5_2)), (ji9), sd_, (by first | rfl | (simp; done) | (simp only [← hji9] <;> (first | rfl | simp)) | (simp [*]; done)), H', ⟨by have := HK1.out; have := HK2.out; omega⟩, ⟨by (try simp only [hl4_2]); (with_reducible repeat (first | apply Kd.R_alloc | apply Kd.R_drewN | apply Kd.R_drew)); exact HQ20.out⟩, ⟨by repeat (first | (with_reducible first | exact HB.out | apply below_alloc | apply pw_below_drewN | apply below_drew1 | refine below_set ?_ GB15.out | refine below_set ?_ GB15.out) | exact HB.out)⟩⟩
            ·rw [if_neg c14] at H
             have c14b0 : decide ((rd x4_2 x7_2) < (rd x4_2 (ji9))) = false := decide_eq_false c14
             clear c14
             have H' := Aside0.mk H
             clear H
             try go_wp2
             have n0_ := Aside0.mk (Kd.R_drew HO_4.out)
             have n1_ := Aside0.mk (below_drew1 HB.out)
             clear HO_4
             clear HB
             have HO_4 := n0_
             have HB := n1_
             clear n0_ n1_
             have p301 : 0 ≤ ((ji9) : Int) := of_decide_eq_true as_
             have q301 : (ji9) < (x4_2.length : Int) := of_decide_eq_true as_
             obtain ⟨ad301, e301, hx301_0⟩ := Kd.at_int (Kd.R_reads' HO_4.out).2.2 (ji9) p301 q301
             cases e301
             replace p301 := eq_true p301
             replace q301 := eq_true q301
             have p302 : 0 ≤ (x7_2 : Int) := of_decide_eq_true as_
             have q302 : x7_2 < (x4_2.length : Int) := of_decide_eq_true as_
             obtain ⟨ad302, e302, hx302_0⟩ := Kd.at_int (Kd.R_reads' HO_4.out).2.2 x7_2 p302 q302
             obtain rfl : ad301 = ad302 := (by injection e302)
             replace p302 := eq_true p302
             replace q302 := eq_true q302
             refine start_ (n := 14) (S := fun w' => w'.cell? (ad301.add ((ji9)).toNat) = some (.int .i64 (rd x4_2 (ji9))) ∧ w'.cell? (ad301.add (x7_2).toNat) = some (.int .i64 (rd x4_2 x7_2))) (ds := []) #[false, false, false, false, false, false, false, false, false, false, false, false, false, false] (by kernel_rfl) rfl rfl ⟨hx301_0, hx302_0⟩ (fun hHeld => ?_); refine with_tabW torusref07_Sorted.tab7 torusref07_Sorted.bits7 (fun HT_ HW_ => ?_)
             generalize wr.drew = w21 at HO_4 HB hx301_0 hx302_0 hHeld ⊢
             refine pure_ (i := 0) (N := some 18) (v := ?_) (a' := ?_) #[true, false, false, false, false, false, false, false, false, false, false, false, false, false] rfl rfl (any_of HT_.out (by kernel_rfl)) (fun _ _ _ h => h) (Or.inl ⟨by rfl, ?_⟩) ?_ ?_
             rotate_left
             ·intro w'
              go_simp
              with_reducible rfl
             rotate_left
             ·simp only [Act.put, List.setIfInBounds_toArray, List.set_cons_zero, List.set_cons_succ, i64_w, i32_w]
              rfl
             refine pure_ (i := 1) (N := some 19) (v := ?_) (a' := ?_) #[true, true, false, false, false, false, false, false, false, false, false, false, false, false] rfl rfl (any_of HT_.out (by kernel_rfl)) (fun _ _ _ h => h) (Or.inl ⟨by rfl, ?_⟩) ?_ ?_
             rotate_left
             ·intro w'
              go_simp
              with_reducible rfl
             rotate_left
             ·simp only [Act.put, List.setIfInBounds_toArray, List.set_cons_zero, List.set_cons_succ, i64_w, i32_w]
              rfl
             refine pure_ (i := 2) (N := some 20) (v := ?_) (a' := ?_) #[true, true, true, false, false, false, false, false, false, false, false, false, false, false] rfl rfl (any_of HT_.out (by kernel_rfl)) (fun _ _ _ h => h) (Or.inl ⟨by rfl, ?_⟩) ?_ ?_
             rotate_left
             ·intro w'
              go_simp
              with_reducible rfl
             rotate_left
             ·simp only [Act.put, List.setIfInBounds_toArray, List.set_cons_zero, List.set_cons_succ, i64_w, i32_w]
              rfl
             refine pure_ (i := 3) (N := some 21) (v := ?_) (a' := ?_) #[true, true, true, true, false, false, false, false, false, false, false, false, false, false] rfl rfl (any_of HT_.out (by kernel_rfl)) (fun _ _ _ h => h) (Or.inl ⟨by rfl, ?_⟩) ?_ ?_
             rotate_left
             ·intro w'
              go_simp
              with_reducible rfl
             rotate_left
             ·simp only [Act.put, List.setIfInBounds_toArray, List.set_cons_zero, List.set_cons_succ, i64_w, i32_w]
              rfl
             refine pure_ (i := 4) (N := some 22) (v := ?_) (a' := ?_) #[true, true, true, true, true, false, false, false, false, false, false, false, false, false] rfl rfl (any_of HT_.out (by kernel_rfl)) (fun _ _ _ h => h) (Or.inl ⟨by rfl, ?_⟩) ?_ ?_
             rotate_left
             ·intro w'
              go_simp
              with_reducible rfl
             rotate_left
             ·simp only [Act.put, List.setIfInBounds_toArray, List.set_cons_zero, List.set_cons_succ, i64_w, i32_w]
              rfl
             refine pure_ (i := 5) (N := some 23) (v := ?_) (a' := ?_) #[true, true, true, true, true, true, false, false, false, false, false, false, false, false] rfl rfl (any_of HT_.out (by kernel_rfl)) (fun _ _ _ h => h) (Or.inl ⟨by rfl, ?_⟩) ?_ ?_
             rotate_left
             ·intro w'
              go_simp
              with_reducible rfl
             rotate_left
             ·simp only [Act.put, List.setIfInBounds_toArray, List.set_cons_zero, List.set_cons_succ, i64_w, i32_w]
              rfl
             refine pure_ (i := 6) (N := some 24) (v := ?_) (a' := ?_) #[true, true, true, true, true, true, true, false, false, false, false, false, false, false] rfl rfl (any_of HT_.out (by kernel_rfl)) (fun _ _ _ h => h) (Or.inl ⟨by rfl, ?_⟩) ?_ ?_
             rotate_left
             ·intro w'
              go_simp
              with_reducible rfl
             rotate_left
             ·simp only [Act.put, List.setIfInBounds_toArray, List.set_cons_zero, List.set_cons_succ, i64_w, i32_w]
              rfl
             refine pure_ (i := 8) (N := some 26) (v := ?_) (a' := ?_) #[true, true, true, true, true, true, true, false, true, false, false, false, false, false] rfl rfl (any_of HT_.out (by kernel_rfl)) (fun _ _ _ h => h) (Or.inl ⟨by rfl, ?_⟩) ?_ ?_
             rotate_left
             ·intro w'
              go_simp
              with_reducible rfl
             rotate_left
             ·simp only [Act.put, List.setIfInBounds_toArray, List.set_cons_zero, List.set_cons_succ, i64_w, i32_w]
              rfl
             refine pure_ (i := 9) (N := some 27) (v := ?_) (a' := ?_) #[true, true, true, true, true, true, true, false, true, true, false, false, false, false] rfl rfl (any_of HT_.out (by kernel_rfl)) (fun _ _ _ h => h) (Or.inl ⟨by rfl, ?_⟩) ?_ ?_
             rotate_left
             ·intro w'
              go_simp
              with_reducible rfl
             rotate_left
             ·simp only [Act.put, List.setIfInBounds_toArray, List.set_cons_zero, List.set_cons_succ, i64_w, i32_w]
              rfl
             refine pure_ (i := 10) (N := some 28) (v := ?_) (a' := ?_) #[true, true, true, true, true, true, true, false, true, true, true, false, false, false] rfl rfl (any_of HT_.out (by kernel_rfl)) (fun _ _ _ h => h) (Or.inl ⟨by rfl, ?_⟩) ?_ ?_
             rotate_left
             ·intro w'
              go_simp
              with_reducible rfl
             rotate_left
             ·simp only [Act.put, List.setIfInBounds_toArray, List.set_cons_zero, List.set_cons_succ, i64_w, i32_w]
              rfl
             refine take_ (i := 7) (N := some 25) (v := ?_) (a' := ?_) #[true, true, true, true, true, true, true, true, true, true, true, false, false, false] rfl rfl (take_ofW HT_.out HW_.out (by kernel_rfl)) (fun _ _ _ h => h) (Or.inl ⟨by rfl, ?_⟩) hHeld ?_ ?_
             rotate_left
             ·rintro w' ⟨s0, s1⟩
              go_simp
              with_reducible rfl
             rotate_left
             ·simp only [Act.put, List.setIfInBounds_toArray, List.set_cons_zero, List.set_cons_succ, i64_w, i32_w]
              rfl
             refine take_ (i := 11) (N := some 29) (v := ?_) (a' := ?_) #[true, true, true, true, true, true, true, true, true, true, true, true, false, false] rfl rfl (take_ofW HT_.out HW_.out (by kernel_rfl)) (fun _ _ _ h => h) (Or.inl ⟨by rfl, ?_⟩) hHeld ?_ ?_
             rotate_left
             ·rintro w' ⟨s0, s1⟩
              go_simp
              with_reducible rfl
             rotate_left
             ·simp only [Act.put, List.setIfInBounds_toArray, List.set_cons_zero, List.set_cons_succ, i64_w, i32_w]
              rfl
             refine pure_ (i := 12) (N := some 30) (v := ?_) (a' := ?_) #[true, true, true, true, true, true, true, true, true, true, true, true, true, false] rfl rfl (any_of HT_.out (by kernel_rfl)) (fun _ _ _ h => h) (Or.inl ⟨by rfl, ?_⟩) ?_ ?_
             rotate_left
             ·intro w'
              go_simp
              with_reducible rfl
             rotate_left
             ·simp only [Act.put, List.setIfInBounds_toArray, List.set_cons_zero, List.set_cons_succ, i64_w, i32_w]
              rfl
             refine pure_ (i := 13) (N := some 31) (v := ?_) (a' := ?_) #[true, true, true, true, true, true, true, true, true, true, true, true, true, true] rfl rfl (any_of HT_.out (by kernel_rfl)) (fun _ _ _ h => h) (Or.inl ⟨by rfl, ?_⟩) ?_ ?_
             rotate_left
             ·intro w'
              go_simp
              with_reducible rfl
             rotate_left
             ·simp only [Act.put, List.setIfInBounds_toArray, List.set_cons_zero, List.set_cons_succ, i64_w, i32_w]
              rfl
             refine done_ (done_of HT_.out (by kernel_rfl)) ?_
             try go_wp2
             (try simp only [← hl4_2])
             go_roundg k2
             case measure => have := HK1.out; have := HK2.out; omega
             case rel => exact ⟨(x4_2), (x5_2), (wrap64 (x6_1 + 1)), sd_, sd_, H', ⟨by have := HK1.out; have := HK2.out; omega⟩, ⟨by (try simp only [hl4_2]); (with_reducible repeat (first | apply Kd.R_alloc | apply Kd.R_drewN | apply Kd.R_drew)); exact HO_4.out⟩, ⟨bw_⟩⟩
           ·rw [if_neg c13] at H
            exact absurd H (by simp)
          ·rw [if_neg c12] at H
           exact absurd H (by simp)
         ·rw [if_neg c11] at H
          exact absurd H (by simp)
        ·rw [if_neg c10] at H
         exact absurd H (by simp)
       ·rw [if_neg c8] at H
        have c8b0 : decide (0 < x7_2) = false := decide_eq_false c8
        clear c8
        have H' := Aside0.mk H
        clear H
        try go_wp2
        have n0_ := Aside0.mk (Kd.R_drew HO_4.out)
        have n1_ := Aside0.mk (below_drew1 HB.out)
        clear HO_4
        clear HB
        have HO_4 := n0_
        have HB := n1_
        clear n0_ n1_
        refine start_ (n := 14) (S := fun w' => True) (ds := []) #[false, false, false, false, false, false, false, false, false, false, false, false, false, false] (by kernel_rfl) rfl rfl trivial (fun hHeld => ?_); refine with_tabW torusref07_Sorted.tab7 torusref07_Sorted.bits7 (fun HT_ HW_ => ?_)
        generalize wr.drew = w22 at HO_4 HB hHeld ⊢
        refine pure_ (i := 0) (N := some 18) (v := ?_) (a' := ?_) #[true, false, false, false, false, false, false, false, false, false, false, false, false, false] rfl rfl (any_of HT_.out (by kernel_rfl)) (fun _ _ _ h => h) (Or.inl ⟨by rfl, ?_⟩) ?_ ?_
        rotate_left
        ·intro w'
         go_simp
         with_reducible rfl
        rotate_left
        ·simp only [Act.put, List.setIfInBounds_toArray, List.set_cons_zero, List.set_cons_succ, i64_w, i32_w]
         rfl
        refine pure_ (i := 1) (N := some 19) (v := ?_) (a' := ?_) #[true, true, false, false, false, false, false, false, false, false, false, false, false, false] rfl rfl (any_of HT_.out (by kernel_rfl)) (fun _ _ _ h => h) (Or.inl ⟨by rfl, ?_⟩) ?_ ?_
        rotate_left
        ·intro w'
         go_simp
         with_reducible rfl
        rotate_left
        ·simp only [Act.put, List.setIfInBounds_toArray, List.set_cons_zero, List.set_cons_succ, i64_w, i32_w]
         rfl
        refine pure_ (i := 2) (N := some 20) (v := ?_) (a' := ?_) #[true, true, true, false, false, false, false, false, false, false, false, false, false, false] rfl rfl (any_of HT_.out (by kernel_rfl)) (fun _ _ _ h => h) (Or.inl ⟨by rfl, ?_⟩) ?_ ?_
        rotate_left
        ·intro w'
         go_simp
         with_reducible rfl
        rotate_left
        ·simp only [Act.put, List.setIfInBounds_toArray, List.set_cons_zero, List.set_cons_succ, i64_w, i32_w]
         rfl
        refine pure_ (i := 3) (N := some 21) (v := undef) (a' := ?_) #[true, true, true, true, false, false, false, false, false, false, false, false, false, false] rfl rfl (any_of HT_.out (by kernel_rfl)) (fun _ _ _ h => h) (Or.inr ⟨by rfl, rfl⟩) ?_ ?_
        rotate_left
        ·simp only [Act.put, List.setIfInBounds_toArray, List.set_cons_zero, List.set_cons_succ, i64_w, i32_w]
         rfl
        refine pure_ (i := 4) (N := some 22) (v := undef) (a' := ?_) #[true, true, true, true, true, false, false, false, false, false, false, false, false, false] rfl rfl (any_of HT_.out (by kernel_rfl)) (fun _ _ _ h => h) (Or.inr ⟨by rfl, rfl⟩) ?_ ?_
        rotate_left
        ·simp only [Act.put, List.setIfInBounds_toArray, List.set_cons_zero, List.set_cons_succ, i64_w, i32_w]
         rfl
        refine pure_ (i := 5) (N := some 23) (v := undef) (a' := ?_) #[true, true, true, true, true, true, false, false, false, false, false, false, false, false] rfl rfl (any_of HT_.out (by kernel_rfl)) (fun _ _ _ h => h) (Or.inr ⟨by rfl, rfl⟩) ?_ ?_
        rotate_left
        ·simp only [Act.put, List.setIfInBounds_toArray, List.set_cons_zero, List.set_cons_succ, i64_w, i32_w]
         rfl
        refine pure_ (i := 6) (N := some 24) (v := undef) (a' := ?_) #[true, true, true, true, true, true, true, false, false, false, false, false, false, false] rfl rfl (any_of HT_.out (by kernel_rfl)) (fun _ _ _ h => h) (Or.inr ⟨by rfl, rfl⟩) ?_ ?_
        rotate_left
        ·simp only [Act.put, List.setIfInBounds_toArray, List.set_cons_zero, List.set_cons_succ, i64_w, i32_w]
         rfl
        refine pure_ (i := 7) (N := some 25) (v := undef) (a' := ?_) #[true, true, true, true, true, true, true, true, false, false, false, false, false, false] rfl rfl (any_of HT_.out (by kernel_rfl)) (fun _ _ _ h => h) (Or.inr ⟨by rfl, rfl⟩) ?_ ?_
        rotate_left
        ·simp only [Act.put, List.setIfInBounds_toArray, List.set_cons_zero, List.set_cons_succ, i64_w, i32_w]
         rfl
        refine pure_ (i := 8) (N := some 26) (v := undef) (a' := ?_) #[true, true, true, true, true, true, true, true, true, false, false, false, false, false] rfl rfl (any_of HT_.out (by kernel_rfl)) (fun _ _ _ h => h) (Or.inr ⟨by rfl, rfl⟩) ?_ ?_
        rotate_left
        ·simp only [Act.put, List.setIfInBounds_toArray, List.set_cons_zero, List.set_cons_succ, i64_w, i32_w]
         rfl
        refine pure_ (i := 9) (N := some 27) (v := undef) (a' := ?_) #[true, true, true, true, true, true, true, true, true, true, false, false, false, false] rfl rfl (any_of HT_.out (by kernel_rfl)) (fun _ _ _ h => h) (Or.inr ⟨by rfl, rfl⟩) ?_ ?_
        rotate_left
        ·simp only [Act.put, List.setIfInBounds_toArray, List.set_cons_zero, List.set_cons_succ, i64_w, i32_w]
         rfl
        refine pure_ (i := 10) (N := some 28) (v := undef) (a' := ?_) #[true, true, true, true, true, true, true, true, true, true, true, false, false, false] rfl rfl (any_of HT_.out (by kernel_rfl)) (fun _ _ _ h => h) (Or.inr ⟨by rfl, rfl⟩) ?_ ?_
        rotate_left
        ·simp only [Act.put, List.setIfInBounds_toArray, List.set_cons_zero, List.set_cons_succ, i64_w, i32_w]
         rfl
        refine pure_ (i := 11) (N := some 29) (v := undef) (a' := ?_) #[true, true, true, true, true, true, true, true, true, true, true, true, false, false] rfl rfl (any_of HT_.out (by kernel_rfl)) (fun _ _ _ h => h) (Or.inr ⟨by rfl, rfl⟩) ?_ ?_
        rotate_left
        ·simp only [Act.put, List.setIfInBounds_toArray, List.set_cons_zero, List.set_cons_succ, i64_w, i32_w]
         rfl
        refine pure_ (i := 12) (N := some 30) (v := undef) (a' := ?_) #[true, true, true, true, true, true, true, true, true, true, true, true, true, false] rfl rfl (any_of HT_.out (by kernel_rfl)) (fun _ _ _ h => h) (Or.inr ⟨by rfl, rfl⟩) ?_ ?_
        rotate_left
        ·simp only [Act.put, List.setIfInBounds_toArray, List.set_cons_zero, List.set_cons_succ, i64_w, i32_w]
         rfl
        refine pure_ (i := 13) (N := some 31) (v := ?_) (a' := ?_) #[true, true, true, true, true, true, true, true, true, true, true, true, true, true] rfl rfl (any_of HT_.out (by kernel_rfl)) (fun _ _ _ h => h) (Or.inl ⟨by rfl, ?_⟩) ?_ ?_
        rotate_left
        ·intro w'
         go_simp
         with_reducible rfl
        rotate_left
        ·simp only [Act.put, List.setIfInBounds_toArray, List.set_cons_zero, List.set_cons_succ, i64_w, i32_w]
         rfl
        refine done_ (done_of HT_.out (by kernel_rfl)) ?_
        try go_wp2
        (try simp only [← hl4_2])
        go_roundg k2
        case measure => have := HK1.out; have := HK2.out; omega
        case rel => exact ⟨(x4_2), (x5_2), (wrap64 (x6_1 + 1)), sd_, sd_, H', ⟨by have := HK1.out; have := HK2.out; omega⟩, ⟨by (try simp only [hl4_2]); (with_reducible repeat (first | apply Kd.R_alloc | apply Kd.R_drewN | apply Kd.R_drew)); exact HO_4.out⟩, ⟨bw_⟩⟩
    ·rw [if_neg c6] at H
     have c6b0 : decide (x6_1 < (x4_1.length : Int)) = false := decide_eq_false c6
     clear c6
     simp only [Option.some.injEq, Prod.mk.injEq] at H
     obtain ⟨rfl, rfl⟩ := H
     obtain ⟨Ao23, co23, eo23⟩ := Kd.R_slice HO_4.out
     subst eo23
     go_wp2
     go_ret2
     exact ⟨_, by first | rfl | (simp [errW_none, errW_some] <;> rfl) | (simp [*, errW_none, errW_some] <;> rfl), rRa_ HO_4.out, bw_⟩
 ·rw [if_neg c2] at H
  exact absurd H (by simp)

end Go.Proofs.YticckanjfdcpaaaDoor.PSimplex
namespace Go.Proofs.YticckanjfdcpaaaDoor.PSimplex
open Go.RowKit Go.Proofs.YticckanjfdcpaaaDoorW.PrintWords Go.Proofs.YticckanjfdcpaaaDoorW.PrintLast Go.Proofs.YticckanjfdcpaaaDoorW.PrintMore
attribute [local go_sem] max2_int min2_int max_two min_two max_three min_three max_four min_four   -- for this text's walks alone
set_option linter.unusedVariables false
set_option linter.unusedSimpArgs false

/-! ### torusref07_In: function 46 -/
def torusref07_In.l0 : Nat → List Int → Int → Int → Option (Bool)
 |0, _, _, _ => none
 |k + 1, x0, x1, x5 => if x5 < (x0.length : Int) then (if 0 ≤ x5 then (if (rd x0 x5) = x1 then (some true) else (torusref07_In.l0 k x0 x1 (wrap64 (x5 + 1)))) else (none)) else (some false)
def torusref07_In.f (k : Nat) (l0 : List Int) (a1 : Int) : Option (Bool) := torusref07_In.l0 k l0 a1 0
theorem torusref07_In.mono_l : ∀ k, (∀ y0 y1 y2, LeO (torusref07_In.l0 k y0 y1 y2) (torusref07_In.l0 (k + 1) y0 y1 y2))
 |0 => fun _ _ _ r h => by simp [torusref07_In.l0] at h
 |k + 1 => by
  have ih0 := torusref07_In.mono_l k
  ·intro y0 y1 y2
   unfold torusref07_In.l0
   repeat' first
   |(with_reducible exact ih0 _ _ _)
   |(with_reducible exact LeO.refl _)
   |(with_reducible exact LeO.none _)
   |(with_reducible refine LeO.ite ?_ ?_)
   |(with_reducible refine LeO.bind ?_ (fun _ => ?_))
theorem torusref07_In.mono : ∀ a0 a1 k, LeO (torusref07_In.f k a0 a1) (torusref07_In.f (k + 1) a0 a1) := by
 intro a0 a1 k
 have ih0 := torusref07_In.mono_l k
 unfold torusref07_In.f
 repeat' first
   |(with_reducible exact ih0 _ _ _)
   |(with_reducible exact LeO.refl _)
   |(with_reducible exact LeO.none _)
   |(with_reducible refine LeO.ite ?_ ?_)
   |(with_reducible refine LeO.bind ?_ (fun _ => ?_))
set_option maxHeartbeats 8000000 in
set_option maxRecDepth 100000 in
theorem torusref07_In.calls (k : Nat) (A0 : Option Addr) (c0 : Nat) (l0 : List Int) (a1 : Int) (r : Bool) (w : World) (hr0 : Kd.C (Kd.int .i64) w A0 l0.length l0) (hc0 : l0.length ≤ c0) (h : torusref07_In.f k l0 a1 = some r) :
  Calls Tryd.prog 46 #[.slice A0 l0.length c0, .int .i64 a1] w fun e w' => e = .returned (.bool r) ∧ Drawn0 w w' := by
 have HR0 := Aside0.mk hr0
 have HC0 := Aside0.mk hc0
 clear hr0 hc0
 have H : (torusref07_In.l0 k l0 a1 0) = some r := h
 clear h
 have H' := Aside0.mk H
 clear H
 go_enter Tryd.func46, Tryd.ntmps46
 go_wp2
 go_loopg [5] k (fun kq v5 w' => ∃ (x5_1 : Int), v5 = .int .i64 x5_1 ∧ Aside0 (torusref07_In.l0 kq l0 a1 x5_1 = some r) ∧ Aside0 (kq ≤ k) ∧ Drawn0 w w')
 case atStart => exact ⟨(0), sd_, H', ⟨Nat.le_refl _⟩, dr_⟩
 case round =>
  clear H'
  try clear p2
  obtain ⟨x5_1, rfl, HA, HK1, ⟨m1, rfl⟩⟩ := hrel
  cases gk with
  |zero => exact absurd HA.out (by simp [torusref07_In.l0])
  |succ k1 =>
   have H := HA.out
   clear HA
   simp only [torusref07_In.l0] at H
   by_cases c3 : x5_1 < (l0.length : Int)
   ·rw [if_pos c3] at H
    have c3b0 : decide (x5_1 < (l0.length : Int)) = true := decide_eq_true c3
    clear c3
    by_cases c4 : 0 ≤ x5_1
    ·rw [if_pos c4] at H
     have c4b0 : decide (0 ≤ x5_1) = true := decide_eq_true c4
     clear c4
     by_cases c5 : (rd l0 x5_1) = a1
     ·rw [if_pos c5] at H
      have c5b0 : ((rd l0 x5_1) == a1) = true := beq_iff_eq.mpr c5
      have c5b1 : ((rd l0 x5_1) != a1) = false := bne_eq_false_iff_eq.mpr c5
      clear c5
      obtain rfl := Option.some.inj H
      have p341 : 0 ≤ (x5_1 : Int) := of_decide_eq_true as_
      have q341 : x5_1 < (l0.length : Int) := of_decide_eq_true as_
      obtain ⟨ad341, e341, hx341_0⟩ := Kd.at_int HR0.out x5_1 p341 q341
      cases e341
      replace p341 := eq_true p341
      replace q341 := eq_true q341
      go_wp2
      go_ret
      exact ⟨sd_, dr_⟩
     ·rw [if_neg c5] at H
      have c5b0 : ((rd l0 x5_1) == a1) = false := beq_eq_false_iff_ne.mpr c5
      have c5b1 : ((rd l0 x5_1) != a1) = true := bne_iff_ne.mpr c5
      have H' := Aside0.mk H
      clear H
      have p341 : 0 ≤ (x5_1 : Int) := of_decide_eq_true as_
      have q341 : x5_1 < (l0.length : Int) := of_decide_eq_true as_
      obtain ⟨ad341, e341, hx341_0⟩ := Kd.at_int HR0.out x5_1 p341 q341
      cases e341
      replace p341 := eq_true p341
      replace q341 := eq_true q341
      go_wp2
      go_roundg k1
      case measure => have := HK1.out; omega
      case rel => exact ⟨(wrap64 (x5_1 + 1)), sd_, H', ⟨by have := HK1.out; omega⟩, dr_⟩
    ·rw [if_neg c4] at H
     exact absurd H (by simp)
   ·rw [if_neg c3] at H
    have c3b0 : decide (x5_1 < (l0.length : Int)) = false := decide_eq_false c3
    clear c3
    obtain rfl := Option.some.inj H
    go_wp2
    go_ret
    exact ⟨sd_, dr_⟩

end Go.Proofs.YticckanjfdcpaaaDoor.PSimplex
namespace Go.Proofs.YticckanjfdcpaaaDoor.PSimplex
open Go.RowKit Go.Proofs.YticckanjfdcpaaaDoorW.PrintWords Go.Proofs.YticckanjfdcpaaaDoorW.PrintLast Go.Proofs.YticckanjfdcpaaaDoorW.PrintMore
attribute [local go_sem] max2_int min2_int max_two min_two max_three min_three max_four min_four   -- for this text's walks alone
set_option linter.unusedVariables false
set_option linter.unusedSimpArgs false

/-! ### torusref07_Cofacets: function 31 -/
mutual
def torusref07_Cofacets.j0 : Nat → List Int → Int → Bool → Option ((List (List Int)) × Int)
 |0, _, _, _ => none
 |k + 1, x0, x1, x31 => if x31 = true then (some (([] : List (List Int)), 1)) else (torusref07_Cofacets.l0 k x0 x1 ([] : List (List Int)) 0)
def torusref07_Cofacets.l0 : Nat → List Int → Int → List (List Int) → Int → Option ((List (List Int)) × Int)
 |0, _, _, _, _ => none
 |k + 1, x0, x1, x7, x8 => if (x0.length : Int) ≤ 4 then (torusref07_Cofacets.j2 k x0 x1 x7 x8 (decide (x8 < x1))) else (torusref07_Cofacets.j2 k x0 x1 x7 x8 false)
def torusref07_Cofacets.j2 : Nat → List Int → Int → List (List Int) → Int → Bool → Option ((List (List Int)) × Int)
 |0, _, _, _, _, _ => none
 |k + 1, x0, x1, x7, x8, x39 => if x39 = true then ((torusref07_In.f k x0 x8).bind fun t486 => (if t486 = true then (torusref07_Cofacets.l0 k x0 x1 x7 (wrap64 (x8 + 1))) else ((some (([] : List Int) : List Int)).bind fun y487 => (if y487.length + x0.length < 17592186044416 then ((some (y487 ++ x0 : List Int)).bind fun y490 => (if y490.length < 17592186044416 then ((torusref07_Sorted.f k (y490 ++ [x8])).bind fun bt496 => (if x7.length < 5864062014805 then (torusref07_Cofacets.l0 k x0 x1 (x7 ++ [bt496.1]) (wrap64 (x8 + 1))) else (none))) else (none))) else (none))))) else (some (x7, 0))
end
def torusref07_Cofacets.f (k : Nat) (l0 : List Int) (a1 : Int) : Option ((List (List Int)) × Int) := (torusref07_Check.f k l0).bind fun t484 => (if t484 = 0 then (if a1 < 0 then (torusref07_Cofacets.j0 k l0 a1 true) else (if a1 > 64 then (torusref07_Cofacets.j0 k l0 a1 true) else (if 0 ≤ (wrap64 ((l0.length : Int) - 1)) then (if (wrap64 ((l0.length : Int) - 1)) < (l0.length : Int) then (torusref07_Cofacets.j0 k l0 a1 (decide ((rd l0 (wrap64 ((l0.length : Int) - 1))) ≥ a1))) else (none)) else (none)))) else (some (([] : List (List Int)), t484)))
theorem torusref07_Cofacets.mono_l : ∀ k, (∀ y0 y1 y2, LeO (torusref07_Cofacets.j0 k y0 y1 y2) (torusref07_Cofacets.j0 (k + 1) y0 y1 y2)) ∧ (∀ y0 y1 y2 y3, LeO (torusref07_Cofacets.l0 k y0 y1 y2 y3) (torusref07_Cofacets.l0 (k + 1) y0 y1 y2 y3)) ∧ (∀ y0 y1 y2 y3 y4, LeO (torusref07_Cofacets.j2 k y0 y1 y2 y3 y4) (torusref07_Cofacets.j2 (k + 1) y0 y1 y2 y3 y4))
 |0 => ⟨fun _ _ _ r h => by simp [torusref07_Cofacets.j0] at h, fun _ _ _ _ r h => by simp [torusref07_Cofacets.l0] at h, fun _ _ _ _ _ r h => by simp [torusref07_Cofacets.j2] at h⟩
 |k + 1 => by
  obtain ⟨ih0, ih1, ih2⟩ := torusref07_Cofacets.mono_l k
  refine ⟨?_, ?_, ?_⟩
  ·intro y0 y1 y2
   unfold torusref07_Cofacets.j0
   repeat' first
   |(with_reducible exact ih0 _ _ _)
   |(with_reducible exact ih1 _ _ _ _)
   |(with_reducible exact ih2 _ _ _ _ _)
   |(with_reducible exact torusref07_Check.mono _ _)
   |(with_reducible exact torusref07_In.mono _ _ _)
   |(with_reducible exact torusref07_Sorted.mono _ _)
   |(with_reducible exact LeO.refl _)
   |(with_reducible exact LeO.none _)
   |(with_reducible refine LeO.ite ?_ ?_)
   |(with_reducible refine LeO.bind ?_ (fun _ => ?_))
  ·intro y0 y1 y2 y3
   unfold torusref07_Cofacets.l0
   repeat' first
   |(with_reducible exact ih0 _ _ _)
   |(with_reducible exact ih1 _ _ _ _)
   |(with_reducible exact ih2 _ _ _ _ _)
   |(with_reducible exact torusref07_Check.mono _ _)
   |(with_reducible exact torusref07_In.mono _ _ _)
   |(with_reducible exact torusref07_Sorted.mono _ _)
   |(with_reducible exact LeO.refl _)
   |(with_reducible exact LeO.none _)
   |(with_reducible refine LeO.ite ?_ ?_)
   |(with_reducible refine LeO.bind ?_ (fun _ => ?_))
  ·intro y0 y1 y2 y3 y4
   unfold torusref07_Cofacets.j2
   repeat' first
   |(with_reducible exact ih0 _ _ _)
   |(with_reducible exact ih1 _ _ _ _)
   |(with_reducible exact ih2 _ _ _ _ _)
   |(with_reducible exact torusref07_Check.mono _ _)
   |(with_reducible exact torusref07_In.mono _ _ _)
   |(with_reducible exact torusref07_Sorted.mono _ _)
   |(with_reducible exact LeO.refl _)
   |(with_reducible exact LeO.none _)
   |(with_reducible refine LeO.ite ?_ ?_)
   |(with_reducible refine LeO.bind ?_ (fun _ => ?_))
theorem torusref07_Cofacets.mono : ∀ a0 a1 k, LeO (torusref07_Cofacets.f k a0 a1) (torusref07_Cofacets.f (k + 1) a0 a1) := by
 intro a0 a1 k
 obtain ⟨ih0, ih1, ih2⟩ := torusref07_Cofacets.mono_l k
 unfold torusref07_Cofacets.f
 repeat' first
   |(with_reducible exact ih0 _ _ _)
   |(with_reducible exact ih1 _ _ _ _)
   |(with_reducible exact ih2 _ _ _ _ _)
   |(with_reducible exact torusref07_Check.mono _ _)
   |(with_reducible exact torusref07_In.mono _ _ _)
   |(with_reducible exact torusref07_Sorted.mono _ _)
   |(with_reducible exact LeO.refl _)
   |(with_reducible exact LeO.none _)
   |(with_reducible refine LeO.ite ?_ ?_)
   |(with_reducible refine LeO.bind ?_ (fun _ => ?_))
set_option maxHeartbeats 8000000 in
set_option maxRecDepth 100000 in
theorem torusref07_Cofacets.calls (k : Nat) (A0 : Option Addr) (c0 : Nat) (l0 : List Int) (a1 : Int) (r1 : List (List Int)) (r2 : Int) (w : World) (hr0 : Kd.C (Kd.int .i64) w A0 l0.length l0) (hc0 : l0.length ≤ c0) (h : torusref07_Cofacets.f k l0 a1 = some (r1, r2)) :
  Calls Tryd.prog 31 #[.slice A0 l0.length c0, .int .i64 a1] w fun e w' => ∃ v0_ : Value, e = .returned (.tuple #[v0_, .int .i64 r2]) ∧ Kd.S (Kd.slice 3 (Kd.int .i64)) 22 w' w.heap.size (fun _ => True) v0_ r1 ∧ Below w.heap.size w w' := by
 have HR0 := Aside0.mk hr0
 have HC0 := Aside0.mk hc0
 clear hr0 hc0
 have HB := Aside0.mk (Below.refl w.heap.size w)
 have H : ((torusref07_Check.f k l0).bind fun t484 => (if t484 = 0 then (if a1 < 0 then (torusref07_Cofacets.j0 k l0 a1 true) else (if a1 > 64 then (torusref07_Cofacets.j0 k l0 a1 true) else (if 0 ≤ (wrap64 ((l0.length : Int) - 1)) then (if (wrap64 ((l0.length : Int) - 1)) < (l0.length : Int) then (torusref07_Cofacets.j0 k l0 a1 (decide ((rd l0 (wrap64 ((l0.length : Int) - 1))) ≥ a1))) else (none)) else (none)))) else (some (([] : List (List Int)), t484)))) = some (r1, r2) := h
 clear h
 replace H := Option.bind_eq_some_iff.mp H
 obtain ⟨t484, A30, H⟩ := H
 replace H : (if t484 = 0 then (if a1 < 0 then (torusref07_Cofacets.j0 k l0 a1 true) else (if a1 > 64 then (torusref07_Cofacets.j0 k l0 a1 true) else (if 0 ≤ (wrap64 ((l0.length : Int) - 1)) then (if (wrap64 ((l0.length : Int) - 1)) < (l0.length : Int) then (torusref07_Cofacets.j0 k l0 a1 (decide ((rd l0 (wrap64 ((l0.length : Int) - 1))) ≥ a1))) else (none)) else (none)))) else (some (([] : List (List Int)), t484))) = some (r1, r2) := H
 have A3 := Aside0.mk A30
 clear A30
 by_cases c4 : t484 = 0
 ·rw [if_pos c4] at H
  have c4b0 : (t484 == 0) = true := beq_iff_eq.mpr c4
  have c4b1 : (t484 != 0) = false := bne_eq_false_iff_eq.mpr c4
  clear c4
  have HC5 := Aside0.mk H
  clear H
  go_enter Tryd.func31, Tryd.ntmps31
  go_upto_region 4 with (first | ((with_reducible refine gate_callee (f := 28) rfl ?_); refine goesL_ (some 12) rfl rfl Tryd.func28 (by kernel_rfl) rfl #[.slice A0 l0.length c0] rfl ag_ ?_; (with_reducible refine (torusref07_Check.calls k _ _ l0 t484 _ ?side1 ?side2 A3.out).mono ?_); (case side1 => exact cs_ HR0.out); (case side2 => exact HC0.out); rintro e w' ⟨rfl, ⟨nd, rfl⟩⟩; refine ⟨_, rfl, ?_⟩))
  (try simp only [Act.put, List.setIfInBounds_toArray, List.set_cons_zero, List.set_cons_succ])
  go_cut [31] (fun v31 wc => ∃ (kq : Nat) (x31_4 : Bool), v31 = .bool x31_4 ∧ Aside0 (torusref07_Cofacets.j0 kq l0 a1 x31_4 = some (r1, r2)) ∧ Aside0 (kq ≤ k) ∧ Aside0 (Below w.heap.size w wc))
  case first =>
   have H := HC5.out
   clear HC5
   by_cases c6 : a1 < 0
   ·rw [if_pos c6] at H
    have c6b0 : decide (a1 < 0) = true := decide_eq_true c6
    clear c6
    (first | rw [c6b0] | (simp only [i64_w, i32_w]; rw [c6b0]) | skip)
    have H' := Aside0.mk H
    clear H
    go_wp2
    go_meet
    case rel => exact ⟨_, (true), sd_, H', ⟨by first | omega | exact Nat.le_refl _⟩, ⟨bw_⟩⟩
   ·rw [if_neg c6] at H
    have c6b0 : decide (a1 < 0) = false := decide_eq_false c6
    clear c6
    (first | rw [c6b0] | (simp only [i64_w, i32_w]; rw [c6b0]) | skip)
    by_cases c7 : a1 > 64
    ·rw [if_pos c7] at H
     have c7b0 : decide (64 < a1) = true := decide_eq_true c7
     clear c7
     have H' := Aside0.mk H
     clear H
     go_wp2
     go_meet
     case rel => exact ⟨_, (true), sd_, H', ⟨by first | omega | exact Nat.le_refl _⟩, ⟨bw_⟩⟩
    ·rw [if_neg c7] at H
     have c7b0 : decide (64 < a1) = false := decide_eq_false c7
     clear c7
     obtain ⟨ji8, hji8⟩ : ∃ j_ : Int, (wrap64 ((l0.length : Int) - 1)) = j_ := ⟨_, rfl⟩
     replace H : (if 0 ≤ (ji8) then (if (ji8) < (l0.length : Int) then (torusref07_Cofacets.j0 k l0 a1 (decide ((rd l0 (ji8)) ≥ a1))) else (none)) else (none)) = some (r1, r2) := by first | (rw [hji8] at H; exact H) | (simp only [hji8] at H ⊢; exact H)
     have hji8w : (IntKind.i64.wrap ((l0.length : Int) - 1)) = ji8 := (i64_w _).trans hji8
     by_cases c9 : 0 ≤ (ji8)
     ·rw [if_pos c9] at H
      have c9b0 : decide (0 ≤ (ji8)) = true := decide_eq_true c9
      clear c9
      by_cases c10 : (ji8) < (l0.length : Int)
      ·rw [if_pos c10] at H
       have c10b0 : decide ((ji8) < (l0.length : Int)) = true := decide_eq_true c10
       clear c10
       have H' := Aside0.mk H
       clear H
       have p485 : 0 ≤ ((ji8) : Int) := of_decide_eq_true as_
       have q485 : (ji8) < (l0.length : Int) := of_decide_eq_true as_
       obtain ⟨ad485, e485, hx485_0⟩ := Kd.at_int HR0.out (ji8) p485 q485
       cases e485
       replace hx485_0 := (HB.out.cell (World.block_lt_of_cell? w _ hx485_0)).trans hx485_0
       replace p485 := eq_true p485
       replace q485 := eq_true q485
       go_wp2
       go_meet
       case rel => exact ⟨_, (decide ((rd l0 (ji8)) ≥ a1)), (by first | rfl | (simp; done) | (simp only [← hji8] <;> (first | rfl | simp)) | (simp [*]; done)), H', ⟨by first | omega | exact Nat.le_refl _⟩, ⟨bw_⟩⟩
      ·rw [if_neg c10] at H
       exact absurd H (by simp)
     ·rw [if_neg c9] at H
      exact absurd H (by simp)
  case rest =>
   clear HC5
   try clear c1
   try clear c2
   try clear p2
   try clear c3
   try clear c4
   try clear c4b0
   try clear c4b1
   try clear p4
   try clear q4
   try clear hx4
   try clear c6
   try clear c6b0
   try clear p6
   try clear c7
   try clear c7b0
   try clear c9
   try clear c9b0
   try clear c10
   try clear c10b0
   try clear hx485_0
   try clear p485
   try clear q485
   obtain ⟨kq, x31_4, rfl, HA, HJ4, HB⟩ := hcut
   cases kq with
   |zero => exact absurd HA.out (by simp [torusref07_Cofacets.j0])
   |succ kj4 =>
    have H := HA.out
    clear HA
    simp only [torusref07_Cofacets.j0] at H
    by_cases c11 : x31_4 = true
    ·subst c11
     rw [if_pos rfl] at H
     simp only [Option.some.injEq, Prod.mk.injEq] at H
     obtain ⟨rfl, rfl⟩ := H
     go_wp2
     go_ret2
     exact ⟨_, by first | rfl | (simp [errW_none, errW_some] <;> rfl) | (simp [*, errW_none, errW_some] <;> rfl), by first | exact Kd.S_nil _ _ _ _ _ | exact Kd.N_nil _ _ _ _ _ | exact Kd.V_nil _ _ _ _ _ | exact Kd.Q_nil _ _ _ _ _ | exact Kd.R_nil _ _ _ _ _, bw_⟩
    ·replace c11 := Bool.eq_false_iff.mpr c11
     subst c11
     rw [if_neg (show ¬ (false = true) by decide)] at H
     have H' := Aside0.mk H
     clear H
     go_wp2
     go_loopg [7, 8] kj4 (fun kq v7 v8 w' => ∃ (x7_2 : List (List Int)) (x8_2 : Int), v8 = .int .i64 x8_2 ∧ Aside0 (torusref07_Cofacets.l0 kq l0 a1 x7_2 x8_2 = some (r1, r2)) ∧ Aside0 (kq ≤ kj4) ∧ Aside0 (Kd.S (Kd.slice 3 (Kd.int .i64)) 22 w' w.heap.size (fun _ => True) v7 x7_2) ∧ Aside0 (Below w.heap.size w w'))
     case atStart => exact ⟨(([] : List (List Int))), (0), sd_, H', ⟨Nat.le_refl _⟩, ⟨by first | exact Kd.S_nil _ _ _ _ _ | exact Kd.N_nil _ _ _ _ _ | exact Kd.V_nil _ _ _ _ _ | exact Kd.Q_nil _ _ _ _ _ | exact Kd.R_nil _ _ _ _ _⟩, ⟨bw_⟩⟩
     case round =>
      clear H'
      try clear c1
      try clear c2
      try clear p2
      try clear c3
      try clear c4
      try clear c4b0
      try clear c4b1
      try clear p4
      try clear q4
      try clear hx4
      try clear c6
      try clear c6b0
      try clear p6
      try clear c7
      try clear c7b0
      try clear c9
      try clear c9b0
      try clear c10
      try clear c10b0
      try clear c11
      try clear hx485_0
      try clear p2
      try clear p4
      try clear p485
      try clear p6
      try clear q4
      try clear q485
      obtain ⟨x7_2, x8_2, rfl, HA, HK2, HO_7, HB⟩ := hrel
      cases gk with
      |zero => exact absurd HA.out (by simp [torusref07_Cofacets.l0])
      |succ k2 =>
       have H := HA.out
       clear HA
       simp only [torusref07_Cofacets.l0] at H
       have HC12 := Aside0.mk H
       clear H
       go_upto_region 8 with (fail)
       go_cut [39] (fun v39 wc => ∃ (kq : Nat) (x39_11 : Bool), v39 = .bool x39_11 ∧ Aside0 (torusref07_Cofacets.j2 kq l0 a1 x7_2 x8_2 x39_11 = some (r1, r2)) ∧ Aside0 (kq ≤ k2) ∧ Aside0 (Kd.S (Kd.slice 3 (Kd.int .i64)) 22 wc w.heap.size (fun _ => True) u7 x7_2) ∧ Aside0 (Below w.heap.size w wc))
       case first =>
        have H := HC12.out
        clear HC12
        by_cases c13 : (l0.length : Int) ≤ 4
        ·rw [if_pos c13] at H
         have c13b0 : decide ((l0.length : Int) ≤ 4) = true := decide_eq_true c13
         have c13b1 : decide (l0.length ≤ 4) = true := decide_eq_true (by omega)
         clear c13
         (first | rw [c13b0] | (simp only [i64_w, i32_w]; rw [c13b0]) | skip)
         have H' := Aside0.mk H
         clear H
         go_wp2
         go_meet
         case rel => exact ⟨_, (decide (x8_2 < a1)), sd_, H', ⟨by have := HJ4.out; have := HK2.out; first | omega | exact Nat.le_refl _⟩, ⟨rSa_ HO_7.out⟩, ⟨bw_⟩⟩
        ·rw [if_neg c13] at H
         have c13b0 : decide ((l0.length : Int) ≤ 4) = false := decide_eq_false c13
         have c13b1 : decide (l0.length ≤ 4) = false := decide_eq_false (by omega)
         clear c13
         (first | rw [c13b0] | (simp only [i64_w, i32_w]; rw [c13b0]) | skip)
         have H' := Aside0.mk H
         clear H
         go_wp2
         go_meet
         case rel => exact ⟨_, (false), sd_, H', ⟨by have := HJ4.out; have := HK2.out; first | omega | exact Nat.le_refl _⟩, ⟨rSa_ HO_7.out⟩, ⟨bw_⟩⟩
       case rest =>
        clear HC12
        try clear c1
        try clear c2
        try clear p2
        try clear c3
        try clear c4
        try clear c4b0
        try clear c4b1
        try clear p4
        try clear q4
        try clear hx4
        try clear c6
        try clear c6b0
        try clear p6
        try clear c7
        try clear c7b0
        try clear c9
        try clear c9b0
        try clear c10
        try clear c10b0
        try clear c11
        try clear c13
        try clear c13b0
        try clear c13b1
        try clear hx485_0
        try clear p2
        try clear p4
        try clear p485
        try clear p6
        try clear q4
        try clear q485
        obtain ⟨kq, x39_11, rfl, HA, HJ11, HO_7, HB⟩ := hcut
        cases kq with
        |zero => exact absurd HA.out (by simp [torusref07_Cofacets.j2])
        |succ kj11 =>
         have H := HA.out
         clear HA
         simp only [torusref07_Cofacets.j2] at H
         by_cases c14 : x39_11 = true
         ·subst c14
          rw [if_pos rfl] at H
          replace H := Option.bind_eq_some_iff.mp H
          obtain ⟨t486, A150, H⟩ := H
          replace H : (if t486 = true then (torusref07_Cofacets.l0 kj11 l0 a1 x7_2 (wrap64 (x8_2 + 1))) else ((some (([] : List Int) : List Int)).bind fun y487 => (if y487.length + l0.length < 17592186044416 then ((some (y487 ++ l0 : List Int)).bind fun y490 => (if y490.length < 17592186044416 then ((torusref07_Sorted.f kj11 (y490 ++ [x8_2])).bind fun bt496 => (if x7_2.length < 5864062014805 then (torusref07_Cofacets.l0 kj11 l0 a1 (x7_2 ++ [bt496.1]) (wrap64 (x8_2 + 1))) else (none))) else (none))) else (none)))) = some (r1, r2) := H
          have A15 := Aside0.mk A150
          clear A150
          by_cases c16 : t486 = true
          ·subst c16
           rw [if_pos rfl] at H
           have H' := Aside0.mk H
           clear H
           go_wp2_with (first | ((with_reducible refine gate_callee (f := 46) rfl ?_); refine goesL_ (some 44) rfl rfl Tryd.func46 (by kernel_rfl) rfl #[.slice A0 l0.length c0, .int .i64 x8_2] rfl ag_ ?_; (with_reducible refine (torusref07_In.calls kj11 _ _ l0 x8_2 true _ ?side1 ?side2 A15.out).mono ?_); (case side1 => exact cs_ (Kd.C_below HR0.out HB.out)); (case side2 => exact HC0.out); rintro e w' ⟨rfl, ⟨nd, rfl⟩⟩; refine ⟨_, rfl, ?_⟩))
           go_roundg kj11
           case measure => have := HJ4.out; have := HK2.out; have := HJ11.out; omega
           case rel => exact ⟨(x7_2), (wrap64 (x8_2 + 1)), sd_, H', ⟨by have := HJ4.out; have := HK2.out; have := HJ11.out; omega⟩, ⟨rSa_ HO_7.out⟩, ⟨bw_⟩⟩
          ·replace c16 := Bool.eq_false_iff.mpr c16
           subst c16
           rw [if_neg (show ¬ (false = true) by decide)] at H
           obtain ⟨y487, hy487⟩ : ∃ y_ : List Int, y_ = (([] : List Int)) := ⟨_, rfl⟩
           replace H : (if y487.length + l0.length < 17592186044416 then ((some (y487 ++ l0 : List Int)).bind fun y490 => (if y490.length < 17592186044416 then ((torusref07_Sorted.f kj11 (y490 ++ [x8_2])).bind fun bt496 => (if x7_2.length < 5864062014805 then (torusref07_Cofacets.l0 kj11 l0 a1 (x7_2 ++ [bt496.1]) (wrap64 (x8_2 + 1))) else (none))) else (none))) else (none)) = some (r1, r2) := by first | (rw [hy487]; with_reducible exact H) | (have H2_ := (Option.bind_some _ _).symm.trans H; rw [hy487]; with_reducible exact H2_) | (have H2_ := (Option.bind_some _ _).symm.trans H; with_reducible exact H2_) | with_reducible exact H | (rw [hy487]; exact H) | exact H
           have Ny487 := Aside0.mk hy487
           clear hy487
           by_cases c17 : y487.length + l0.length < 17592186044416
           ·rw [if_pos c17] at H
            have LMc17 := Aside0.mk c17
            clear c17
            obtain ⟨y490, hy490⟩ : ∃ y_ : List Int, y_ = (y487 ++ l0) := ⟨_, rfl⟩
            replace H : (if y490.length < 17592186044416 then ((torusref07_Sorted.f kj11 (y490 ++ [x8_2])).bind fun bt496 => (if x7_2.length < 5864062014805 then (torusref07_Cofacets.l0 kj11 l0 a1 (x7_2 ++ [bt496.1]) (wrap64 (x8_2 + 1))) else (none))) else (none)) = some (r1, r2) := by first | (rw [hy490]; with_reducible exact H) | (have H2_ := (Option.bind_some _ _).symm.trans H; rw [hy490]; with_reducible exact H2_) | (have H2_ := (Option.bind_some _ _).symm.trans H; with_reducible exact H2_) | with_reducible exact H | (rw [hy490]; exact H) | exact H
            have Ny490 := Aside0.mk hy490
            clear hy490
            by_cases c18 : y490.length < 17592186044416
            ·rw [if_pos c18] at H
             have LMc18 := Aside0.mk c18
             clear c18
             obtain ⟨y493, hy493⟩ : ∃ y_ : List Int, y_ = (y490 ++ [x8_2]) := ⟨_, rfl⟩
             replace H : ((torusref07_Sorted.f kj11 y493).bind fun bt496 => (if x7_2.length < 5864062014805 then (torusref07_Cofacets.l0 kj11 l0 a1 (x7_2 ++ [bt496.1]) (wrap64 (x8_2 + 1))) else (none))) = some (r1, r2) := by first | (rw [hy493]; with_reducible exact H) | (have H2_ := (Option.bind_some _ _).symm.trans H; rw [hy493]; with_reducible exact H2_) | (have H2_ := (Option.bind_some _ _).symm.trans H; with_reducible exact H2_) | with_reducible exact H | (rw [hy493]; exact H) | exact H
             have Ny493 := Aside0.mk hy493
             clear hy493
             replace H := Option.bind_eq_some_iff.mp H
             obtain ⟨⟨t496, t497⟩, A190, H⟩ := H
             replace H : (if x7_2.length < 5864062014805 then (torusref07_Cofacets.l0 kj11 l0 a1 (x7_2 ++ [t496]) (wrap64 (x8_2 + 1))) else (none)) = some (r1, r2) := H
             have A19 := Aside0.mk A190
             clear A190
             by_cases c20 : x7_2.length < 5864062014805
             ·rw [if_pos c20] at H
              have LMc20 := Aside0.mk c20
              clear c20
              obtain ⟨y500, hy500⟩ : ∃ y_ : List (List Int), y_ = (x7_2 ++ [t496]) := ⟨_, rfl⟩
              replace H : (torusref07_Cofacets.l0 kj11 l0 a1 y500 (wrap64 (x8_2 + 1))) = some (r1, r2) := by first | (rw [hy500]; with_reducible exact H) | (have H2_ := (Option.bind_some _ _).symm.trans H; rw [hy500]; with_reducible exact H2_) | (have H2_ := (Option.bind_some _ _).symm.trans H; with_reducible exact H2_) | with_reducible exact H | (rw [hy500]; exact H) | exact H
              have Ny500 := Aside0.mk hy500
              clear hy500
              have H' := Aside0.mk H
              clear H
              go_wp2_with (first | ((with_reducible refine gate_callee (f := 46) rfl ?_); refine goesL_ (some 44) rfl rfl Tryd.func46 (by kernel_rfl) rfl #[.slice A0 l0.length c0, .int .i64 x8_2] rfl ag_ ?_; (with_reducible refine (torusref07_In.calls kj11 _ _ l0 x8_2 false _ ?side1 ?side2 A15.out).mono ?_); (case side1 => exact cs_ (Kd.C_below HR0.out HB.out)); (case side2 => exact HC0.out); rintro e w' ⟨rfl, ⟨nd, rfl⟩⟩; refine ⟨_, rfl, ?_⟩) | ((with_reducible refine gate_dst (N := 47) rfl ?_); (try (refine gate_guard (by rfl) ?_; dsimp only)); refine Kd.R_lit (Kd.int .i64) _ 3 ?hg (N := 47) ?hd (xs := ([] : List Int)) (inner := []) (ok := fun _ => True) (okp := fun _ => True) ?hr ?hp (fun _ hk => hk) trivial (Below.refl _ _) (Nat.le_refl _) (by simp) ?_; (case hd => rfl); (case hg => rfl); (case hr => first | (go_simp; done) | (go_simp; rfl)); (case hp => exact (Reps.none _ _)); intro v488 w21 ho22 hb hg_ hnew_; clear hg_ hnew_; (first | rw [← Ny487.out] at ho22 | (simp only [Int.reduceToNat] at ho22; rw [← Ny487.out] at ho22)); have n0_ := Aside0.mk (Kd.S_elder' (rSa_ HO_7.out) (Kd.R_base ho22) hb); have n1_ := Aside0.mk (Kd.R_lower ho22 (below_size bw_)); have n2_ := Aside0.mk (below_step bw_ hb); clear HO_7; clear HB; have HO_7 := n0_; have HO489 := n1_; have HB := n2_; clear n0_ n1_ n2_; clear hb ho22) | ((with_reducible refine gate_builtin (b := .append) (xs := #[.tmp 47, .tmp 48]) rfl ?_); (try (refine gate_guard (by rfl) ?_; dsimp only)); at_builtin; refine Kd.R_append_rows (Kd.int .i64) (w0 := w) w.heap.size rfl (.tmp 47) (.tmp 48) 22 3 (.int .i64 0) 8 rfl Tryd.underlying22 info3 rfl (by decide) (by omega) v488 y487 l0 _ _ _ (fun _ => True) (fun _ => False) rfl rfl ?aO ?aR (fun _ _ h => h) (fun _ h => h.elim) ?aF ?aB ?aS ?aL ?_; (case aR => exact cs_ (Kd.C_below HR0.out HB.out)); (case aB => exact bw_); (case aF => exact (fun _ _ => trivial)); (case aO => exact (rRa_ HO489.out)); (case aS => exact (below_size bw_)); (case aL => have := LMc17.out; omega); intro v491 w23 ho hb hg hat; rw [← Ny490.out] at ho; have n0_ := Aside0.mk (Kd.S_after (ok := (fun _ => True)) (rSa_ HO_7.out) hg hat); have n1_ := Aside0.mk (hb); have n2_ := Aside0.mk (ho); clear HO_7; clear HB; clear HO489; have HO_7 := n0_; have HB := n1_; have HO492 := n2_; clear n0_ n1_ n2_; clear ho hb hg hat) | ((with_reducible refine gate_builtin (b := .append) (xs := #[.tmp 49, .tmp 51]) rfl ?_); (try (refine gate_guard (by rfl) ?_; dsimp only)); at_builtin; refine Kd.R_append (Kd.int .i64) (w0 := w) w.heap.size rfl (.tmp 49) (.tmp 51) 22 3 (.int .i64 0) 8 rfl Tryd.underlying22 info3 rfl (by decide) (by omega) v491 y490 x8_2 [.int .i64 x8_2] (fun _ => True) (fun _ => False) rfl rfl ?aP (fun _ hk => hk.elim) ?aF ?aO ?aB ?aS ?aL ?_; (case aP => exact rfl); (case aB => exact bw_); (case aF => exact (fun _ _ => trivial)); (case aO => exact (rRa_ HO492.out)); (case aS => exact (below_size bw_)); (case aL => have := LMc18.out; omega); intro v494 w24 ho hb hg hat; rw [← Ny493.out] at ho; have n0_ := Aside0.mk (Kd.S_after (ok := (fun _ => True)) (rSa_ HO_7.out) hg hat); have n1_ := Aside0.mk (hb); have n2_ := Aside0.mk (ho); clear HO_7; clear HB; clear HO492; have HO_7 := n0_; have HB := n1_; have HO495 := n2_; clear n0_ n1_ n2_; clear ho hb hg hat; obtain ⟨Ao25, co25, eo25⟩ := Kd.R_slice HO495.out; subst eo25) | ((with_reducible refine gate_callee (f := 43) rfl ?_); refine goesL_ (some 53) rfl rfl Tryd.func43 (by kernel_rfl) rfl #[.slice Ao25 y493.length co25] rfl ag_ ?_; (with_reducible refine (torusref07_Sorted.calls kj11 _ _ y493 t496 t497 _ ?side1 ?side2 A19.out).mono ?_); (case side1 => repeat (first | exact (Kd.R_reads' HO495.out).2.2 | (with_reducible refine Kd.C_alloc ?_ _) | (with_reducible refine Kd.C_drewN ?_ _) | (with_reducible refine Kd.C_drew ?_))); (case side2 => exact (Kd.R_reads' HO495.out).2.1); rintro e w26 ⟨v498, rfl, ho0, hb⟩; refine ⟨_, rfl, ?_⟩; have n0_ := Aside0.mk (Kd.S_elder' (rSa_ HO_7.out) (Kd.R_base ho0) hb); have n1_ := Aside0.mk (Kd.R_elder' (rRa_ HO495.out) (Kd.R_base ho0) hb); have n2_ := Aside0.mk (Kd.R_lower (Kd.R_new' ho0 (Kd.R_lt (rRa_ HO495.out))) (below_size bw_)); have n3_ := Aside0.mk (below_step bw_ hb); clear HO_7; clear HO495; clear HB; have HO_7 := n0_; have HO495 := n1_; have HO499 := n2_; have HB := n3_; clear n0_ n1_ n2_ n3_; (try clear hb); (try clear hb2); (try clear hk); (try clear hi); (try clear ho0); obtain ⟨Ao28, co28, eo28⟩ := Kd.R_slice HO499.out; subst eo28) | ((with_reducible refine gate_builtin (b := .append) (xs := #[.tmp 56, .tmp 58]) rfl ?_); (try (refine gate_guard (by rfl) ?_; dsimp only)); at_builtin; refine Kd.S_append (Kd.slice 3 (Kd.int .i64)) (w0 := w) w.heap.size rfl (.tmp 56) (.tmp 58) 51 22 (.slice none 0 0) 24 rfl Tryd.underlying51 info22 rfl (by decide) (by omega) u7 x7_2 t496 [.slice Ao28 t496.length co28] (fun k_ => some k_ ≠ (.slice Ao25 y493.length co25 : Value).ownBlock) (fun k_ => some k_ = (.slice Ao28 t496.length co28 : Value).ownBlock) rfl rfl ?aP (fun k_ hk_ => ((Kd.R_mono (ok' := fun k_ => ((fun k_ => some k_ ≠ (.slice Ao25 y493.length co25 : Value).ownBlock)) k_ ∧ some k_ ≠ (u7 : Value).ownBlock) (Kd.R_apart' (HO499.out) (Kd.S_typed HO_7.out) (by decide)) (fun k_ hk => ⟨hk.1.2, hk.2⟩))).1 k_ hk_.symm) ?aF ?aO ?aB ?aS ?aL ?_; (case aP => exact Kd.M_row (Kd.R_mono (Kd.R_tight rfl (Kd.R_mono (ok' := fun k_ => ((fun k_ => some k_ ≠ (.slice Ao25 y493.length co25 : Value).ownBlock)) k_ ∧ some k_ ≠ (u7 : Value).ownBlock) (Kd.R_apart' (HO499.out) (Kd.S_typed HO_7.out) (by decide)) (fun k_ hk => ⟨hk.1.2, hk.2⟩))) (fun _ h_ => h_))); (case aB => exact bw_); (case aF => exact (fun k_ hk => Kd.fresh' (Kd.R_lt (rRa_ HO495.out)) k_ hk)); (case aO => exact (by (with_reducible repeat (first | apply Kd.S_alloc | apply Kd.S_drewN | apply Kd.S_drew)); exact Kd.S_mono HO_7.out (fun k_ hk => ⟨hk.1.2, fun e_ => hk.2 e_⟩))); (case aS => exact (below_size bw_)); (case aL => have := LMc20.out; omega); intro v501 w27 ho hb hg hat; rw [← Ny500.out] at ho; have n0_ := Aside0.mk (Kd.R_over' (rRa_ HO495.out) (Kd.S_typed (rSa_ HO_7.out)) (by decide) hg); have n1_ := Aside0.mk (hb); have n2_ := Aside0.mk (ho); clear HO495; clear HB; clear HO_7; clear HO499; have HO495 := n0_; have HB := n1_; have HO502 := n2_; clear n0_ n1_ n2_; clear ho hb hg hat))
              go_roundg kj11
              case measure => have := HJ4.out; have := HK2.out; have := HJ11.out; omega
              case rel => exact ⟨(y500), (wrap64 (x8_2 + 1)), sd_, H', ⟨by have := HJ4.out; have := HK2.out; have := HJ11.out; omega⟩, ⟨by (with_reducible repeat (first | apply Kd.S_alloc | apply Kd.S_drewN | apply Kd.S_drew)); exact Kd.S_mono HO502.out (fun _ hk => trivial)⟩, ⟨bw_⟩⟩
             ·rw [if_neg c20] at H
              exact absurd H (by simp)
            ·rw [if_neg c18] at H
             exact absurd H (by simp)
           ·rw [if_neg c17] at H
            exact absurd H (by simp)
         ·replace c14 := Bool.eq_false_iff.mpr c14
          subst c14
          rw [if_neg (show ¬ (false = true) by decide)] at H
          simp only [Option.some.injEq, Prod.mk.injEq] at H
          obtain ⟨rfl, rfl⟩ := H
          go_wp2
          go_ret2
          exact ⟨_, by first | rfl | (simp [errW_none, errW_some] <;> rfl) | (simp [*, errW_none, errW_some] <;> rfl), rSa_ HO_7.out, bw_⟩
 ·rw [if_neg c4] at H
  have c4b0 : (t484 == 0) = false := beq_eq_false_iff_ne.mpr c4
  have c4b1 : (t484 != 0) = true := bne_iff_ne.mpr c4
  simp only [Option.some.injEq, Prod.mk.injEq] at H
  obtain ⟨rfl, rfl⟩ := H
  go_enter Tryd.func31, Tryd.ntmps31
  go_wp2_with (first | ((with_reducible refine gate_callee (f := 28) rfl ?_); refine goesL_ (some 12) rfl rfl Tryd.func28 (by kernel_rfl) rfl #[.slice A0 l0.length c0] rfl ag_ ?_; (with_reducible refine (torusref07_Check.calls k _ _ l0 t484 _ ?side1 ?side2 A3.out).mono ?_); (case side1 => exact cs_ HR0.out); (case side2 => exact HC0.out); rintro e w' ⟨rfl, ⟨nd, rfl⟩⟩; refine ⟨_, rfl, ?_⟩))
  go_ret2
  exact ⟨_, by first | rfl | (simp [errW_none, errW_some] <;> rfl) | (simp [*, errW_none, errW_some] <;> rfl), by first | exact Kd.S_nil _ _ _ _ _ | exact Kd.N_nil _ _ _ _ _ | exact Kd.V_nil _ _ _ _ _ | exact Kd.Q_nil _ _ _ _ _ | exact Kd.R_nil _ _ _ _ _, bw_⟩

end Go.Proofs.YticckanjfdcpaaaDoor.PSimplex
namespace Go.Proofs.YticckanjfdcpaaaDoor.PSimplex
open Go.RowKit Go.Proofs.YticckanjfdcpaaaDoorW.PrintWords Go.Proofs.YticckanjfdcpaaaDoorW.PrintLast Go.Proofs.YticckanjfdcpaaaDoorW.PrintMore
attribute [local go_sem] max2_int min2_int max_two min_two max_three min_three max_four min_four   -- for this text's walks alone
set_option linter.unusedVariables false
set_option linter.unusedSimpArgs false

/-! ### torusref07_Meet: function 27 -/
def torusref07_Meet.l0 : Nat → List Int → List Int → List Int → Int → Option (List Int)
 |0, _, _, _, _ => none
 |k + 1, x0, x1, x5, x6 => if x6 < (x0.length : Int) then (if 0 ≤ x6 then ((torusref07_In.f k x1 (rd x0 x6)).bind fun t411 => (if t411 = true then (if x5.length < 17592186044416 then (torusref07_Meet.l0 k x0 x1 (x5 ++ [rd x0 x6]) (wrap64 (x6 + 1))) else (none)) else (torusref07_Meet.l0 k x0 x1 x5 (wrap64 (x6 + 1))))) else (none)) else (some x5)
def torusref07_Meet.f (k : Nat) (l0 : List Int) (l1 : List Int) : Option (List Int) := torusref07_Meet.l0 k l0 l1 ([] : List Int) 0
theorem torusref07_Meet.mono_l : ∀ k, (∀ y0 y1 y2 y3, LeO (torusref07_Meet.l0 k y0 y1 y2 y3) (torusref07_Meet.l0 (k + 1) y0 y1 y2 y3))
 |0 => fun _ _ _ _ r h => by simp [torusref07_Meet.l0] at h
 |k + 1 => by
  have ih0 := torusref07_Meet.mono_l k
  ·intro y0 y1 y2 y3
   unfold torusref07_Meet.l0
   repeat' first
   |(with_reducible exact ih0 _ _ _ _)
   |(with_reducible exact torusref07_In.mono _ _ _)
   |(with_reducible exact LeO.refl _)
   |(with_reducible exact LeO.none _)
   |(with_reducible refine LeO.ite ?_ ?_)
   |(with_reducible refine LeO.bind ?_ (fun _ => ?_))
theorem torusref07_Meet.mono : ∀ a0 a1 k, LeO (torusref07_Meet.f k a0 a1) (torusref07_Meet.f (k + 1) a0 a1) := by
 intro a0 a1 k
 have ih0 := torusref07_Meet.mono_l k
 unfold torusref07_Meet.f
 repeat' first
   |(with_reducible exact ih0 _ _ _ _)
   |(with_reducible exact torusref07_In.mono _ _ _)
   |(with_reducible exact LeO.refl _)
   |(with_reducible exact LeO.none _)
   |(with_reducible refine LeO.ite ?_ ?_)
   |(with_reducible refine LeO.bind ?_ (fun _ => ?_))
set_option maxHeartbeats 8000000 in
set_option maxRecDepth 100000 in
theorem torusref07_Meet.calls (k : Nat) (A0 : Option Addr) (c0 : Nat) (l0 : List Int) (A1 : Option Addr) (c1 : Nat) (l1 : List Int) (r : List Int) (w : World) (hr0 : Kd.C (Kd.int .i64) w A0 l0.length l0) (hc0 : l0.length ≤ c0) (hr1 : Kd.C (Kd.int .i64) w A1 l1.length l1) (hc1 : l1.length ≤ c1) (h : torusref07_Meet.f k l0 l1 = some r) :
  Calls Tryd.prog 27 #[.slice A0 l0.length c0, .slice A1 l1.length c1] w fun e w' => ∃ v0_ : Value, e = .returned (v0_) ∧ Kd.R (Kd.int .i64) 3 w' w.heap.size (fun _ => True) v0_ r ∧ Below w.heap.size w w' := by
 have HR0 := Aside0.mk hr0
 have HC0 := Aside0.mk hc0
 clear hr0 hc0
 have HR1 := Aside0.mk hr1
 have HC1 := Aside0.mk hc1
 clear hr1 hc1
 have HB := Aside0.mk (Below.refl w.heap.size w)
 have H : (torusref07_Meet.l0 k l0 l1 ([] : List Int) 0) = some r := h
 clear h
 have H' := Aside0.mk H
 clear H
 go_enter Tryd.func27, Tryd.ntmps27
 go_wp2
 go_loopg [5, 6] k (fun kq v5 v6 w' => ∃ (x5_1 : List Int) (x6_1 : Int), v6 = .int .i64 x6_1 ∧ Aside0 (torusref07_Meet.l0 kq l0 l1 x5_1 x6_1 = some r) ∧ Aside0 (kq ≤ k) ∧ Aside0 (Kd.R (Kd.int .i64) 3 w' w.heap.size (fun _ => True) v5 x5_1) ∧ Aside0 (Below w.heap.size w w'))
 case atStart => exact ⟨(([] : List Int)), (0), sd_, H', ⟨Nat.le_refl _⟩, ⟨by first | exact Kd.R_nil _ _ _ _ _ | exact Kd.N_nil _ _ _ _ _ | exact Kd.V_nil _ _ _ _ _ | exact Kd.Q_nil _ _ _ _ _ | exact Kd.S_nil _ _ _ _ _⟩, ⟨bw_⟩⟩
 case round =>
  clear H'
  try clear c1
  try clear c2
  try clear p2
  obtain ⟨x5_1, x6_1, rfl, HA, HK1, HO_5, HB⟩ := hrel
  cases gk with
  |zero => exact absurd HA.out (by simp [torusref07_Meet.l0])
  |succ k1 =>
   have H := HA.out
   clear HA
   simp only [torusref07_Meet.l0] at H
   by_cases c3 : x6_1 < (l0.length : Int)
   ·rw [if_pos c3] at H
    have c3b0 : decide (x6_1 < (l0.length : Int)) = true := decide_eq_true c3
    clear c3
    by_cases c4 : 0 ≤ x6_1
    ·rw [if_pos c4] at H
     have c4b0 : decide (0 ≤ x6_1) = true := decide_eq_true c4
     clear c4
     replace H := Option.bind_eq_some_iff.mp H
     obtain ⟨t411, A50, H⟩ := H
     have A5 := Aside0.mk A50
     clear A50
     by_cases c6 : t411 = true
     ·subst c6
      rw [if_pos rfl] at H
      by_cases c7 : x5_1.length < 17592186044416
      ·rw [if_pos c7] at H
       have LMc7 := Aside0.mk c7
       clear c7
       obtain ⟨y413, hy413⟩ : ∃ y_ : List Int, y_ = (x5_1 ++ [rd l0 x6_1]) := ⟨_, rfl⟩
       replace H : (torusref07_Meet.l0 k1 l0 l1 y413 (wrap64 (x6_1 + 1))) = some r := by first | (rw [hy413]; with_reducible exact H) | (have H2_ := (Option.bind_some _ _).symm.trans H; rw [hy413]; with_reducible exact H2_) | (have H2_ := (Option.bind_some _ _).symm.trans H; with_reducible exact H2_) | with_reducible exact H | (rw [hy413]; exact H) | exact H
       have Ny413 := Aside0.mk hy413
       clear hy413
       have H' := Aside0.mk H
       clear H
       have p410 : 0 ≤ (x6_1 : Int) := of_decide_eq_true as_
       have q410 : x6_1 < (l0.length : Int) := of_decide_eq_true as_
       obtain ⟨ad410, e410, hx410_0⟩ := Kd.at_int HR0.out x6_1 p410 q410
       cases e410
       replace hx410_0 := (HB.out.cell (World.block_lt_of_cell? w _ hx410_0)).trans hx410_0
       replace p410 := eq_true p410
       replace q410 := eq_true q410
       go_wp2_with (first | ((with_reducible refine gate_callee (f := 46) rfl ?_); refine goesL_ (some 18) rfl rfl Tryd.func46 (by kernel_rfl) rfl #[.slice A1 l1.length c1, .int .i64 (rd l0 x6_1)] rfl ag_ ?_; (with_reducible refine (torusref07_In.calls k1 _ _ l1 (rd l0 x6_1) true _ ?side1 ?side2 A5.out).mono ?_); (case side1 => exact cs_ (Kd.C_below HR1.out HB.out)); (case side2 => exact HC1.out); rintro e w' ⟨rfl, ⟨nd, rfl⟩⟩; refine ⟨_, rfl, ?_⟩; have p412 : 0 ≤ (x6_1 : Int) := of_decide_eq_true as_; have q412 : x6_1 < (l0.length : Int) := of_decide_eq_true as_; obtain ⟨ad412, e412, hx412_0⟩ := Kd.at_int HR0.out x6_1 p412 q412; obtain rfl : ad410 = ad412 := (by injection e412); replace hx412_0 := (HB.out.cell (World.block_lt_of_cell? w _ hx412_0)).trans hx412_0; replace p412 := eq_true p412; replace q412 := eq_true q412) | ((with_reducible refine gate_builtin (b := .append) (xs := #[.tmp 19, .tmp 24]) rfl ?_); at_builtin; refine Kd.R_append (Kd.int .i64) (w0 := w) w.heap.size rfl (.tmp 19) (.tmp 24) 22 3 (.int .i64 0) 8 rfl Tryd.underlying22 info3 rfl (by decide) (by omega) u5 x5_1 (rd l0 x6_1) [.int .i64 (rd l0 x6_1)] (fun _ => True) (fun _ => False) rfl rfl ?aP (fun _ hk => hk.elim) ?aF ?aO ?aB ?aS ?aL ?_; (case aP => exact rfl); (case aB => exact bw_); (case aF => exact (fun _ _ => trivial)); (case aO => exact (rRa_ HO_5.out)); (case aS => exact (below_size bw_)); (case aL => have := LMc7.out; omega); intro v414 w8 ho hb hg hat; rw [← Ny413.out] at ho; have n0_ := Aside0.mk (hb); have n1_ := Aside0.mk (ho); clear HB; clear HO_5; have HB := n0_; have HO415 := n1_; clear n0_ n1_; clear ho hb hg hat))
       go_roundg k1
       case measure => have := HK1.out; omega
       case rel => exact ⟨(y413), (wrap64 (x6_1 + 1)), sd_, H', ⟨by have := HK1.out; omega⟩, ⟨rRa_ HO415.out⟩, ⟨bw_⟩⟩
      ·rw [if_neg c7] at H
       exact absurd H (by simp)
     ·replace c6 := Bool.eq_false_iff.mpr c6
      subst c6
      rw [if_neg (show ¬ (false = true) by decide)] at H
      have H' := Aside0.mk H
      clear H
      have p410 : 0 ≤ (x6_1 : Int) := of_decide_eq_true as_
      have q410 : x6_1 < (l0.length : Int) := of_decide_eq_true as_
      obtain ⟨ad410, e410, hx410_0⟩ := Kd.at_int HR0.out x6_1 p410 q410
      cases e410
      replace hx410_0 := (HB.out.cell (World.block_lt_of_cell? w _ hx410_0)).trans hx410_0
      replace p410 := eq_true p410
      replace q410 := eq_true q410
      go_wp2_with (first | ((with_reducible refine gate_callee (f := 46) rfl ?_); refine goesL_ (some 18) rfl rfl Tryd.func46 (by kernel_rfl) rfl #[.slice A1 l1.length c1, .int .i64 (rd l0 x6_1)] rfl ag_ ?_; (with_reducible refine (torusref07_In.calls k1 _ _ l1 (rd l0 x6_1) false _ ?side1 ?side2 A5.out).mono ?_); (case side1 => exact cs_ (Kd.C_below HR1.out HB.out)); (case side2 => exact HC1.out); rintro e w' ⟨rfl, ⟨nd, rfl⟩⟩; refine ⟨_, rfl, ?_⟩))
      go_roundg k1
      case measure => have := HK1.out; omega
      case rel => exact ⟨(x5_1), (wrap64 (x6_1 + 1)), sd_, H', ⟨by have := HK1.out; omega⟩, ⟨rRa_ HO_5.out⟩, ⟨bw_⟩⟩
    ·rw [if_neg c4] at H
     exact absurd H (by simp)
   ·rw [if_neg c3] at H
    have c3b0 : decide (x6_1 < (l0.length : Int)) = false := decide_eq_false c3
    clear c3
    obtain rfl := Option.some.inj H
    go_wp2
    go_ret
    exact ⟨_, by first | rfl | (simp [errW_none, errW_some] <;> rfl) | (simp [*, errW_none, errW_some] <;> rfl), rRa_ HO_5.out, bw_⟩

end Go.Proofs.YticckanjfdcpaaaDoor.PSimplex
namespace Go.Proofs.YticckanjfdcpaaaDoor.PSimplex
open Go.RowKit Go.Proofs.YticckanjfdcpaaaDoorW.PrintWords Go.Proofs.YticckanjfdcpaaaDoorW.PrintLast Go.Proofs.YticckanjfdcpaaaDoorW.PrintMore
attribute [local go_sem] max2_int min2_int max_two min_two max_three min_three max_four min_four   -- for this text's walks alone
set_option linter.unusedVariables false
set_option linter.unusedSimpArgs false

/-! ### torusref07_Join: function 32 -/
def torusref07_Join.f (k : Nat) (l0 : List Int) (l1 : List Int) : Option (List Int × Int) := (torusref07_Check.f k l0).bind fun t503 => (if t503 = 0 then ((torusref07_Check.f k l1).bind fun t504 => (if t504 = 0 then ((torusref07_Meet.f k l0 l1).bind fun t505 => (if (t505.length : Int) > 0 then (some (([] : List Int), 5)) else (if (wrap64 ((l0.length : Int) + (l1.length : Int))) > 5 then (some (([] : List Int), 3)) else ((some (([] : List Int) : List Int)).bind fun y508 => (if y508.length + l0.length < 17592186044416 then ((some (y508 ++ l0 : List Int)).bind fun y511 => (if y511.length + l1.length < 17592186044416 then ((torusref07_Sorted.f k (y511 ++ l1)).bind fun bt517 => (some (bt517.1, 0))) else (none))) else (none)))))) else (some (([] : List Int), t504)))) else (some (([] : List Int), t503)))
theorem torusref07_Join.mono : ∀ a0 a1 k, LeO (torusref07_Join.f k a0 a1) (torusref07_Join.f (k + 1) a0 a1) := by
 intro a0 a1 k
 unfold torusref07_Join.f
 repeat' first
   |(with_reducible exact torusref07_Check.mono _ _)
   |(with_reducible exact torusref07_Meet.mono _ _ _)
   |(with_reducible exact torusref07_Sorted.mono _ _)
   |(with_reducible exact LeO.refl _)
   |(with_reducible exact LeO.none _)
   |(with_reducible refine LeO.ite ?_ ?_)
   |(with_reducible refine LeO.bind ?_ (fun _ => ?_))
set_option maxHeartbeats 8000000 in
set_option maxRecDepth 100000 in
theorem torusref07_Join.calls (k : Nat) (A0 : Option Addr) (c0 : Nat) (l0 : List Int) (A1 : Option Addr) (c1 : Nat) (l1 : List Int) (r1 : List Int) (r2 : Int) (w : World) (hr0 : Kd.C (Kd.int .i64) w A0 l0.length l0) (hc0 : l0.length ≤ c0) (hr1 : Kd.C (Kd.int .i64) w A1 l1.length l1) (hc1 : l1.length ≤ c1) (h : torusref07_Join.f k l0 l1 = some (r1, r2)) :
  Calls Tryd.prog 32 #[.slice A0 l0.length c0, .slice A1 l1.length c1] w fun e w' => ∃ v0_ : Value, e = .returned (.tuple #[v0_, .int .i64 r2]) ∧ Kd.R (Kd.int .i64) 3 w' w.heap.size (fun _ => True) v0_ r1 ∧ Below w.heap.size w w' := by
 have HR0 := Aside0.mk hr0
 have HC0 := Aside0.mk hc0
 clear hr0 hc0
 have HR1 := Aside0.mk hr1
 have HC1 := Aside0.mk hc1
 clear hr1 hc1
 have HB := Aside0.mk (Below.refl w.heap.size w)
 have H : ((torusref07_Check.f k l0).bind fun t503 => (if t503 = 0 then ((torusref07_Check.f k l1).bind fun t504 => (if t504 = 0 then ((torusref07_Meet.f k l0 l1).bind fun t505 => (if (t505.length : Int) > 0 then (some (([] : List Int), 5)) else (if (wrap64 ((l0.length : Int) + (l1.length : Int))) > 5 then (some (([] : List Int), 3)) else ((some (([] : List Int) : List Int)).bind fun y508 => (if y508.length + l0.length < 17592186044416 then ((some (y508 ++ l0 : List Int)).bind fun y511 => (if y511.length + l1.length < 17592186044416 then ((torusref07_Sorted.f k (y511 ++ l1)).bind fun bt517 => (some (bt517.1, 0))) else (none))) else (none)))))) else (some (([] : List Int), t504)))) else (some (([] : List Int), t503)))) = some (r1, r2) := h
 clear h
 replace H := Option.bind_eq_some_iff.mp H
 obtain ⟨t503, A30, H⟩ := H
 replace H : (if t503 = 0 then ((torusref07_Check.f k l1).bind fun t504 => (if t504 = 0 then ((torusref07_Meet.f k l0 l1).bind fun t505 => (if (t505.length : Int) > 0 then (some (([] : List Int), 5)) else (if (wrap64 ((l0.length : Int) + (l1.length : Int))) > 5 then (some (([] : List Int), 3)) else ((some (([] : List Int) : List Int)).bind fun y508 => (if y508.length + l0.length < 17592186044416 then ((some (y508 ++ l0 : List Int)).bind fun y511 => (if y511.length + l1.length < 17592186044416 then ((torusref07_Sorted.f k (y511 ++ l1)).bind fun bt517 => (some (bt517.1, 0))) else (none))) else (none)))))) else (some (([] : List Int), t504)))) else (some (([] : List Int), t503))) = some (r1, r2) := H
 have A3 := Aside0.mk A30
 clear A30
 by_cases c4 : t503 = 0
 ·rw [if_pos c4] at H
  have c4b0 : (t503 == 0) = true := beq_iff_eq.mpr c4
  have c4b1 : (t503 != 0) = false := bne_eq_false_iff_eq.mpr c4
  clear c4
  replace H := Option.bind_eq_some_iff.mp H
  obtain ⟨t504, A50, H⟩ := H
  replace H : (if t504 = 0 then ((torusref07_Meet.f k l0 l1).bind fun t505 => (if (t505.length : Int) > 0 then (some (([] : List Int), 5)) else (if (wrap64 ((l0.length : Int) + (l1.length : Int))) > 5 then (some (([] : List Int), 3)) else ((some (([] : List Int) : List Int)).bind fun y508 => (if y508.length + l0.length < 17592186044416 then ((some (y508 ++ l0 : List Int)).bind fun y511 => (if y511.length + l1.length < 17592186044416 then ((torusref07_Sorted.f k (y511 ++ l1)).bind fun bt517 => (some (bt517.1, 0))) else (none))) else (none)))))) else (some (([] : List Int), t504))) = some (r1, r2) := H
  have A5 := Aside0.mk A50
  clear A50
  by_cases c6 : t504 = 0
  ·rw [if_pos c6] at H
   have c6b0 : (t504 == 0) = true := beq_iff_eq.mpr c6
   have c6b1 : (t504 != 0) = false := bne_eq_false_iff_eq.mpr c6
   clear c6
   replace H := Option.bind_eq_some_iff.mp H
   obtain ⟨t505, A70, H⟩ := H
   replace H : (if (t505.length : Int) > 0 then (some (([] : List Int), 5)) else (if (wrap64 ((l0.length : Int) + (l1.length : Int))) > 5 then (some (([] : List Int), 3)) else ((some (([] : List Int) : List Int)).bind fun y508 => (if y508.length + l0.length < 17592186044416 then ((some (y508 ++ l0 : List Int)).bind fun y511 => (if y511.length + l1.length < 17592186044416 then ((torusref07_Sorted.f k (y511 ++ l1)).bind fun bt517 => (some (bt517.1, 0))) else (none))) else (none))))) = some (r1, r2) := H
   have A7 := Aside0.mk A70
   clear A70
   by_cases c8 : (t505.length : Int) > 0
   ·rw [if_pos c8] at H
    have c8b0 : decide (0 < (t505.length : Int)) = true := decide_eq_true c8
    have c8b1 : decide (0 < t505.length) = true := decide_eq_true (by omega)
    clear c8
    simp only [Option.some.injEq, Prod.mk.injEq] at H
    obtain ⟨rfl, rfl⟩ := H
    go_enter Tryd.func32, Tryd.ntmps32
    go_wp2_with (first | ((with_reducible refine gate_callee (f := 28) rfl ?_); refine goesL_ (some 11) rfl rfl Tryd.func28 (by kernel_rfl) rfl #[.slice A0 l0.length c0] rfl ag_ ?_; (with_reducible refine (torusref07_Check.calls k _ _ l0 t503 _ ?side1 ?side2 A3.out).mono ?_); (case side1 => exact cs_ HR0.out); (case side2 => exact HC0.out); rintro e w' ⟨rfl, ⟨nd, rfl⟩⟩; refine ⟨_, rfl, ?_⟩) | ((with_reducible refine gate_callee (f := 28) rfl ?_); refine goesL_ (some 16) rfl rfl Tryd.func28 (by kernel_rfl) rfl #[.slice A1 l1.length c1] rfl ag_ ?_; (with_reducible refine (torusref07_Check.calls k _ _ l1 t504 _ ?side1 ?side2 A5.out).mono ?_); (case side1 => exact cs_ HR1.out); (case side2 => exact HC1.out); rintro e w' ⟨rfl, ⟨nd, rfl⟩⟩; refine ⟨_, rfl, ?_⟩) | ((with_reducible refine gate_callee (f := 27) rfl ?_); refine goesL_ (some 22) rfl rfl Tryd.func27 (by kernel_rfl) rfl #[.slice A0 l0.length c0, .slice A1 l1.length c1] rfl ag_ ?_; (with_reducible refine (torusref07_Meet.calls k _ _ l0 _ _ l1 t505 _ ?side1 ?side2 ?side3 ?side4 A7.out).mono ?_); (case side1 => exact cs_ HR0.out); (case side2 => exact HC0.out); (case side3 => exact cs_ HR1.out); (case side4 => exact HC1.out); rintro e w9 ⟨v506, rfl, ho0, hb⟩; refine ⟨_, rfl, ?_⟩; have n0_ := Aside0.mk (Kd.R_lower ho0 (below_size bw_)); have n1_ := Aside0.mk (below_step bw_ hb); clear HB; have HO507 := n0_; have HB := n1_; clear n0_ n1_; (try clear hb); (try clear hb2); (try clear hk); (try clear hi); (try clear ho0); obtain ⟨Ao10, co10, eo10⟩ := Kd.R_slice HO507.out; subst eo10))
    go_ret2
    exact ⟨_, by first | rfl | (simp [errW_none, errW_some] <;> rfl) | (simp [*, errW_none, errW_some] <;> rfl), by first | exact Kd.R_nil _ _ _ _ _ | exact Kd.N_nil _ _ _ _ _ | exact Kd.V_nil _ _ _ _ _ | exact Kd.Q_nil _ _ _ _ _ | exact Kd.S_nil _ _ _ _ _, bw_⟩
   ·rw [if_neg c8] at H
    have c8b0 : decide (0 < (t505.length : Int)) = false := decide_eq_false c8
    have c8b1 : decide (0 < t505.length) = false := decide_eq_false (by omega)
    clear c8
    by_cases c11 : (wrap64 ((l0.length : Int) + (l1.length : Int))) > 5
    ·rw [if_pos c11] at H
     have c11b0 : decide (5 < (wrap64 ((l0.length : Int) + (l1.length : Int)))) = true := decide_eq_true c11
     clear c11
     simp only [Option.some.injEq, Prod.mk.injEq] at H
     obtain ⟨rfl, rfl⟩ := H
     go_enter Tryd.func32, Tryd.ntmps32
     go_wp2_with (first | ((with_reducible refine gate_callee (f := 28) rfl ?_); refine goesL_ (some 11) rfl rfl Tryd.func28 (by kernel_rfl) rfl #[.slice A0 l0.length c0] rfl ag_ ?_; (with_reducible refine (torusref07_Check.calls k _ _ l0 t503 _ ?side1 ?side2 A3.out).mono ?_); (case side1 => exact cs_ HR0.out); (case side2 => exact HC0.out); rintro e w' ⟨rfl, ⟨nd, rfl⟩⟩; refine ⟨_, rfl, ?_⟩) | ((with_reducible refine gate_callee (f := 28) rfl ?_); refine goesL_ (some 16) rfl rfl Tryd.func28 (by kernel_rfl) rfl #[.slice A1 l1.length c1] rfl ag_ ?_; (with_reducible refine (torusref07_Check.calls k _ _ l1 t504 _ ?side1 ?side2 A5.out).mono ?_); (case side1 => exact cs_ HR1.out); (case side2 => exact HC1.out); rintro e w' ⟨rfl, ⟨nd, rfl⟩⟩; refine ⟨_, rfl, ?_⟩) | ((with_reducible refine gate_callee (f := 27) rfl ?_); refine goesL_ (some 22) rfl rfl Tryd.func27 (by kernel_rfl) rfl #[.slice A0 l0.length c0, .slice A1 l1.length c1] rfl ag_ ?_; (with_reducible refine (torusref07_Meet.calls k _ _ l0 _ _ l1 t505 _ ?side1 ?side2 ?side3 ?side4 A7.out).mono ?_); (case side1 => exact cs_ HR0.out); (case side2 => exact HC0.out); (case side3 => exact cs_ HR1.out); (case side4 => exact HC1.out); rintro e w12 ⟨v506, rfl, ho0, hb⟩; refine ⟨_, rfl, ?_⟩; have n0_ := Aside0.mk (Kd.R_lower ho0 (below_size bw_)); have n1_ := Aside0.mk (below_step bw_ hb); clear HB; have HO507 := n0_; have HB := n1_; clear n0_ n1_; (try clear hb); (try clear hb2); (try clear hk); (try clear hi); (try clear ho0); obtain ⟨Ao13, co13, eo13⟩ := Kd.R_slice HO507.out; subst eo13))
     go_ret2
     exact ⟨_, by first | rfl | (simp [errW_none, errW_some] <;> rfl) | (simp [*, errW_none, errW_some] <;> rfl), by first | exact Kd.R_nil _ _ _ _ _ | exact Kd.N_nil _ _ _ _ _ | exact Kd.V_nil _ _ _ _ _ | exact Kd.Q_nil _ _ _ _ _ | exact Kd.S_nil _ _ _ _ _, bw_⟩
    ·rw [if_neg c11] at H
     have c11b0 : decide (5 < (wrap64 ((l0.length : Int) + (l1.length : Int)))) = false := decide_eq_false c11
     clear c11
     obtain ⟨y508, hy508⟩ : ∃ y_ : List Int, y_ = (([] : List Int)) := ⟨_, rfl⟩
     replace H : (if y508.length + l0.length < 17592186044416 then ((some (y508 ++ l0 : List Int)).bind fun y511 => (if y511.length + l1.length < 17592186044416 then ((torusref07_Sorted.f k (y511 ++ l1)).bind fun bt517 => (some (bt517.1, 0))) else (none))) else (none)) = some (r1, r2) := by first | (rw [hy508]; with_reducible exact H) | (have H2_ := (Option.bind_some _ _).symm.trans H; rw [hy508]; with_reducible exact H2_) | (have H2_ := (Option.bind_some _ _).symm.trans H; with_reducible exact H2_) | with_reducible exact H | (rw [hy508]; exact H) | exact H
     have Ny508 := Aside0.mk hy508
     clear hy508
     by_cases c14 : y508.length + l0.length < 17592186044416
     ·rw [if_pos c14] at H
      have LMc14 := Aside0.mk c14
      clear c14
      obtain ⟨y511, hy511⟩ : ∃ y_ : List Int, y_ = (y508 ++ l0) := ⟨_, rfl⟩
      replace H : (if y511.length + l1.length < 17592186044416 then ((torusref07_Sorted.f k (y511 ++ l1)).bind fun bt517 => (some (bt517.1, 0))) else (none)) = some (r1, r2) := by first | (rw [hy511]; with_reducible exact H) | (have H2_ := (Option.bind_some _ _).symm.trans H; rw [hy511]; with_reducible exact H2_) | (have H2_ := (Option.bind_some _ _).symm.trans H; with_reducible exact H2_) | with_reducible exact H | (rw [hy511]; exact H) | exact H
      have Ny511 := Aside0.mk hy511
      clear hy511
      by_cases c15 : y511.length + l1.length < 17592186044416
      ·rw [if_pos c15] at H
       have LMc15 := Aside0.mk c15
       clear c15
       obtain ⟨y514, hy514⟩ : ∃ y_ : List Int, y_ = (y511 ++ l1) := ⟨_, rfl⟩
       replace H : ((torusref07_Sorted.f k y514).bind fun bt517 => (some (bt517.1, 0))) = some (r1, r2) := by first | (rw [hy514]; with_reducible exact H) | (have H2_ := (Option.bind_some _ _).symm.trans H; rw [hy514]; with_reducible exact H2_) | (have H2_ := (Option.bind_some _ _).symm.trans H; with_reducible exact H2_) | with_reducible exact H | (rw [hy514]; exact H) | exact H
       have Ny514 := Aside0.mk hy514
       clear hy514
       replace H := Option.bind_eq_some_iff.mp H
       obtain ⟨⟨t517, t518⟩, A160, H⟩ := H
       replace H : (some (t517, 0)) = some (r1, r2) := H
       have A16 := Aside0.mk A160
       clear A160
       simp only [Option.some.injEq, Prod.mk.injEq] at H
       obtain ⟨rfl, rfl⟩ := H
       go_enter Tryd.func32, Tryd.ntmps32
       go_wp2_with (first | ((with_reducible refine gate_callee (f := 28) rfl ?_); refine goesL_ (some 11) rfl rfl Tryd.func28 (by kernel_rfl) rfl #[.slice A0 l0.length c0] rfl ag_ ?_; (with_reducible refine (torusref07_Check.calls k _ _ l0 t503 _ ?side1 ?side2 A3.out).mono ?_); (case side1 => exact cs_ HR0.out); (case side2 => exact HC0.out); rintro e w' ⟨rfl, ⟨nd, rfl⟩⟩; refine ⟨_, rfl, ?_⟩) | ((with_reducible refine gate_callee (f := 28) rfl ?_); refine goesL_ (some 16) rfl rfl Tryd.func28 (by kernel_rfl) rfl #[.slice A1 l1.length c1] rfl ag_ ?_; (with_reducible refine (torusref07_Check.calls k _ _ l1 t504 _ ?side1 ?side2 A5.out).mono ?_); (case side1 => exact cs_ HR1.out); (case side2 => exact HC1.out); rintro e w' ⟨rfl, ⟨nd, rfl⟩⟩; refine ⟨_, rfl, ?_⟩) | ((with_reducible refine gate_callee (f := 27) rfl ?_); refine goesL_ (some 22) rfl rfl Tryd.func27 (by kernel_rfl) rfl #[.slice A0 l0.length c0, .slice A1 l1.length c1] rfl ag_ ?_; (with_reducible refine (torusref07_Meet.calls k _ _ l0 _ _ l1 t505 _ ?side1 ?side2 ?side3 ?side4 A7.out).mono ?_); (case side1 => exact cs_ HR0.out); (case side2 => exact HC0.out); (case side3 => exact cs_ HR1.out); (case side4 => exact HC1.out); rintro e w17 ⟨v506, rfl, ho0, hb⟩; refine ⟨_, rfl, ?_⟩; have n0_ := Aside0.mk (Kd.R_lower ho0 (below_size bw_)); have n1_ := Aside0.mk (below_step bw_ hb); clear HB; have HO507 := n0_; have HB := n1_; clear n0_ n1_; (try clear hb); (try clear hb2); (try clear hk); (try clear hi); (try clear ho0); obtain ⟨Ao18, co18, eo18⟩ := Kd.R_slice HO507.out; subst eo18) | ((with_reducible refine gate_dst (N := 32) rfl ?_); refine Kd.R_lit (Kd.int .i64) _ 3 ?hg (N := 32) ?hd (xs := ([] : List Int)) (inner := []) (ok := fun _ => True) (okp := fun _ => True) ?hr ?hp (fun _ hk => hk) trivial (Below.refl _ _) (Nat.le_refl _) (by simp) ?_; (case hd => rfl); (case hg => rfl); (case hr => first | (go_simp; done) | (go_simp; rfl)); (case hp => exact (Reps.none _ _)); intro v509 w19 ho20 hb hg_ hnew_; clear hg_ hnew_; (first | rw [← Ny508.out] at ho20 | (simp only [Int.reduceToNat] at ho20; rw [← Ny508.out] at ho20)); have n0_ := Aside0.mk (Kd.R_elder' (rRa_ HO507.out) (Kd.R_base ho20) hb); have n1_ := Aside0.mk (Kd.R_lower (Kd.R_new' ho20 (Kd.R_lt (rRa_ HO507.out))) (below_size bw_)); have n2_ := Aside0.mk (below_step bw_ hb); clear HO507; clear HB; have HO507 := n0_; have HO510 := n1_; have HB := n2_; clear n0_ n1_ n2_; clear hb ho20) | ((with_reducible refine gate_builtin (b := .append) (xs := #[.tmp 32, .tmp 33]) rfl ?_); at_builtin; refine Kd.R_append_rows (Kd.int .i64) (w0 := w) w.heap.size rfl (.tmp 32) (.tmp 33) 22 3 (.int .i64 0) 8 rfl Tryd.underlying22 info3 rfl (by decide) (by omega) v509 y508 l0 _ _ _ (fun k_ => some k_ ≠ (.slice Ao18 t505.length co18 : Value).ownBlock) (fun _ => False) rfl rfl ?aO ?aR (fun _ _ h => h) (fun _ h => h.elim) ?aF ?aB ?aS ?aL ?_; (case aR => exact cs_ (Kd.C_below HR0.out HB.out)); (case aB => exact bw_); (case aF => exact (fun k_ hk => Kd.fresh' (Kd.R_lt (rRa_ HO507.out)) k_ hk)); (case aO => exact (by (with_reducible repeat (first | apply Kd.R_alloc | apply Kd.R_drewN | apply Kd.R_drew)); exact Kd.R_mono HO510.out (fun _ hk => hk.2))); (case aS => exact (below_size bw_)); (case aL => have := LMc14.out; omega); intro v512 w21 ho hb hg hat; rw [← Ny511.out] at ho; have n0_ := Aside0.mk (Kd.R_after (ok := (fun _ => True)) (rRa_ HO507.out) hg hat); have n1_ := Aside0.mk (hb); have n2_ := Aside0.mk (ho); clear HO507; clear HB; clear HO510; have HO507 := n0_; have HB := n1_; have HO513 := n2_; clear n0_ n1_ n2_; clear ho hb hg hat) | ((with_reducible refine gate_builtin (b := .append) (xs := #[.tmp 34, .tmp 35]) rfl ?_); at_builtin; refine Kd.R_append_rows (Kd.int .i64) (w0 := w) w.heap.size rfl (.tmp 34) (.tmp 35) 22 3 (.int .i64 0) 8 rfl Tryd.underlying22 info3 rfl (by decide) (by omega) v512 y511 l1 _ _ _ (fun k_ => some k_ ≠ (.slice Ao18 t505.length co18 : Value).ownBlock) (fun _ => False) rfl rfl ?aO ?aR (fun _ _ h => h) (fun _ h => h.elim) ?aF ?aB ?aS ?aL ?_; (case aR => exact cs_ (Kd.C_below HR1.out HB.out)); (case aB => exact bw_); (case aF => exact (fun k_ hk => Kd.fresh' (Kd.R_lt (rRa_ HO507.out)) k_ hk)); (case aO => exact (rRa_ HO513.out)); (case aS => exact (below_size bw_)); (case aL => have := LMc15.out; omega); intro v515 w22 ho hb hg hat; rw [← Ny514.out] at ho; have n0_ := Aside0.mk (Kd.R_after (ok := (fun _ => True)) (rRa_ HO507.out) hg hat); have n1_ := Aside0.mk (hb); have n2_ := Aside0.mk (ho); clear HO507; clear HB; clear HO513; have HO507 := n0_; have HB := n1_; have HO516 := n2_; clear n0_ n1_ n2_; clear ho hb hg hat; have n_ := Aside0.mk (Kd.R_mono (ok' := (fun _ => True)) HO516.out (fun k_ hk => trivial)); clear HO516; have HO516 := n_; clear n_; (try clear HO507); obtain ⟨Ao23, co23, eo23⟩ := Kd.R_slice HO516.out; subst eo23) | ((with_reducible refine gate_callee (f := 43) rfl ?_); refine goesL_ (some 37) rfl rfl Tryd.func43 (by kernel_rfl) rfl #[.slice Ao23 y514.length co23] rfl ag_ ?_; (with_reducible refine (torusref07_Sorted.calls k _ _ y514 t517 t518 _ ?side1 ?side2 A16.out).mono ?_); (case side1 => repeat (first | exact (Kd.R_reads' HO516.out).2.2 | (with_reducible refine Kd.C_alloc ?_ _) | (with_reducible refine Kd.C_drewN ?_ _) | (with_reducible refine Kd.C_drew ?_))); (case side2 => exact (Kd.R_reads' HO516.out).2.1); rintro e w24 ⟨v519, rfl, ho0, hb⟩; refine ⟨_, rfl, ?_⟩; have n0_ := Aside0.mk (Kd.R_elder' (rRa_ HO516.out) (Kd.R_base ho0) hb); have n1_ := Aside0.mk (Kd.R_lower (Kd.R_new' ho0 (Kd.R_lt (rRa_ HO516.out))) (below_size bw_)); have n2_ := Aside0.mk (below_step bw_ hb); clear HO516; clear HB; have HO516 := n0_; have HO520 := n1_; have HB := n2_; clear n0_ n1_ n2_; (try clear hb); (try clear hb2); (try clear hk); (try clear hi); (try clear ho0)))
       go_ret2
       exact ⟨_, by first | rfl | (simp [errW_none, errW_some] <;> rfl) | (simp [*, errW_none, errW_some] <;> rfl), by (with_reducible repeat (first | apply Kd.R_alloc | apply Kd.R_drewN | apply Kd.R_drew)); exact Kd.R_mono HO520.out (fun _ hk => trivial), bw_⟩
      ·rw [if_neg c15] at H
       exact absurd H (by simp)
     ·rw [if_neg c14] at H
      exact absurd H (by simp)
  ·rw [if_neg c6] at H
   have c6b0 : (t504 == 0) = false := beq_eq_false_iff_ne.mpr c6
   have c6b1 : (t504 != 0) = true := bne_iff_ne.mpr c6
   simp only [Option.some.injEq, Prod.mk.injEq] at H
   obtain ⟨rfl, rfl⟩ := H
   go_enter Tryd.func32, Tryd.ntmps32
   go_wp2_with (first | ((with_reducible refine gate_callee (f := 28) rfl ?_); refine goesL_ (some 11) rfl rfl Tryd.func28 (by kernel_rfl) rfl #[.slice A0 l0.length c0] rfl ag_ ?_; (with_reducible refine (torusref07_Check.calls k _ _ l0 t503 _ ?side1 ?side2 A3.out).mono ?_); (case side1 => exact cs_ HR0.out); (case side2 => exact HC0.out); rintro e w' ⟨rfl, ⟨nd, rfl⟩⟩; refine ⟨_, rfl, ?_⟩) | ((with_reducible refine gate_callee (f := 28) rfl ?_); refine goesL_ (some 16) rfl rfl Tryd.func28 (by kernel_rfl) rfl #[.slice A1 l1.length c1] rfl ag_ ?_; (with_reducible refine (torusref07_Check.calls k _ _ l1 t504 _ ?side1 ?side2 A5.out).mono ?_); (case side1 => exact cs_ HR1.out); (case side2 => exact HC1.out); rintro e w' ⟨rfl, ⟨nd, rfl⟩⟩; refine ⟨_, rfl, ?_⟩))
   go_ret2
   exact ⟨_, by first | rfl | (simp [errW_none, errW_some] <;> rfl) | (simp [*, errW_none, errW_some] <;> rfl), by first | exact Kd.R_nil _ _ _ _ _ | exact Kd.N_nil _ _ _ _ _ | exact Kd.V_nil _ _ _ _ _ | exact Kd.Q_nil _ _ _ _ _ | exact Kd.S_nil _ _ _ _ _, bw_⟩
 ·rw [if_neg c4] at H
  have c4b0 : (t503 == 0) = false := beq_eq_false_iff_ne.mpr c4
  have c4b1 : (t503 != 0) = true := bne_iff_ne.mpr c4
  simp only [Option.some.injEq, Prod.mk.injEq] at H
  obtain ⟨rfl, rfl⟩ := H
  go_enter Tryd.func32, Tryd.ntmps32
  go_wp2_with (first | ((with_reducible refine gate_callee (f := 28) rfl ?_); refine goesL_ (some 11) rfl rfl Tryd.func28 (by kernel_rfl) rfl #[.slice A0 l0.length c0] rfl ag_ ?_; (with_reducible refine (torusref07_Check.calls k _ _ l0 t503 _ ?side1 ?side2 A3.out).mono ?_); (case side1 => exact cs_ HR0.out); (case side2 => exact HC0.out); rintro e w' ⟨rfl, ⟨nd, rfl⟩⟩; refine ⟨_, rfl, ?_⟩))
  go_ret2
  exact ⟨_, by first | rfl | (simp [errW_none, errW_some] <;> rfl) | (simp [*, errW_none, errW_some] <;> rfl), by first | exact Kd.R_nil _ _ _ _ _ | exact Kd.N_nil _ _ _ _ _ | exact Kd.V_nil _ _ _ _ _ | exact Kd.Q_nil _ _ _ _ _ | exact Kd.S_nil _ _ _ _ _, bw_⟩

end Go.Proofs.YticckanjfdcpaaaDoor.PSimplex
namespace Go.Proofs.YticckanjfdcpaaaDoor.PSimplex
open Go.RowKit Go.Proofs.YticckanjfdcpaaaDoorW.PrintWords Go.Proofs.YticckanjfdcpaaaDoorW.PrintLast Go.Proofs.YticckanjfdcpaaaDoorW.PrintMore
attribute [local go_sem] max2_int min2_int max_two min_two max_three min_three max_four min_four   -- for this text's walks alone
set_option linter.unusedVariables false
set_option linter.unusedSimpArgs false

/-! ### slices_isNaN_int: function 67 -/
def slices_isNaN_int.f (a0 : Int) : Option (Bool) := some (a0 != a0)
set_option maxHeartbeats 8000000 in
set_option maxRecDepth 100000 in
theorem slices_isNaN_int.calls (a0 : Int) (r : Bool) (w : World) (h : slices_isNaN_int.f a0 = some r) :
  Calls Tryd.prog 67 #[.int .i64 a0] w fun e w' => e = .returned (.bool r) ∧ Drawn0 w w' := by
 have H : (some (a0 != a0)) = some r := h
 clear h
 obtain rfl := Option.some.inj H
 go_enter Tryd.func67, Tryd.ntmps67
 go_wp2
 go_ret
 exact ⟨sd_, dr_⟩

end Go.Proofs.YticckanjfdcpaaaDoor.PSimplex
namespace Go.Proofs.YticckanjfdcpaaaDoor.PSimplex
open Go.RowKit Go.Proofs.YticckanjfdcpaaaDoorW.PrintWords Go.Proofs.YticckanjfdcpaaaDoorW.PrintLast Go.Proofs.YticckanjfdcpaaaDoorW.PrintMore
attribute [local go_sem] max2_int min2_int max_two min_two max_three min_three max_four min_four   -- for this text's walks alone
set_option linter.unusedVariables false
set_option linter.unusedSimpArgs false

/-! ### api_Simplex_int_55: function 55 -/
def api_Simplex_int_55.l0 : Nat → List Int → Int → Int → Int → Int → Option (Int × Bool)
 |0, _, _, _, _, _ => none
 |k + 1, x0, x1, x6, x7, x8 => if x7 < x8 then (if 0 ≤ (wrap64 ((IntKind.u64.wrap (wrap64 (x7 + x8))) / 2)) then (if (wrap64 ((IntKind.u64.wrap (wrap64 (x7 + x8))) / 2)) < (x0.length : Int) then ((cmp_Less_int.f (rd x0 (wrap64 ((IntKind.u64.wrap (wrap64 (x7 + x8))) / 2))) x1).bind fun t522 => (if t522 = true then (api_Simplex_int_55.l0 k x0 x1 x6 (wrap64 ((wrap64 ((IntKind.u64.wrap (wrap64 (x7 + x8))) / 2)) + 1)) x8) else (api_Simplex_int_55.l0 k x0 x1 x6 x7 (wrap64 ((IntKind.u64.wrap (wrap64 (x7 + x8))) / 2))))) else (none)) else (none)) else (if x7 < x6 then (if 0 ≤ x7 then (if x7 < (x0.length : Int) then (if (rd x0 x7) = x1 then (some (x7, true)) else ((slices_isNaN_int.f (rd x0 x7)).bind fun t525 => (if t525 = true then ((slices_isNaN_int.f x1).bind fun t526 => (some (x7, t526))) else (some (x7, false))))) else (none)) else (none)) else (some (x7, false)))
def api_Simplex_int_55.f (k : Nat) (l0 : List Int) (a1 : Int) : Option (Int × Bool) := api_Simplex_int_55.l0 k l0 a1 (l0.length : Int) 0 (l0.length : Int)
theorem api_Simplex_int_55.mono_l : ∀ k, (∀ y0 y1 y2 y3 y4, LeO (api_Simplex_int_55.l0 k y0 y1 y2 y3 y4) (api_Simplex_int_55.l0 (k + 1) y0 y1 y2 y3 y4))
 |0 => fun _ _ _ _ _ r h => by simp [api_Simplex_int_55.l0] at h
 |k + 1 => by
  have ih0 := api_Simplex_int_55.mono_l k
  ·intro y0 y1 y2 y3 y4
   unfold api_Simplex_int_55.l0
   repeat' first
   |(with_reducible exact ih0 _ _ _ _ _)
   |(with_reducible exact LeO.refl _)
   |(with_reducible exact LeO.none _)
   |(with_reducible refine LeO.ite ?_ ?_)
   |(with_reducible refine LeO.bind ?_ (fun _ => ?_))
theorem api_Simplex_int_55.mono : ∀ a0 a1 k, LeO (api_Simplex_int_55.f k a0 a1) (api_Simplex_int_55.f (k + 1) a0 a1) := by
 intro a0 a1 k
 have ih0 := api_Simplex_int_55.mono_l k
 unfold api_Simplex_int_55.f
 repeat' first
   |(with_reducible exact ih0 _ _ _ _ _)
   |(with_reducible exact LeO.refl _)
   |(with_reducible exact LeO.none _)
   |(with_reducible refine LeO.ite ?_ ?_)
   |(with_reducible refine LeO.bind ?_ (fun _ => ?_))
set_option maxHeartbeats 8000000 in
set_option maxRecDepth 100000 in
theorem api_Simplex_int_55.calls (k : Nat) (A0 : Option Addr) (c0 : Nat) (l0 : List Int) (a1 : Int) (r1 : Int) (r2 : Bool) (w : World) (hr0 : Kd.C (Kd.int .i64) w A0 l0.length l0) (hc0 : l0.length ≤ c0) (h : api_Simplex_int_55.f k l0 a1 = some (r1, r2)) :
  Calls Tryd.prog 55 #[.slice A0 l0.length c0, .int .i64 a1] w fun e w' => e = .returned (.tuple #[.int .i64 r1, .bool r2]) ∧ Drawn0 w w' := by
 have HR0 := Aside0.mk hr0
 have HC0 := Aside0.mk hc0
 clear hr0 hc0
 have H : (api_Simplex_int_55.l0 k l0 a1 (l0.length : Int) 0 (l0.length : Int)) = some (r1, r2) := h
 clear h
 have H' := Aside0.mk H
 clear H
 go_enter Tryd.func55, Tryd.ntmps55
 go_wp2
 go_loopg [7, 8] k (fun kq v7 v8 w' => ∃ (x7_1 : Int) (x8_1 : Int), v7 = .int .i64 x7_1 ∧ v8 = .int .i64 x8_1 ∧ Aside0 (api_Simplex_int_55.l0 kq l0 a1 (l0.length : Int) x7_1 x8_1 = some (r1, r2)) ∧ Aside0 (kq ≤ k) ∧ Drawn0 w w')
 case atStart => exact ⟨(0), ((l0.length : Int)), sd_, sd_, H', ⟨Nat.le_refl _⟩, dr_⟩
 case round =>
  clear H'
  try clear p2
  obtain ⟨x7_1, x8_1, rfl, rfl, HA, HK1, ⟨m1, rfl⟩⟩ := hrel
  cases gk with
  |zero => exact absurd HA.out (by simp [api_Simplex_int_55.l0])
  |succ k1 =>
   have H := HA.out
   clear HA
   simp only [api_Simplex_int_55.l0] at H
   by_cases c3 : x7_1 < x8_1
   ·rw [if_pos c3] at H
    have c3b0 : decide (x7_1 < x8_1) = true := decide_eq_true c3
    clear c3
    obtain ⟨ji4, hji4⟩ : ∃ j_ : Int, (wrap64 ((IntKind.u64.wrap (wrap64 (x7_1 + x8_1))) / 2)) = j_ := ⟨_, rfl⟩
    replace H : (if 0 ≤ (ji4) then (if (ji4) < (l0.length : Int) then ((cmp_Less_int.f (rd l0 (ji4)) a1).bind fun t522 => (if t522 = true then (api_Simplex_int_55.l0 k1 l0 a1 (l0.length : Int) (wrap64 ((ji4) + 1)) x8_1) else (api_Simplex_int_55.l0 k1 l0 a1 (l0.length : Int) x7_1 ji4))) else (none)) else (none)) = some (r1, r2) := by first | (rw [hji4] at H; exact H) | (simp only [hji4] at H ⊢; exact H)
    have hji4w : (IntKind.i64.wrap ((IntKind.u64.wrap (wrap64 (x7_1 + x8_1))) / 2)) = ji4 := (i64_w _).trans hji4
    by_cases c5 : 0 ≤ (ji4)
    ·rw [if_pos c5] at H
     have c5b0 : decide (0 ≤ (ji4)) = true := decide_eq_true c5
     clear c5
     by_cases c6 : (ji4) < (l0.length : Int)
     ·rw [if_pos c6] at H
      have c6b0 : decide ((ji4) < (l0.length : Int)) = true := decide_eq_true c6
      clear c6
      replace H := Option.bind_eq_some_iff.mp H
      obtain ⟨t522, A70, H⟩ := H
      replace H : (if t522 = true then (api_Simplex_int_55.l0 k1 l0 a1 (l0.length : Int) (wrap64 ((ji4) + 1)) x8_1) else (api_Simplex_int_55.l0 k1 l0 a1 (l0.length : Int) x7_1 ji4)) = some (r1, r2) := H
      have A7 := Aside0.mk A70
      clear A70
      by_cases c8 : t522 = true
      ·subst c8
       rw [if_pos rfl] at H
       have H' := Aside0.mk H
       clear H
       have p521 : 0 ≤ ((ji4) : Int) := of_decide_eq_true as_
       have q521 : (ji4) < (l0.length : Int) := of_decide_eq_true as_
       obtain ⟨ad521, e521, hx521_0⟩ := Kd.at_int HR0.out (ji4) p521 q521
       cases e521
       replace p521 := eq_true p521
       replace q521 := eq_true q521
       go_wp2_with (first | ((with_reducible refine gate_callee (f := 66) rfl ?_); refine goesL_ (some 27) rfl rfl Tryd.func66 (by kernel_rfl) rfl #[.int .i64 (rd l0 (ji4)), .int .i64 a1] rfl (by (try simp only [List.map_toArray, List.map_cons, List.map_nil]); first | done | (simp only [hji4]; rfl) | rfl | (simp only [List.length_drop, List.length_take]; rfl)) ?_; (with_reducible refine (cmp_Less_int.calls (rd l0 (ji4)) a1 true _ A7.out).mono ?_); rintro e w' ⟨rfl, ⟨nd, rfl⟩⟩; refine ⟨_, rfl, ?_⟩))
       go_roundg k1
       case measure => have := HK1.out; omega
       case rel => exact ⟨(wrap64 ((ji4) + 1)), (x8_1), (by first | rfl | (simp; done) | (simp only [← hji4] <;> (first | rfl | simp)) | (simp [*]; done)), sd_, H', ⟨by have := HK1.out; omega⟩, dr_⟩
      ·replace c8 := Bool.eq_false_iff.mpr c8
       subst c8
       rw [if_neg (show ¬ (false = true) by decide)] at H
       have H' := Aside0.mk H
       clear H
       have p521 : 0 ≤ ((ji4) : Int) := of_decide_eq_true as_
       have q521 : (ji4) < (l0.length : Int) := of_decide_eq_true as_
       obtain ⟨ad521, e521, hx521_0⟩ := Kd.at_int HR0.out (ji4) p521 q521
       cases e521
       replace p521 := eq_true p521
       replace q521 := eq_true q521
       go_wp2_with (first | ((with_reducible refine gate_callee (f := 66) rfl ?_); refine goesL_ (some 27) rfl rfl Tryd.func66 (by kernel_rfl) rfl #[.int .i64 (rd l0 (ji4)), .int .i64 a1] rfl (by (try simp only [List.map_toArray, List.map_cons, List.map_nil]); first | done | (simp only [hji4]; rfl) | rfl | (simp only [List.length_drop, List.length_take]; rfl)) ?_; (with_reducible refine (cmp_Less_int.calls (rd l0 (ji4)) a1 false _ A7.out).mono ?_); rintro e w' ⟨rfl, ⟨nd, rfl⟩⟩; refine ⟨_, rfl, ?_⟩))
       go_roundg k1
       case measure => have := HK1.out; omega
       case rel => exact ⟨(x7_1), (ji4), sd_, (by first | rfl | (simp; done) | (simp only [← hji4] <;> (first | rfl | simp)) | (simp [*]; done)), H', ⟨by have := HK1.out; omega⟩, dr_⟩
     ·rw [if_neg c6] at H
      exact absurd H (by simp)
    ·rw [if_neg c5] at H
     exact absurd H (by simp)
   ·rw [if_neg c3] at H
    have c3b0 : decide (x7_1 < x8_1) = false := decide_eq_false c3
    clear c3
    by_cases c9 : x7_1 < (l0.length : Int)
    ·rw [if_pos c9] at H
     have c9b0 : decide (x7_1 < (l0.length : Int)) = true := decide_eq_true c9
     clear c9
     by_cases c10 : 0 ≤ x7_1
     ·rw [if_pos c10] at H
      have c10b0 : decide (0 ≤ x7_1) = true := decide_eq_true c10
      clear c10
      by_cases c11 : x7_1 < (l0.length : Int)
      ·rw [if_pos c11] at H
       have c11b0 : decide (x7_1 < (l0.length : Int)) = true := decide_eq_true c11
       clear c11
       by_cases c12 : (rd l0 x7_1) = a1
       ·rw [if_pos c12] at H
        have c12b0 : ((rd l0 x7_1) == a1) = true := beq_iff_eq.mpr c12
        have c12b1 : ((rd l0 x7_1) != a1) = false := bne_eq_false_iff_eq.mpr c12
        clear c12
        simp only [Option.some.injEq, Prod.mk.injEq] at H
        obtain ⟨rfl, rfl⟩ := H
        have p523 : 0 ≤ (x7_1 : Int) := of_decide_eq_true as_
        have q523 : x7_1 < (l0.length : Int) := of_decide_eq_true as_
        obtain ⟨ad523, e523, hx523_0⟩ := Kd.at_int HR0.out x7_1 p523 q523
        cases e523
        replace p523 := eq_true p523
        replace q523 := eq_true q523
        go_wp2
        go_ret2
        exact ⟨sd_, dr_⟩
       ·rw [if_neg c12] at H
        have c12b0 : ((rd l0 x7_1) == a1) = false := beq_eq_false_iff_ne.mpr c12
        have c12b1 : ((rd l0 x7_1) != a1) = true := bne_iff_ne.mpr c12
        replace H := Option.bind_eq_some_iff.mp H
        obtain ⟨t525, A130, H⟩ := H
        replace H : (if t525 = true then ((slices_isNaN_int.f a1).bind fun t526 => (some (x7_1, t526))) else (some (x7_1, false))) = some (r1, r2) := H
        have A13 := Aside0.mk A130
        clear A130
        by_cases c14 : t525 = true
        ·subst c14
         rw [if_pos rfl] at H
         replace H := Option.bind_eq_some_iff.mp H
         obtain ⟨t526, A150, H⟩ := H
         replace H : (some (x7_1, t526)) = some (r1, r2) := H
         have A15 := Aside0.mk A150
         clear A150
         simp only [Option.some.injEq, Prod.mk.injEq] at H
         obtain ⟨rfl, rfl⟩ := H
         have p523 : 0 ≤ (x7_1 : Int) := of_decide_eq_true as_
         have q523 : x7_1 < (l0.length : Int) := of_decide_eq_true as_
         obtain ⟨ad523, e523, hx523_0⟩ := Kd.at_int HR0.out x7_1 p523 q523
         cases e523
         replace p523 := eq_true p523
         replace q523 := eq_true q523
         have p524 : 0 ≤ (x7_1 : Int) := of_decide_eq_true as_
         have q524 : x7_1 < (l0.length : Int) := of_decide_eq_true as_
         obtain ⟨ad524, e524, hx524_0⟩ := Kd.at_int HR0.out x7_1 p524 q524
         obtain rfl : ad523 = ad524 := (by injection e524)
         replace p524 := eq_true p524
         replace q524 := eq_true q524
         go_wp2_with (first | (go_at_call 67; (with_reducible refine (slices_isNaN_int.calls (rd l0 x7_1) true _ A13.out).mono ?_); rintro e w' ⟨rfl, ⟨nd, rfl⟩⟩) | (go_at_call 67; (with_reducible refine (slices_isNaN_int.calls a1 t526 _ A15.out).mono ?_); rintro e w' ⟨rfl, ⟨nd, rfl⟩⟩))
         go_ret2
         exact ⟨sd_, dr_⟩
        ·replace c14 := Bool.eq_false_iff.mpr c14
         subst c14
         rw [if_neg (show ¬ (false = true) by decide)] at H
         simp only [Option.some.injEq, Prod.mk.injEq] at H
         obtain ⟨rfl, rfl⟩ := H
         have p523 : 0 ≤ (x7_1 : Int) := of_decide_eq_true as_
         have q523 : x7_1 < (l0.length : Int) := of_decide_eq_true as_
         obtain ⟨ad523, e523, hx523_0⟩ := Kd.at_int HR0.out x7_1 p523 q523
         cases e523
         replace p523 := eq_true p523
         replace q523 := eq_true q523
         have p524 : 0 ≤ (x7_1 : Int) := of_decide_eq_true as_
         have q524 : x7_1 < (l0.length : Int) := of_decide_eq_true as_
         obtain ⟨ad524, e524, hx524_0⟩ := Kd.at_int HR0.out x7_1 p524 q524
         obtain rfl : ad523 = ad524 := (by injection e524)
         replace p524 := eq_true p524
         replace q524 := eq_true q524
         go_wp2_with (first | (go_at_call 67; (with_reducible refine (slices_isNaN_int.calls (rd l0 x7_1) false _ A13.out).mono ?_); rintro e w' ⟨rfl, ⟨nd, rfl⟩⟩))
         go_ret2
         exact ⟨sd_, dr_⟩
      ·rw [if_neg c11] at H
       exact absurd H (by simp)
     ·rw [if_neg c10] at H
      exact absurd H (by simp)
    ·rw [if_neg c9] at H
     have c9b0 : decide (x7_1 < (l0.length : Int)) = false := decide_eq_false c9
     clear c9
     simp only [Option.some.injEq, Prod.mk.injEq] at H
     obtain ⟨rfl, rfl⟩ := H
     go_wp2
     go_ret2
     exact ⟨sd_, dr_⟩

end Go.Proofs.YticckanjfdcpaaaDoor.PSimplex
namespace Go.Proofs.YticckanjfdcpaaaDoor.PSimplex
open Go.RowKit Go.Proofs.YticckanjfdcpaaaDoorW.PrintWords Go.Proofs.YticckanjfdcpaaaDoorW.PrintLast Go.Proofs.YticckanjfdcpaaaDoorW.PrintMore
set_option linter.unusedVariables false
set_option linter.unusedSimpArgs false

theorem wpList_copy_run {P : Program} (w : World) {ops : Array Oper} {rest : List Oper} {o : Oper} {a : Act} {Q : Exit → Act → World → Prop} (hgd : o.guard = none) (d s : Operand) (t t' : TypeId)
    (ho : o.op = .call { callee := .builtin .copy, args := #[d, s], argTypes := #[t, t'] }) (v u : Value) (hd : a.eval d = v) (hs : a.eval s = u) {v' : Value} {w' : World}
    (hr : (Builtin.copy_ #[t, t'] o.type #[v, u]).run P w = .ok v' w') (h : wpList P ops Q rest (a.put o.dst v') w') : wpList P ops Q (o :: rest) a w := by
  refine wpList_plain hgd fun K hK => ?_
  unfold Oper.wp
  simp [execOp, ho, resolve, invoke, builtin, hd, hs, hr, Result.andThen]
  exact hK _ _ h
theorem append_types (W : World) (vs vx : Value) : (Builtin.append_ #[28, 22] 28 #[vs, vx]).run Tryd.prog W = (Builtin.append_ #[28, 28] 28 #[vs, vx]).run Tryd.prog W := by
  have e1 := run_underlying (P := Tryd.prog) Tryd.underlying28
  have e2 := run_underlying (P := Tryd.prog) Tryd.underlying22
  have z3 : ∀ w, (sizeOf 3).run Tryd.prog w = .ok 1 w := fun w => by kernel_rfl
  cases vs <;> simp [Builtin.append_, Sem.run_bind, e1, e2, z3, Result.andThen]
theorem sz3 : (Tryd.prog.info? 3).map (·.size) = some 1 := by kernel_rfl

theorem setRow_twice (w : World) (g : Nat) (cur A B : Array Value) (t : TypeId) (hg : w.heap[g]? = some (.cells cur t (0, 0))) : ((w.setRow g A).setRow g B).heap = (w.setRow g B).heap := by
  apply Array.ext_getElem?
  intro k
  by_cases c : k = g
  · subst c
    rw [setRow_heap _ k A B t (0, 0) (setRow_heap w k cur A t (0, 0) hg), setRow_heap w k cur B t (0, 0) hg]
  · rw [setRow_other _ _ _ _ c, setRow_other _ _ _ _ c, setRow_other _ _ _ _ c]
/-- A row's block, as the insertion leaves it where there is room. -/
def shift1 (cur : List Value) (xs : List Value) (i : Nat) : List Value := (cur.take (i + 1) ++ xs.drop i) ++ cur.drop (i + 1 + (xs.drop i).length)
def put1 (cur : List Value) (v : Value) (i : Nat) : List Value := (cur.take i ++ [v]) ++ cur.drop (i + 1)
theorem put1_len (cur : List Value) (v : Value) (i : Nat) (h : i < cur.length) : (put1 cur v i).length = cur.length := by simp [put1]; omega
theorem shift1_len (cur xs : List Value) (i : Nat) (h : xs.length < cur.length) (hi : i ≤ xs.length) : (shift1 cur xs i).length = cur.length := by simp [shift1]; omega
theorem put_shift (cur xs : List Value) (v : Value) (i : Nat) (hi : i ≤ xs.length) (hx : cur.take xs.length = xs) (hl : xs.length < cur.length) : (put1 (shift1 cur xs i) v i).take (xs.length + 1) = xs.take i ++ [v] ++ xs.drop i := by
  have e1 : (shift1 cur xs i).take i = xs.take i := by
    unfold shift1
    rw [List.append_assoc, List.take_append_of_le_length (by simp; omega), List.take_take]
    have : cur.take i = (cur.take xs.length).take i := by rw [List.take_take]; congr 1; omega
    rw [show min i (i + 1) = i by omega, this, hx]
  have e2 : (shift1 cur xs i).drop (i + 1) = xs.drop i ++ cur.drop (i + 1 + (xs.drop i).length) := by
    unfold shift1
    have hlen : (cur.take (i + 1)).length = i + 1 := by simp; omega
    rw [List.append_assoc, List.drop_append_of_le_length (by omega), List.drop_of_length_le (by omega), List.nil_append]
  unfold put1
  rw [e1, e2, ← List.append_assoc]
  refine List.take_left' ?_
  simp
  omega

set_option maxHeartbeats 8000000 in
set_option maxRecDepth 100000 in
theorem ins_shift (g cap n i g2 c2 : Nat) (cur cur2 : Array Value) (xs : List Value) (v : Value) (w : World) (hi : i < n) (hroom : n + 1 ≤ cap) (hcap : cap ≤ 9223372036854775807) (hn : n ≤ 1000) (hne : g2 ≠ g) (hg : w.heap[g]? = some (.cells cur 3 (0, 0))) (hs : cur.size = cap)
    (hx : cur.toList.take n = xs) (hxl : xs.length = n) (h1 : ∀ x ∈ xs, x.oneCell' = true) (hg2 : w.heap[g2]? = some (.cells cur2 3 (0, 0))) (hv : cur2[0]? = some v) (hv1 : v.oneCell' = true) :
    Calls Tryd.prog 56 #[.slice (some ⟨g, 0, none⟩) n cap, .int .i64 (i : Int), .slice (some ⟨g2, 0, none⟩) 1 c2] w fun e w' => e = .returned (.slice (some ⟨g, 0, none⟩) (n + 1) cap) ∧ w'.heap = (w.setRow g (put1 (shift1 cur.toList xs i) v i).toArray).heap ∧ w'.os = w.os ∧ w'.tape = w.tape ∧ w'.output = w.output := by
  have hz1 : ¬ ((1 : Int) = 0) := by omega
  have hz2 : ¬ ((i : Int) = (n : Int)) := by omega
  have hdl : (xs.drop i).length = n - i := by rw [List.length_drop, hxl]
  have hcl : cur.toList.length = cap := by rw [Array.length_toList]; exact hs
  have e22 := run_underlying (P := Tryd.prog) Tryd.underlying22
  have z3 : ∀ w, (sizeOf 3).run Tryd.prog w = .ok 1 w := fun w => by kernel_rfl
  have hov : ∀ lb cb, (callFunc 68 #[.slice (some ⟨g2, 0, none⟩) 1 c2, .slice (some ⟨g, i + 1, none⟩) lb cb]).run Tryd.prog w = .ok (.value (.bool false)) w := fun lb cb => by
    rw [run_callFunc_extern Tryd.func68 (by kernel_rfl) (by kernel_rfl) (by kernel_rfl) (e := Extern.SlicesOverlaps.overlaps #[22, 22] #[4]) (by kernel_rfl),
      Lib.run_overlaps_apart w 22 4 3 Tryd.underlying22 1 z3 ⟨g2, 0, none⟩ ⟨g, i + 1, none⟩ 1 c2 lb cb hne 3 3 cur2.size cur.size (by simp [World.shape?, hg2]) (by simp [World.shape?, hg]) (by omega) (blk_frozen hg2 0) (blk_frozen hg2 _)]
    rfl
  have hcp1 : ∀ ty dc sc, (Builtin.copy_ #[28, 28] ty #[.slice (some ⟨g, i + 1, none⟩) (n - i) dc, .slice (some ⟨g, i, none⟩) (n + 1 - i) sc]).run Tryd.prog w.drew = .ok (goInt (xs.drop i).length) (w.drew.setRow g (shift1 cur.toList xs i).toArray) := fun ty dc sc => by
    refine run_copy_row (P := Tryd.prog) w.drew 28 28 ty 3 g (i + 1) (n - i) dc ⟨g, i, none⟩ (n + 1 - i) sc cur 3 (xs.drop i) Tryd.underlying28 sz3 hg (by rw [hdl]; simp only [Nat.min_def]; split <;> omega) ?_ (by rw [hdl]; omega) (fun x hx' => h1 x (List.mem_of_mem_drop hx'))
    intro j x hj
    rw [add_at]
    rw [blk_cell (w := w.drew) hg (i + j)]
    have hj' : j < n - i := by rw [← hdl]; exact (List.getElem?_eq_some_iff.1 hj).1
    rw [List.getElem?_drop, ← hx, List.getElem?_take, if_pos (by omega), Array.getElem?_toList] at hj
    exact hj
  obtain ⟨X1, hX1⟩ : ∃ X1, X1 = shift1 cur.toList xs i := ⟨_, rfl⟩
  have hX1l : X1.length = cap := by rw [hX1, shift1_len _ _ _ (by omega) (by omega), hcl]
  rw [← hX1] at hcp1
  have hcp2 : ∀ W : World, W.heap = (w.setRow g X1.toArray).heap → ∀ ty dc, (Builtin.copy_ #[28, 22] ty #[.slice (some ⟨g, i, none⟩) (n + 1 - i) dc, .slice (some ⟨g2, 0, none⟩) 1 c2]).run Tryd.prog W = .ok (goInt 1) (W.setRow g (put1 X1 v i).toArray) := fun W hW ty dc => by
    have h := run_copy_row (P := Tryd.prog) W 28 22 ty 3 g i (n + 1 - i) dc ⟨g2, 0, none⟩ 1 c2 X1.toArray 3 [v] Tryd.underlying28 sz3 (by rw [hW]; exact setRow_heap w g cur X1.toArray 3 (0, 0) hg) (by simp only [List.length_cons, List.length_nil, Nat.min_def]; split <;> omega) ?_ (by simp; omega) (by simpa using hv1)
    · exact h
    · intro j x hj
      rw [add_at]
      have hb : W.heap[g2]? = some (.cells cur2 3 (0, 0)) := by rw [hW, setRow_other w g g2 _ hne]; exact hg2
      rw [blk_cell hb]
      cases j with
      | zero => simp at hj; subst hj; simpa using hv
      | succ j => simp at hj
  have hw1 : IntKind.i64.wrap ((i : Int) + 1) = (i : Int) + 1 := by rw [i64_w]; unfold wrap64; omega
  have hw2 : IntKind.i64.wrap ((n : Int) + 1) = (n : Int) + 1 := by rw [i64_w]; unfold wrap64; omega
  have hb1 : (0 : Int) ≤ (i : Int) + 1 := by omega
  have hb0 : (0 : Int) ≤ (n : Int) + 1 := by omega
  have hin : i ≤ n := by omega
  have htn : ((i : Int) + 1).toNat = i + 1 := by omega
  have htn2 : ((n : Int) + 1).toNat = n + 1 := by omega
  have hb2 : ¬ (cap = i + 1) := by omega
  have hb3 : (i : Int) ≤ (n : Int) + 1 := by omega
  have hb4 : ¬ (cap = i) := by omega
  have hb5 : ¬ ((cap : Int) < (n : Int) + 1) := by omega
  have hb6 : (n : Int) + 1 ≤ (cap : Int) := by omega
  have HX1 := Aside0.mk hX1
  have HX := Aside0.mk hx
  have HXL := Aside0.mk hxl
  have HDL := Aside0.mk hdl
  have HCL := Aside0.mk hcl
  have HX1L := Aside0.mk hX1l
  have HS := Aside0.mk hs
  have HC1 := Aside0.mk hcp1
  have HC2 := Aside0.mk hcp2
  clear hX1 hx hxl hdl hcl hX1l hs e22 z3 hcp1 hcp2
  go_enter Tryd.func56, Tryd.ntmps56
  go_wp2_with (simp only [hov])
  go_still_tail 8, (by kernel_rfl)
  go_wp2_with (first
    | ((with_reducible refine gate_builtin (b := .copy) (xs := #[.tmp 73, .tmp 76]) rfl ?_); refine wpList_copy_run _ rfl (.tmp 73) (.tmp 76) 28 28 rfl _ _ rfl rfl (HC1.out _ _ _) ?_)
    | ((with_reducible refine gate_builtin (b := .copy) (xs := #[.tmp 80, .tmp 81]) rfl ?_); refine wpList_copy_run _ rfl (.tmp 80) (.tmp 81) 28 22 rfl _ _ rfl rfl (HC2.out (w.drew.setRow g X1.toArray) rfl _ _) ?_))
  go_ret
  refine ⟨rfl, ?_, rfl, rfl, rfl⟩
  rw [← HX1.out]
  exact setRow_twice w.drew g cur _ _ 3 hg
theorem alloc_setRow (w : World) (A B : Array Value) (t : TypeId) : ((w.alloc (.cells A t)).setRow w.heap.size B).heap = (w.alloc (.cells B t)).heap := by
  apply Array.ext_getElem?
  intro k
  by_cases c : k = w.heap.size
  · subst c
    rw [setRow_heap _ _ A B t (0, 0) (blk_new w _), blk_new w _]
  · rw [setRow_other _ _ _ _ c]
    by_cases c' : k < w.heap.size
    · rw [Below.heap_alloc _ _ _ c', Below.heap_alloc _ _ _ c']
    · have h1 : ∀ o : Obj, (w.alloc o).heap[k]? = none := fun o => by rw [Array.getElem?_eq_none]; simp; omega
      rw [h1, h1]
theorem grow_row (row xs : List Value) (v : Value) (i : Nat) (hi : i ≤ xs.length) (hl : xs.length < row.length) (hr : row.take i = xs.take i) :
    ((((row.take i ++ [v]) ++ row.drop (i + 1)).take (i + 1) ++ xs.drop i) ++ ((row.take i ++ [v]) ++ row.drop (i + 1)).drop (i + 1 + (xs.drop i).length)).take (xs.length + 1) = xs.take i ++ [v] ++ xs.drop i := by
  have e1 : ((row.take i ++ [v]) ++ row.drop (i + 1)).take (i + 1) = row.take i ++ [v] := List.take_left' (by simp; omega)
  rw [e1, hr]
  refine List.take_left' ?_
  simp
  omega

set_option maxHeartbeats 8000000 in
set_option maxRecDepth 100000 in
theorem ins_grow (g cap n i g2 c2 : Nat) (cur cur2 : Array Value) (xs : List Value) (v : Value) (w : World) (hi : i < n) (hroom : cap < n + 1) (hnc : n ≤ cap) (hn : n ≤ 1000) (hg : w.heap[g]? = some (.cells cur 3 (0, 0))) (hs : cur.size = cap)
    (hx : cur.toList.take n = xs) (hxl : xs.length = n) (h1 : ∀ x ∈ xs, x.oneCell' = true) (hg2 : w.heap[g2]? = some (.cells cur2 3 (0, 0))) (hv : cur2[0]? = some v) (hv1 : v.oneCell' = true) :
    Calls Tryd.prog 56 #[.slice (some ⟨g, 0, none⟩) n cap, .int .i64 (i : Int), .slice (some ⟨g2, 0, none⟩) 1 c2] w fun e w' => ∃ (G : Nat) (X : List Value), e = .returned (.slice (some ⟨w.heap.size, 0, none⟩) (n + 1) G) ∧ w'.heap = (w.alloc (.cells X.toArray 3)).heap ∧ w'.os = w.os ∧ w'.tape = w.tape ∧ w'.output = w.output ∧
      X.length = G ∧ n + 1 ≤ G ∧ G ≤ maxLen ∧ X.take (n + 1) = xs.take i ++ [v] ++ xs.drop i := by
  have hz1 : ¬ ((1 : Int) = 0) := by omega
  have hz2 : ¬ ((i : Int) = (n : Int)) := by omega
  have hdl : (xs.drop i).length = n - i := by rw [List.length_drop, hxl]
  have hcl : cur.toList.length = cap := by rw [Array.length_toList]; exact hs
  obtain ⟨i0, hi0, hzz⟩ := Option.map_eq_some_iff.1 info3
  simp only [Prod.mk.injEq] at hzz
  obtain ⟨hz0, hzs, hzb⟩ := hzz
  have hcell : ∀ j x, xs[j]? = some x → w.cell? ⟨g, j, none⟩ = some x := fun j x hj => by
    rw [blk_cell hg j]
    have hj' : j < n := by rw [← hxl]; exact (List.getElem?_eq_some_iff.1 hj).1
    rw [← hx, List.getElem?_take, if_pos (by omega), Array.getElem?_toList] at hj
    exact hj
  have hold : (Builtin.firstCells i0.size i (.slice (some ⟨g, 0, none⟩) i cap)).run Tryd.prog w.drew = .ok (xs.take i).toArray w.drew := by
    rw [hzs]
    refine run_firstCells_some w.drew 1 i ⟨g, 0, none⟩ i cap (xs.take i) (by rw [List.length_take]; omega) (fun j x hj => ?_)
    rw [add_plain]
    rw [List.getElem?_take] at hj
    split at hj
    · exact hcell j x hj
    · cases hj
  have hik : i + (n + 1 - i) = n + 1 := by omega
  have hkk : (n : Int) + 1 - (i : Int) = ((n + 1 - i : Nat) : Int) := by omega
  have hrz : ∀ ty, (Builtin.append_ #[28, 3] ty #[.slice (some ⟨g, 0, none⟩) i cap, .int .i64 ((n : Int) + 1 - (i : Int))]).run Tryd.prog w =
      .ok (.slice (some ⟨w.heap.size, 0, none⟩) (n + 1) (grownCap w (n + 1) cap 3)) (w.drew.alloc (.cells ((xs.take i).toArray ++ Builtin.zeroCells (Value.int .i64 0).cells (n + 1 - i) ++ Builtin.zeroCells (Value.int .i64 0).cells (grownCap w (n + 1) cap 3 - (n + 1))) 3)) := fun ty => by
    have h := Lib.run_append_grow_zeros w 28 3 ty 3 i0 _ .i64 .i64 Tryd.underlying28 Tryd.underlying3 hi0 hz0 (some ⟨g, 0, none⟩) i cap (xs.take i) hold (n + 1 - i) (by omega) (by omega) (by omega) (by omega) (by rw [hzb]; omega) (by rw [hzb, hik]; exact growslice_fits hroom (by omega))
    rw [hik] at h
    rw [hkk]
    exact h
  obtain ⟨G, hG⟩ : ∃ G, G = grownCap w (n + 1) cap 3 := ⟨_, rfl⟩
  obtain ⟨ROW, hROW⟩ : ∃ ROW : Array Value, ROW = (xs.take i).toArray ++ Builtin.zeroCells (Value.int .i64 0).cells (n + 1 - i) ++ Builtin.zeroCells (Value.int .i64 0).cells (G - (n + 1)) := ⟨_, rfl⟩
  rw [← hG] at hrz
  rw [← hROW] at hrz
  have hGn : n + 1 ≤ G := by rw [hG]; exact grownCap_ge w _ _ _
  have hGm : G ≤ maxLen := by rw [hG]; exact grownCap_le_maxLen w (n + 1) cap 3 (by simp only [maxLen]; omega)
  have hG63 : G ≤ 9223372036854775807 := by simpa only [maxLen] using hGm
  have htk : (xs.take i).length = i := by rw [List.length_take]; omega
  have hRs : ROW.size = G := by rw [hROW]; simp [Builtin.zeroCells, Value.cells, htk]; omega
  have hRt : ROW.toList.take i = xs.take i := by
    rw [hROW]
    simp only [Array.toList_append, List.append_assoc]
    exact List.take_left' htk
  have hRl : ROW.toList.length = G := by rw [Array.length_toList]; exact hRs
  obtain ⟨Y1, hY1⟩ : ∃ Y1, Y1 = put1 ROW.toList v i := ⟨_, rfl⟩
  have hY1l : Y1.length = G := by rw [hY1, put1_len _ _ _ (by omega)]; exact hRl
  have hcpA : ∀ W : World, W.heap = (w.alloc (.cells ROW 3)).heap → ∀ ty dc, (Builtin.copy_ #[28, 22] ty #[.slice (some ⟨w.heap.size, i, none⟩) (n + 1 - i) dc, .slice (some ⟨g2, 0, none⟩) 1 c2]).run Tryd.prog W = .ok (goInt 1) (W.setRow w.heap.size Y1.toArray) := fun W hW ty dc => by
    have hN : W.heap[w.heap.size]? = some (.cells ROW 3 (0, 0)) := by rw [hW]; exact blk_new w _
    have h := run_copy_row (P := Tryd.prog) W 28 22 ty 3 w.heap.size i (n + 1 - i) dc ⟨g2, 0, none⟩ 1 c2 ROW 3 [v] Tryd.underlying28 sz3 hN (by simp only [List.length_cons, List.length_nil, Nat.min_def]; split <;> omega) ?_ (by simp; omega) (by simpa using hv1)
    · rw [hY1]
      exact h
    · intro j x hj
      rw [add_at]
      have hb : W.heap[g2]? = some (.cells cur2 3 (0, 0)) := by rw [hW, Below.heap_alloc _ _ _ (blk_lt hg2)]; exact hg2
      rw [blk_cell hb]
      cases j with
      | zero => simp at hj; subst hj; simpa using hv
      | succ j => simp at hj
  obtain ⟨Y2, hY2⟩ : ∃ Y2, Y2 = (Y1.take (i + 1) ++ xs.drop i) ++ Y1.drop (i + 1 + (xs.drop i).length) := ⟨_, rfl⟩
  have hcpB : ∀ W : World, W.heap = ((w.alloc (.cells ROW 3)).setRow w.heap.size Y1.toArray).heap → ∀ ty dc sc, (Builtin.copy_ #[28, 28] ty #[.slice (some ⟨w.heap.size, i + 1, none⟩) (n - i) dc, .slice (some ⟨g, i, none⟩) (n - i) sc]).run Tryd.prog W = .ok (goInt (xs.drop i).length) (W.setRow w.heap.size Y2.toArray) := fun W hW ty dc sc => by
    have hN : W.heap[w.heap.size]? = some (.cells Y1.toArray 3 (0, 0)) := by rw [hW]; exact setRow_heap _ _ ROW _ 3 (0, 0) (blk_new w _)
    have h := run_copy_row (P := Tryd.prog) W 28 28 ty 3 w.heap.size (i + 1) (n - i) dc ⟨g, i, none⟩ (n - i) sc Y1.toArray 3 (xs.drop i) Tryd.underlying28 sz3 hN (by rw [hdl]; simp) ?_ (by rw [hdl]; simp; omega) (fun x hx' => h1 x (List.mem_of_mem_drop hx'))
    · rw [hY2]
      exact h
    · intro j x hj
      rw [add_at]
      have hb : W.heap[g]? = some (.cells cur 3 (0, 0)) := by rw [hW, setRow_other _ _ _ _ (by have := blk_lt hg; omega), Below.heap_alloc _ _ _ (blk_lt hg)]; exact hg
      have hj' : j < n - i := by rw [← hdl]; exact (List.getElem?_eq_some_iff.1 hj).1
      rw [blk_cell hb, ← blk_cell hg]
      rw [List.getElem?_drop] at hj
      exact hcell _ _ hj
  have hfin : Y2.take (n + 1) = xs.take i ++ [v] ++ xs.drop i := by
    have := grow_row ROW.toList xs v i (by omega) (by omega) hRt
    rw [hxl] at this
    rw [hY2, hY1]
    exact this
  have hY2l : Y2.length = G := by rw [hY2]; simp [hdl]; omega
  have hGi : ¬ (G = i) := by omega
  have hGim : ¬ (G = i + 1) := by omega
  have hci : ¬ (cap = i) := by omega
  have hw1 : IntKind.i64.wrap ((i : Int) + 1) = (i : Int) + 1 := by rw [i64_w]; unfold wrap64; omega
  have hw2 : IntKind.i64.wrap ((n : Int) + 1) = (n : Int) + 1 := by rw [i64_w]; unfold wrap64; omega
  have hb1 : (0 : Int) ≤ (i : Int) + 1 := by omega
  have hb0 : (0 : Int) ≤ (n : Int) + 1 := by omega
  have hin : i ≤ n := by omega
  have htn : ((i : Int) + 1).toNat = i + 1 := by omega
  have hb3 : (i : Int) ≤ (n : Int) := by omega
  have hb5 : (cap : Int) < (n : Int) + 1 := by omega
  have HRZ := Aside0.mk hrz
  have HA := Aside0.mk hcpA
  have HBB := Aside0.mk hcpB
  have HF := Aside0.mk hfin
  have HL2 := Aside0.mk hY2l
  have HGM := Aside0.mk hGm
  clear hrz hcpA hcpB hfin hY2l hY1l hY2 hY1 hRl hRt hRs htk hROW hG hkk hik hold hz0 hzs hzb hi0 hdl hcl hx hxl hs hcell hGm
  go_enter Tryd.func56, Tryd.ntmps56
  go_wp2_with (first
    | ((with_reducible refine gate_builtin (b := .append) (xs := #[.tmp 34, .tmp 39]) rfl ?_); at_builtin; refine Lib.wpList_append_run _ rfl _ _ _ _ rfl _ _ rfl rfl _ _ (HRZ.out _) ?_)
    | ((with_reducible refine gate_builtin (b := .copy) (xs := #[.tmp 43, .tmp 44]) rfl ?_); refine wpList_copy_run _ rfl (.tmp 43) (.tmp 44) 28 22 rfl _ _ rfl rfl (HA.out _ ?hh _ _) ?_; (case hh => rfl)))
  go_still_tail 8, (by kernel_rfl)
  go_wp2_with ((with_reducible refine gate_builtin (b := .copy) (xs := #[.tmp 50, .tmp 53]) rfl ?_); refine wpList_copy_run _ rfl (.tmp 50) (.tmp 53) 28 28 rfl _ _ rfl rfl (HBB.out _ ?hh _ _ _) ?_; (case hh => rfl))
  go_ret
  refine ⟨G, Y2, rfl, ?_, rfl, rfl, rfl, HL2.out, hGn, HGM.out, HF.out⟩
  exact (setRow_twice (w.alloc (.cells ROW 3)) w.heap.size ROW _ _ 3 (blk_new w _)).trans (alloc_setRow w _ _ 3)

def api_Simplex_int_56.f (l0 : List Int) (a1 : Int) (l2 : List Int) : Option (List Int) := if l2.length = 1 ∧ 0 ≤ a1 ∧ a1 ≤ (l0.length : Int) ∧ l0.length ≤ 1000 then some (l0.take a1.toNat ++ l2 ++ l0.drop a1.toNat) else none
set_option maxHeartbeats 8000000 in
set_option maxRecDepth 100000 in
/-- At the end. -/
theorem ins_end (P0_ : Nat → Prop) (u0 : Value) (l0 : List Int) (P2_ : Nat → Prop) (A2 : Option Addr) (c2 : Nat) (v : Int) (w0 w : World) (hB : Below w0.heap.size w0 w) (ho0 : Kd.R (Kd.int .i64) 3 w w0.heap.size P0_ u0 l0) (hC : Kd.C (Kd.int .i64) w A2 1 [v]) (hl : l0.length ≤ 1000) :
    Calls Tryd.prog 56 #[u0, .int .i64 (l0.length : Int), .slice A2 1 c2] w fun e w' => ∃ v0_ : Value, e = .returned v0_ ∧ Kd.R (Kd.int .i64) 3 w' w0.heap.size (fun k_ => (P0_ k_ ∨ P2_ k_) ∨ w.heap.size ≤ k_) v0_ (l0 ++ [v]) ∧ Below w0.heap.size w0 w' ∧ Kept w w' (fun k_ => P0_ k_ ∨ P2_ k_) := by
  have hown0 := ho0.1
  obtain ⟨v1, w1, hrun, hR1, hB1, hg1, hor⟩ := run_append_rows (w0 := w0) w0.heap.size u0 l0 [v] A2 1 c2 (fun k_ => P0_ k_ ∨ w.heap.size ≤ k_) (Kd.R_mono ho0 (fun _ h => .inl h)) hC (fun k h => .inr h) hB hB.size (by omega)
  obtain ⟨A0, c0, rfl⟩ := Kd.R_slice ho0
  have hrun2 := (append_types w (.slice A0 l0.length c0) (.slice A2 1 c2)).trans hrun
  have hz1 : ¬ ((1 : Int) = 0) := by omega
  have hcn : l0.length ≤ c0 := (Kd.R_reads' ho0).2.1
  have hb3 : (l0.length : Int) ≤ (c0 : Int) := by omega
  have HRUN := Aside0.mk hrun2
  have HR := Aside0.mk hR1
  have HB := Aside0.mk hB1
  have HG := Aside0.mk hg1
  have HO := Aside0.mk hown0
  clear hrun hrun2 hR1 hB1 hg1 hor hown0 ho0 hC hB
  go_enter Tryd.func56, Tryd.ntmps56
  go_wp2_with ((with_reducible refine gate_builtin (b := .append) (xs := #[.tmp 23, .tmp 24]) rfl ?_); at_builtin; refine Lib.wpList_append_run _ rfl _ _ _ _ rfl _ _ rfl rfl _ _ HRUN.out ?_)
  all_goals
    go_ret
    refine ⟨_, rfl, Kd.R_mono HR.out (fun k h => h.imp .inl id), HB.out, ?_⟩
    exact ⟨HG.out.size, fun i hi hne => HG.out.block i hi (fun e => hne (.inl (HO.out i e.symm)))⟩
/-- A row of the call's own, as its block holds it. -/
theorem own_block {P0_ : Nat → Prop} {u0 : Value} {l0 : List Int} {b : Nat} {w : World} (h : Kd.R (Kd.int .i64) 3 w b P0_ u0 l0) (h0 : 0 < l0.length) : ∃ (g cap : Nat) (cur : Array Value), u0 = .slice (some ⟨g, 0, none⟩) l0.length cap ∧ b ≤ g ∧ w.heap[g]? = some (.cells cur 3 (0, 0)) ∧ l0.length ≤ cap ∧ cap ≤ 9223372036854775807 ∧ cur.size = cap ∧ cur.toList.take l0.length = nums .i64 l0 ∧ P0_ g := by
  have ho := Kd.own_of_R h
  obtain ⟨hl, hh⟩ := ho
  rcases hh with ⟨_, hn⟩ | ⟨g, cap, cur, rfl, hbg, hg, hle, hm, hs, hx⟩
  · exfalso; simp at hl; have : (encs (Value.int .i64) l0).length = l0.length := by simp [encs]
    rw [hn] at this; simp at this; omega
  · refine ⟨g, cap, cur, rfl, hbg, hg, hle, by simpa only [maxLen] using hm, by simpa using hs, ?_, h.1 g rfl⟩
    simpa [encs, nums] using hx
theorem nums_one (l : List Int) : ∀ x ∈ nums .i64 l, x.oneCell' = true := fun x hx => by
  simp only [nums, List.mem_map] at hx
  obtain ⟨a, _, rfl⟩ := hx
  rfl
theorem api_Simplex_int_56.calls (P0_ : Nat → Prop) (u0 : Value) (l0 : List Int) (a1 : Int) (P2_ : Nat → Prop) (u2 : Value) (l2 : List Int) (r : List Int) (w0 w : World) (hB : Below w0.heap.size w0 w) (ho0 : Kd.R (Kd.int .i64) 3 w w0.heap.size P0_ u0 l0) (hx0 : ∀ k_, P0_ k_ → ¬ P2_ k_)
    (ho2 : Kd.R (Kd.int .i64) 3 w w0.heap.size P2_ u2 l2) (hx2 : ∀ k_, P2_ k_ → ¬ P0_ k_) (h : api_Simplex_int_56.f l0 a1 l2 = some r) :
    Calls Tryd.prog 56 #[u0, .int .i64 a1, u2] w fun e w' => ∃ v0_ : Value, e = .returned v0_ ∧ Kd.R (Kd.int .i64) 3 w' w0.heap.size (fun k_ => (P0_ k_ ∨ P2_ k_) ∨ w.heap.size ≤ k_) v0_ r ∧ Below w0.heap.size w0 w' ∧ Kept w w' (fun k_ => P0_ k_ ∨ P2_ k_) := by
  unfold api_Simplex_int_56.f at h
  by_cases c : l2.length = 1 ∧ 0 ≤ a1 ∧ a1 ≤ (l0.length : Int) ∧ l0.length ≤ 1000
  case neg => rw [if_neg c] at h; cases h
  rw [if_pos c] at h
  obtain ⟨c1, c2, c3, c4⟩ := c
  obtain rfl := Option.some.inj h
  obtain ⟨v, rfl⟩ : ∃ v, l2 = [v] := List.length_eq_one_iff.1 c1
  obtain ⟨i, rfl⟩ := Int.eq_ofNat_of_zero_le c2
  simp only [Int.toNat_natCast]
  by_cases hend : i = l0.length
  · subst hend
    obtain ⟨A2, cc, rfl, _, hC⟩ := Kd.R_reads ho2
    have := ins_end P0_ u0 l0 P2_ A2 cc v w0 w hB ho0 hC c4
    simpa using this
  · have hi : i < l0.length := by omega
    obtain ⟨g, cap, cur, rfl, hbg, hg, hle, hm, hs, hx, hpg⟩ := own_block ho0 (by omega)
    obtain ⟨g2, cap2, cur2, rfl, hbg2, hg2, hle2, hm2, hs2, hxx2, hpg2⟩ := own_block ho2 (by simp)
    have hne : g2 ≠ g := fun e => hx0 g hpg (by rw [← e]; exact hpg2)
    have hv : cur2[0]? = some (.int .i64 v) := by
      have : (cur2.toList.take ([v] : List Int).length)[0]? = some (.int .i64 v) := by rw [hxx2]; rfl
      simpa using this
    have hnl : (nums .i64 l0).length = l0.length := nums_length _ _
    have enums : (nums .i64 l0).take i ++ [Value.int .i64 v] ++ (nums .i64 l0).drop i = nums .i64 (l0.take i ++ [v] ++ l0.drop i) := by simp [nums, List.map_take, List.map_drop]
    have hlen : (l0.take i ++ [v] ++ l0.drop i).length = l0.length + 1 := by simp; omega
    by_cases hroom : l0.length + 1 ≤ cap
    · refine (ins_shift g cap l0.length i g2 cap2 cur cur2 (nums .i64 l0) (.int .i64 v) w hi hroom hm c4 hne hg hs hx hnl (nums_one l0) hg2 hv rfl).mono ?_
      rintro e w' ⟨rfl, hh, ho, ht, hp⟩
      have hcl : cur.toList.length = cap := by rw [Array.length_toList]; exact hs
      have hX : (put1 (shift1 cur.toList (nums .i64 l0) i) (.int .i64 v) i).length = cap := by rw [put1_len, shift1_len, hcl] <;> first | omega | (rw [shift1_len] <;> omega)
      have hgw : w'.heap[g]? = some (.cells (put1 (shift1 cur.toList (nums .i64 l0) i) (.int .i64 v) i).toArray 3 (0, 0)) := by rw [hh]; exact setRow_heap w g cur _ 3 (0, 0) hg
      have hoth : ∀ k, k ≠ g → w'.heap[k]? = w.heap[k]? := fun k hk => by rw [hh]; exact setRow_other w g k _ hk
      have hsz : w'.heap.size = w.heap.size := by rw [hh]; simp
      refine ⟨_, rfl, Kd.R_of_own (h1 := fun _ => rfl) (enc := Value.int .i64) ⟨?_, .inr ⟨g, cap, _, by rw [hlen], hbg, hgw, by omega, by simp only [maxLen]; omega, by simp [hX], ?_⟩⟩ (fun k hk => ?_), ?_, ?_⟩
      · simp [encs]
      · have := put_shift cur.toList (nums .i64 l0) (.int .i64 v) i (by omega) (by rw [hnl]; exact hx) (by omega)
        rw [hnl, enums] at this
        rw [hlen]
        first | exact this | (rw [Nat.mul_one]; exact this)
      · simp [Value.ownBlock] at hk; subst hk; exact .inl (.inl hpg)
      · exact ⟨ho.trans hB.os, ht.trans hB.tape, hp.trans hB.output, by rw [hsz]; exact hB.size, fun k hk => (hoth k (by omega)).trans (hB.block k hk)⟩
      · exact ⟨by omega, fun k hk hn => hoth k (fun e => hn (.inl (e ▸ hpg)))⟩
    · refine (ins_grow g cap l0.length i g2 cap2 cur cur2 (nums .i64 l0) (.int .i64 v) w hi (by omega) hle c4 hg hs hx hnl (nums_one l0) hg2 hv rfl).mono ?_
      rintro e w' ⟨G, X, rfl, hh, ho, ht, hp, hXl, hG, hGm, hXt⟩
      rw [enums] at hXt
      have hoth : ∀ k, k < w.heap.size → w'.heap[k]? = w.heap[k]? := fun k hk => by rw [hh]; exact Below.heap_alloc w _ k hk
      have hsz : w'.heap.size = w.heap.size + 1 := by rw [hh]; simp
      have hgw : w'.heap[w.heap.size]? = some (.cells X.toArray 3 (0, 0)) := by rw [hh]; exact blk_new w _
      have hBs := hB.size
      refine ⟨_, rfl, Kd.R_of_own (h1 := fun _ => rfl) (enc := Value.int .i64) ⟨?_, .inr ⟨w.heap.size, G, _, by rw [hlen], hB.size, hgw, by omega, hGm, by simp [hXl], ?_⟩⟩ (fun k hk => ?_), ?_, ?_⟩
      · simp [encs]
      · rw [hlen]
        first | exact hXt | (rw [Nat.mul_one]; exact hXt)
      · simp [Value.ownBlock] at hk; subst hk; exact .inr (Nat.le_refl _)
      · exact ⟨ho.trans hB.os, ht.trans hB.tape, hp.trans hB.output, by omega, fun k hk => (hoth k (by omega)).trans (hB.block k hk)⟩
      · exact ⟨by omega, fun k hk hn => hoth k hk⟩
end Go.Proofs.YticckanjfdcpaaaDoor.PSimplex
namespace Go.Proofs.YticckanjfdcpaaaDoor.PSimplex
open Go.RowKit Go.Proofs.YticckanjfdcpaaaDoorW.PrintWords Go.Proofs.YticckanjfdcpaaaDoorW.PrintLast Go.Proofs.YticckanjfdcpaaaDoorW.PrintMore
attribute [local go_sem] max2_int min2_int max_two min_two max_three min_three max_four min_four   -- for this text's walks alone
set_option linter.unusedVariables false
set_option linter.unusedSimpArgs false

/-! ### simplex_Cofacets: function 35 -/
mutual
def simplex_Cofacets.j0 : Nat → List Int → Int → List (List Int) → Bool → Option ((List (List Int)) × Int)
 |0, _, _, _, _ => none
 |k + 1, x0, x1, x4, x29 => if x29 = true then (some (([] : List (List Int)), 1)) else (simplex_Cofacets.l0 k x0 x4 x1 0)
def simplex_Cofacets.l0 : Nat → List Int → List (List Int) → Int → Int → Option ((List (List Int)) × Int)
 |0, _, _, _, _ => none
 |k + 1, x0, x4, x30, x31 => if x31 < x30 then ((api_Simplex_int_55.f k x0 x31).bind fun bt529 => (if bt529.2 = true then (simplex_Cofacets.j2 k x0 x4 x31 bt529.1 x30 x31 false) else (simplex_Cofacets.j2 k x0 x4 x31 bt529.1 x30 x31 (decide ((x0.length : Int) ≤ 4))))) else (some (x4, 0))
def simplex_Cofacets.j2 : Nat → List Int → List (List Int) → Int → Int → Int → Int → Bool → Option ((List (List Int)) × Int)
 |0, _, _, _, _, _, _, _ => none
 |k + 1, x0, x4, x6, x7, x30, x31, x46 => if x46 = true then ((api_Simplex_int_41.f x0).bind fun t531 => ((api_Simplex_int_56.f t531 x7 (([x6] : List Int))).bind fun t537 => (if x4.length < 5864062014805 then (simplex_Cofacets.l0 k x0 (x4 ++ [t537]) x30 (wrap64 (x31 + 1))) else (none)))) else (simplex_Cofacets.l0 k x0 x4 x30 (wrap64 (x31 + 1)))
end
def simplex_Cofacets.f (k : Nat) (l0 : List Int) (a1 : Int) : Option ((List (List Int)) × Int) := (simplex_Check.f k l0).bind fun t527 => (if t527 = 0 then (if a1 < 0 then (simplex_Cofacets.j0 k l0 a1 ([] : List (List Int)) true) else (if a1 > 64 then (simplex_Cofacets.j0 k l0 a1 ([] : List (List Int)) true) else (if 0 ≤ (wrap64 ((l0.length : Int) - 1)) then (if (wrap64 ((l0.length : Int) - 1)) < (l0.length : Int) then (simplex_Cofacets.j0 k l0 a1 ([] : List (List Int)) (decide ((rd l0 (wrap64 ((l0.length : Int) - 1))) ≥ a1))) else (none)) else (none)))) else (some (([] : List (List Int)), t527)))
theorem simplex_Cofacets.mono_l : ∀ k, (∀ y0 y1 y2 y3, LeO (simplex_Cofacets.j0 k y0 y1 y2 y3) (simplex_Cofacets.j0 (k + 1) y0 y1 y2 y3)) ∧ (∀ y0 y1 y2 y3, LeO (simplex_Cofacets.l0 k y0 y1 y2 y3) (simplex_Cofacets.l0 (k + 1) y0 y1 y2 y3)) ∧ (∀ y0 y1 y2 y3 y4 y5 y6, LeO (simplex_Cofacets.j2 k y0 y1 y2 y3 y4 y5 y6) (simplex_Cofacets.j2 (k + 1) y0 y1 y2 y3 y4 y5 y6))
 |0 => ⟨fun _ _ _ _ r h => by simp [simplex_Cofacets.j0] at h, fun _ _ _ _ r h => by simp [simplex_Cofacets.l0] at h, fun _ _ _ _ _ _ _ r h => by simp [simplex_Cofacets.j2] at h⟩
 |k + 1 => by
  obtain ⟨ih0, ih1, ih2⟩ := simplex_Cofacets.mono_l k
  refine ⟨?_, ?_, ?_⟩
  ·intro y0 y1 y2 y3
   unfold simplex_Cofacets.j0
   repeat' first
   |(with_reducible exact ih0 _ _ _ _)
   |(with_reducible exact ih1 _ _ _ _)
   |(with_reducible exact ih2 _ _ _ _ _ _ _)
   |(with_reducible exact api_Simplex_int_55.mono _ _ _)
   |(with_reducible exact simplex_Check.mono _ _)
   |(with_reducible exact LeO.refl _)
   |(with_reducible exact LeO.none _)
   |(with_reducible refine LeO.ite ?_ ?_)
   |(with_reducible refine LeO.bind ?_ (fun _ => ?_))
  ·intro y0 y1 y2 y3
   unfold simplex_Cofacets.l0
   repeat' first
   |(with_reducible exact ih0 _ _ _ _)
   |(with_reducible exact ih1 _ _ _ _)
   |(with_reducible exact ih2 _ _ _ _ _ _ _)
   |(with_reducible exact api_Simplex_int_55.mono _ _ _)
   |(with_reducible exact simplex_Check.mono _ _)
   |(with_reducible exact LeO.refl _)
   |(with_reducible exact LeO.none _)
   |(with_reducible refine LeO.ite ?_ ?_)
   |(with_reducible refine LeO.bind ?_ (fun _ => ?_))
  ·intro y0 y1 y2 y3 y4 y5 y6
   unfold simplex_Cofacets.j2
   repeat' first
   |(with_reducible exact ih0 _ _ _ _)
   |(with_reducible exact ih1 _ _ _ _)
   |(with_reducible exact ih2 _ _ _ _ _ _ _)
   |(with_reducible exact api_Simplex_int_55.mono _ _ _)
   |(with_reducible exact simplex_Check.mono _ _)
   |(with_reducible exact LeO.refl _)
   |(with_reducible exact LeO.none _)
   |(with_reducible refine LeO.ite ?_ ?_)
   |(with_reducible refine LeO.bind ?_ (fun _ => ?_))
theorem simplex_Cofacets.mono : ∀ a0 a1 k, LeO (simplex_Cofacets.f k a0 a1) (simplex_Cofacets.f (k + 1) a0 a1) := by
 intro a0 a1 k
 obtain ⟨ih0, ih1, ih2⟩ := simplex_Cofacets.mono_l k
 unfold simplex_Cofacets.f
 repeat' first
   |(with_reducible exact ih0 _ _ _ _)
   |(with_reducible exact ih1 _ _ _ _)
   |(with_reducible exact ih2 _ _ _ _ _ _ _)
   |(with_reducible exact api_Simplex_int_55.mono _ _ _)
   |(with_reducible exact simplex_Check.mono _ _)
   |(with_reducible exact LeO.refl _)
   |(with_reducible exact LeO.none _)
   |(with_reducible refine LeO.ite ?_ ?_)
   |(with_reducible refine LeO.bind ?_ (fun _ => ?_))
set_option maxHeartbeats 8000000 in
set_option maxRecDepth 100000 in
theorem simplex_Cofacets.calls (k : Nat) (A0 : Option Addr) (c0 : Nat) (l0 : List Int) (a1 : Int) (r1 : List (List Int)) (r2 : Int) (w : World) (hr0 : Kd.C (Kd.int .i64) w A0 l0.length l0) (hc0 : l0.length ≤ c0) (h : simplex_Cofacets.f k l0 a1 = some (r1, r2)) :
  Calls Tryd.prog 35 #[.slice A0 l0.length c0, .int .i64 a1] w fun e w' => ∃ v0_ : Value, e = .returned (.tuple #[v0_, .int .i64 r2]) ∧ Kd.S (Kd.slice 3 (Kd.int .i64)) 28 w' w.heap.size (fun _ => True) v0_ r1 ∧ Below w.heap.size w w' := by
 have HR0 := Aside0.mk hr0
 have HC0 := Aside0.mk hc0
 clear hr0 hc0
 have HB := Aside0.mk (Below.refl w.heap.size w)
 have H : ((simplex_Check.f k l0).bind fun t527 => (if t527 = 0 then (if a1 < 0 then (simplex_Cofacets.j0 k l0 a1 ([] : List (List Int)) true) else (if a1 > 64 then (simplex_Cofacets.j0 k l0 a1 ([] : List (List Int)) true) else (if 0 ≤ (wrap64 ((l0.length : Int) - 1)) then (if (wrap64 ((l0.length : Int) - 1)) < (l0.length : Int) then (simplex_Cofacets.j0 k l0 a1 ([] : List (List Int)) (decide ((rd l0 (wrap64 ((l0.length : Int) - 1))) ≥ a1))) else (none)) else (none)))) else (some (([] : List (List Int)), t527)))) = some (r1, r2) := h
 clear h
 replace H := Option.bind_eq_some_iff.mp H
 obtain ⟨t527, A30, H⟩ := H
 replace H : (if t527 = 0 then (if a1 < 0 then (simplex_Cofacets.j0 k l0 a1 ([] : List (List Int)) true) else (if a1 > 64 then (simplex_Cofacets.j0 k l0 a1 ([] : List (List Int)) true) else (if 0 ≤ (wrap64 ((l0.length : Int) - 1)) then (if (wrap64 ((l0.length : Int) - 1)) < (l0.length : Int) then (simplex_Cofacets.j0 k l0 a1 ([] : List (List Int)) (decide ((rd l0 (wrap64 ((l0.length : Int) - 1))) ≥ a1))) else (none)) else (none)))) else (some (([] : List (List Int)), t527))) = some (r1, r2) := H
 have A3 := Aside0.mk A30
 clear A30
 by_cases c4 : t527 = 0
 ·rw [if_pos c4] at H
  have c4b0 : (t527 == 0) = true := beq_iff_eq.mpr c4
  have c4b1 : (t527 != 0) = false := bne_eq_false_iff_eq.mpr c4
  clear c4
  have HC5 := Aside0.mk H
  clear H
  go_enter Tryd.func35, Tryd.ntmps35
  go_upto_region 4 with (first | ((with_reducible refine gate_callee (f := 25) rfl ?_); refine goesL_ (some 10) rfl rfl Tryd.func25 (by kernel_rfl) rfl #[.slice A0 l0.length c0] rfl ag_ ?_; (with_reducible refine (simplex_Check.calls k _ _ l0 t527 _ ?side1 ?side2 A3.out).mono ?_); (case side1 => exact cs_ HR0.out); (case side2 => exact HC0.out); rintro e w' ⟨rfl, ⟨nd, rfl⟩⟩; refine ⟨_, rfl, ?_⟩))
  (try simp only [Act.put, List.setIfInBounds_toArray, List.set_cons_zero, List.set_cons_succ])
  go_cut [29] (fun v29 wc => ∃ (kq : Nat) (x29_4 : Bool), v29 = .bool x29_4 ∧ Aside0 (simplex_Cofacets.j0 kq l0 a1 ([] : List (List Int)) x29_4 = some (r1, r2)) ∧ Aside0 (kq ≤ k) ∧ Aside0 (Kd.S (Kd.slice 3 (Kd.int .i64)) 28 wc w.heap.size (fun _ => True) (.slice none 0 0) ([] : List (List Int))) ∧ Aside0 (Below w.heap.size w wc))
  case first =>
   have H := HC5.out
   clear HC5
   by_cases c6 : a1 < 0
   ·rw [if_pos c6] at H
    have c6b0 : decide (a1 < 0) = true := decide_eq_true c6
    clear c6
    (first | rw [c6b0] | (simp only [i64_w, i32_w]; rw [c6b0]) | skip)
    have H' := Aside0.mk H
    clear H
    go_wp2
    go_meet
    case rel => exact ⟨_, (true), sd_, H', ⟨by first | omega | exact Nat.le_refl _⟩, ⟨by first | exact Kd.S_nil _ _ _ _ _ | exact Kd.N_nil _ _ _ _ _ | exact Kd.V_nil _ _ _ _ _ | exact Kd.Q_nil _ _ _ _ _ | exact Kd.R_nil _ _ _ _ _⟩, ⟨bw_⟩⟩
   ·rw [if_neg c6] at H
    have c6b0 : decide (a1 < 0) = false := decide_eq_false c6
    clear c6
    (first | rw [c6b0] | (simp only [i64_w, i32_w]; rw [c6b0]) | skip)
    by_cases c7 : a1 > 64
    ·rw [if_pos c7] at H
     have c7b0 : decide (64 < a1) = true := decide_eq_true c7
     clear c7
     have H' := Aside0.mk H
     clear H
     go_wp2
     go_meet
     case rel => exact ⟨_, (true), sd_, H', ⟨by first | omega | exact Nat.le_refl _⟩, ⟨by first | exact Kd.S_nil _ _ _ _ _ | exact Kd.N_nil _ _ _ _ _ | exact Kd.V_nil _ _ _ _ _ | exact Kd.Q_nil _ _ _ _ _ | exact Kd.R_nil _ _ _ _ _⟩, ⟨bw_⟩⟩
    ·rw [if_neg c7] at H
     have c7b0 : decide (64 < a1) = false := decide_eq_false c7
     clear c7
     obtain ⟨ji8, hji8⟩ : ∃ j_ : Int, (wrap64 ((l0.length : Int) - 1)) = j_ := ⟨_, rfl⟩
     replace H : (if 0 ≤ (ji8) then (if (ji8) < (l0.length : Int) then (simplex_Cofacets.j0 k l0 a1 ([] : List (List Int)) (decide ((rd l0 (ji8)) ≥ a1))) else (none)) else (none)) = some (r1, r2) := by first | (rw [hji8] at H; exact H) | (simp only [hji8] at H ⊢; exact H)
     have hji8w : (IntKind.i64.wrap ((l0.length : Int) - 1)) = ji8 := (i64_w _).trans hji8
     by_cases c9 : 0 ≤ (ji8)
     ·rw [if_pos c9] at H
      have c9b0 : decide (0 ≤ (ji8)) = true := decide_eq_true c9
      clear c9
      by_cases c10 : (ji8) < (l0.length : Int)
      ·rw [if_pos c10] at H
       have c10b0 : decide ((ji8) < (l0.length : Int)) = true := decide_eq_true c10
       clear c10
       have H' := Aside0.mk H
       clear H
       have p528 : 0 ≤ ((ji8) : Int) := of_decide_eq_true as_
       have q528 : (ji8) < (l0.length : Int) := of_decide_eq_true as_
       obtain ⟨ad528, e528, hx528_0⟩ := Kd.at_int HR0.out (ji8) p528 q528
       cases e528
       replace hx528_0 := (HB.out.cell (World.block_lt_of_cell? w _ hx528_0)).trans hx528_0
       replace p528 := eq_true p528
       replace q528 := eq_true q528
       go_wp2
       go_meet
       case rel => exact ⟨_, (decide ((rd l0 (ji8)) ≥ a1)), (by first | rfl | (simp; done) | (simp only [← hji8] <;> (first | rfl | simp)) | (simp [*]; done)), H', ⟨by first | omega | exact Nat.le_refl _⟩, ⟨by first | exact Kd.S_nil _ _ _ _ _ | exact Kd.N_nil _ _ _ _ _ | exact Kd.V_nil _ _ _ _ _ | exact Kd.Q_nil _ _ _ _ _ | exact Kd.R_nil _ _ _ _ _⟩, ⟨bw_⟩⟩
      ·rw [if_neg c10] at H
       exact absurd H (by simp)
     ·rw [if_neg c9] at H
      exact absurd H (by simp)
  case rest =>
   clear HC5
   try clear c1
   try clear c2
   try clear p2
   try clear c3
   try clear c4
   try clear c4b0
   try clear c4b1
   try clear p5
   try clear q5
   try clear hx5
   try clear c6
   try clear c6b0
   try clear p6
   try clear c7
   try clear c7b0
   try clear c9
   try clear c9b0
   try clear c10
   try clear c10b0
   try clear hx528_0
   try clear p528
   try clear q528
   obtain ⟨kq, x29_4, rfl, HA, HJ4, HO_4, HB⟩ := hcut
   cases kq with
   |zero => exact absurd HA.out (by simp [simplex_Cofacets.j0])
   |succ kj4 =>
    have H := HA.out
    clear HA
    simp only [simplex_Cofacets.j0] at H
    by_cases c11 : x29_4 = true
    ·subst c11
     rw [if_pos rfl] at H
     simp only [Option.some.injEq, Prod.mk.injEq] at H
     obtain ⟨rfl, rfl⟩ := H
     go_wp2
     go_ret2
     exact ⟨_, by first | rfl | (simp [errW_none, errW_some] <;> rfl) | (simp [*, errW_none, errW_some] <;> rfl), by first | exact Kd.S_nil _ _ _ _ _ | exact Kd.N_nil _ _ _ _ _ | exact Kd.V_nil _ _ _ _ _ | exact Kd.Q_nil _ _ _ _ _ | exact Kd.R_nil _ _ _ _ _, bw_⟩
    ·replace c11 := Bool.eq_false_iff.mpr c11
     subst c11
     rw [if_neg (show ¬ (false = true) by decide)] at H
     have H' := Aside0.mk H
     clear H
     go_wp2
     go_loopg [4, 31] kj4 (fun kq v4 v31 w' => ∃ (x4_2 : List (List Int)) (x31_2 : Int), v31 = .int .i64 x31_2 ∧ Aside0 (simplex_Cofacets.l0 kq l0 x4_2 a1 x31_2 = some (r1, r2)) ∧ Aside0 (kq ≤ kj4) ∧ Aside0 (Kd.S (Kd.slice 3 (Kd.int .i64)) 28 w' w.heap.size (fun _ => True) v4 x4_2) ∧ Aside0 (Below w.heap.size w w'))
     case atStart => exact ⟨(([] : List (List Int))), (0), sd_, H', ⟨Nat.le_refl _⟩, ⟨rSa_ HO_4.out⟩, ⟨bw_⟩⟩
     case round =>
      clear H'
      try clear c1
      try clear c2
      try clear p2
      try clear c3
      try clear c4
      try clear c4b0
      try clear c4b1
      try clear p5
      try clear q5
      try clear hx5
      try clear c6
      try clear c6b0
      try clear p6
      try clear c7
      try clear c7b0
      try clear c9
      try clear c9b0
      try clear c10
      try clear c10b0
      try clear c11
      try clear hx528_0
      try clear p2
      try clear p5
      try clear p528
      try clear p6
      try clear q5
      try clear q528
      obtain ⟨x4_2, x31_2, rfl, HA, HK2, HO_4, HB⟩ := hrel
      cases gk with
      |zero => exact absurd HA.out (by simp [simplex_Cofacets.l0])
      |succ k2 =>
       have H := HA.out
       clear HA
       simp only [simplex_Cofacets.l0] at H
       by_cases c12 : x31_2 < a1
       ·rw [if_pos c12] at H
        have c12b0 : decide (x31_2 < a1) = true := decide_eq_true c12
        clear c12
        replace H := Option.bind_eq_some_iff.mp H
        obtain ⟨⟨t529, t530⟩, A130, H⟩ := H
        replace H : (if t530 = true then (simplex_Cofacets.j2 k2 l0 x4_2 x31_2 t529 a1 x31_2 false) else (simplex_Cofacets.j2 k2 l0 x4_2 x31_2 t529 a1 x31_2 (decide ((l0.length : Int) ≤ 4)))) = some (r1, r2) := H
        have A13 := Aside0.mk A130
        clear A130
        have HC14 := Aside0.mk H
        clear H
        go_upto_region 10 with (first | ((with_reducible refine gate_callee (f := 55) rfl ?_); refine goesL_ (some 37) rfl rfl Tryd.func55 (by kernel_rfl) rfl #[.slice A0 l0.length c0, .int .i64 x31_2] rfl ag_ ?_; (with_reducible refine (api_Simplex_int_55.calls k2 _ _ l0 x31_2 t529 t530 _ ?side1 ?side2 A13.out).mono ?_); (case side1 => exact cs_ (Kd.C_below HR0.out HB.out)); (case side2 => exact HC0.out); rintro e w' ⟨rfl, ⟨nd, rfl⟩⟩; refine ⟨_, rfl, ?_⟩))
        (try simp only [Act.put, List.setIfInBounds_toArray, List.set_cons_zero, List.set_cons_succ])
        go_cut [46] (fun v46 wc => ∃ (kq : Nat) (x46_13 : Bool), v46 = .bool x46_13 ∧ Aside0 (simplex_Cofacets.j2 kq l0 x4_2 x31_2 t529 a1 x31_2 x46_13 = some (r1, r2)) ∧ Aside0 (kq ≤ k2) ∧ Aside0 (Kd.S (Kd.slice 3 (Kd.int .i64)) 28 wc w.heap.size (fun _ => True) u4 x4_2) ∧ Aside0 (Below w.heap.size w wc))
        case first =>
         have H := HC14.out
         clear HC14
         by_cases c15 : t530 = true
         ·subst c15
          rw [if_pos rfl] at H
          have H' := Aside0.mk H
          clear H
          go_wp2
          go_meet
          case rel => exact ⟨_, (false), sd_, H', ⟨by have := HJ4.out; have := HK2.out; first | omega | exact Nat.le_refl _⟩, ⟨rSa_ HO_4.out⟩, ⟨bw_⟩⟩
         ·replace c15 := Bool.eq_false_iff.mpr c15
          subst c15
          rw [if_neg (show ¬ (false = true) by decide)] at H
          have H' := Aside0.mk H
          clear H
          go_wp2
          go_meet
          case rel => exact ⟨_, (decide ((l0.length : Int) ≤ 4)), sd_, H', ⟨by have := HJ4.out; have := HK2.out; first | omega | exact Nat.le_refl _⟩, ⟨rSa_ HO_4.out⟩, ⟨bw_⟩⟩
        case rest =>
         clear HC14
         try clear c1
         try clear c2
         try clear p2
         try clear c3
         try clear c4
         try clear c4b0
         try clear c4b1
         try clear c5
         try clear p5
         try clear q5
         try clear hx5
         try clear c6
         try clear c6b0
         try clear p6
         try clear c7
         try clear c7b0
         try clear c9
         try clear c9b0
         try clear c10
         try clear c10b0
         try clear c11
         try clear c12
         try clear c12b0
         try clear c15
         try clear hx528_0
         try clear p2
         try clear p5
         try clear p528
         try clear p6
         try clear q5
         try clear q528
         obtain ⟨kq, x46_13, rfl, HA, HJ13, HO_4, HB⟩ := hcut
         cases kq with
         |zero => exact absurd HA.out (by simp [simplex_Cofacets.j2])
         |succ kj13 =>
          have H := HA.out
          clear HA
          simp only [simplex_Cofacets.j2] at H
          by_cases c16 : x46_13 = true
          ·subst c16
           rw [if_pos rfl] at H
           replace H := Option.bind_eq_some_iff.mp H
           obtain ⟨t531, A170, H⟩ := H
           replace H : ((api_Simplex_int_56.f t531 t529 (([x31_2] : List Int))).bind fun t537 => (if x4_2.length < 5864062014805 then (simplex_Cofacets.l0 kj13 l0 (x4_2 ++ [t537]) a1 (wrap64 (x31_2 + 1))) else (none))) = some (r1, r2) := H
           have A17 := Aside0.mk A170
           clear A170
           obtain ⟨y534, hy534⟩ : ∃ y_ : List Int, y_ = (([x31_2] : List Int)) := ⟨_, rfl⟩
           replace H : ((api_Simplex_int_56.f t531 t529 y534).bind fun t537 => (if x4_2.length < 5864062014805 then (simplex_Cofacets.l0 kj13 l0 (x4_2 ++ [t537]) a1 (wrap64 (x31_2 + 1))) else (none))) = some (r1, r2) := by first | (rw [hy534]; with_reducible exact H) | (have H2_ := (Option.bind_some _ _).symm.trans H; rw [hy534]; with_reducible exact H2_) | (have H2_ := (Option.bind_some _ _).symm.trans H; with_reducible exact H2_) | with_reducible exact H | (rw [hy534]; exact H) | exact H
           have Ny534 := Aside0.mk hy534
           clear hy534
           replace H := Option.bind_eq_some_iff.mp H
           obtain ⟨t537, A180, H⟩ := H
           replace H : (if x4_2.length < 5864062014805 then (simplex_Cofacets.l0 kj13 l0 (x4_2 ++ [t537]) a1 (wrap64 (x31_2 + 1))) else (none)) = some (r1, r2) := H
           have A18 := Aside0.mk A180
           clear A180
           by_cases c19 : x4_2.length < 5864062014805
           ·rw [if_pos c19] at H
            have LMc19 := Aside0.mk c19
            clear c19
            obtain ⟨y540, hy540⟩ : ∃ y_ : List (List Int), y_ = (x4_2 ++ [t537]) := ⟨_, rfl⟩
            replace H : (simplex_Cofacets.l0 kj13 l0 y540 a1 (wrap64 (x31_2 + 1))) = some (r1, r2) := by first | (rw [hy540]; with_reducible exact H) | (have H2_ := (Option.bind_some _ _).symm.trans H; rw [hy540]; with_reducible exact H2_) | (have H2_ := (Option.bind_some _ _).symm.trans H; with_reducible exact H2_) | with_reducible exact H | (rw [hy540]; exact H) | exact H
            have Ny540 := Aside0.mk hy540
            clear hy540
            have H' := Aside0.mk H
            clear H
            go_wp2_with (first | ((with_reducible refine gate_callee (f := 41) rfl ?_); refine goesL_ (some 49) rfl rfl Tryd.func41 (by kernel_rfl) rfl #[.slice A0 l0.length c0] rfl ag_ ?_; (with_reducible refine (api_Simplex_int_41.calls _ _ l0 t531 _ ?side1 ?side2 A17.out).mono ?_); (case side1 => exact cs_ (Kd.C_below HR0.out HB.out)); (case side2 => exact HC0.out); rintro e w20 ⟨v532, rfl, ho0, hb⟩; refine ⟨_, rfl, ?_⟩; have n0_ := Aside0.mk (Kd.S_elder' (rSa_ HO_4.out) (Kd.R_base ho0) hb); have n1_ := Aside0.mk (Kd.R_lower ho0 (below_size bw_)); have n2_ := Aside0.mk (below_step bw_ hb); clear HO_4; clear HB; have HO_4 := n0_; have HO533 := n1_; have HB := n2_; clear n0_ n1_ n2_; (try clear hb); (try clear hb2); (try clear hk); (try clear hi); (try clear ho0)) | ((with_reducible refine gate_dst (N := 52) rfl ?_); (try (refine gate_guard (by rfl) ?_; dsimp only)); refine Kd.R_lit (Kd.int .i64) _ 3 ?hg (N := 52) ?hd (xs := ([x31_2] : List Int)) (inner := [.int .i64 x31_2]) (ok := fun _ => True) (okp := fun _ => True) ?hr ?hp (fun _ hk => hk) trivial (Below.refl _ _) (Nat.le_refl _) (by simp) ?_; (case hd => rfl); (case hg => rfl); (case hr => first | (go_simp; done) | (go_simp; rfl)); (case hp => exact (Reps.one (show Kd.M (Kd.int .i64) _ _ _ x31_2 [.int .i64 x31_2] from rfl) (Reps.none _ _))); intro v535 w21 ho22 hb hg_ hnew_; clear hg_ hnew_; (first | rw [← Ny534.out] at ho22 | (simp only [Int.reduceToNat] at ho22; rw [← Ny534.out] at ho22)); have n0_ := Aside0.mk (Kd.S_elder' (rSa_ HO_4.out) (Kd.R_base ho22) hb); have n1_ := Aside0.mk (Kd.R_elder' (rRa_ HO533.out) (Kd.R_base ho22) hb); have n2_ := Aside0.mk (Kd.R_lower (Kd.R_new' ho22 (Kd.R_lt (rRa_ HO533.out))) (below_size bw_)); have n3_ := Aside0.mk (below_step bw_ hb); clear HO_4; clear HO533; clear HB; have HO_4 := n0_; have HO533 := n1_; have HO536 := n2_; have HB := n3_; clear n0_ n1_ n2_ n3_; clear hb ho22; obtain ⟨Ao23, co23, eo23⟩ := Kd.R_slice HO533.out; subst eo23; obtain ⟨Ao24, co24, eo24⟩ := Kd.R_slice HO536.out; subst eo24) | ((with_reducible refine gate_callee (f := 56) rfl ?_); refine goesL_ (some 53) rfl rfl Tryd.func56 (by kernel_rfl) rfl #[.slice Ao23 t531.length co23, .int .i64 t529, .slice Ao24 y534.length co24] rfl ag_ ?_; (with_reducible refine (api_Simplex_int_56.calls (fun k_ => some k_ = (.slice Ao23 t531.length co23 : Value).ownBlock) (.slice Ao23 t531.length co23) t531 t529 (fun k_ => some k_ = (.slice Ao24 y534.length co24 : Value).ownBlock) (.slice Ao24 y534.length co24) y534 t537 w _ ?side1 ?side2 ?side3 ?side4 ?side5 A18.out).mono ?_); (case side1 => exact bw_); (case side2 => exact Kd.R_tight rfl HO533.out); (case side3 => exact fun k_ e_ => (HO533.out.1 k_ e_.symm).2); (case side4 => exact Kd.R_tight rfl HO536.out); (case side5 => exact fun k_ e_ => (HO536.out.1 k_ e_.symm).2); rintro e w25 ⟨v538, rfl, ho0, hb, hkp⟩; refine ⟨_, rfl, ?_⟩; have n0_ := Aside0.mk (Kd.S_mono (ok' := fun k_ => some k_ ≠ (v538 : Value).ownBlock) (Kd.S_keptB (HO_4.out) hkp (fun k_ hk_ hs_ => Or.elim hs_ (fun e_ => (hk_.1.2) e_) (fun e_ => (hk_.2) e_))) (fun k_ hk_ => fun e_ => Or.elim (ho0.1 k_ e_.symm) (fun hs_ => hk_.2.1 hs_) (fun hn_ => Nat.not_le.2 hk_.2.2 hn_))); have n1_ := Aside0.mk (Kd.R_mono (ok' := fun k_ => True) ho0 (fun k_ hk_ => trivial)); have n2_ := Aside0.mk (hb); clear HO_4; clear HB; clear HO533; clear HO536; have HO_4 := n0_; have HO539 := n1_; have HB := n2_; clear n0_ n1_ n2_; (try clear hb); (try clear hkp); (try clear ho0); obtain ⟨Ao27, co27, eo27⟩ := Kd.R_slice HO539.out; subst eo27) | ((with_reducible refine gate_builtin (b := .append) (xs := #[.tmp 47, .tmp 54]) rfl ?_); (try (refine gate_guard (by rfl) ?_; dsimp only)); at_builtin; refine Kd.S_append (Kd.slice 3 (Kd.int .i64)) (w0 := w) w.heap.size rfl (.tmp 47) (.tmp 54) 56 28 (.slice none 0 0) 24 rfl Tryd.underlying56 info28 rfl (by decide) (by omega) u4 x4_2 t537 [.slice Ao27 t537.length co27] (fun _ => True) (fun k_ => some k_ = (.slice Ao27 t537.length co27 : Value).ownBlock) rfl rfl ?aP (fun k_ hk_ => ((Kd.R_mono (ok' := fun k_ => ((fun _ => True)) k_ ∧ some k_ ≠ (u4 : Value).ownBlock) (Kd.R_apart' (HO539.out) (Kd.S_typed HO_4.out) (by decide)) (fun k_ hk => ⟨trivial, hk.2⟩))).1 k_ hk_.symm) ?aF ?aO ?aB ?aS ?aL ?_; (case aP => exact Kd.M_row (Kd.R_mono (Kd.R_tight rfl (Kd.R_mono (ok' := fun k_ => ((fun _ => True)) k_ ∧ some k_ ≠ (u4 : Value).ownBlock) (Kd.R_apart' (HO539.out) (Kd.S_typed HO_4.out) (by decide)) (fun k_ hk => ⟨trivial, hk.2⟩))) (fun _ h_ => h_))); (case aB => exact bw_); (case aF => exact (fun _ _ => trivial)); (case aO => exact (by (with_reducible repeat (first | apply Kd.S_alloc | apply Kd.S_drewN | apply Kd.S_drew)); exact Kd.S_mono HO_4.out (fun k_ hk => ⟨trivial, fun e_ => hk e_⟩))); (case aS => exact (below_size bw_)); (case aL => have := LMc19.out; omega); intro v541 w26 ho hb hg hat; rw [← Ny540.out] at ho; have n0_ := Aside0.mk (hb); have n1_ := Aside0.mk (ho); clear HB; clear HO_4; clear HO539; have HB := n0_; have HO542 := n1_; clear n0_ n1_; clear ho hb hg hat))
            go_roundg kj13
            case measure => have := HJ4.out; have := HK2.out; have := HJ13.out; omega
            case rel => exact ⟨(y540), (wrap64 (x31_2 + 1)), sd_, H', ⟨by have := HJ4.out; have := HK2.out; have := HJ13.out; omega⟩, ⟨rSa_ HO542.out⟩, ⟨bw_⟩⟩
           ·rw [if_neg c19] at H
            exact absurd H (by simp)
          ·replace c16 := Bool.eq_false_iff.mpr c16
           subst c16
           rw [if_neg (show ¬ (false = true) by decide)] at H
           have H' := Aside0.mk H
           clear H
           go_wp2
           go_roundg kj13
           case measure => have := HJ4.out; have := HK2.out; have := HJ13.out; omega
           case rel => exact ⟨(x4_2), (wrap64 (x31_2 + 1)), sd_, H', ⟨by have := HJ4.out; have := HK2.out; have := HJ13.out; omega⟩, ⟨rSa_ HO_4.out⟩, ⟨bw_⟩⟩
       ·rw [if_neg c12] at H
        have c12b0 : decide (x31_2 < a1) = false := decide_eq_false c12
        clear c12
        simp only [Option.some.injEq, Prod.mk.injEq] at H
        obtain ⟨rfl, rfl⟩ := H
        go_wp2
        go_ret2
        exact ⟨_, by first | rfl | (simp [errW_none, errW_some] <;> rfl) | (simp [*, errW_none, errW_some] <;> rfl), rSa_ HO_4.out, bw_⟩
 ·rw [if_neg c4] at H
  have c4b0 : (t527 == 0) = false := beq_eq_false_iff_ne.mpr c4
  have c4b1 : (t527 != 0) = true := bne_iff_ne.mpr c4
  simp only [Option.some.injEq, Prod.mk.injEq] at H
  obtain ⟨rfl, rfl⟩ := H
  go_enter Tryd.func35, Tryd.ntmps35
  go_wp2_with (first | ((with_reducible refine gate_callee (f := 25) rfl ?_); refine goesL_ (some 10) rfl rfl Tryd.func25 (by kernel_rfl) rfl #[.slice A0 l0.length c0] rfl ag_ ?_; (with_reducible refine (simplex_Check.calls k _ _ l0 t527 _ ?side1 ?side2 A3.out).mono ?_); (case side1 => exact cs_ HR0.out); (case side2 => exact HC0.out); rintro e w' ⟨rfl, ⟨nd, rfl⟩⟩; refine ⟨_, rfl, ?_⟩))
  go_ret2
  exact ⟨_, by first | rfl | (simp [errW_none, errW_some] <;> rfl) | (simp [*, errW_none, errW_some] <;> rfl), by first | exact Kd.S_nil _ _ _ _ _ | exact Kd.N_nil _ _ _ _ _ | exact Kd.V_nil _ _ _ _ _ | exact Kd.Q_nil _ _ _ _ _ | exact Kd.R_nil _ _ _ _ _, bw_⟩

end Go.Proofs.YticckanjfdcpaaaDoor.PSimplex
namespace Go.Proofs.YticckanjfdcpaaaDoor.PSimplex
open Go.RowKit Go.Proofs.YticckanjfdcpaaaDoorW.PrintWords Go.Proofs.YticckanjfdcpaaaDoorW.PrintLast Go.Proofs.YticckanjfdcpaaaDoorW.PrintMore
set_option linter.unusedVariables false
set_option linter.unusedSimpArgs false

/-- A row of ints that lies in a block of its own type from base on. -/
def IntRow (base : Nat) (V : World) (x : Value) : Prop := ∃ (A : Option Addr) (n c : Nat), x = .slice A n c ∧ n ≤ 9223372036854775807 ∧ (0 < n → ∃ b cur, A = some ⟨b, 0, none⟩ ∧ base ≤ b ∧ V.heap[b]? = some (.cells cur 3 (0, 0)) ∧ n ≤ cur.size)
/-- A row of such rows. -/
def RowList (base : Nat) (V : World) (x : Value) : Prop := ∃ (A : Option Addr) (n c : Nat), x = .slice A n c ∧ n ≤ 9223372036854775807 ∧ (0 < n → ∃ b cur, A = some ⟨b, 0, none⟩ ∧ V.heap[b]? = some (.cells cur 28 (0, 0)) ∧ ∀ i, i < n → ∃ row, cur[i]? = some row ∧ IntRow base V row)
theorem introw_of_own {base m : Nat} {V : World} {x : Value} {ys : List Value} (h : V.ownsRow base 3 1 x m ys) : IntRow base V x := by
  rcases h.2 with ⟨rfl, _⟩ | ⟨g, cap, cur, rfl, hb, hg, hn, hc, hs, _⟩
  · exact ⟨none, 0, 0, rfl, by omega, fun h => by omega⟩
  · exact ⟨_, m, cap, rfl, by unfold maxLen at hc; omega, fun _ => ⟨g, cur, rfl, hb, hg, by omega⟩⟩
theorem introw_of_R {base : Nat} {V : World} {ok : Nat → Prop} {x : Value} {xs : List Int} (h : Kd.R (Kd.int .i64) 3 V base ok x xs) : IntRow base V x := by
  obtain ⟨inner, ho⟩ := Kd.R_own h
  exact introw_of_own ho
theorem rowlist_of_S {base : Nat} {V : World} {ok : Nat → Prop} {x : Value} {xs : List (List Int)} (h : Kd.S (Kd.slice 3 (Kd.int .i64)) 28 V base ok x xs) : RowList base V x := by
  obtain ⟨h0, inner, ho, hr⟩ := Kd.S_R h
  rcases ho.2 with ⟨rfl, _⟩ | ⟨g, cap, cur, rfl, hb, hg, hn, hc, hs, ht⟩
  · exact ⟨none, 0, 0, rfl, by omega, fun h => by omega⟩
  · refine ⟨_, xs.length, cap, rfl, by unfold maxLen at hc; omega, fun _ => ⟨g, cur, rfl, hg, fun i hi => ?_⟩⟩
    obtain ⟨v, hv, hR⟩ := hr.2 i xs[i] (List.getElem?_eq_getElem hi)
    refine ⟨v, ?_, introw_of_R hR⟩
    have e1 : inner[i]? = some v := by
      have := congrArg (fun l => l[0]?) hv
      simpa [show (Kd.slice 3 (Kd.int .i64)).sz = 1 from rfl] using this
    rw [← ht, List.getElem?_take, if_pos (by simpa [show (Kd.slice 3 (Kd.int .i64)).sz = 1 from rfl] using hi)] at e1
    simpa using e1
theorem IntRow.grow {base : Nat} {V W : World} {x : Value} (h : IntRow base V x) (hb : Below V.heap.size V W) : IntRow base W x := by
  obtain ⟨A, n, c, e, hl, hn⟩ := h
  refine ⟨A, n, c, e, hl, fun h => ?_⟩
  obtain ⟨b, cur, e, h1, h2, h3⟩ := hn h
  exact ⟨b, cur, e, h1, blk_below h2 hb, h3⟩
theorem RowList.grow {base : Nat} {V W : World} {x : Value} (h : RowList base V x) (hb : Below V.heap.size V W) : RowList base W x := by
  obtain ⟨A, n, c, e, hl, hn⟩ := h
  refine ⟨A, n, c, e, hl, fun h => ?_⟩
  obtain ⟨b, cur, e, h1, h2⟩ := hn h
  exact ⟨b, cur, e, blk_below h1 hb, fun i hi => (h2 i hi).imp (fun row h => ⟨h.1, h.2.grow hb⟩)⟩
/-- Rows of ints from base on have been overwritten. -/
structure Wiped (base : Nat) (V W : World) : Prop where
  below : Below base V W
  other : ∀ (k : Nat) (cs : Array Value) (t : TypeId), V.heap[k]? = some (.cells cs t (0, 0)) → t ≠ 3 → W.heap[k]? = some (.cells cs t (0, 0))
  rows : ∀ (k : Nat) (cs : Array Value), V.heap[k]? = some (.cells cs 3 (0, 0)) → ∃ cs' : Array Value, W.heap[k]? = some (.cells cs' 3 (0, 0)) ∧ cs'.size = cs.size
theorem Wiped.refl (base : Nat) (V : World) : Wiped base V V := ⟨Below.refl _ _, fun _ _ _ h _ => h, fun _ cs h => ⟨cs, h, rfl⟩⟩
theorem Wiped.put {base : Nat} {V W : World} (h : Wiped base V W) {b : Nat} {cur : Array Value} (hb : V.heap[b]? = some (.cells cur 3 (0, 0))) (hbase : base ≤ b) (j : Nat) (u : Value) : Wiped base V (W.setCell ⟨b, j, none⟩ u) := by
  refine ⟨h.below.setCell hbase u, fun k cs t hk ht => blk_far (h.other k cs t hk ht) (by rintro rfl; exact blk_ne hk hb ht rfl) u, fun k cs hk => ?_⟩
  obtain ⟨cs', h1, h2⟩ := h.rows k cs hk
  by_cases e : k = b
  · subst e
    exact ⟨_, blk_set h1 j u, by simp [h2]⟩
  · exact ⟨cs', blk_far h1 e u, h2⟩
/-- The world under a name. -/
theorem any_world {P : Program} {c : Code} {Q : Exit → Act → World → Prop} {a : Act} {w : World} (h : ∀ W, Aside0 (W = w) → c.wp P Q a W) : c.wp P Q a w := h w ⟨rfl⟩
theorem wiped_cell {base : Nat} {V W : World} (h : Wiped base V W) {b : Nat} {cs : Array Value} {t : TypeId} (hb : V.heap[b]? = some (.cells cs t (0, 0))) (ht : t ≠ 3) (i : Nat) : W.cell? ⟨b, i, none⟩ = cs[i]? := blk_cell (h.other b cs t hb ht) i
theorem wiped_int {base : Nat} {V W : World} (h : Wiped base V W) {b : Nat} {cs : Array Value} (hb : V.heap[b]? = some (.cells cs 3 (0, 0))) (i : Nat) (hi : i < cs.size) : ∃ u, W.cell? ⟨b, i, none⟩ = some u ∧ W.frozen? ⟨b, i, none⟩ = false := by
  obtain ⟨cs', h1, h2⟩ := h.rows b cs hb
  exact ⟨cs'[i], (blk_cell h1 i).trans (by simp [h2, hi]), blk_frozen h1 i⟩
end Go.Proofs.YticckanjfdcpaaaDoor.PSimplex
namespace Go.Proofs.YticckanjfdcpaaaDoor.PSimplex
open Go.RowKit Go.Proofs.YticckanjfdcpaaaDoorW.PrintWords Go.Proofs.YticckanjfdcpaaaDoorW.PrintLast Go.Proofs.YticckanjfdcpaaaDoorW.PrintMore
attribute [local go_sem] max2_int min2_int max_two min_two max_three min_three max_four min_four   -- for this text's walks alone
set_option linter.unusedVariables false
set_option linter.unusedSimpArgs false

/-! ### toruslaw07_SimplexFacesMatch: function 9 -/
mutual
def toruslaw07_SimplexFacesMatch.j0 : Nat → List Int → List Int → Int → Bool → Option (Bool)
 |0, _, _, _, _ => none
 |k + 1, x0, x1, x2, x35 => if x35 = true then ((toruslaw07_awake.f k).bind fun t543 => (some t543)) else ((torusref07_Check.f k x0).bind fun t544 => (if t544 = 0 then ((torusref07_Facets.f k x0).bind fun t545 => ((torusref07_Faces.f k x0).bind fun t548 => (toruslaw07_SimplexFacesMatch.j1 k x0 x1 x2 t544 t545 t548))) else (toruslaw07_SimplexFacesMatch.j1 k x0 x1 x2 t544 ([] : List (List Int)) ([] : List (List Int)))))
def toruslaw07_SimplexFacesMatch.j1 : Nat → List Int → List Int → Int → Int → List (List Int) → List (List Int) → Option (Bool)
 |0, _, _, _, _, _, _ => none
 |k + 1, x0, x1, x2, x7, x8, x9 => (torusref07_Cofacets.f k x0 x2).bind fun bt551 => ((torusref07_Join.f k x0 x1).bind fun bt555 => (toruslaw07_SimplexFacesMatch.l0 k x0 x1 x2 x7 x8 x9 bt551.1 bt551.2 bt555.1 bt555.2 0))
def toruslaw07_SimplexFacesMatch.l0 : Nat → List Int → List Int → Int → Int → List (List Int) → List (List Int) → List (List Int) → Int → List Int → Int → Int → Option (Bool)
 |0, _, _, _, _, _, _, _, _, _, _, _ => none
 |k + 1, x0, x1, x2, x7, x8, x9, x10, x11, x12, x13, x14 => if x14 < 2 then ((simplex_Facets.f k x0).bind fun bt560 => ((simplex_Faces.f k x0).bind fun bt564 => ((simplex_Cofacets.f k x0 x2).bind fun bt568 => ((simplex_Join.f k x0 x1).bind fun bt572 => (if bt560.2 = x7 then (if bt564.2 = x7 then (if bt568.2 = x11 then (if bt572.2 = x13 then ((torusref07_Same.f k bt560.1 x8).bind fun t576 => (if t576 = true then ((torusref07_Same.f k bt564.1 x9).bind fun t577 => (if t577 = true then ((torusref07_Same.f k bt568.1 x10).bind fun t578 => (if t578 = true then ((torusref07_Cmp.f k bt572.1 x12).bind fun t579 => (if t579 = 0 then (toruslaw07_SimplexFacesMatch.l0 k x0 x1 x2 x7 x8 x9 x10 x11 x12 x13 (wrap64 (x14 + 1))) else (none))) else (none))) else (none))) else (none))) else (none)) else (none)) else (none)) else (none)))))) else ((toruslaw07_awake.f k).bind fun t559 => (some t559))
end
def toruslaw07_SimplexFacesMatch.f (k : Nat) (l0 : List Int) (l1 : List Int) (a2 : Int) : Option (Bool) := if (l0.length : Int) > 200 then (toruslaw07_SimplexFacesMatch.j0 k l0 l1 a2 true) else (toruslaw07_SimplexFacesMatch.j0 k l0 l1 a2 (decide ((l1.length : Int) > 200)))
theorem toruslaw07_SimplexFacesMatch.mono_l : ∀ k, (∀ y0 y1 y2 y3, LeO (toruslaw07_SimplexFacesMatch.j0 k y0 y1 y2 y3) (toruslaw07_SimplexFacesMatch.j0 (k + 1) y0 y1 y2 y3)) ∧ (∀ y0 y1 y2 y3 y4 y5, LeO (toruslaw07_SimplexFacesMatch.j1 k y0 y1 y2 y3 y4 y5) (toruslaw07_SimplexFacesMatch.j1 (k + 1) y0 y1 y2 y3 y4 y5)) ∧ (∀ y0 y1 y2 y3 y4 y5 y6 y7 y8 y9 y10, LeO (toruslaw07_SimplexFacesMatch.l0 k y0 y1 y2 y3 y4 y5 y6 y7 y8 y9 y10) (toruslaw07_SimplexFacesMatch.l0 (k + 1) y0 y1 y2 y3 y4 y5 y6 y7 y8 y9 y10))
 |0 => ⟨fun _ _ _ _ r h => by simp [toruslaw07_SimplexFacesMatch.j0] at h, fun _ _ _ _ _ _ r h => by simp [toruslaw07_SimplexFacesMatch.j1] at h, fun _ _ _ _ _ _ _ _ _ _ _ r h => by simp [toruslaw07_SimplexFacesMatch.l0] at h⟩
 |k + 1 => by
  obtain ⟨ih0, ih1, ih2⟩ := toruslaw07_SimplexFacesMatch.mono_l k
  refine ⟨?_, ?_, ?_⟩
  ·intro y0 y1 y2 y3
   unfold toruslaw07_SimplexFacesMatch.j0
   repeat' first
   |(with_reducible exact ih0 _ _ _ _)
   |(with_reducible exact ih1 _ _ _ _ _ _)
   |(with_reducible exact ih2 _ _ _ _ _ _ _ _ _ _ _)
   |(with_reducible exact simplex_Cofacets.mono _ _ _)
   |(with_reducible exact simplex_Faces.mono _ _)
   |(with_reducible exact simplex_Facets.mono _ _)
   |(with_reducible exact simplex_Join.mono _ _ _)
   |(with_reducible exact toruslaw07_awake.mono _)
   |(with_reducible exact torusref07_Check.mono _ _)
   |(with_reducible exact torusref07_Cmp.mono _ _ _)
   |(with_reducible exact torusref07_Cofacets.mono _ _ _)
   |(with_reducible exact torusref07_Faces.mono _ _)
   |(with_reducible exact torusref07_Facets.mono _ _)
   |(with_reducible exact torusref07_Join.mono _ _ _)
   |(with_reducible exact torusref07_Same.mono _ _ _)
   |(with_reducible exact LeO.refl _)
   |(with_reducible exact LeO.none _)
   |(with_reducible refine LeO.ite ?_ ?_)
   |(with_reducible refine LeO.bind ?_ (fun _ => ?_))
  ·intro y0 y1 y2 y3 y4 y5
   unfold toruslaw07_SimplexFacesMatch.j1
   repeat' first
   |(with_reducible exact ih0 _ _ _ _)
   |(with_reducible exact ih1 _ _ _ _ _ _)
   |(with_reducible exact ih2 _ _ _ _ _ _ _ _ _ _ _)
   |(with_reducible exact simplex_Cofacets.mono _ _ _)
   |(with_reducible exact simplex_Faces.mono _ _)
   |(with_reducible exact simplex_Facets.mono _ _)
   |(with_reducible exact simplex_Join.mono _ _ _)
   |(with_reducible exact toruslaw07_awake.mono _)
   |(with_reducible exact torusref07_Check.mono _ _)
   |(with_reducible exact torusref07_Cmp.mono _ _ _)
   |(with_reducible exact torusref07_Cofacets.mono _ _ _)
   |(with_reducible exact torusref07_Faces.mono _ _)
   |(with_reducible exact torusref07_Facets.mono _ _)
   |(with_reducible exact torusref07_Join.mono _ _ _)
   |(with_reducible exact torusref07_Same.mono _ _ _)
   |(with_reducible exact LeO.refl _)
   |(with_reducible exact LeO.none _)
   |(with_reducible refine LeO.ite ?_ ?_)
   |(with_reducible refine LeO.bind ?_ (fun _ => ?_))
  ·intro y0 y1 y2 y3 y4 y5 y6 y7 y8 y9 y10
   unfold toruslaw07_SimplexFacesMatch.l0
   repeat' first
   |(with_reducible exact ih0 _ _ _ _)
   |(with_reducible exact ih1 _ _ _ _ _ _)
   |(with_reducible exact ih2 _ _ _ _ _ _ _ _ _ _ _)
   |(with_reducible exact simplex_Cofacets.mono _ _ _)
   |(with_reducible exact simplex_Faces.mono _ _)
   |(with_reducible exact simplex_Facets.mono _ _)
   |(with_reducible exact simplex_Join.mono _ _ _)
   |(with_reducible exact toruslaw07_awake.mono _)
   |(with_reducible exact torusref07_Check.mono _ _)
   |(with_reducible exact torusref07_Cmp.mono _ _ _)
   |(with_reducible exact torusref07_Cofacets.mono _ _ _)
   |(with_reducible exact torusref07_Faces.mono _ _)
   |(with_reducible exact torusref07_Facets.mono _ _)
   |(with_reducible exact torusref07_Join.mono _ _ _)
   |(with_reducible exact torusref07_Same.mono _ _ _)
   |(with_reducible exact LeO.refl _)
   |(with_reducible exact LeO.none _)
   |(with_reducible refine LeO.ite ?_ ?_)
   |(with_reducible refine LeO.bind ?_ (fun _ => ?_))
theorem toruslaw07_SimplexFacesMatch.mono : ∀ a0 a1 a2 k, LeO (toruslaw07_SimplexFacesMatch.f k a0 a1 a2) (toruslaw07_SimplexFacesMatch.f (k + 1) a0 a1 a2) := by
 intro a0 a1 a2 k
 obtain ⟨ih0, ih1, ih2⟩ := toruslaw07_SimplexFacesMatch.mono_l k
 unfold toruslaw07_SimplexFacesMatch.f
 repeat' first
   |(with_reducible exact ih0 _ _ _ _)
   |(with_reducible exact ih1 _ _ _ _ _ _)
   |(with_reducible exact ih2 _ _ _ _ _ _ _ _ _ _ _)
   |(with_reducible exact simplex_Cofacets.mono _ _ _)
   |(with_reducible exact simplex_Faces.mono _ _)
   |(with_reducible exact simplex_Facets.mono _ _)
   |(with_reducible exact simplex_Join.mono _ _ _)
   |(with_reducible exact toruslaw07_awake.mono _)
   |(with_reducible exact torusref07_Check.mono _ _)
   |(with_reducible exact torusref07_Cmp.mono _ _ _)
   |(with_reducible exact torusref07_Cofacets.mono _ _ _)
   |(with_reducible exact torusref07_Faces.mono _ _)
   |(with_reducible exact torusref07_Facets.mono _ _)
   |(with_reducible exact torusref07_Join.mono _ _ _)
   |(with_reducible exact torusref07_Same.mono _ _ _)
   |(with_reducible exact LeO.refl _)
   |(with_reducible exact LeO.none _)
   |(with_reducible refine LeO.ite ?_ ?_)
   |(with_reducible refine LeO.bind ?_ (fun _ => ?_))
set_option maxHeartbeats 8000000 in
set_option maxRecDepth 100000 in
theorem toruslaw07_SimplexFacesMatch.calls (k : Nat) (A0 : Option Addr) (c0 : Nat) (l0 : List Int) (A1 : Option Addr) (c1 : Nat) (l1 : List Int) (a2 : Int) (r : Bool) (w : World) (hr0 : Kd.C (Kd.int .i64) w A0 l0.length l0) (hc0 : l0.length ≤ c0) (hr1 : Kd.C (Kd.int .i64) w A1 l1.length l1) (hc1 : l1.length ≤ c1) (hg : Aside0 (Glob w)) (hrt : Aside0 (r = true)) (h : toruslaw07_SimplexFacesMatch.f k l0 l1 a2 = some r) :
  Calls Tryd.prog 9 #[.slice A0 l0.length c0, .slice A1 l1.length c1, .int .i64 a2] w fun e w' => e = .returned (.bool r) ∧ Below w.heap.size w w' := by
 have HR0 := Aside0.mk hr0
 have HC0 := Aside0.mk hc0
 clear hr0 hc0
 have HR1 := Aside0.mk hr1
 have HC1 := Aside0.mk hc1
 clear hr1 hc1
 have HB := Aside0.mk (Below.refl w.heap.size w)
 have H : (if (l0.length : Int) > 200 then (toruslaw07_SimplexFacesMatch.j0 k l0 l1 a2 true) else (toruslaw07_SimplexFacesMatch.j0 k l0 l1 a2 (decide ((l1.length : Int) > 200)))) = some r := h
 clear h
 have HC4 := Aside0.mk H
 clear H
 go_enter Tryd.func9, Tryd.ntmps9
 go_upto_region 1 with (fail)
 go_cut [35] (fun v35 wc => ∃ (kq : Nat) (x35_3 : Bool), v35 = .bool x35_3 ∧ Aside0 (toruslaw07_SimplexFacesMatch.j0 kq l0 l1 a2 x35_3 = some r) ∧ Aside0 (kq ≤ k) ∧ Aside0 (Below w.heap.size w wc))
 case first =>
  have H := HC4.out
  clear HC4
  by_cases c5 : (l0.length : Int) > 200
  ·rw [if_pos c5] at H
   have c5b0 : decide (200 < (l0.length : Int)) = true := decide_eq_true c5
   have c5b1 : decide (200 < l0.length) = true := decide_eq_true (by omega)
   clear c5
   (first | rw [c5b0] | (simp only [i64_w, i32_w]; rw [c5b0]) | skip)
   have H' := Aside0.mk H
   clear H
   go_wp2
   go_meet
   case rel => exact ⟨_, (true), sd_, H', ⟨by first | omega | exact Nat.le_refl _⟩, ⟨bw_⟩⟩
  ·rw [if_neg c5] at H
   have c5b0 : decide (200 < (l0.length : Int)) = false := decide_eq_false c5
   have c5b1 : decide (200 < l0.length) = false := decide_eq_false (by omega)
   clear c5
   (first | rw [c5b0] | (simp only [i64_w, i32_w]; rw [c5b0]) | skip)
   have H' := Aside0.mk H
   clear H
   go_wp2
   go_meet
   case rel => exact ⟨_, (decide ((l1.length : Int) > 200)), sd_, H', ⟨by first | omega | exact Nat.le_refl _⟩, ⟨bw_⟩⟩
 case rest =>
  clear HC4
  try clear c1
  try clear p2
  try clear c5
  try clear c5b0
  try clear c5b1
  obtain ⟨kq, x35_3, rfl, HA, HJ3, HB⟩ := hcut
  cases kq with
  |zero => exact absurd HA.out (by simp [toruslaw07_SimplexFacesMatch.j0])
  |succ kj3 =>
   have H := HA.out
   clear HA
   simp only [toruslaw07_SimplexFacesMatch.j0] at H
   by_cases c6 : x35_3 = true
   ·subst c6
    rw [if_pos rfl] at H
    replace H := Option.bind_eq_some_iff.mp H
    obtain ⟨t543, A70, H⟩ := H
    have A7 := Aside0.mk A70
    clear A70
    first
    |with_reducible exact absurd ((Option.some.inj H).trans hrt.out) Bool.false_ne_true
    |skip
     obtain rfl := Option.some.inj H
     go_wp2_with (first | ((with_reducible refine gate_callee (f := 12) rfl ?_); refine goesL_ (some 36) rfl rfl Tryd.func12 (by kernel_rfl) rfl #[] rfl ag_ ?_; (with_reducible refine (toruslaw07_awake.calls kj3  t543 _ ?side1 A7.out).mono ?_); (case side1 => first | exact hg | exact ⟨Glob.below hg.out bw_⟩); rintro e w8 ⟨rfl, hb⟩; refine ⟨_, rfl, ?_⟩; have n0_ := Aside0.mk (below_step bw_ hb); clear HB; have HB := n0_; clear n0_; (try clear hb); (try clear hb2); (try clear hk); (try clear hi)))
     go_ret
     exact ⟨by first | rfl | (simp [errW_none, errW_some] <;> rfl) | (simp [*, errW_none, errW_some] <;> rfl), bw_⟩
   ·replace c6 := Bool.eq_false_iff.mpr c6
    subst c6
    rw [if_neg (show ¬ (false = true) by decide)] at H
    replace H := Option.bind_eq_some_iff.mp H
    obtain ⟨t544, A90, H⟩ := H
    have A9 := Aside0.mk A90
    clear A90
    have HC10 := Aside0.mk H
    clear H
    go_upto_if 40 with (first | ((with_reducible refine gate_callee (f := 28) rfl ?_); refine goesL_ (some 38) rfl rfl Tryd.func28 (by kernel_rfl) rfl #[.slice A0 l0.length c0] rfl ag_ ?_; (with_reducible refine (torusref07_Check.calls kj3 _ _ l0 t544 _ ?side1 ?side2 A9.out).mono ?_); (case side1 => exact cs_ (Kd.C_below HR0.out HB.out)); (case side2 => exact HC0.out); rintro e w' ⟨rfl, ⟨nd, rfl⟩⟩; refine ⟨_, rfl, ?_⟩))
    (try simp only [Act.put, List.setIfInBounds_toArray, List.set_cons_zero, List.set_cons_succ])
    go_cut [8, 9] (fun v8 v9 wc => ∃ (kq : Nat) (x8_9 : List (List Int)) (x9_9 : List (List Int)), Aside0 (toruslaw07_SimplexFacesMatch.j1 kq l0 l1 a2 t544 x8_9 x9_9 = some r) ∧ Aside0 (kq ≤ kj3) ∧ Aside0 (Kd.S (Kd.slice 3 (Kd.int .i64)) 22 wc w.heap.size (fun _ => True) v8 x8_9) ∧ Aside0 (Kd.V (Kd.slice 3 (Kd.int .i64)) 22 wc w.heap.size (fun k_ => some k_ ≠ (v8 : Value).ownBlock) v9 x9_9) ∧ Aside0 (Below w.heap.size w wc))
    case first =>
     have H := HC10.out
     clear HC10
     by_cases c11 : t544 = 0
     ·rw [if_pos c11] at H
      have c11b0 : (t544 == 0) = true := beq_iff_eq.mpr c11
      have c11b1 : (t544 != 0) = false := bne_eq_false_iff_eq.mpr c11
      clear c11
      (first | rw [c11b0] | (simp only [i64_w, i32_w]; rw [c11b0]) | skip)
      replace H := Option.bind_eq_some_iff.mp H
      obtain ⟨t545, A120, H⟩ := H
      have A12 := Aside0.mk A120
      clear A120
      replace H := Option.bind_eq_some_iff.mp H
      obtain ⟨t548, A130, H⟩ := H
      have A13 := Aside0.mk A130
      clear A130
      have H' := Aside0.mk H
      clear H
      go_wp2_with (first | ((with_reducible refine gate_callee (f := 29) rfl ?_); refine goesL_ (some 42) rfl rfl Tryd.func29 (by kernel_rfl) rfl #[.slice A0 l0.length c0] rfl ag_ ?_; (with_reducible refine (torusref07_Facets.calls kj3 _ _ l0 t545 _ ?side1 ?side2 A12.out).mono ?_); (case side1 => exact cs_ (Kd.C_below HR0.out HB.out)); (case side2 => exact HC0.out); rintro e w14 ⟨v546, rfl, ho0, hb⟩; refine ⟨_, rfl, ?_⟩; have n0_ := Aside0.mk (Kd.S_lower ho0 (below_size bw_)); have n1_ := Aside0.mk (below_step bw_ hb); clear HB; have HO547 := n0_; have HB := n1_; clear n0_ n1_; (try clear hb); (try clear hb2); (try clear hk); (try clear hi); (try clear ho0)) | ((with_reducible refine gate_callee (f := 30) rfl ?_); refine goesL_ (some 44) rfl rfl Tryd.func30 (by kernel_rfl) rfl #[.slice A0 l0.length c0] rfl ag_ ?_; (with_reducible refine (torusref07_Faces.calls kj3 _ _ l0 t548 _ ?side1 ?side2 A13.out).mono ?_); (case side1 => exact cs_ (Kd.C_below HR0.out HB.out)); (case side2 => exact HC0.out); rintro e w15 ⟨v549, rfl, ho0, hb⟩; refine ⟨_, rfl, ?_⟩; have n0_ := Aside0.mk (Kd.S_below (rSa_ HO547.out) hb); have n1_ := Aside0.mk (Kd.V_lower (Kd.V_mono (ok' := fun k_ => some k_ ≠ (v546 : Value).ownBlock) ho0 (fun k_ hk_ => (Kd.fresh' (Kd.S_lt (rSa_ HO547.out)) k_ hk_))) (below_size bw_)); have n2_ := Aside0.mk (below_step bw_ hb); clear HO547; clear HB; have HO547 := n0_; have HO550 := n1_; have HB := n2_; clear n0_ n1_ n2_; (try clear hb); (try clear hb2); (try clear hk); (try clear hi); (try clear ho0)))
      go_meet
      case rel => exact ⟨_, (t545), (t548), H', ⟨by have := HJ3.out; first | omega | exact Nat.le_refl _⟩, ⟨rSa_ HO547.out⟩, ⟨rVa_ HO550.out⟩, ⟨bw_⟩⟩
     ·rw [if_neg c11] at H
      have c11b0 : (t544 == 0) = false := beq_eq_false_iff_ne.mpr c11
      have c11b1 : (t544 != 0) = true := bne_iff_ne.mpr c11
      (first | rw [c11b0] | (simp only [i64_w, i32_w]; rw [c11b0]) | skip)
      have H' := Aside0.mk H
      clear H
      go_wp2
      go_meet
      case rel => exact ⟨_, (([] : List (List Int))), (([] : List (List Int))), H', ⟨by have := HJ3.out; first | omega | exact Nat.le_refl _⟩, ⟨by first | exact Kd.S_nil _ _ _ _ _ | exact Kd.N_nil _ _ _ _ _ | exact Kd.V_nil _ _ _ _ _ | exact Kd.Q_nil _ _ _ _ _ | exact Kd.R_nil _ _ _ _ _⟩, ⟨Kd.V_nil _ _ _ _ _⟩, ⟨bw_⟩⟩
    case rest =>
     clear HC10
     try clear c1
     try clear c2
     try clear p2
     try clear c3
     try clear c5
     try clear c5b0
     try clear c5b1
     try clear c6
     try clear c9
     try clear c11
     try clear c11b0
     try clear c11b1
     try clear c12
     try clear p2
     obtain ⟨kq, x8_9, x9_9, HA, HJ9, HO_8, HO_9, HB⟩ := hcut
     cases kq with
     |zero => exact absurd HA.out (by simp [toruslaw07_SimplexFacesMatch.j1])
     |succ kj9 =>
      have H := HA.out
      clear HA
      simp only [toruslaw07_SimplexFacesMatch.j1] at H
      replace H := Option.bind_eq_some_iff.mp H
      obtain ⟨⟨t551, t552⟩, A160, H⟩ := H
      dsimp only at H
      have A16 := Aside0.mk A160
      clear A160
      replace H := Option.bind_eq_some_iff.mp H
      obtain ⟨⟨t555, t556⟩, A170, H⟩ := H
      dsimp only at H
      have A17 := Aside0.mk A170
      clear A170
      have H' := Aside0.mk H
      clear H
      go_wp2_with (first | ((with_reducible refine gate_callee (f := 31) rfl ?_); refine goesL_ (some 48) rfl rfl Tryd.func31 (by kernel_rfl) rfl #[.slice A0 l0.length c0, .int .i64 a2] rfl ag_ ?_; (with_reducible refine (torusref07_Cofacets.calls kj9 _ _ l0 a2 t551 t552 _ ?side1 ?side2 A16.out).mono ?_); (case side1 => exact cs_ (Kd.C_below HR0.out HB.out)); (case side2 => exact HC0.out); rintro e w18 ⟨v553, rfl, ho0, hb⟩; refine ⟨_, rfl, ?_⟩; have n0_ := Aside0.mk (Kd.S_elder' (rSa_ HO_8.out) (Kd.S_base ho0) hb); have n1_ := Aside0.mk (Kd.V_elder' (rVa_ HO_9.out) (Kd.S_base ho0) hb); have n2_ := Aside0.mk (Kd.S_lower (Kd.S_new' ho0 (Kd.S_lt (rSa_ HO_8.out))) (below_size bw_)); have n3_ := Aside0.mk (below_step bw_ hb); clear HO_8; clear HO_9; clear HB; have HO_8 := n0_; have HO_9 := n1_; have HO554 := n2_; have HB := n3_; clear n0_ n1_ n2_ n3_; (try clear hb); (try clear hb2); (try clear hk); (try clear hi); (try clear ho0)) | ((with_reducible refine gate_callee (f := 32) rfl ?_); refine goesL_ (some 54) rfl rfl Tryd.func32 (by kernel_rfl) rfl #[.slice A0 l0.length c0, .slice A1 l1.length c1] rfl ag_ ?_; (with_reducible refine (torusref07_Join.calls kj9 _ _ l0 _ _ l1 t555 t556 _ ?side1 ?side2 ?side3 ?side4 A17.out).mono ?_); (case side1 => exact cs_ (Kd.C_below HR0.out HB.out)); (case side2 => exact HC0.out); (case side3 => exact cs_ (Kd.C_below HR1.out HB.out)); (case side4 => exact HC1.out); rintro e w19 ⟨v557, rfl, ho0, hb⟩; refine ⟨_, rfl, ?_⟩; have n0_ := Aside0.mk (Kd.S_elder' (rSa_ HO_8.out) (Kd.R_base ho0) hb); have n1_ := Aside0.mk (Kd.V_elder' (rVa_ HO_9.out) (Kd.R_base ho0) hb); have n2_ := Aside0.mk (Kd.S_elder' (rSa_ HO554.out) (Kd.R_base ho0) hb); have n3_ := Aside0.mk (Kd.R_lower ho0 (below_size bw_)); have n4_ := Aside0.mk (below_step bw_ hb); clear HO_8; clear HO_9; clear HO554; clear HB; have HO_8 := n0_; have HO_9 := n1_; have HO554 := n2_; have HO558 := n3_; have HB := n4_; clear n0_ n1_ n2_ n3_ n4_; (try clear hb); (try clear hb2); (try clear hk); (try clear hi); (try clear ho0)))
      go_loopg [14] kj9 (fun kq v14 w' => ∃ (x14_3 : Int), v14 = .int .i64 x14_3 ∧ Aside0 (toruslaw07_SimplexFacesMatch.l0 kq l0 l1 a2 t544 x8_9 x9_9 t551 t552 t555 t556 x14_3 = some r) ∧ Aside0 (kq ≤ kj9) ∧ Aside0 (Kd.S (Kd.slice 3 (Kd.int .i64)) 22 w' w.heap.size (fun k_ => some k_ ≠ (v553 : Value).ownBlock ∧ some k_ ≠ (v557 : Value).ownBlock) u8 x8_9) ∧ Aside0 (Kd.V (Kd.slice 3 (Kd.int .i64)) 22 w' w.heap.size (fun k_ => some k_ ≠ (u8 : Value).ownBlock ∧ some k_ ≠ (v553 : Value).ownBlock ∧ some k_ ≠ (v557 : Value).ownBlock) u9 x9_9) ∧ Aside0 (Kd.S (Kd.slice 3 (Kd.int .i64)) 22 w' w.heap.size (fun k_ => some k_ ≠ (u8 : Value).ownBlock ∧ some k_ ≠ (v557 : Value).ownBlock) v553 t551) ∧ Aside0 (Kd.R (Kd.int .i64) 3 w' w.heap.size (fun _ => True) v557 t555) ∧ Aside0 (Below w.heap.size w w'))
      case atStart => exact ⟨(0), sd_, H', ⟨Nat.le_refl _⟩, ⟨by (with_reducible repeat (first | apply Kd.S_alloc | apply Kd.S_drewN | apply Kd.S_drew)); exact Kd.S_mono HO_8.out (fun _ hk => ⟨hk.1.2, hk.2⟩)⟩, ⟨by (with_reducible repeat (first | apply Kd.V_alloc | apply Kd.V_drewN | apply Kd.V_drew)); exact Kd.V_mono HO_9.out (fun _ hk => ⟨hk.1.1, ⟨hk.1.2, hk.2⟩⟩)⟩, ⟨by (with_reducible repeat (first | apply Kd.S_alloc | apply Kd.S_drewN | apply Kd.S_drew)); exact Kd.S_mono HO554.out (fun _ hk => ⟨hk.1.2, hk.2⟩)⟩, ⟨rRa_ HO558.out⟩, ⟨bw_⟩⟩
      case round =>
       clear H'
       try clear c1
       try clear c2
       try clear p2
       try clear c3
       try clear c5
       try clear c5b0
       try clear c5b1
       try clear c6
       try clear c9
       try clear c11
       try clear c11b0
       try clear c11b1
       try clear c12
       try clear p2
       obtain ⟨x14_3, rfl, HA, HK3, HO_8, HO_9, HO_10, HO_12, HB⟩ := hrel
       cases gk with
       |zero => exact absurd HA.out (by simp [toruslaw07_SimplexFacesMatch.l0])
       |succ k3 =>
        have H := HA.out
        clear HA
        simp only [toruslaw07_SimplexFacesMatch.l0] at H
        by_cases c20 : x14_3 < 2
        ·rw [if_pos c20] at H
         have c20b0 : decide (x14_3 < 2) = true := decide_eq_true c20
         clear c20
         replace H := Option.bind_eq_some_iff.mp H
         obtain ⟨⟨t560, t561⟩, A210, H⟩ := H
         dsimp only at H
         have A21 := Aside0.mk A210
         clear A210
         replace H := Option.bind_eq_some_iff.mp H
         obtain ⟨⟨t564, t565⟩, A220, H⟩ := H
         dsimp only at H
         have A22 := Aside0.mk A220
         clear A220
         replace H := Option.bind_eq_some_iff.mp H
         obtain ⟨⟨t568, t569⟩, A230, H⟩ := H
         dsimp only at H
         have A23 := Aside0.mk A230
         clear A230
         replace H := Option.bind_eq_some_iff.mp H
         obtain ⟨⟨t572, t575⟩, A240, H⟩ := H
         dsimp only at H
         have A24 := Aside0.mk A240
         clear A240
         by_cases c25 : t561 = t544
         ·rw [if_pos c25] at H
          have c25b0 : (t561 == t544) = true := beq_iff_eq.mpr c25
          have c25b1 : (t561 != t544) = false := bne_eq_false_iff_eq.mpr c25
          clear c25
          by_cases c26 : t565 = t544
          ·rw [if_pos c26] at H
           have c26b0 : (t565 == t544) = true := beq_iff_eq.mpr c26
           have c26b1 : (t565 != t544) = false := bne_eq_false_iff_eq.mpr c26
           clear c26
           by_cases c27 : t569 = t552
           ·rw [if_pos c27] at H
            have c27b0 : (t569 == t552) = true := beq_iff_eq.mpr c27
            have c27b1 : (t569 != t552) = false := bne_eq_false_iff_eq.mpr c27
            clear c27
            by_cases c28 : t575 = t556
            ·rw [if_pos c28] at H
             have c28b0 : (t575 == t556) = true := beq_iff_eq.mpr c28
             have c28b1 : (t575 != t556) = false := bne_eq_false_iff_eq.mpr c28
             clear c28
             replace H := Option.bind_eq_some_iff.mp H
             obtain ⟨t576, A290, H⟩ := H
             have A29 := Aside0.mk A290
             clear A290
             by_cases c30 : t576 = true
             ·subst c30
              rw [if_pos rfl] at H
              replace H := Option.bind_eq_some_iff.mp H
              obtain ⟨t577, A310, H⟩ := H
              have A31 := Aside0.mk A310
              clear A310
              by_cases c32 : t577 = true
              ·subst c32
               rw [if_pos rfl] at H
               replace H := Option.bind_eq_some_iff.mp H
               obtain ⟨t578, A330, H⟩ := H
               have A33 := Aside0.mk A330
               clear A330
               by_cases c34 : t578 = true
               ·subst c34
                rw [if_pos rfl] at H
                replace H := Option.bind_eq_some_iff.mp H
                obtain ⟨t579, A350, H⟩ := H
                have A35 := Aside0.mk A350
                clear A350
                by_cases c36 : t579 = 0
                ·rw [if_pos c36] at H
                 have c36b0 : (t579 == 0) = true := beq_iff_eq.mpr c36
                 have c36b1 : (t579 != 0) = false := bne_eq_false_iff_eq.mpr c36
                 clear c36
                 have H' := Aside0.mk H
                 clear H
                 have HBr := Aside0.mk (Below.refl wr.heap.size wr)
                 have X8 := HO_8
                 have X9 := HO_9
                 have X10 := HO_10
                 have X12 := HO_12
                 have XB := HB
                 have XW := Aside0.mk (show wr.heap.size = wr.heap.size from rfl)
                 go_upto_region 18 with (first | ((with_reducible refine gate_callee (f := 33) rfl ?_); refine goesL_ (some 63) rfl rfl Tryd.func33 (by kernel_rfl) rfl #[.slice A0 l0.length c0] rfl ag_ ?_; (with_reducible refine (simplex_Facets.calls k3 _ _ l0 t560 t561 _ ?side1 ?side2 A21.out).mono ?_); (case side1 => exact cs_ (Kd.C_below HR0.out HB.out)); (case side2 => exact HC0.out); rintro e w37 ⟨v562, rfl, ho0, hb⟩; refine ⟨_, rfl, ?_⟩; have n0_ := Aside0.mk (Kd.S_below (rSa_ HO_8.out) hb); have n1_ := Aside0.mk (Kd.V_elder' (rVa_ HO_9.out) (Kd.S_base ho0) hb); have n2_ := Aside0.mk (Kd.S_below (rSa_ HO_10.out) hb); have n3_ := Aside0.mk (Kd.R_below (rRa_ HO_12.out) hb); have n4_ := Aside0.mk (Kd.S_lower (Kd.S_new' ho0 (Kd.R_lt (rRa_ HO_12.out))) (below_size (by repeat (first | (with_reducible first | exact HBr.out | apply below_alloc | apply pw_below_drewN | apply below_drew1) | exact HBr.out)))); have n5_ := Aside0.mk (below_step bw_ hb); clear HO_8; clear HO_9; clear HO_10; clear HO_12; clear HB; have HO_8 := n0_; have HO_9 := n1_; have HO_10 := n2_; have HO_12 := n3_; have HO563 := n4_; have HB := n5_; have m_ := Aside0.mk (below_step (by repeat (first | (with_reducible first | exact HBr.out | apply below_alloc | apply pw_below_drewN | apply below_drew1) | exact HBr.out)) hb); clear HBr; have HBr := m_; clear m_; clear n0_ n1_ n2_ n3_ n4_ n5_; (try clear hb); (try clear hb2); (try clear hk); (try clear hi); (try clear ho0)) | ((with_reducible refine gate_callee (f := 34) rfl ?_); refine goesL_ (some 68) rfl rfl Tryd.func34 (by kernel_rfl) rfl #[.slice A0 l0.length c0] rfl ag_ ?_; (with_reducible refine (simplex_Faces.calls k3 _ _ l0 t564 t565 _ ?side1 ?side2 A22.out).mono ?_); (case side1 => exact cs_ (Kd.C_below HR0.out HB.out)); (case side2 => exact HC0.out); rintro e w38 ⟨v566, rfl, ho0, hb⟩; refine ⟨_, rfl, ?_⟩; have n0_ := Aside0.mk (Kd.S_below (rSa_ HO_8.out) hb); have n1_ := Aside0.mk (Kd.V_elder' (rVa_ HO_9.out) (Kd.S_base ho0) hb); have n2_ := Aside0.mk (Kd.S_below (rSa_ HO_10.out) hb); have n3_ := Aside0.mk (Kd.R_below (rRa_ HO_12.out) hb); have n4_ := Aside0.mk (Kd.S_elder' (rSa_ HO563.out) (Kd.S_base ho0) hb); have n5_ := Aside0.mk (Kd.S_lower (Kd.S_new' (Kd.S_new' ho0 (Kd.R_lt (rRa_ HO_12.out))) (Kd.S_lt (rSa_ HO563.out))) (below_size (by repeat (first | (with_reducible first | exact HBr.out | apply below_alloc | apply pw_below_drewN | apply below_drew1) | exact HBr.out)))); have n6_ := Aside0.mk (below_step bw_ hb); clear HO_8; clear HO_9; clear HO_10; clear HO_12; clear HO563; clear HB; have HO_8 := n0_; have HO_9 := n1_; have HO_10 := n2_; have HO_12 := n3_; have HO563 := n4_; have HO567 := n5_; have HB := n6_; have m_ := Aside0.mk (below_step (by repeat (first | (with_reducible first | exact HBr.out | apply below_alloc | apply pw_below_drewN | apply below_drew1) | exact HBr.out)) hb); clear HBr; have HBr := m_; clear m_; clear n0_ n1_ n2_ n3_ n4_ n5_ n6_; (try clear hb); (try clear hb2); (try clear hk); (try clear hi); (try clear ho0)) | ((with_reducible refine gate_callee (f := 35) rfl ?_); refine goesL_ (some 74) rfl rfl Tryd.func35 (by kernel_rfl) rfl #[.slice A0 l0.length c0, .int .i64 a2] rfl ag_ ?_; (with_reducible refine (simplex_Cofacets.calls k3 _ _ l0 a2 t568 t569 _ ?side1 ?side2 A23.out).mono ?_); (case side1 => exact cs_ (Kd.C_below HR0.out HB.out)); (case side2 => exact HC0.out); rintro e w39 ⟨v570, rfl, ho0, hb⟩; refine ⟨_, rfl, ?_⟩; have n0_ := Aside0.mk (Kd.S_below (rSa_ HO_8.out) hb); have n1_ := Aside0.mk (Kd.V_elder' (rVa_ HO_9.out) (Kd.S_base ho0) hb); have n2_ := Aside0.mk (Kd.S_below (rSa_ HO_10.out) hb); have n3_ := Aside0.mk (Kd.R_below (rRa_ HO_12.out) hb); have n4_ := Aside0.mk (Kd.S_elder' (rSa_ HO563.out) (Kd.S_base ho0) hb); have n5_ := Aside0.mk (Kd.S_elder' (rSa_ HO567.out) (Kd.S_base ho0) hb); have n6_ := Aside0.mk (Kd.S_lower (Kd.S_new' (Kd.S_new' (Kd.S_new' ho0 (Kd.R_lt (rRa_ HO_12.out))) (Kd.S_lt (rSa_ HO563.out))) (Kd.S_lt (rSa_ HO567.out))) (below_size (by repeat (first | (with_reducible first | exact HBr.out | apply below_alloc | apply pw_below_drewN | apply below_drew1) | exact HBr.out)))); have n7_ := Aside0.mk (below_step bw_ hb); clear HO_8; clear HO_9; clear HO_10; clear HO_12; clear HO563; clear HO567; clear HB; have HO_8 := n0_; have HO_9 := n1_; have HO_10 := n2_; have HO_12 := n3_; have HO563 := n4_; have HO567 := n5_; have HO571 := n6_; have HB := n7_; have m_ := Aside0.mk (below_step (by repeat (first | (with_reducible first | exact HBr.out | apply below_alloc | apply pw_below_drewN | apply below_drew1) | exact HBr.out)) hb); clear HBr; have HBr := m_; clear m_; clear n0_ n1_ n2_ n3_ n4_ n5_ n6_ n7_; (try clear hb); (try clear hb2); (try clear hk); (try clear hi); (try clear ho0)) | ((with_reducible refine gate_callee (f := 36) rfl ?_); refine goesL_ (some 80) rfl rfl Tryd.func36 (by kernel_rfl) rfl #[.slice A0 l0.length c0, .slice A1 l1.length c1] rfl ag_ ?_; (with_reducible refine (simplex_Join.calls k3 (fun k_ => k_ < w.heap.size) _ _ l0 (fun k_ => k_ < w.heap.size) _ _ l1 t572 t575 _ ?side1 ?side2 A24.out).mono ?_); (case side1 => exact Kd.V_mk HC0.out (Kd.F_below (Kd.C_F (Kd.heap_int .i64) HR0.out) bw_)); (case side2 => exact Kd.V_mk HC1.out (Kd.F_below (Kd.C_F (Kd.heap_int .i64) HR1.out) bw_)); rintro e w40 ⟨v573, rfl, ho0, hb⟩; refine ⟨_, rfl, ?_⟩; have n0_ := Aside0.mk (Kd.S_elder' (rSa_ HO_8.out) (Kd.R_base ho0) hb); have n1_ := Aside0.mk (Kd.V_elder' (rVa_ HO_9.out) (Kd.R_base ho0) hb); have n2_ := Aside0.mk (Kd.S_elder' (rSa_ HO_10.out) (Kd.R_base ho0) hb); have n3_ := Aside0.mk (Kd.R_elder' (rRa_ HO_12.out) (Kd.R_base ho0) hb); have n4_ := Aside0.mk (Kd.S_elder' (rSa_ HO563.out) (Kd.R_base ho0) hb); have n5_ := Aside0.mk (Kd.S_elder' (rSa_ HO567.out) (Kd.R_base ho0) hb); have n6_ := Aside0.mk (Kd.S_elder' (rSa_ HO571.out) (Kd.R_base ho0) hb); have n7_ := Aside0.mk (Kd.R_lower (Kd.R_new' (Kd.R_mono (ok' := fun k_ => True) ho0 (fun _ hk_ => trivial)) (Kd.R_lt (rRa_ HO_12.out))) (below_size (by repeat (first | (with_reducible first | exact HBr.out | apply below_alloc | apply pw_below_drewN | apply below_drew1) | exact HBr.out)))); have n8_ := Aside0.mk (below_step bw_ hb); clear HO_8; clear HO_9; clear HO_10; clear HO_12; clear HO563; clear HO567; clear HO571; clear HB; have HO_8 := n0_; have HO_9 := n1_; have HO_10 := n2_; have HO_12 := n3_; have HO563 := n4_; have HO567 := n5_; have HO571 := n6_; have HO574 := n7_; have HB := n8_; have m_ := Aside0.mk (below_step (by repeat (first | (with_reducible first | exact HBr.out | apply below_alloc | apply pw_below_drewN | apply below_drew1) | exact HBr.out)) hb); clear HBr; have HBr := m_; clear m_; clear n0_ n1_ n2_ n3_ n4_ n5_ n6_ n7_ n8_; (try clear hb); (try clear hb2); (try clear hk); (try clear hi); (try clear ho0); obtain ⟨Ao41, co41, eo41⟩ := Kd.S_slice HO563.out; subst eo41; obtain ⟨Ao42, co42, eo42⟩ := Kd.S_slice HO_8.out; subst eo42) | (go_at_call 37; (with_reducible refine (torusref07_Same.calls k3 _ _ t560 _ _ x8_9 true _ ?side1 ?side2 ?side3 ?side4 A29.out).mono ?_); (case side1 => repeat (first | exact (Kd.S_reads' HO563.out).2.2 | (with_reducible refine Kd.C_alloc ?_ _) | (with_reducible refine Kd.C_drewN ?_ _) | (with_reducible refine Kd.C_drew ?_))); (case side2 => exact (Kd.S_reads' HO563.out).2.1); (case side3 => repeat (first | exact (Kd.S_reads' HO_8.out).2.2 | (with_reducible refine Kd.C_alloc ?_ _) | (with_reducible refine Kd.C_drewN ?_ _) | (with_reducible refine Kd.C_drew ?_))); (case side4 => exact (Kd.S_reads' HO_8.out).2.1); rintro e w' ⟨rfl, ⟨nd, rfl⟩⟩; obtain ⟨Ao43, co43, eo43⟩ := Kd.S_slice HO567.out; subst eo43; obtain ⟨Ao44, co44, eo44⟩ := Kd.V_slice HO_9.out; subst eo44) | (go_at_call 37; (with_reducible refine (torusref07_Same.calls k3 _ _ t564 _ _ x9_9 true _ ?side1 ?side2 ?side3 ?side4 A31.out).mono ?_); (case side1 => repeat (first | exact (Kd.S_reads' HO567.out).2.2 | (with_reducible refine Kd.C_alloc ?_ _) | (with_reducible refine Kd.C_drewN ?_ _) | (with_reducible refine Kd.C_drew ?_))); (case side2 => exact (Kd.S_reads' HO567.out).2.1); (case side3 => repeat (first | exact (Kd.V_reads' HO_9.out).2.2 | (with_reducible refine Kd.C_alloc ?_ _) | (with_reducible refine Kd.C_drewN ?_ _) | (with_reducible refine Kd.C_drew ?_))); (case side4 => exact (Kd.V_reads' HO_9.out).2.1); rintro e w' ⟨rfl, ⟨nd, rfl⟩⟩; obtain ⟨Ao45, co45, eo45⟩ := Kd.S_slice HO571.out; subst eo45; obtain ⟨Ao46, co46, eo46⟩ := Kd.S_slice HO_10.out; subst eo46) | (go_at_call 37; (with_reducible refine (torusref07_Same.calls k3 _ _ t568 _ _ t551 true _ ?side1 ?side2 ?side3 ?side4 A33.out).mono ?_); (case side1 => repeat (first | exact (Kd.S_reads' HO571.out).2.2 | (with_reducible refine Kd.C_alloc ?_ _) | (with_reducible refine Kd.C_drewN ?_ _) | (with_reducible refine Kd.C_drew ?_))); (case side2 => exact (Kd.S_reads' HO571.out).2.1); (case side3 => repeat (first | exact (Kd.S_reads' HO_10.out).2.2 | (with_reducible refine Kd.C_alloc ?_ _) | (with_reducible refine Kd.C_drewN ?_ _) | (with_reducible refine Kd.C_drew ?_))); (case side4 => exact (Kd.S_reads' HO_10.out).2.1); rintro e w' ⟨rfl, ⟨nd, rfl⟩⟩; obtain ⟨Ao47, co47, eo47⟩ := Kd.R_slice HO574.out; subst eo47; obtain ⟨Ao48, co48, eo48⟩ := Kd.R_slice HO_12.out; subst eo48) | (go_at_call 17; (with_reducible refine (torusref07_Cmp.calls k3 _ _ t572 _ _ t555 t579 _ ?side1 ?side2 ?side3 ?side4 A35.out).mono ?_); (case side1 => repeat (first | exact (Kd.R_reads' HO574.out).2.2 | (with_reducible refine Kd.C_alloc ?_ _) | (with_reducible refine Kd.C_drewN ?_ _) | (with_reducible refine Kd.C_drew ?_))); (case side2 => exact (Kd.R_reads' HO574.out).2.1); (case side3 => repeat (first | exact (Kd.R_reads' HO_12.out).2.2 | (with_reducible refine Kd.C_alloc ?_ _) | (with_reducible refine Kd.C_drewN ?_ _) | (with_reducible refine Kd.C_drew ?_))); (case side4 => exact (Kd.R_reads' HO_12.out).2.1); rintro e w' ⟨rfl, ⟨nd, rfl⟩⟩))
                 have RP := rowlist_of_S HO563.out
                 have RQ := rowlist_of_S HO567.out
                 have RR := rowlist_of_S HO571.out
                 have RS := introw_of_R HO574.out
                 obtain ⟨B0, hB0⟩ : ∃ n, n = wr.heap.size := ⟨_, rfl⟩
                 rw [← hB0] at RP RQ RR RS
                 have HB0 := Aside0.mk hB0
                 have RP := Aside0.mk RP
                 have RQ := Aside0.mk RQ
                 have RR := Aside0.mk RR
                 have RS := Aside0.mk RS
                 clear hB0
                 refine any_world ?_
                 intro w41 hw41
                 have hb41 : Aside0 (Below w40.heap.size w40 w41) := ⟨by rw [hw41.out]; repeat (first | exact Below.refl _ _ | apply pw_below_drewN)⟩
                 clear HO563 HO567 HO571 HO574 HO_8 HO_9 HO_10 HO_12
                 go_wp2
                 refine any_world ?_
                 intro V hV
                 have hbV : Aside0 (Below w41.heap.size w41 V) := ⟨by rw [hV.out]; exact ((Below.refl _ _).alloc (Nat.le_refl _) _).alloc (by simp) _⟩
                 have h3 : Aside0 (V.heap[w41.heap.size]? = some (.cells #[.slice Ao47 t572.length co47] 28 (0, 0))) := ⟨by rw [hV.out]; exact blk_alloc (blk_new _ _) _⟩
                 have h4 : Aside0 (V.heap[w41.heap.size + 1]? = some (.cells #[.slice Ao41 t560.length co41, .slice Ao43 t564.length co43, .slice Ao45 t568.length co45, .slice (some ⟨w41.heap.size, 0, none⟩) 1 1] 56 (0, 0))) := ⟨by rw [hV.out]; simpa using blk_new (w41.alloc (.cells #[.slice Ao47 t572.length co47] 28)) (.cells #[.slice Ao41 t560.length co41, .slice Ao43 t564.length co43, .slice Ao45 t568.length co45, .slice (some ⟨w41.heap.size, 0, none⟩) 1 1] 56)⟩
                 have hL : Aside0 (∀ i, i < 4 → ∃ row, (#[.slice Ao41 t560.length co41, .slice Ao43 t564.length co43, .slice Ao45 t568.length co45, .slice (some ⟨w41.heap.size, 0, none⟩) 1 1] : Array Value)[i]? = some row ∧ RowList B0 V row) := ⟨by
                  intro i hi
                  have hs : RowList B0 V (.slice (some ⟨w41.heap.size, 0, none⟩) 1 1) := ⟨_, 1, 1, rfl, by omega, fun _ => ⟨_, _, rfl, h3.out, fun j hj => by
                   obtain rfl : j = 0 := by omega
                   exact ⟨_, rfl, (RS.out.grow hb41.out).grow hbV.out⟩⟩⟩
                  rcases (show i = 0 ∨ i = 1 ∨ i = 2 ∨ i = 3 by omega) with rfl | rfl | rfl | rfl
                  ·exact ⟨_, rfl, (RP.out.grow hb41.out).grow hbV.out⟩
                  ·exact ⟨_, rfl, (RQ.out.grow hb41.out).grow hbV.out⟩
                  ·exact ⟨_, rfl, (RR.out.grow hb41.out).grow hbV.out⟩
                  ·exact ⟨_, rfl, hs⟩⟩
                 go_loopw [132] (fun v132 W => ∃ i : Nat, v132 = .int .i64 (i : Int) ∧ i ≤ 4 ∧ Aside0 (Wiped B0 V W)) (fun v132 _ => 4 - (intOf v132).toNat)
                 case atStart => exact ⟨0, rfl, by omega, ⟨Wiped.refl _ _⟩⟩
                 case round =>
                  obtain ⟨i, rfl, hi, HW2⟩ := hrel
                  by_cases c : i < 4
                  ·obtain ⟨row, hrow, A, n, cc, rfl, hn, hr⟩ := hL.out i c
                   have cL := (wiped_cell HW2.out h4.out (by decide) i).trans hrow
                   have d1 : decide ((i : Int) < 4) = true := decide_eq_true (by omega)
                   have HR := Aside0.mk hr
                   clear hr hrow
                   go_wp2
                   go_loopw [138] (fun v138 W => ∃ k : Nat, v138 = .int .i64 (k : Int) ∧ k ≤ n ∧ Aside0 (Wiped B0 V W)) (fun v138 _ => n - (intOf v138).toNat)
                   case atStart => exact ⟨0, rfl, by omega, HW2⟩
                   case round =>
                    obtain ⟨k, rfl, hk, HW3⟩ := hrel
                    by_cases c' : k < n
                    ·obtain ⟨b, cur, rfl, hb, hrows⟩ := HR.out (by omega)
                     obtain ⟨row, hrow, A', m, cc', rfl, hm, hr'⟩ := hrows k c'
                     have cL' := (wiped_cell HW3.out hb (by decide) k).trans hrow
                     have d2 : decide ((k : Int) < (n : Int)) = true := decide_eq_true (by omega)
                     have HB' := Aside0.mk hb
                     have HR' := Aside0.mk hr'
                     clear hr' hrow hrows hb
                     go_wp2
                     go_loopw [144] (fun v144 W => ∃ j : Nat, v144 = .int .i64 (j : Int) ∧ j ≤ m ∧ Aside0 (Wiped B0 V W)) (fun v144 _ => m - (intOf v144).toNat)
                     case atStart => exact ⟨0, rfl, by omega, HW3⟩
                     case round =>
                      obtain ⟨j, rfl, hj, HW4⟩ := hrel
                      by_cases c'' : j < m
                      ·obtain ⟨b', cur', rfl, hb0, hb', hcur⟩ := HR'.out (by omega)
                       obtain ⟨u, cU, fU⟩ := wiped_int HW4.out hb' j (by omega)
                       have d3 : decide ((j : Int) < (m : Int)) = true := decide_eq_true (by omega)
                       have HB0' := Aside0.mk hb0
                       have HB'' := Aside0.mk hb'
                       clear hb0 hb'
                       go_wp2
                       go_roundw
                       case rel => exact ⟨j + 1, by go_num, by omega, ⟨HW4.out.put HB''.out HB0'.out j _⟩⟩
                       case measure => simp [intOf]; omega
                      ·have d3 : decide ((j : Int) < (m : Int)) = false := decide_eq_false (by omega)
                       go_wp2
                       go_roundw
                       case rel => exact ⟨k + 1, by go_num, by omega, HW4⟩
                       case measure => simp [intOf]; omega
                    ·have d2 : decide ((k : Int) < (n : Int)) = false := decide_eq_false (by omega)
                     go_wp2
                     go_roundw
                     case rel => exact ⟨i + 1, by go_num, by omega, HW3⟩
                     case measure => simp [intOf]; omega
                  ·have d1 : decide ((i : Int) < 4) = false := decide_eq_false (by omega)
                   have hE := (below_step (below_step HBr.out hb41.out) hbV.out).trans (HB0.out ▸ HW2.out.below)
                   have HE := Aside0.mk hE
                   clear hE
                   go_wp2
                   go_roundg k3
                   case measure => have := HJ3.out; have := HJ9.out; have := HK3.out; omega
                   case rel => exact ⟨(wrap64 (x14_3 + 1)), sd_, H', ⟨by have := HJ3.out; have := HJ9.out; have := HK3.out; omega⟩, ⟨Kd.S_below X8.out HE.out⟩, ⟨Kd.V_below X9.out HE.out⟩, ⟨Kd.S_below X10.out HE.out⟩, ⟨Kd.R_below X12.out HE.out⟩, ⟨below_step XB.out HE.out⟩⟩
                ·rw [if_neg c36] at H
                 exact absurd H (by simp)
               ·replace c34 := Bool.eq_false_iff.mpr c34
                subst c34
                rw [if_neg (show ¬ (false = true) by decide)] at H
                exact absurd H (by simp)
              ·replace c32 := Bool.eq_false_iff.mpr c32
               subst c32
               rw [if_neg (show ¬ (false = true) by decide)] at H
               exact absurd H (by simp)
             ·replace c30 := Bool.eq_false_iff.mpr c30
              subst c30
              rw [if_neg (show ¬ (false = true) by decide)] at H
              exact absurd H (by simp)
            ·rw [if_neg c28] at H
             exact absurd H (by simp)
           ·rw [if_neg c27] at H
            exact absurd H (by simp)
          ·rw [if_neg c26] at H
           exact absurd H (by simp)
         ·rw [if_neg c25] at H
          exact absurd H (by simp)
        ·rw [if_neg c20] at H
         have c20b0 : decide (x14_3 < 2) = false := decide_eq_false c20
         clear c20
         replace H := Option.bind_eq_some_iff.mp H
         obtain ⟨t559, A490, H⟩ := H
         have A49 := Aside0.mk A490
         clear A490
         first
         |with_reducible exact absurd ((Option.some.inj H).trans hrt.out) Bool.false_ne_true
         |skip
          obtain rfl := Option.some.inj H
          go_wp2_with (first | ((with_reducible refine gate_callee (f := 12) rfl ?_); refine goesL_ (some 153) rfl rfl Tryd.func12 (by kernel_rfl) rfl #[] rfl ag_ ?_; (with_reducible refine (toruslaw07_awake.calls k3  t559 _ ?side1 A49.out).mono ?_); (case side1 => first | exact hg | exact ⟨Glob.below hg.out bw_⟩); rintro e w50 ⟨rfl, hb⟩; refine ⟨_, rfl, ?_⟩; have n0_ := Aside0.mk (Kd.S_below (rSa_ HO_8.out) hb); have n1_ := Aside0.mk (Kd.V_below (rVa_ HO_9.out) hb); have n2_ := Aside0.mk (Kd.S_below (rSa_ HO_10.out) hb); have n3_ := Aside0.mk (Kd.R_below (rRa_ HO_12.out) hb); have n4_ := Aside0.mk (below_step bw_ hb); clear HO_8; clear HO_9; clear HO_10; clear HO_12; clear HB; have HO_8 := n0_; have HO_9 := n1_; have HO_10 := n2_; have HO_12 := n3_; have HB := n4_; clear n0_ n1_ n2_ n3_ n4_; (try clear hb); (try clear hb2); (try clear hk); (try clear hi)))
          go_ret
          exact ⟨by first | rfl | (simp [errW_none, errW_some] <;> rfl) | (simp [*, errW_none, errW_some] <;> rfl), bw_⟩

/-- THE ONE PURE STATEMENT of toruslaw07_SimplexFacesMatch: yours. -/
def toruslaw07_SimplexFacesMatch.Pure : Prop := ∀ (l0 : List Int) (l1 : List Int) (a2 : Int), l0.length ≤ maxLen → l0.length * 8 ≤ 140737488351232 → (∀ x ∈ l0, (Lit.int .i64 x).wf = true) → l1.length ≤ maxLen → l1.length * 8 ≤ 140737488351232 → (∀ x ∈ l1, (Lit.int .i64 x).wf = true) → (Lit.int .i64 a2).wf = true → ∃ k, toruslaw07_SimplexFacesMatch.f k l0 l1 a2 = some true
theorem toruslaw07_SimplexFacesMatch.walk (P : toruslaw07_SimplexFacesMatch.Pure) (a0 : Option Addr) (len0 cap0 : Nat) (z0 : List Int) (a1 : Option Addr) (len1 cap1 : Nat) (z1 : List Int) (a2 : Int) (w : World) (hg : Aside0 (Glob w)) (w0 : (a0 = none ∧ len0 = 0 ∧ cap0 = 0 ∧ z0 = []) ∨ ∃ x, a0 = some x ∧ len0 ≤ cap0 ∧ cap0 ≤ maxLen ∧ z0.length = cap0 ∧ (∀ i, i < z0.length → w.cell? (x.add i) = some (.int .i64 (z0.getD i 0))) ∧ ∀ n ∈ z0, (Lit.int .i64 n).wf = true) (y0 : len0 * 8 ≤ 140737488351232) (w1 : (a1 = none ∧ len1 = 0 ∧ cap1 = 0 ∧ z1 = []) ∨ ∃ x, a1 = some x ∧ len1 ≤ cap1 ∧ cap1 ≤ maxLen ∧ z1.length = cap1 ∧ (∀ i, i < z1.length → w.cell? (x.add i) = some (.int .i64 (z1.getD i 0))) ∧ ∀ n ∈ z1, (Lit.int .i64 n).wf = true) (y1 : len1 * 8 ≤ 140737488351232) (w2 : (Lit.int .i64 a2).wf = true) :
  Calls Tryd.prog 9 #[.slice a0 len0 cap0, .slice a1 len1 cap1, .int .i64 a2] w fun e w' => e = .returned (.bool true) ∧ Below w.heap.size w w' := by
 obtain ⟨l0, rfl, hr0, hm0, hw0, hc0⟩ := ReadsInt.ofRowC w0
 obtain ⟨l1, rfl, hr1, hm1, hw1, hc1⟩ := ReadsInt.ofRowC w1
 obtain ⟨k, h⟩ := P l0 l1 a2 hm0 y0 hw0 hm1 y1 hw1 w2
 refine (toruslaw07_SimplexFacesMatch.calls k _ _ l0 _ _ l1 a2 true w (Kd.C_of_reads (d := (0 : Int)) (h1 := fun _ => rfl) hr0) hc0 (Kd.C_of_reads (d := (0 : Int)) (h1 := fun _ => rfl) hr1) hc1 hg ⟨rfl⟩ h).mono ?_
 rintro e w' ⟨rfl, hd⟩
 exact ⟨rfl, hd⟩

end Go.Proofs.YticckanjfdcpaaaDoor.PSimplex
namespace Go.Proofs.YticckanjfdcpaaaDoor.PSimplex
open Go.RowKit Go.Proofs.YticckanjfdcpaaaDoorW.PrintWords Go.Proofs.YticckanjfdcpaaaDoorW.PrintLast Go.Proofs.YticckanjfdcpaaaDoorW.PrintMore
set_option linter.unusedVariables false
set_option linter.unusedSimpArgs false
set_option maxRecDepth 100000
theorem awake_now : toruslaw07_awake.f 100 = some true := by decide +kernel
theorem wrap_id {a : Int} (h0 : -9223372036854775808 ≤ a) (h1 : a ≤ 9223372036854775807) : wrap64 a = a := by unfold wrap64; omega
theorem ev_bind {α β : Type} {g : Nat → Option α} {f : Nat → α → Option β} {a : α} {r : β} (h : Ev g a) : Ev (fun n => (g n).bind (f n)) r ↔ Ev (fun n => f n a) r := by
  refine ⟨fun hb => ?_, fun hf => Ev.bind h hf⟩
  obtain ⟨K, h⟩ := h
  obtain ⟨K', hb⟩ := hb
  refine ⟨max K K', fun n hn => ?_⟩
  have h2 : (g n).bind (f n) = some r := hb n (by omega)
  rw [h n (by omega)] at h2
  exact h2
theorem ev_succ {α : Type} {g : Nat → Option α} {r : α} (h : Ev (fun k => g (k + 1)) r) : Ev g r := Ev.step (fun _ => rfl) h
theorem awake_ev : Ev (fun k => toruslaw07_awake.f k) true := Ev.of toruslaw07_awake.mono (k := 100) awake_now

/-! ### The order -/
/-- The first difference of two lists. -/
def lex : List Int → List Int → Int
  | x :: xs, y :: ys => if x < y then -1 else if y < x then 1 else lex xs ys
  | _, _ => 0
/-- Lists by length, then by the first difference. -/
def cm (a b : List Int) : Int := if a.length < b.length then -1 else if b.length < a.length then 1 else lex a b
theorem lex_cons (x y : Int) (xs ys : List Int) : lex (x :: xs) (y :: ys) = if x < y then -1 else if y < x then 1 else lex xs ys := rfl
theorem lex_self : ∀ a, lex a a = 0
  | [] => rfl
  | x :: xs => by simp [lex, lex_self xs]
theorem lex_swap : ∀ a b, lex b a = -lex a b
  | [], [] => rfl
  | [], _ :: _ => rfl
  | _ :: _, [] => rfl
  | x :: xs, y :: ys => by
    have := lex_swap xs ys
    unfold lex
    split <;> split <;> (try split) <;> omega
theorem lex_range : ∀ a b, lex a b = -1 ∨ lex a b = 0 ∨ lex a b = 1
  | [], [] => by simp [lex]
  | [], _ :: _ => by simp [lex]
  | _ :: _, [] => by simp [lex]
  | x :: xs, y :: ys => by
    have := lex_range xs ys
    unfold lex
    split
    · simp
    · split
      · simp
      · exact this
theorem lex_eq : ∀ a b, a.length = b.length → lex a b = 0 → a = b
  | [], [], _, _ => rfl
  | x :: xs, y :: ys, h, e => by
    unfold lex at e
    split at e
    · simp at e
    · split at e
      · simp at e
      · rw [lex_eq xs ys (by simpa using h) e]
        congr 1
        omega
theorem lex_le : ∀ a b c, a.length = b.length → b.length = c.length → lex a b ≤ 0 → lex b c ≤ 0 → lex a c ≤ 0
  | [], [], [], _, _, _, _ => by simp [lex]
  | x :: xs, y :: ys, z :: zs, h, h', e, e' => by
    have ih := lex_le xs ys zs (by simpa using h) (by simpa using h')
    unfold lex at e e' ⊢
    split at e <;> split at e' <;> split <;> (try split) <;> (try split at e) <;> (try split at e') <;> first | omega | (exact ih e e') | skip
theorem cm_self (a : List Int) : cm a a = 0 := by simp [cm, lex_self]
theorem cm_swap (a b : List Int) : cm b a = -cm a b := by
  have := lex_swap a b
  unfold cm
  split <;> split <;> omega
theorem cm_range (a b : List Int) : cm a b = -1 ∨ cm a b = 0 ∨ cm a b = 1 := by
  have := lex_range a b
  unfold cm
  split
  · simp
  · split
    · simp
    · exact this
theorem cm_eq (a b : List Int) (h : cm a b = 0) : a = b := by
  unfold cm at h
  split at h
  · simp at h
  · split at h
    · simp at h
    · exact lex_eq a b (by omega) h
theorem cm_le (a b c : List Int) (h : cm a b ≤ 0) (h' : cm b c ≤ 0) : cm a c ≤ 0 := by
  have := lex_le a b c
  unfold cm at h h' ⊢
  split at h <;> split at h' <;> (try split at h) <;> (try split at h') <;> split <;> (try split) <;> first | omega | (exact this (by omega) (by omega) h h')

theorem drop_cons (a : List Int) (i : Nat) (h : i < a.length) : a.drop i = rd a (i : Int) :: a.drop (i + 1) := by
  rw [List.drop_eq_getElem_cons h]
  simp [rd, h]
theorem rcmp_l (a b : List Int) (he : a.length = b.length) (hl : a.length ≤ 9223372036854775806) : ∀ (m i k : Nat), m = a.length - i → m < k → i ≤ a.length →
    torusref07_Cmp.l0 k a b (i : Int) = some (lex (a.drop i) (b.drop i))
  | 0, i, k + 1, hm, hk, hi => by
    have e : ¬ ((i : Int) < (a.length : Int)) := by omega
    unfold torusref07_Cmp.l0
    rw [if_neg e, List.drop_of_length_le (by omega), List.drop_of_length_le (by omega)]
    rfl
  | m + 1, i, k + 1, hm, hk, hi => by
    have ih := rcmp_l a b he hl m (i + 1) k (by omega) (by omega) (by omega)
    have w : wrap64 ((i : Int) + 1) = ((i + 1 : Nat) : Int) := by rw [wrap_id (by omega) (by omega)]; omega
    unfold torusref07_Cmp.l0
    rw [if_pos (by omega), if_pos (by omega), if_pos (by omega), drop_cons a i (by omega), drop_cons b i (by omega), w, ih, lex_cons]
    by_cases c : rd a (i : Int) < rd b (i : Int)
    · rw [if_pos c, if_pos c]
    · rw [if_neg c, if_neg c]
      by_cases c' : rd b (i : Int) < rd a (i : Int)
      · rw [if_pos c', if_pos c']
      · rw [if_neg c', if_neg c']
theorem rcmp_ev (a b : List Int) (hl : a.length ≤ 9223372036854775806) : Ev (fun k => torusref07_Cmp.f k a b) (cm a b) := by
  refine Ev.of (torusref07_Cmp.mono a b) (k := a.length + 1) ?_
  unfold torusref07_Cmp.f cm
  by_cases c : (a.length : Int) = (b.length : Int)
  · rw [if_pos c, if_neg (by omega), if_neg (by omega)]
    simpa using rcmp_l a b (by omega) hl a.length 0 (a.length + 1) (by omega) (by omega) (by omega)
  · rw [if_neg c]
    by_cases c' : (a.length : Int) < (b.length : Int)
    · rw [if_pos c', if_pos (by omega)]
    · rw [if_neg c', if_neg (by omega), if_pos (by omega)]
theorem ccmp (a b : Int) : cmp_Compare_int.f a b = some (if a < b then -1 else if b < a then 1 else 0) := by
  have h : ∀ x : Int, cmp_isNaN_int.f x = some false := fun x => by simp [cmp_isNaN_int.f]
  unfold cmp_Compare_int.f
  rw [h, h]
  simp only [Option.bind_some]
  rw [if_neg (by simp), if_neg (by simp)]
  split
  · rfl
  · split <;> rfl
theorem scmp_l (a b : List Int) (he : a.length = b.length) (hl : a.length ≤ 9223372036854775806) : ∀ (m i k : Nat), m = a.length - i → m < k → i ≤ a.length →
    api_Simplex_int_45.l0 k a b a (a.length : Int) (i : Int) = some (lex (a.drop i) (b.drop i))
  | 0, i, k + 1, hm, hk, hi => by
    unfold api_Simplex_int_45.l0
    rw [if_neg (by omega), if_neg (by omega), List.drop_of_length_le (by omega), List.drop_of_length_le (by omega)]
    rfl
  | m + 1, i, k + 1, hm, hk, hi => by
    have ih := scmp_l a b he hl m (i + 1) k (by omega) (by omega) (by omega)
    have w : wrap64 ((i : Int) + 1) = ((i + 1 : Nat) : Int) := by rw [wrap_id (by omega) (by omega)]; omega
    unfold api_Simplex_int_45.l0
    rw [if_pos (by omega), if_pos (by omega), if_pos (by omega), if_neg (by omega), if_pos (by omega), ccmp, drop_cons a i (by omega), drop_cons b i (by omega), w, ih, lex_cons]
    simp only [Option.bind_some]
    by_cases c : rd a (i : Int) < rd b (i : Int)
    · rw [if_pos c, if_pos c]; rfl
    · rw [if_neg c, if_neg c]
      by_cases c' : rd b (i : Int) < rd a (i : Int)
      · rw [if_pos c', if_pos c']; rfl
      · rw [if_neg c', if_neg c', if_pos rfl]
theorem scmp_ev (a b : List Int) (hl : a.length ≤ 9223372036854775806) : Ev (fun k => simplex_Cmp.f k a b) (cm a b) := by
  refine Ev.of (simplex_Cmp.mono a b) (k := a.length + 1) ?_
  unfold simplex_Cmp.f cm
  rw [ccmp]
  simp only [Option.bind_some]
  by_cases c : (a.length : Int) < (b.length : Int)
  · rw [if_pos c, if_neg (by decide), if_pos (by omega)]
  · rw [if_neg c]
    by_cases c' : (b.length : Int) < (a.length : Int)
    · rw [if_pos c', if_neg (by decide), if_neg (by omega), if_pos (by omega)]
    · rw [if_neg c', if_pos rfl, if_neg (by omega), if_neg (by omega)]
      unfold api_Simplex_int_45.f
      have := scmp_l a b (by omega) hl a.length 0 (a.length + 1) (by omega) (by omega) (by omega)
      simp only [List.drop_zero] at this
      rw [show ((0 : Nat) : Int) = 0 from rfl] at this
      rw [this]
      rfl

theorem law_long {α : Type} {g : Nat → Option α} {f : Nat → α → Option Bool} {a : α} (h : Ev g a) (hf : Ev (fun n => f n a) true) : Ev (fun n => (g n).bind (f n)) true := (ev_bind h).mpr hf
end Go.Proofs.YticckanjfdcpaaaDoor.PSimplex
namespace Go.Proofs.YticckanjfdcpaaaDoor.PSimplex
open Go.RowKit Go.Proofs.YticckanjfdcpaaaDoorW.PrintWords Go.Proofs.YticckanjfdcpaaaDoorW.PrintLast Go.Proofs.YticckanjfdcpaaaDoorW.PrintMore
set_option linter.unusedVariables false
set_option linter.unusedSimpArgs false

def bad (v : Int) : Bool := decide (v < 0) || decide (v ≥ 64)
def asc : List Int → Bool
  | x :: y :: t => decide (x < y) && asc (y :: t)
  | _ => true
def ck (l : List Int) : Int := if l.length = 0 then 1 else if l.length > 5 then 3 else if l.any bad = true then 1 else if asc l = true then 0 else 6
theorem wrap_nat (i : Nat) (h : i ≤ 1000000) : wrap64 ((i : Int) + 1) = ((i + 1 : Nat) : Int) := by rw [wrap_id (by omega) (by omega)]; omega
theorem bad_if (v : Int) : (decide (v < 0) || decide (v ≥ 64)) = bad v := rfl
theorem vert_l (l : List Int) (hl : l.length ≤ 1000) : ∀ (m i : Nat), m = l.length - i → i ≤ l.length →
    Ev (fun k => (vert_ix.l0 k l (l.length : Int) (i : Int)).bind fun t => if t ≥ 0 then some (1 : Int) else some 0) (if (l.drop i).any bad = true then 1 else 0)
  | 0, i, hm, hi => by
    rw [List.drop_of_length_le (by omega)]
    refine ev_succ ?_
    simp only [vert_ix.l0, if_neg (show ¬ ((i : Int) < (l.length : Int)) by omega), Option.bind_some]
    exact Ev.now _
  | m + 1, i, hm, hi => by
    have ih := vert_l l hl m (i + 1) (by omega) (by omega)
    rw [drop_cons l i (by omega)]
    refine ev_succ ?_
    simp only [vert_ix.l0, if_pos (show ((i : Int) < (l.length : Int)) by omega), if_pos (show (0 : Int) ≤ (i : Int) by omega), bad_if, wrap_nat i (by omega)]
    cases hb : bad (rd l (i : Int)) with
    | true =>
      simp only [if_true, Option.bind_some, if_pos (show (i : Int) ≥ 0 by omega), List.any_cons, hb, Bool.true_or]
      exact Ev.now _
    | false =>
      simp only [Bool.false_eq_true, if_false, List.any_cons, hb, Bool.false_or]
      exact ih
theorem asc_cons (l : List Int) (i : Nat) (h : i + 1 < l.length) : asc (l.drop i) = (decide (rd l (i : Int) < rd l ((i + 1 : Nat) : Int)) && asc (l.drop (i + 1))) := by
  rw [drop_cons l i (by omega), drop_cons l (i + 1) h]
  rfl
theorem asc_end (l : List Int) (i : Nat) (h : l.length ≤ i + 1) : asc (l.drop i) = true := by
  by_cases h2 : i < l.length
  · rw [drop_cons l i h2, List.drop_of_length_le (by omega)]
    rfl
  · rw [List.drop_of_length_le (by omega)]
    rfl
theorem rd_drop1 (l : List Int) (i : Nat) : rd (l.drop 1) (i : Int) = rd l ((i + 1 : Nat) : Int) := by
  simp [rd, List.getElem?_drop, Nat.add_comm]
theorem scheck_l (l : List Int) (hl : l.length ≤ 1000) (h1 : 1 ≤ l.length) : ∀ (m i : Nat), m = l.length - 1 - i → i ≤ l.length - 1 →
    Ev (fun k => simplex_Check.l0 k l (l.drop 1) ((l.drop 1).length : Int) (i : Int)) (if asc (l.drop i) = true then 0 else 6)
  | 0, i, hm, hi => by
    have hd : (l.drop 1).length = l.length - 1 := List.length_drop
    rw [asc_end l i (by omega)]
    refine ev_succ ?_
    simp only [simplex_Check.l0, if_neg (show ¬ ((i : Int) < ((l.drop 1).length : Int)) by omega)]
    exact Ev.now _
  | m + 1, i, hm, hi => by
    have hd : (l.drop 1).length = l.length - 1 := List.length_drop
    have ih := scheck_l l hl h1 m (i + 1) (by omega) (by omega)
    rw [asc_cons l i (by omega)]
    refine ev_succ ?_
    simp only [simplex_Check.l0, if_pos (show ((i : Int) < ((l.drop 1).length : Int)) by omega), if_pos (show (0 : Int) ≤ (i : Int) by omega), if_pos (show ((i : Int) < (l.length : Int)) by omega), wrap_nat i (by omega), rd_drop1]
    by_cases c : rd l ((i + 1 : Nat) : Int) ≤ rd l (i : Int)
    · simp only [if_pos c, decide_eq_false (show ¬ (rd l (i : Int) < rd l ((i + 1 : Nat) : Int)) by omega), Bool.false_and, Bool.false_eq_true, if_false]
      exact Ev.now _
    · simp only [if_neg c, decide_eq_true (show (rd l (i : Int) < rd l ((i + 1 : Nat) : Int)) by omega), Bool.true_and]
      exact ih
theorem svert_ev (l : List Int) : Ev (fun k => simplex_vertices.f k l) (if l.length = 0 then 1 else if l.length > 5 then 3 else if l.any bad = true then 1 else 0) := by
  by_cases c : l.length = 0
  · simp only [simplex_vertices.f, if_pos c, if_pos (show (l.length : Int) = 0 by omega)]
    exact Ev.now _
  · by_cases c' : l.length > 5
    · simp only [simplex_vertices.f, if_neg c, if_pos c', if_neg (show ¬ ((l.length : Int) = 0) by omega), if_pos (show (l.length : Int) > 5 by omega)]
      exact Ev.now _
    · simp only [simplex_vertices.f, if_neg c, if_neg c', if_neg (show ¬ ((l.length : Int) = 0) by omega), if_neg (show ¬ ((l.length : Int) > 5) by omega)]
      simpa using vert_l l (by omega) l.length 0 (by omega) (by omega)
theorem scheck_ev (l : List Int) : Ev (fun k => simplex_Check.f k l) (ck l) := by
  unfold simplex_Check.f ck
  refine (ev_bind (svert_ev l)).mpr ?_
  by_cases c : l.length = 0
  · simp only [if_pos c]
    exact Ev.now _
  · by_cases c' : l.length > 5
    · simp only [if_neg c, if_pos c']
      exact Ev.now _
    · simp only [if_neg c, if_neg c']
      cases hb : l.any bad with
      | true => exact Ev.now _
      | false =>
        simp only [Bool.false_eq_true, if_false, if_true, if_pos (show 1 ≤ (l.length : Int) by omega)]
        simpa using scheck_l l (by omega) (by omega) (l.length - 1) 0 (by omega) (by omega)
theorem rcheck_l1 (l : List Int) (hl : l.length ≤ 1000) : ∀ (m i : Nat), m = l.length - 1 - i → Ev (fun k => torusref07_Check.l1 k l ((i + 1 : Nat) : Int)) (if asc (l.drop i) = true then 0 else 6)
  | 0, i, hm => by
    rw [asc_end l i (by omega)]
    refine ev_succ ?_
    simp only [torusref07_Check.l1, if_neg (show ¬ (((i + 1 : Nat) : Int) < (l.length : Int)) by omega)]
    exact Ev.now _
  | m + 1, i, hm => by
    have ih := rcheck_l1 l hl m (i + 1) (by omega)
    have hw : wrap64 (((i + 1 : Nat) : Int) - 1) = (i : Int) := by rw [wrap_id (by omega) (by omega)]; omega
    rw [asc_cons l i (by omega)]
    refine ev_succ ?_
    simp only [torusref07_Check.l1, if_pos (show (((i + 1 : Nat) : Int) < (l.length : Int)) by omega), if_pos (show (0 : Int) ≤ ((i + 1 : Nat) : Int) by omega), hw, if_pos (show (0 : Int) ≤ (i : Int) by omega), if_pos (show ((i : Int) < (l.length : Int)) by omega), wrap_nat (i + 1) (by omega)]
    by_cases c : rd l ((i + 1 : Nat) : Int) ≤ rd l (i : Int)
    · simp only [if_pos c, decide_eq_false (show ¬ (rd l (i : Int) < rd l ((i + 1 : Nat) : Int)) by omega), Bool.false_and, Bool.false_eq_true, if_false]
      exact Ev.now _
    · simp only [if_neg c, decide_eq_true (show (rd l (i : Int) < rd l ((i + 1 : Nat) : Int)) by omega), Bool.true_and]
      exact ih
theorem rcheck_l0 (l : List Int) (hl : l.length ≤ 1000) : ∀ (m i : Nat), m = l.length - i → i ≤ l.length → Ev (fun k => torusref07_Check.l0 k l (i : Int)) (if (l.drop i).any bad = true then 1 else if asc l = true then 0 else 6)
  | 0, i, hm, hi => by
    rw [List.drop_of_length_le (by omega)]
    refine ev_succ ?_
    simp only [torusref07_Check.l0, if_neg (show ¬ ((i : Int) < (l.length : Int)) by omega), List.any_nil, Bool.false_eq_true, if_false]
    simpa using rcheck_l1 l hl (l.length - 1) 0 (by omega)
  | m + 1, i, hm, hi => by
    have ih := rcheck_l0 l hl m (i + 1) (by omega) (by omega)
    rw [drop_cons l i (by omega)]
    refine ev_succ ?_
    simp only [torusref07_Check.l0, if_pos (show ((i : Int) < (l.length : Int)) by omega), if_pos (show (0 : Int) ≤ (i : Int) by omega), wrap_nat i (by omega), List.any_cons]
    by_cases c : rd l (i : Int) < 0
    · have hb : bad (rd l (i : Int)) = true := by simp [bad, c]
      simp only [if_pos c, hb, Bool.true_or, if_true]
      exact Ev.now _
    · by_cases c' : rd l (i : Int) ≥ 64
      · have hb : bad (rd l (i : Int)) = true := by simp [bad, c']
        simp only [if_neg c, if_pos c', hb, Bool.true_or, if_true]
        exact Ev.now _
      · have hb : bad (rd l (i : Int)) = false := by simp [bad]; omega
        simp only [if_neg c, if_neg c', hb, Bool.false_or]
        exact ih
theorem rcheck_ev (l : List Int) : Ev (fun k => torusref07_Check.f k l) (ck l) := by
  unfold torusref07_Check.f ck
  by_cases c : l.length = 0
  · simp only [if_pos c, if_pos (show (l.length : Int) = 0 by omega)]
    exact Ev.now _
  · by_cases c' : l.length > 5
    · simp only [if_neg c, if_pos c', if_neg (show ¬ ((l.length : Int) = 0) by omega), if_pos (show (l.length : Int) > 5 by omega)]
      exact Ev.now _
    · simp only [if_neg c, if_neg c', if_neg (show ¬ ((l.length : Int) = 0) by omega), if_neg (show ¬ ((l.length : Int) > 5) by omega)]
      simpa using rcheck_l0 l (by omega) l.length 0 (by omega) (by omega)
theorem ck_ok {l : List Int} (h : ck l = 0) : 1 ≤ l.length ∧ l.length ≤ 5 ∧ l.any bad = false ∧ asc l = true := by
  unfold ck at h
  split at h
  · simp at h
  · split at h
    · simp at h
    · split at h
      · simp at h
      · rename_i c1 c2 c3
        split at h
        · rename_i c4
          exact ⟨by omega, by omega, by simpa using c3, c4⟩
        · simp at h
theorem ck_of {l : List Int} (h1 : 1 ≤ l.length) (h2 : l.length ≤ 5) (h3 : l.any bad = false) (h4 : asc l = true) : ck l = 0 := by
  unfold ck
  rw [if_neg (by omega), if_neg (by omega), h3, h4]
  rfl
end Go.Proofs.YticckanjfdcpaaaDoor.PSimplex
namespace Go.Proofs.YticckanjfdcpaaaDoor.PSimplex
open Go.RowKit Go.Proofs.YticckanjfdcpaaaDoorW.PrintWords Go.Proofs.YticckanjfdcpaaaDoorW.PrintLast Go.Proofs.YticckanjfdcpaaaDoorW.PrintMore
attribute [local go_sem] max2_int min2_int max_two min_two max_three min_three max_four min_four   -- for this text's walks alone
set_option linter.unusedVariables false
set_option linter.unusedSimpArgs false

/-! ### torusref07_Sort: function 19 -/
def torusref07_Sort.l0 : Nat → List Int → Int → Option (List Int × Int × Int)
 |0, _, _ => none
 |k + 1, x0, x5 => if x5 < (x0.length : Int) then (if 0 ≤ x5 then (if (rd x0 x5) < 0 then (some (([] : List Int), 0, 1)) else (if (rd x0 x5) ≥ 64 then (some (([] : List Int), 0, 1)) else (torusref07_Sort.l0 k x0 (wrap64 (x5 + 1))))) else (none)) else ((torusref07_Sorted.f k x0).bind fun bt309 => ((torusref07_Check.f k bt309.1).bind fun t313 => (if t313 = 0 then (some (bt309.1, wrap64 (1 - (wrap64 (2 * bt309.2))), 0)) else (some (([] : List Int), 0, 5)))))
def torusref07_Sort.f (k : Nat) (l0 : List Int) : Option (List Int × Int × Int) := if (l0.length : Int) = 0 then (some (([] : List Int), 0, 1)) else (if (l0.length : Int) > 5 then (some (([] : List Int), 0, 3)) else (torusref07_Sort.l0 k l0 0))
theorem torusref07_Sort.mono_l : ∀ k, (∀ y0 y1, LeO (torusref07_Sort.l0 k y0 y1) (torusref07_Sort.l0 (k + 1) y0 y1))
 |0 => fun _ _ r h => by simp [torusref07_Sort.l0] at h
 |k + 1 => by
  have ih0 := torusref07_Sort.mono_l k
  ·intro y0 y1
   unfold torusref07_Sort.l0
   repeat' first
   |(with_reducible exact ih0 _ _)
   |(with_reducible exact torusref07_Check.mono _ _)
   |(with_reducible exact torusref07_Sorted.mono _ _)
   |(with_reducible exact LeO.refl _)
   |(with_reducible exact LeO.none _)
   |(with_reducible refine LeO.ite ?_ ?_)
   |(with_reducible refine LeO.bind ?_ (fun _ => ?_))
theorem torusref07_Sort.mono : ∀ a0 k, LeO (torusref07_Sort.f k a0) (torusref07_Sort.f (k + 1) a0) := by
 intro a0 k
 have ih0 := torusref07_Sort.mono_l k
 unfold torusref07_Sort.f
 repeat' first
   |(with_reducible exact ih0 _ _)
   |(with_reducible exact torusref07_Check.mono _ _)
   |(with_reducible exact torusref07_Sorted.mono _ _)
   |(with_reducible exact LeO.refl _)
   |(with_reducible exact LeO.none _)
   |(with_reducible refine LeO.ite ?_ ?_)
   |(with_reducible refine LeO.bind ?_ (fun _ => ?_))
set_option maxHeartbeats 8000000 in
set_option maxRecDepth 100000 in
theorem torusref07_Sort.calls (k : Nat) (A0 : Option Addr) (c0 : Nat) (l0 : List Int) (r1 : List Int) (r2 : Int) (r3 : Int) (w : World) (hr0 : Kd.C (Kd.int .i64) w A0 l0.length l0) (hc0 : l0.length ≤ c0) (h : torusref07_Sort.f k l0 = some (r1, r2, r3)) :
  Calls Tryd.prog 19 #[.slice A0 l0.length c0] w fun e w' => ∃ v0_ : Value, e = .returned (.tuple #[v0_, .int .i64 r2, .int .i64 r3]) ∧ Kd.R (Kd.int .i64) 3 w' w.heap.size (fun _ => True) v0_ r1 ∧ Below w.heap.size w w' := by
 have HR0 := Aside0.mk hr0
 have HC0 := Aside0.mk hc0
 clear hr0 hc0
 have HB := Aside0.mk (Below.refl w.heap.size w)
 have H : (if (l0.length : Int) = 0 then (some (([] : List Int), 0, 1)) else (if (l0.length : Int) > 5 then (some (([] : List Int), 0, 3)) else (torusref07_Sort.l0 k l0 0))) = some (r1, r2, r3) := h
 clear h
 by_cases c2 : (l0.length : Int) = 0
 ·rw [if_pos c2] at H
  have c2b0 : ((l0.length : Int) == 0) = true := beq_iff_eq.mpr c2
  have c2b1 : ((l0.length : Int) != 0) = false := bne_eq_false_iff_eq.mpr c2
  clear c2
  simp only [Option.some.injEq, Prod.mk.injEq] at H
  obtain ⟨rfl, rfl, rfl⟩ := H
  go_enter Tryd.func19, Tryd.ntmps19
  go_wp2
  go_ret3
  exact ⟨_, by first | rfl | (simp [errW_none, errW_some] <;> rfl) | (simp [*, errW_none, errW_some] <;> rfl), by first | exact Kd.R_nil _ _ _ _ _ | exact Kd.N_nil _ _ _ _ _ | exact Kd.V_nil _ _ _ _ _ | exact Kd.Q_nil _ _ _ _ _ | exact Kd.S_nil _ _ _ _ _, bw_⟩
 ·rw [if_neg c2] at H
  have c2b0 : ((l0.length : Int) == 0) = false := beq_eq_false_iff_ne.mpr c2
  have c2b1 : ((l0.length : Int) != 0) = true := bne_iff_ne.mpr c2
  have c2b2 : ¬ (l0 = []) := fun h_ => c2 (by rw [h_]; rfl)
  by_cases c3 : (l0.length : Int) > 5
  ·rw [if_pos c3] at H
   have c3b0 : decide (5 < (l0.length : Int)) = true := decide_eq_true c3
   have c3b1 : decide (5 < l0.length) = true := decide_eq_true (by omega)
   clear c3
   simp only [Option.some.injEq, Prod.mk.injEq] at H
   obtain ⟨rfl, rfl, rfl⟩ := H
   go_enter Tryd.func19, Tryd.ntmps19
   go_wp2
   go_ret3
   exact ⟨_, by first | rfl | (simp [errW_none, errW_some] <;> rfl) | (simp [*, errW_none, errW_some] <;> rfl), by first | exact Kd.R_nil _ _ _ _ _ | exact Kd.N_nil _ _ _ _ _ | exact Kd.V_nil _ _ _ _ _ | exact Kd.Q_nil _ _ _ _ _ | exact Kd.S_nil _ _ _ _ _, bw_⟩
  ·rw [if_neg c3] at H
   have c3b0 : decide (5 < (l0.length : Int)) = false := decide_eq_false c3
   have c3b1 : decide (5 < l0.length) = false := decide_eq_false (by omega)
   clear c3
   have H' := Aside0.mk H
   clear H
   go_enter Tryd.func19, Tryd.ntmps19
   go_wp2
   go_loopg [5] k (fun kq v5 w' => ∃ (x5_1 : Int), v5 = .int .i64 x5_1 ∧ Aside0 (torusref07_Sort.l0 kq l0 x5_1 = some (r1, r2, r3)) ∧ Aside0 (kq ≤ k) ∧ Aside0 (Below w.heap.size w w'))
   case atStart => exact ⟨(0), sd_, H', ⟨Nat.le_refl _⟩, ⟨bw_⟩⟩
   case round =>
    clear H'
    try clear c1
    try clear c2
    try clear c2b0
    try clear c2b1
    try clear c2b2
    try clear p2
    try clear c3
    try clear c3b0
    try clear c3b1
    obtain ⟨x5_1, rfl, HA, HK1, HB⟩ := hrel
    cases gk with
    |zero => exact absurd HA.out (by simp [torusref07_Sort.l0])
    |succ k1 =>
     have H := HA.out
     clear HA
     simp only [torusref07_Sort.l0] at H
     by_cases c4 : x5_1 < (l0.length : Int)
     ·rw [if_pos c4] at H
      have c4b0 : decide (x5_1 < (l0.length : Int)) = true := decide_eq_true c4
      clear c4
      by_cases c5 : 0 ≤ x5_1
      ·rw [if_pos c5] at H
       have c5b0 : decide (0 ≤ x5_1) = true := decide_eq_true c5
       clear c5
       by_cases c6 : (rd l0 x5_1) < 0
       ·rw [if_pos c6] at H
        have c6b0 : decide ((rd l0 x5_1) < 0) = true := decide_eq_true c6
        clear c6
        simp only [Option.some.injEq, Prod.mk.injEq] at H
        obtain ⟨rfl, rfl, rfl⟩ := H
        have p307 : 0 ≤ (x5_1 : Int) := of_decide_eq_true as_
        have q307 : x5_1 < (l0.length : Int) := of_decide_eq_true as_
        obtain ⟨ad307, e307, hx307_0⟩ := Kd.at_int HR0.out x5_1 p307 q307
        cases e307
        replace hx307_0 := (HB.out.cell (World.block_lt_of_cell? w _ hx307_0)).trans hx307_0
        replace p307 := eq_true p307
        replace q307 := eq_true q307
        go_wp2
        go_ret3
        exact ⟨_, by first | rfl | (simp [errW_none, errW_some] <;> rfl) | (simp [*, errW_none, errW_some] <;> rfl), by first | exact Kd.R_nil _ _ _ _ _ | exact Kd.N_nil _ _ _ _ _ | exact Kd.V_nil _ _ _ _ _ | exact Kd.Q_nil _ _ _ _ _ | exact Kd.S_nil _ _ _ _ _, bw_⟩
       ·rw [if_neg c6] at H
        have c6b0 : decide ((rd l0 x5_1) < 0) = false := decide_eq_false c6
        clear c6
        by_cases c7 : (rd l0 x5_1) ≥ 64
        ·rw [if_pos c7] at H
         have c7b0 : decide (64 ≤ (rd l0 x5_1)) = true := decide_eq_true c7
         clear c7
         simp only [Option.some.injEq, Prod.mk.injEq] at H
         obtain ⟨rfl, rfl, rfl⟩ := H
         have p307 : 0 ≤ (x5_1 : Int) := of_decide_eq_true as_
         have q307 : x5_1 < (l0.length : Int) := of_decide_eq_true as_
         obtain ⟨ad307, e307, hx307_0⟩ := Kd.at_int HR0.out x5_1 p307 q307
         cases e307
         replace hx307_0 := (HB.out.cell (World.block_lt_of_cell? w _ hx307_0)).trans hx307_0
         replace p307 := eq_true p307
         replace q307 := eq_true q307
         have p308 : 0 ≤ (x5_1 : Int) := of_decide_eq_true as_
         have q308 : x5_1 < (l0.length : Int) := of_decide_eq_true as_
         obtain ⟨ad308, e308, hx308_0⟩ := Kd.at_int HR0.out x5_1 p308 q308
         obtain rfl : ad307 = ad308 := (by injection e308)
         replace hx308_0 := (HB.out.cell (World.block_lt_of_cell? w _ hx308_0)).trans hx308_0
         replace p308 := eq_true p308
         replace q308 := eq_true q308
         go_wp2
         go_ret3
         exact ⟨_, by first | rfl | (simp [errW_none, errW_some] <;> rfl) | (simp [*, errW_none, errW_some] <;> rfl), by first | exact Kd.R_nil _ _ _ _ _ | exact Kd.N_nil _ _ _ _ _ | exact Kd.V_nil _ _ _ _ _ | exact Kd.Q_nil _ _ _ _ _ | exact Kd.S_nil _ _ _ _ _, bw_⟩
        ·rw [if_neg c7] at H
         have c7b0 : decide (64 ≤ (rd l0 x5_1)) = false := decide_eq_false c7
         clear c7
         have H' := Aside0.mk H
         clear H
         have p307 : 0 ≤ (x5_1 : Int) := of_decide_eq_true as_
         have q307 : x5_1 < (l0.length : Int) := of_decide_eq_true as_
         obtain ⟨ad307, e307, hx307_0⟩ := Kd.at_int HR0.out x5_1 p307 q307
         cases e307
         replace hx307_0 := (HB.out.cell (World.block_lt_of_cell? w _ hx307_0)).trans hx307_0
         replace p307 := eq_true p307
         replace q307 := eq_true q307
         have p308 : 0 ≤ (x5_1 : Int) := of_decide_eq_true as_
         have q308 : x5_1 < (l0.length : Int) := of_decide_eq_true as_
         obtain ⟨ad308, e308, hx308_0⟩ := Kd.at_int HR0.out x5_1 p308 q308
         obtain rfl : ad307 = ad308 := (by injection e308)
         replace hx308_0 := (HB.out.cell (World.block_lt_of_cell? w _ hx308_0)).trans hx308_0
         replace p308 := eq_true p308
         replace q308 := eq_true q308
         go_wp2
         go_roundg k1
         case measure => have := HK1.out; omega
         case rel => exact ⟨(wrap64 (x5_1 + 1)), sd_, H', ⟨by have := HK1.out; omega⟩, ⟨bw_⟩⟩
      ·rw [if_neg c5] at H
       exact absurd H (by simp)
     ·rw [if_neg c4] at H
      have c4b0 : decide (x5_1 < (l0.length : Int)) = false := decide_eq_false c4
      clear c4
      replace H := Option.bind_eq_some_iff.mp H
      obtain ⟨⟨t309, t310⟩, A80, H⟩ := H
      replace H : ((torusref07_Check.f k1 t309).bind fun t313 => (if t313 = 0 then (some (t309, wrap64 (1 - (wrap64 (2 * t310))), 0)) else (some (([] : List Int), 0, 5)))) = some (r1, r2, r3) := H
      have A8 := Aside0.mk A80
      clear A80
      replace H := Option.bind_eq_some_iff.mp H
      obtain ⟨t313, A90, H⟩ := H
      replace H : (if t313 = 0 then (some (t309, wrap64 (1 - (wrap64 (2 * t310))), 0)) else (some (([] : List Int), 0, 5))) = some (r1, r2, r3) := H
      have A9 := Aside0.mk A90
      clear A90
      by_cases c10 : t313 = 0
      ·rw [if_pos c10] at H
       have c10b0 : (t313 == 0) = true := beq_iff_eq.mpr c10
       have c10b1 : (t313 != 0) = false := bne_eq_false_iff_eq.mpr c10
       clear c10
       simp only [Option.some.injEq, Prod.mk.injEq] at H
       obtain ⟨rfl, rfl, rfl⟩ := H
       go_wp2_with (first | ((with_reducible refine gate_callee (f := 43) rfl ?_); refine goesL_ (some 34) rfl rfl Tryd.func43 (by kernel_rfl) rfl #[.slice A0 l0.length c0] rfl ag_ ?_; (with_reducible refine (torusref07_Sorted.calls k1 _ _ l0 t309 t310 _ ?side1 ?side2 A8.out).mono ?_); (case side1 => exact cs_ (Kd.C_below HR0.out HB.out)); (case side2 => exact HC0.out); rintro e w11 ⟨v311, rfl, ho0, hb⟩; refine ⟨_, rfl, ?_⟩; have n0_ := Aside0.mk (Kd.R_lower ho0 (below_size bw_)); have n1_ := Aside0.mk (below_step bw_ hb); clear HB; have HO312 := n0_; have HB := n1_; clear n0_ n1_; (try clear hb); (try clear hb2); (try clear hk); (try clear hi); (try clear ho0); obtain ⟨Ao12, co12, eo12⟩ := Kd.R_slice HO312.out; subst eo12) | ((with_reducible refine gate_callee (f := 28) rfl ?_); refine goesL_ (some 38) rfl rfl Tryd.func28 (by kernel_rfl) rfl #[.slice Ao12 t309.length co12] rfl ag_ ?_; (with_reducible refine (torusref07_Check.calls k1 _ _ t309 t313 _ ?side1 ?side2 A9.out).mono ?_); (case side1 => repeat (first | exact (Kd.R_reads' HO312.out).2.2 | (with_reducible refine Kd.C_alloc ?_ _) | (with_reducible refine Kd.C_drewN ?_ _) | (with_reducible refine Kd.C_drew ?_))); (case side2 => exact (Kd.R_reads' HO312.out).2.1); rintro e w' ⟨rfl, ⟨nd, rfl⟩⟩; refine ⟨_, rfl, ?_⟩))
       go_ret3
       exact ⟨_, by first | rfl | (simp [errW_none, errW_some] <;> rfl) | (simp [*, errW_none, errW_some] <;> rfl), rRa_ HO312.out, bw_⟩
      ·rw [if_neg c10] at H
       have c10b0 : (t313 == 0) = false := beq_eq_false_iff_ne.mpr c10
       have c10b1 : (t313 != 0) = true := bne_iff_ne.mpr c10
       simp only [Option.some.injEq, Prod.mk.injEq] at H
       obtain ⟨rfl, rfl, rfl⟩ := H
       go_wp2_with (first | ((with_reducible refine gate_callee (f := 43) rfl ?_); refine goesL_ (some 34) rfl rfl Tryd.func43 (by kernel_rfl) rfl #[.slice A0 l0.length c0] rfl ag_ ?_; (with_reducible refine (torusref07_Sorted.calls k1 _ _ l0 t309 t310 _ ?side1 ?side2 A8.out).mono ?_); (case side1 => exact cs_ (Kd.C_below HR0.out HB.out)); (case side2 => exact HC0.out); rintro e w13 ⟨v311, rfl, ho0, hb⟩; refine ⟨_, rfl, ?_⟩; have n0_ := Aside0.mk (Kd.R_lower ho0 (below_size bw_)); have n1_ := Aside0.mk (below_step bw_ hb); clear HB; have HO312 := n0_; have HB := n1_; clear n0_ n1_; (try clear hb); (try clear hb2); (try clear hk); (try clear hi); (try clear ho0); obtain ⟨Ao14, co14, eo14⟩ := Kd.R_slice HO312.out; subst eo14) | ((with_reducible refine gate_callee (f := 28) rfl ?_); refine goesL_ (some 38) rfl rfl Tryd.func28 (by kernel_rfl) rfl #[.slice Ao14 t309.length co14] rfl ag_ ?_; (with_reducible refine (torusref07_Check.calls k1 _ _ t309 t313 _ ?side1 ?side2 A9.out).mono ?_); (case side1 => repeat (first | exact (Kd.R_reads' HO312.out).2.2 | (with_reducible refine Kd.C_alloc ?_ _) | (with_reducible refine Kd.C_drewN ?_ _) | (with_reducible refine Kd.C_drew ?_))); (case side2 => exact (Kd.R_reads' HO312.out).2.1); rintro e w' ⟨rfl, ⟨nd, rfl⟩⟩; refine ⟨_, rfl, ?_⟩))
       go_ret3
       exact ⟨_, by first | rfl | (simp [errW_none, errW_some] <;> rfl) | (simp [*, errW_none, errW_some] <;> rfl), by first | exact Kd.R_nil _ _ _ _ _ | exact Kd.N_nil _ _ _ _ _ | exact Kd.V_nil _ _ _ _ _ | exact Kd.Q_nil _ _ _ _ _ | exact Kd.S_nil _ _ _ _ _, bw_⟩

end Go.Proofs.YticckanjfdcpaaaDoor.PSimplex
namespace Go.Proofs.YticckanjfdcpaaaDoor.PSimplex
open Go.RowKit Go.Proofs.YticckanjfdcpaaaDoorW.PrintWords Go.Proofs.YticckanjfdcpaaaDoorW.PrintLast Go.Proofs.YticckanjfdcpaaaDoorW.PrintMore
set_option linter.unusedVariables false
set_option linter.unusedSimpArgs false

/-- An element is moved down a list that is told from its end on. -/
def insR : List Int → Int → List Int
  | [], x => [x]
  | a :: R, x => if x < a then a :: insR R x else x :: a :: R
def insN : List Int → Int → Nat
  | [], _ => 0
  | a :: R, x => if x < a then insN R x + 1 else 0
def srt : List Int → List Int → List Int
  | R, [] => R.reverse
  | R, x :: B => srt (insR R x) B
def swp : List Int → List Int → Nat
  | _, [] => 0
  | R, x :: B => insN R x + swp (insR R x) B
theorem insR_len : ∀ R x, (insR R x).length = R.length + 1
  | [], x => rfl
  | a :: R, x => by
    unfold insR
    split
    · simp [insR_len R x]
    · simp
theorem rd_mid (L : List Int) (x : Int) (B : List Int) : rd (L ++ x :: B) (L.length : Int) = x := by simp [rd]
theorem set_mid (L : List Int) (x y : Int) (B : List Int) : (L ++ x :: B).set L.length y = L ++ y :: B := by
  rw [List.set_append_right _ _ (Nat.le_refl _)]
  simp
theorem less_at (a b : Int) : cmp_Less_int.f a b = some (decide (a < b)) := by simp [cmp_Less_int.f, cmp_isNaN_int.f]
theorem two_set (R : List Int) (a x : Int) (B : List Int) : ((R.reverse ++ a :: x :: B).set (R.length + 1) a).set R.length x = R.reverse ++ x :: a :: B := by
  have h1 := set_mid (R.reverse ++ [a]) x a B
  have h2 := set_mid R.reverse a x (a :: B)
  simp only [List.append_assoc, List.singleton_append, List.length_append, List.length_reverse, List.length_cons, List.length_nil] at h1 h2
  simp only [Nat.zero_add] at h1
  rw [h1, h2]
theorem two_set' (R : List Int) (a x : Int) (B : List Int) : ((R.reverse ++ a :: x :: B).set R.length x).set (R.length + 1) a = R.reverse ++ x :: a :: B := by
  have h1 := set_mid (R.reverse ++ [x]) x a B
  have h2 := set_mid R.reverse a x (x :: B)
  simp only [List.append_assoc, List.singleton_append, List.length_append, List.length_reverse, List.length_cons, List.length_nil] at h1 h2
  simp only [Nat.zero_add] at h1
  rw [h2, h1]
theorem rd_lo (R : List Int) (a x : Int) (B : List Int) : rd (R.reverse ++ a :: x :: B) (R.length : Int) = a := by
  have := rd_mid R.reverse a (x :: B)
  simpa using this
theorem rd_hi (R : List Int) (a x : Int) (B : List Int) : rd (R.reverse ++ a :: x :: B) ((R.length + 1 : Nat) : Int) = x := by
  have := rd_mid (R.reverse ++ [a]) x B
  simpa using this

theorem ins_l1 (n i : Int) (r : List Int) : ∀ (R : List Int) (x : Int) (B : List Int), R.length + B.length ≤ 100000 → Ev (fun k => slices_insertionSortOrdered_int.l0 k ((insR R x).reverse ++ B) 0 n (wrap64 (i + 1))) r →
    Ev (fun k => slices_insertionSortOrdered_int.l1 k (R.reverse ++ x :: B) 0 n i (R.length : Int)) r
  | [], x, B, hl, h => by
    refine ev_succ ?_
    simp only [slices_insertionSortOrdered_int.l1, List.length_nil, if_neg (show ¬ (((0 : Nat) : Int) > 0) by omega)]
    simpa [insR] using h
  | a :: R, x, B, hl, h => by
    have e : ((a :: R).reverse ++ x :: B) = R.reverse ++ a :: x :: B := by simp
    have hlen : ((R.reverse ++ a :: x :: B).length : Int) = (R.length : Int) + 2 + (B.length : Int) := by simp; omega
    have hw : wrap64 (((R.length + 1 : Nat) : Int) - 1) = (R.length : Int) := by rw [wrap_id (by simp at hl; omega) (by simp at hl; omega)]; omega
    refine ev_succ ?_
    rw [e]
    simp only [slices_insertionSortOrdered_int.l1, List.length_cons, if_pos (show ((R.length + 1 : Nat) : Int) > 0 by omega), if_pos (show (0 : Int) ≤ ((R.length + 1 : Nat) : Int) by omega), hw, hlen, if_pos (show ((R.length + 1 : Nat) : Int) < (R.length : Int) + 2 + (B.length : Int) by omega),
      if_pos (show (0 : Int) ≤ (R.length : Int) by omega), if_pos (show (R.length : Int) < (R.length : Int) + 2 + (B.length : Int) by omega), rd_lo, rd_hi, less_at, Option.bind_some]
    by_cases c : x < a
    · simp only [decide_eq_true c, if_true, Int.toNat_natCast, two_set]
      refine ins_l1 n i r R x (a :: B) (by simp at hl ⊢; omega) ?_
      simpa [insR, c] using h
    · simp only [decide_eq_false c, Bool.false_eq_true, if_false]
      simpa [insR, c] using h
theorem ins_l0 : ∀ (B R : List Int), R.length + B.length ≤ 100000 → Ev (fun k => slices_insertionSortOrdered_int.l0 k (R.reverse ++ B) 0 ((R.length + B.length : Nat) : Int) (R.length : Int)) (srt R B)
  | [], R, hl => by
    refine ev_succ ?_
    simp only [slices_insertionSortOrdered_int.l0, List.length_nil, Nat.add_zero, if_neg (show ¬ ((R.length : Int) < (R.length : Int)) by omega), List.append_nil, srt]
    exact Ev.now _
  | x :: B, R, hl => by
    have ih := ins_l0 B (insR R x) (by rw [insR_len]; simp at hl; omega)
    rw [insR_len] at ih
    have hw : wrap64 ((R.length : Int) + 1) = ((R.length + 1 : Nat) : Int) := wrap_nat _ (by simp at hl; omega)
    refine ev_succ ?_
    simp only [slices_insertionSortOrdered_int.l0, List.length_cons, if_pos (show (R.length : Int) < ((R.length + (B.length + 1) : Nat) : Int) by omega), srt]
    refine ins_l1 _ _ _ R x B (by simp at hl; omega) ?_
    rw [hw, show R.length + (B.length + 1) = R.length + 1 + B.length by omega]
    exact ih
theorem ins_ev (l : List Int) (hl : l.length ≤ 100000) : Ev (fun k => slices_insertionSortOrdered_int.f k l 0 (l.length : Int)) (srt [] l) := by
  cases l with
  | nil =>
    refine Ev.of (slices_insertionSortOrdered_int.mono _ _ _) (k := 1) ?_
    decide +kernel
  | cons x B =>
    have := ins_l0 B [x] (by simp at hl ⊢; omega)
    unfold slices_insertionSortOrdered_int.f
    have hw : wrap64 (0 + 1) = 1 := by decide +kernel
    rw [hw]
    simpa [srt, insR, Nat.add_comm] using this
theorem sort42_ev (l : List Int) (hl : l.length ≤ 12) : Ev (fun k => api_Simplex_int_42.f k l) (srt [] l) := by
  unfold api_Simplex_int_42.f
  simp only [if_pos (show (l.length : Int) ≤ 12 by omega)]
  exact ins_ev l (by omega)

theorem rins_l1 (i : Int) (r : List Int × Int) : ∀ (R : List Int) (x : Int) (B : List Int) (p : Nat), R.length + B.length ≤ 100000 → Ev (fun k => torusref07_Sorted.l0 k ((insR R x).reverse ++ B) (((p + insN R x) % 2 : Nat) : Int) (wrap64 (i + 1))) r →
    Ev (fun k => torusref07_Sorted.l1 k (R.reverse ++ x :: B) ((p % 2 : Nat) : Int) i (R.length : Int)) r
  | [], x, B, p, hl, h => by
    refine ev_succ ?_
    simp only [torusref07_Sorted.l1, List.length_nil, if_neg (show ¬ (((0 : Nat) : Int) > 0) by omega)]
    simpa [insR, insN] using h
  | a :: R, x, B, p, hl, h => by
    have e : ((a :: R).reverse ++ x :: B) = R.reverse ++ a :: x :: B := by simp
    have hlen : ((R.reverse ++ a :: x :: B).length : Int) = (R.length : Int) + 2 + (B.length : Int) := by simp; omega
    have hw : wrap64 (((R.length + 1 : Nat) : Int) - 1) = (R.length : Int) := by rw [wrap_id (by simp at hl; omega) (by simp at hl; omega)]; omega
    have hp : wrap64 (1 - ((p % 2 : Nat) : Int)) = (((p + 1) % 2 : Nat) : Int) := by rw [wrap_id (by omega) (by omega)]; omega
    refine ev_succ ?_
    rw [e]
    simp only [torusref07_Sorted.l1, List.length_cons, if_pos (show ((R.length + 1 : Nat) : Int) > 0 by omega), if_pos (show (0 : Int) ≤ ((R.length + 1 : Nat) : Int) by omega), hw, hlen, if_pos (show ((R.length + 1 : Nat) : Int) < (R.length : Int) + 2 + (B.length : Int) by omega),
      if_pos (show (0 : Int) ≤ (R.length : Int) by omega), if_pos (show (R.length : Int) < (R.length : Int) + 2 + (B.length : Int) by omega), rd_lo, rd_hi]
    by_cases c : x < a
    · simp only [if_pos (show a > x from c), Int.toNat_natCast, two_set', hp]
      refine rins_l1 i r R x (a :: B) (p + 1) (by simp at hl ⊢; omega) ?_
      have e2 : p + 1 + insN R x = p + (insN R x + 1) := by omega
      rw [e2]
      simpa [insR, insN, c] using h
    · simp only [if_neg (show ¬ (a > x) from c)]
      simpa [insR, insN, c] using h
theorem rins_l0 : ∀ (B R : List Int) (p : Nat), R.length + B.length ≤ 100000 → Ev (fun k => torusref07_Sorted.l0 k (R.reverse ++ B) ((p % 2 : Nat) : Int) (R.length : Int)) (srt R B, (((p + swp R B) % 2 : Nat) : Int))
  | [], R, p, hl => by
    refine ev_succ ?_
    simp only [torusref07_Sorted.l0, List.append_nil, List.length_reverse, if_neg (show ¬ ((R.length : Int) < (R.length : Int)) by omega), srt, swp, Nat.add_zero]
    exact Ev.now _
  | x :: B, R, p, hl => by
    have ih := rins_l0 B (insR R x) (p + insN R x) (by rw [insR_len]; simp at hl; omega)
    rw [insR_len] at ih
    have hw : wrap64 ((R.length : Int) + 1) = ((R.length + 1 : Nat) : Int) := wrap_nat _ (by simp at hl; omega)
    have hlen : ((R.reverse ++ x :: B).length : Int) = (R.length : Int) + 1 + (B.length : Int) := by simp; omega
    refine ev_succ ?_
    simp only [torusref07_Sorted.l0, hlen, if_pos (show (R.length : Int) < (R.length : Int) + 1 + (B.length : Int) by omega), srt, swp]
    refine rins_l1 _ _ R x B p (by simp at hl; omega) ?_
    rw [hw, ← Nat.add_assoc]
    exact ih
theorem rsorted_ev (l : List Int) (hl : l.length ≤ 100000) : Ev (fun k => torusref07_Sorted.f k l) (srt [] l, ((swp [] l % 2 : Nat) : Int)) := by
  unfold torusref07_Sorted.f
  simp only [Option.bind_some, List.nil_append, List.length_nil, if_pos (show 0 + l.length < 17592186044416 by omega)]
  have := rins_l0 l [] 0 (by simpa using hl)
  simpa using this

/-! ### The sign -/
def sg (n : Nat) : Int := if n % 2 = 0 then 1 else -1
theorem sg_neg (n : Nat) : wrap64 (-(sg n)) = sg (n + 1) := by
  unfold sg
  by_cases c : n % 2 = 0
  · rw [if_pos c, if_neg (by omega)]; decide +kernel
  · rw [if_neg c, if_pos (by omega)]; decide +kernel
def cnt (P : List Int) (x : Int) : Nat := P.countP (fun a => decide (x < a))
def invs : List Int → List Int → Nat
  | _, [] => 0
  | R, x :: B => cnt R x + invs (x :: R) B
theorem cnt_cons (a : Int) (P : List Int) (x : Int) : cnt (a :: P) x = cnt P x + if x < a then 1 else 0 := by simp [cnt, List.countP_cons]
theorem cnt_rev (P : List Int) (x : Int) : cnt P.reverse x = cnt P x := by simp [cnt]
theorem sgn_l1 (l s : List Int) (len : Int) (x : Int) (r : List Int × Int × Int) : ∀ (P2 P1 B : List Int) (n : Nat), l = (P1 ++ P2) ++ x :: B → l.length ≤ 100000 →
    Ev (fun k => simplex_Sort.l0 k l s (sg (n + cnt P2 x)) len (wrap64 (((P1 ++ P2).length : Int) + 1))) r →
    Ev (fun k => simplex_Sort.l1 k l s (sg n) ((P1 ++ P2).length : Int) len ((P1 ++ P2).length : Int) ((P1 ++ P2).length : Int) (P1.length : Int)) r
  | [], P1, B, n, hl, hlen, h => by
    refine ev_succ ?_
    simp only [simplex_Sort.l1, List.append_nil, if_neg (show ¬ ((P1.length : Int) < (P1.length : Int)) by omega)]
    simpa [cnt] using h
  | a :: P2, P1, B, n, hl, hlen, h => by
    have e1 : P1 ++ a :: P2 = (P1 ++ [a]) ++ P2 := by simp
    have hx : rd l ((P1 ++ a :: P2).length : Int) = x := by rw [hl]; exact rd_mid _ _ _
    have ha : rd l (P1.length : Int) = a := by
      rw [hl, List.append_assoc]
      exact rd_mid P1 a (P2 ++ x :: B)
    have hl2 : (l.length : Int) = ((P1 ++ a :: P2).length : Int) + 1 + (B.length : Int) := by rw [hl]; simp; omega
    have hl3 : ((P1 ++ a :: P2).length : Int) = (P1.length : Int) + 1 + (P2.length : Int) := by simp; omega
    have hw : wrap64 ((P1.length : Int) + 1) = ((P1 ++ [a]).length : Int) := by rw [wrap_nat _ (by omega)]; simp
    refine ev_succ ?_
    simp only [simplex_Sort.l1, if_pos (show (P1.length : Int) < ((P1 ++ a :: P2).length : Int) by omega), if_pos (show (0 : Int) ≤ (P1.length : Int) by omega), if_pos (show (P1.length : Int) < (l.length : Int) by omega),
      if_pos (show (0 : Int) ≤ ((P1 ++ a :: P2).length : Int) by omega), if_pos (show ((P1 ++ a :: P2).length : Int) < (l.length : Int) by omega), hx, ha, hw]
    by_cases c : a > x
    · simp only [if_pos c, sg_neg]
      have := sgn_l1 l s len x r P2 (P1 ++ [a]) B (n + 1) (by rw [hl, e1]) hlen (by
        rw [← e1, show n + 1 + cnt P2 x = n + cnt (a :: P2) x by rw [cnt_cons, if_pos c]; omega]
        exact h)
      rw [← e1] at this
      exact this
    · simp only [if_neg c]
      have := sgn_l1 l s len x r P2 (P1 ++ [a]) B n (by rw [hl, e1]) hlen (by
        rw [← e1, show n + cnt P2 x = n + cnt (a :: P2) x by rw [cnt_cons, if_neg c]; omega]
        exact h)
      rw [← e1] at this
      exact this
/-- What "Sort" answers once the vertices are right. -/
def sorted3 (l : List Int) : List Int × Int × Int := if ck (srt [] l) = 0 then (srt [] l, sg (invs [] l), 0) else ([], 0, 5)
theorem sgn_l0 (l s : List Int) (hs : s.length ≤ 12) (hlen : l.length ≤ 100000) : ∀ (B P : List Int) (n : Nat), l = P ++ B →
    Ev (fun k => simplex_Sort.l0 k l s (sg n) (l.length : Int) (P.length : Int)) (if ck (srt [] s) = 0 then (srt [] s, sg (n + invs P.reverse B), 0) else ([], 0, 5))
  | [], P, n, hl => by
    have e : l.length = P.length := by rw [hl]; simp
    refine ev_succ ?_
    simp only [simplex_Sort.l0, e, if_neg (show ¬ ((P.length : Int) < (P.length : Int)) by omega), invs, Nat.add_zero]
    refine (ev_bind (sort42_ev s hs)).mpr ?_
    refine (ev_bind (scheck_ev _)).mpr ?_
    by_cases c : ck (srt [] s) = 0
    · simp only [if_pos c]; exact Ev.now _
    · simp only [if_neg c]; exact Ev.now _
  | x :: B, P, n, hl => by
    have e : (l.length : Int) = (P.length : Int) + 1 + (B.length : Int) := by rw [hl]; simp; omega
    have ih := sgn_l0 l s hs hlen B (P ++ [x]) (n + cnt P x) (by rw [hl]; simp)
    refine ev_succ ?_
    simp only [simplex_Sort.l0, if_pos (show (P.length : Int) < (l.length : Int) by omega)]
    have := sgn_l1 l s (l.length : Int) x _ P [] B n (by rw [hl]; simp) hlen (by
      have hw : wrap64 (((([] : List Int) ++ P).length : Int) + 1) = ((P ++ [x]).length : Int) := by rw [List.nil_append, wrap_nat _ (by omega)]; simp
      rw [hw]
      exact ih)
    have e2 : n + cnt P x + invs (P ++ [x]).reverse B = n + invs P.reverse (x :: B) := by
      simp only [invs, cnt_rev, List.reverse_append, List.reverse_cons, List.reverse_nil, List.nil_append, List.singleton_append]
      omega
    rw [e2] at this
    simpa using this
/-- What "Sort" answers. -/
def so (l : List Int) : List Int × Int × Int := if l.length = 0 then ([], 0, 1) else if l.length > 5 then ([], 0, 3) else if l.any bad = true then ([], 0, 1) else sorted3 l
theorem ssort_ev (l : List Int) : Ev (fun k => simplex_Sort.f k l) (so l) := by
  unfold simplex_Sort.f so
  refine (ev_bind (svert_ev l)).mpr ?_
  by_cases c : l.length = 0
  · simp only [if_pos c]; exact Ev.now _
  · by_cases c' : l.length > 5
    · simp only [if_neg c, if_pos c']; exact Ev.now _
    · simp only [if_neg c, if_neg c']
      cases hb : l.any bad with
      | true => exact Ev.now _
      | false =>
        simp only [Bool.false_eq_true, if_false, if_true, api_Simplex_int_41.f, if_pos (show l.length < 17592186044416 by omega), Option.bind_some]
        have := sgn_l0 l l (by omega) (by omega) l [] 0 rfl
        simpa [sg, sorted3] using this

/-! ### The exchanges are the inversions -/
def desc : List Int → Prop
  | [] => True
  | a :: R => (∀ b ∈ R, b ≤ a) ∧ desc R
theorem insR_mem : ∀ R x b, b ∈ insR R x → b = x ∨ b ∈ R
  | [], x, b, h => by simp [insR] at h; exact .inl h
  | a :: R, x, b, h => by
    unfold insR at h
    split at h
    · rcases List.mem_cons.1 h with h | h
      · exact .inr (by simp [h])
      · rcases insR_mem R x b h with h | h
        · exact .inl h
        · exact .inr (by simp [h])
    · rcases List.mem_cons.1 h with h | h
      · exact .inl h
      · exact .inr h
theorem insR_desc : ∀ R x, desc R → desc (insR R x)
  | [], x, _ => by simp [insR, desc]
  | a :: R, x, h => by
    unfold insR
    by_cases c : x < a
    · rw [if_pos c]
      refine ⟨fun b hb => ?_, insR_desc R x h.2⟩
      rcases insR_mem R x b hb with h1 | h1
      · omega
      · exact h.1 b h1
    · rw [if_neg c]
      refine ⟨fun b hb => ?_, h⟩
      rcases List.mem_cons.1 hb with h1 | h1
      · omega
      · have := h.1 b h1; omega
theorem insR_cnt : ∀ R x y, cnt (insR R x) y = cnt (x :: R) y
  | [], x, y => rfl
  | a :: R, x, y => by
    unfold insR
    split
    · rw [cnt_cons, insR_cnt R x y, cnt_cons, cnt_cons, cnt_cons]; omega
    · rfl
theorem insN_cnt : ∀ R x, desc R → insN R x = cnt R x
  | [], x, _ => rfl
  | a :: R, x, h => by
    unfold insN
    rw [cnt_cons]
    by_cases c : x < a
    · rw [if_pos c, if_pos c, insN_cnt R x h.2]
    · rw [if_neg c, if_neg c]
      have : cnt R x = 0 := by
        unfold cnt
        rw [List.countP_eq_zero]
        intro b hb
        have := h.1 b hb
        simp
        omega
      omega
theorem swp_invs : ∀ (B S R : List Int), desc S → (∀ y, cnt S y = cnt R y) → swp S B = invs R B
  | [], S, R, _, _ => rfl
  | x :: B, S, R, hd, hc => by
    simp only [swp, invs]
    rw [insN_cnt S x hd, hc x, swp_invs B (insR S x) (x :: R) (insR_desc S x hd) (fun y => by rw [insR_cnt, cnt_cons, cnt_cons, hc y])]
theorem rsort_l0 (l : List Int) (hl : l.length ≤ 5) : ∀ (m i : Nat), m = l.length - i → i ≤ l.length → Ev (fun k => torusref07_Sort.l0 k l (i : Int)) (if (l.drop i).any bad = true then ([], 0, 1) else sorted3 l)
  | 0, i, hm, hi => by
    rw [List.drop_of_length_le (by omega)]
    refine ev_succ ?_
    simp only [torusref07_Sort.l0, if_neg (show ¬ ((i : Int) < (l.length : Int)) by omega), List.any_nil, Bool.false_eq_true, if_false]
    refine (ev_bind (rsorted_ev l (by omega))).mpr ?_
    refine (ev_bind (rcheck_ev _)).mpr ?_
    unfold sorted3
    by_cases c : ck (srt [] l) = 0
    · simp only [if_pos c, swp_invs l [] [] trivial (fun _ => rfl)]
      have e : wrap64 (1 - wrap64 (2 * ((invs [] l % 2 : Nat) : Int))) = sg (invs [] l) := by
        rw [wrap_id (a := 2 * ((invs [] l % 2 : Nat) : Int)) (by omega) (by omega), wrap_id (by omega) (by omega)]
        unfold sg
        split <;> omega
      rw [e]
      exact Ev.now _
    · simp only [if_neg c]
      exact Ev.now _
  | m + 1, i, hm, hi => by
    have ih := rsort_l0 l hl m (i + 1) (by omega) (by omega)
    rw [drop_cons l i (by omega)]
    refine ev_succ ?_
    simp only [torusref07_Sort.l0, if_pos (show ((i : Int) < (l.length : Int)) by omega), if_pos (show (0 : Int) ≤ (i : Int) by omega), wrap_nat i (by omega), List.any_cons]
    by_cases c : rd l (i : Int) < 0
    · have hb : bad (rd l (i : Int)) = true := by simp [bad, c]
      simp only [if_pos c, hb, Bool.true_or, if_true]
      exact Ev.now _
    · by_cases c' : rd l (i : Int) ≥ 64
      · have hb : bad (rd l (i : Int)) = true := by simp [bad, c']
        simp only [if_neg c, if_pos c', hb, Bool.true_or, if_true]
        exact Ev.now _
      · have hb : bad (rd l (i : Int)) = false := by simp [bad]; omega
        simp only [if_neg c, if_neg c', hb, Bool.false_or]
        exact ih
theorem rsort_ev (l : List Int) : Ev (fun k => torusref07_Sort.f k l) (so l) := by
  unfold torusref07_Sort.f so
  by_cases c : l.length = 0
  · simp only [if_pos c, if_pos (show (l.length : Int) = 0 by omega)]
    exact Ev.now _
  · by_cases c' : l.length > 5
    · simp only [if_neg c, if_pos c', if_neg (show ¬ ((l.length : Int) = 0) by omega), if_pos (show (l.length : Int) > 5 by omega)]
      exact Ev.now _
    · simp only [if_neg c, if_neg c', if_neg (show ¬ ((l.length : Int) = 0) by omega), if_neg (show ¬ ((l.length : Int) > 5) by omega)]
      simpa using rsort_l0 l (by omega) l.length 0 (by omega) (by omega)
theorem srt_len : ∀ (B R : List Int), (srt R B).length = R.length + B.length
  | [], R => by simp [srt]
  | x :: B, R => by rw [srt, srt_len B, insR_len]; simp; omega
theorem so_len (l : List Int) : (so l).1.length ≤ 5 := by
  unfold so sorted3
  split
  · simp
  · split
    · simp
    · split
      · simp
      · split
        · simp [srt_len]; omega
        · simp
end Go.Proofs.YticckanjfdcpaaaDoor.PSimplex
