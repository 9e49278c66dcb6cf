/- Go functions as plain Lean functions, each with a proof that the Go code computes just that, and facts on them; conditions: those that each theorem states. -/
import Derived.Test.YticckanjfdcpaaaDoorQNumbers2
namespace Go.Proofs.YticckanjfdcpaaaDoor.PSimplex
open Go.RowKit Go.Proofs.YticckanjfdcpaaaDoorW.PrintWords Go.Proofs.YticckanjfdcpaaaDoorW.PrintLast Go.Proofs.YticckanjfdcpaaaDoorW.PrintMore
attribute [local go_sem] max2_int min2_int max_two min_two max_three min_three max_four min_four   -- for this text's walks alone
set_option linter.unusedVariables false
set_option linter.unusedSimpArgs false

/-! ### torusref07_Sorted: function 43 -/
mutual
def torusref07_Sorted.l0 : Nat → List Int → Int → Int → Option (List Int × Int)
 |0, _, _, _ => none
 |k + 1, x4, x5, x6 => if x6 < (x4.length : Int) then (torusref07_Sorted.l1 k x4 x5 x6 x6) else (some (x4, x5))
def torusref07_Sorted.l1 : Nat → List Int → Int → Int → Int → Option (List Int × Int)
 |0, _, _, _, _ => none
 |k + 1, x4, x5, x6, x7 => if x7 > 0 then (if 0 ≤ (wrap64 (x7 - 1)) then (if (wrap64 (x7 - 1)) < (x4.length : Int) then (if 0 ≤ x7 then (if x7 < (x4.length : Int) then (if (rd x4 (wrap64 (x7 - 1))) > (rd x4 x7) then (torusref07_Sorted.l1 k ((x4.set ((wrap64 (x7 - 1)) : Int).toNat (rd x4 x7)).set (x7 : Int).toNat (rd x4 (wrap64 (x7 - 1)))) (wrap64 (1 - x5)) x6 (wrap64 (x7 - 1))) else (torusref07_Sorted.l0 k x4 x5 (wrap64 (x6 + 1)))) else (none)) else (none)) else (none)) else (none)) else (torusref07_Sorted.l0 k x4 x5 (wrap64 (x6 + 1)))
end
def torusref07_Sorted.f (k : Nat) (l0 : List Int) : Option (List Int × Int) := (some (([] : List Int) : List Int)).bind fun y295 => (if y295.length + l0.length < 17592186044416 then (torusref07_Sorted.l0 k (y295 ++ l0) 0 0) else (none))
theorem torusref07_Sorted.mono_l : ∀ k, (∀ y0 y1 y2, LeO (torusref07_Sorted.l0 k y0 y1 y2) (torusref07_Sorted.l0 (k + 1) y0 y1 y2)) ∧ (∀ y0 y1 y2 y3, LeO (torusref07_Sorted.l1 k y0 y1 y2 y3) (torusref07_Sorted.l1 (k + 1) y0 y1 y2 y3))
 |0 => ⟨fun _ _ _ r h => by simp [torusref07_Sorted.l0] at h, fun _ _ _ _ r h => by simp [torusref07_Sorted.l1] at h⟩
 |k + 1 => by
  obtain ⟨ih0, ih1⟩ := torusref07_Sorted.mono_l k
  refine ⟨?_, ?_⟩
  ·intro y0 y1 y2
   unfold torusref07_Sorted.l0
   repeat' first
   |(with_reducible exact ih0 _ _ _)
   |(with_reducible exact ih1 _ _ _ _)
   |(with_reducible exact LeO.refl _)
   |(with_reducible exact LeO.none _)
   |(with_reducible refine LeO.ite ?_ ?_)
   |(with_reducible refine LeO.bind ?_ (fun _ => ?_))
   |exact ih0 _ _ _
   |exact ih1 _ _ _ _
   |exact LeO.none _
   |refine LeO.ite ?_ ?_
   |refine LeO.bind ?_ (fun _ => ?_)
  ·intro y0 y1 y2 y3
   unfold torusref07_Sorted.l1
   repeat' first
   |(with_reducible exact ih0 _ _ _)
   |(with_reducible exact ih1 _ _ _ _)
   |(with_reducible exact LeO.refl _)
   |(with_reducible exact LeO.none _)
   |(with_reducible refine LeO.ite ?_ ?_)
   |(with_reducible refine LeO.bind ?_ (fun _ => ?_))
   |exact ih0 _ _ _
   |exact ih1 _ _ _ _
   |exact LeO.none _
   |refine LeO.ite ?_ ?_
   |refine LeO.bind ?_ (fun _ => ?_)
theorem torusref07_Sorted.mono : ∀ a0 k, LeO (torusref07_Sorted.f k a0) (torusref07_Sorted.f (k + 1) a0) := by
 intro a0 k
 obtain ⟨ih0, ih1⟩ := torusref07_Sorted.mono_l k
 unfold torusref07_Sorted.f
 repeat' first
   |(with_reducible exact ih0 _ _ _)
   |(with_reducible exact ih1 _ _ _ _)
   |(with_reducible exact LeO.refl _)
   |(with_reducible exact LeO.none _)
   |(with_reducible refine LeO.ite ?_ ?_)
   |(with_reducible refine LeO.bind ?_ (fun _ => ?_))
   |exact ih0 _ _ _
   |exact ih1 _ _ _ _
   |exact LeO.none _
   |refine LeO.ite ?_ ?_
   |refine LeO.bind ?_ (fun _ => ?_)
def torusref07_Sorted.T7 : Bool × List (List Nat × List Nat) := (true, [([], []), ([0], [0]), ([1], [1]), ([2], [2]), ([2], [2]), ([4, 2], [2, 4]), ([3, 5, 2], [2, 3, 5]), ([6, 2], [2, 6]), ([2], [2]), ([2], [2]), ([8, 9, 2], [2, 8, 9]), ([10, 2], [2, 10]), ([7, 11, 2], [2, 7, 11]), ([2, 12], [2, 12])])
def torusref07_Sorted.B7 : List Nat := [0, 1, 3, 7, 7, 23, 63, 127, 7, 7, 775, 1799, 4095, 8191]
theorem torusref07_Sorted.tab7 : rtab .any (opsOf Tryd.f43 7) = torusref07_Sorted.T7 := by kernel_rfl
theorem torusref07_Sorted.bits7 : waitsOk torusref07_Sorted.T7.2 torusref07_Sorted.B7 = true := by kernel_rfl
def torusref07_Sorted.T9 : Bool × List (List Nat × List Nat) := (true, [([], []), ([], []), ([1], [1]), ([], []), ([], []), ([], []), ([], []), ([5, 6], [5, 6]), ([7], [7]), ([], []), ([], []), ([10], [10]), ([9, 11], [9, 11]), ([12], [12]), ([0, 2, 0, 1, 2, 5, 6, 7, 8, 13], [0, 2]), ([14, 8, 0, 1, 2, 5, 6, 7, 8, 13], [8, 14]), ([3, 4, 0, 1, 2, 3, 4, 5, 6, 7, 8, 9, 10, 11, 12, 13, 14, 15], [3, 4]), ([16, 13, 15, 0, 1, 2, 3, 4, 5, 6, 7, 8, 9, 10, 11, 12, 13, 14, 15], [13, 16])])
def torusref07_Sorted.B9 : List Nat := [0, 0, 2, 0, 0, 0, 0, 96, 224, 0, 0, 1024, 3584, 7680, 16359, 32743, 65535, 131071]
theorem torusref07_Sorted.tab9 : rtab .any (opsOf Tryd.f43 9) = torusref07_Sorted.T9 := by kernel_rfl
theorem torusref07_Sorted.bits9 : waitsOk torusref07_Sorted.T9.2 torusref07_Sorted.B9 = true := by kernel_rfl
set_option maxHeartbeats 8000000 in
set_option maxRecDepth 100000 in
theorem torusref07_Sorted.calls (k : Nat) (A0 : Option Addr) (c0 : Nat) (l0 : List Int) (r1 : List Int) (r2 : Int) (w : World) (hr0 : Kd.C (Kd.int .i64) w A0 l0.length l0) (hc0 : l0.length ≤ c0) (h : torusref07_Sorted.f k l0 = some (r1, r2)) :
  Calls Tryd.prog 43 #[.slice A0 l0.length c0] w fun e w' => ∃ v0_ : Value, e = .returned (.tuple #[v0_, .int .i64 r2]) ∧ Kd.R (Kd.int .i64) 3 w' w.heap.size (fun _ => True) v0_ r1 ∧ Below w.heap.size w w' := by
 have HR0 := Aside0.mk hr0
 have HC0 := Aside0.mk hc0
 clear hr0 hc0
 have HB := Aside0.mk (Below.refl w.heap.size w)
 have H : ((some (([] : List Int) : List Int)).bind fun y295 => (if y295.length + l0.length < 17592186044416 then (torusref07_Sorted.l0 k (y295 ++ l0) 0 0) else (none))) = some (r1, r2) := h
 clear h
 obtain ⟨y295, hy295⟩ : ∃ y_ : List Int, y_ = (([] : List Int)) := ⟨_, rfl⟩
 replace H : (if y295.length + l0.length < 17592186044416 then (torusref07_Sorted.l0 k (y295 ++ l0) 0 0) else (none)) = some (r1, r2) := by first | (rw [hy295]; with_reducible exact H) | (have H2_ := (Option.bind_some _ _).symm.trans H; rw [hy295]; with_reducible exact H2_) | (have H2_ := (Option.bind_some _ _).symm.trans H; with_reducible exact H2_) | with_reducible exact H | (rw [hy295]; exact H) | exact H
 have Ny295 := Aside0.mk hy295
 clear hy295
 by_cases c2 : y295.length + l0.length < 17592186044416
 ·rw [if_pos c2] at H
  have LMc2 := Aside0.mk c2
  clear c2
  obtain ⟨y298, hy298⟩ : ∃ y_ : List Int, y_ = (y295 ++ l0) := ⟨_, rfl⟩
  replace H : (torusref07_Sorted.l0 k y298 0 0) = some (r1, r2) := by first | (rw [hy298]; with_reducible exact H) | (have H2_ := (Option.bind_some _ _).symm.trans H; rw [hy298]; with_reducible exact H2_) | (have H2_ := (Option.bind_some _ _).symm.trans H; with_reducible exact H2_) | with_reducible exact H | (rw [hy298]; exact H) | exact H
  have Ny298 := Aside0.mk hy298
  clear hy298
  have H' := Aside0.mk H
  clear H
  go_enter Tryd.func43, Tryd.ntmps43
  go_wp2_with (first | ((with_reducible refine gate_dst (N := 8) rfl ?_); refine Kd.R_lit (Kd.int .i64) _ 3 ?hg (N := 8) ?hd (xs := ([] : List Int)) (inner := []) (ok := fun _ => True) (okp := fun _ => True) ?hr ?hp (fun _ hk => hk) trivial (Below.refl _ _) (Nat.le_refl _) (by simp) ?_; (case hd => rfl); (case hg => rfl); (case hr => first | (go_simp; done) | (go_simp; rfl)); (case hp => exact (Reps.none _ _)); intro v296 w3 ho4 hb hg_ hnew_; clear hg_ hnew_; (first | rw [← Ny295.out] at ho4 | (simp only [Int.reduceToNat] at ho4; rw [← Ny295.out] at ho4)); have n0_ := Aside0.mk (Kd.R_lower ho4 (below_size bw_)); have n1_ := Aside0.mk (below_step bw_ hb); clear HB; have HO297 := n0_; have HB := n1_; clear n0_ n1_; clear hb ho4) | ((with_reducible refine gate_builtin (b := .append) (xs := #[.tmp 8, .tmp 9]) rfl ?_); at_builtin; refine Kd.R_append_rows (Kd.int .i64) (w0 := w) w.heap.size rfl (.tmp 8) (.tmp 9) 22 3 (.int .i64 0) 8 rfl Tryd.underlying22 info3 rfl (by decide) (by omega) v296 y295 l0 _ _ _ (fun _ => True) (fun _ => False) rfl rfl ?aO ?aR (fun _ _ h => h) (fun _ h => h.elim) ?aF ?aB ?aS ?aL ?_; (case aR => exact cs_ (Kd.C_below HR0.out HB.out)); (case aB => exact bw_); (case aF => exact (fun _ _ => trivial)); (case aO => exact (rRa_ HO297.out)); (case aS => exact (below_size bw_)); (case aL => have := LMc2.out; omega); intro v299 w5 ho hb hg hat; rw [← Ny298.out] at ho; have n0_ := Aside0.mk (hb); have n1_ := Aside0.mk (ho); clear HB; clear HO297; have HB := n0_; have HO300 := n1_; clear n0_ n1_; clear ho hb hg hat))
  go_loopg [5, 6] k (fun kq v5 v6 w' => ∃ (x4_1 : List Int) (x5_1 : Int) (x6_1 : Int), v5 = .int .i64 x5_1 ∧ v6 = .int .i64 x6_1 ∧ Aside0 (torusref07_Sorted.l0 kq x4_1 x5_1 x6_1 = some (r1, r2)) ∧ Aside0 (kq ≤ k) ∧ Aside0 (Kd.R (Kd.int .i64) 3 w' w.heap.size (fun _ => True) v299 x4_1) ∧ Aside0 (Below w.heap.size w w'))
  case atStart => exact ⟨(y298), (0), (0), sd_, sd_, H', ⟨Nat.le_refl _⟩, ⟨rRa_ HO300.out⟩, ⟨bw_⟩⟩
  case round =>
   clear H'
   try clear c2
   try clear p2
   try clear c4
   obtain ⟨x4_1, x5_1, x6_1, rfl, rfl, HA, HK1, HO_4, HB⟩ := hrel
   cases gk with
   |zero => exact absurd HA.out (by simp [torusref07_Sorted.l0])
   |succ k1 =>
    have H := HA.out
    clear HA
    simp only [torusref07_Sorted.l0] at H
    by_cases c6 : x6_1 < (x4_1.length : Int)
    ·rw [if_pos c6] at H
     have c6b0 : decide (x6_1 < (x4_1.length : Int)) = true := decide_eq_true c6
     clear c6
     have H' := Aside0.mk H
     clear H
     obtain ⟨Ao7, co7, eo7⟩ := Kd.R_slice HO_4.out
     subst eo7
     go_wp2
     go_loopg [5, 7] k1 (fun kq v5 v7 w' => ∃ (x4_2 : List Int) (x5_2 : Int) (x7_2 : Int), v5 = .int .i64 x5_2 ∧ v7 = .int .i64 x7_2 ∧ Aside0 (torusref07_Sorted.l1 kq x4_2 x5_2 x6_1 x7_2 = some (r1, r2)) ∧ Aside0 (kq ≤ k1) ∧ Aside0 (Kd.R (Kd.int .i64) 3 w' w.heap.size (fun _ => True) (.slice Ao7 x4_1.length co7) x4_2) ∧ Aside0 (Below w.heap.size w w'))
     case atStart => exact ⟨(x4_1), (x5_1), (x6_1), sd_, sd_, H', ⟨Nat.le_refl _⟩, ⟨rRa_ HO_4.out⟩, ⟨bw_⟩⟩
     case round =>
      clear H'
      try clear c2
      try clear p2
      try clear c4
      try clear c6
      try clear c6b0
      try clear p2
      obtain ⟨x4_2, x5_2, x7_2, rfl, rfl, HA, HK2, HO_4, HB⟩ := hrel
      have hl4_2 := (Kd.R_reads' HO_4.out).1
      rw [hl4_2] at HO_4
      (try simp only [hl4_2])
      cases gk with
      |zero => exact absurd HA.out (by simp [torusref07_Sorted.l1])
      |succ k2 =>
       have H := HA.out
       clear HA
       simp only [torusref07_Sorted.l1] at H
       by_cases c8 : x7_2 > 0
       ·rw [if_pos c8] at H
        have c8b0 : decide (0 < x7_2) = true := decide_eq_true c8
        clear c8
        obtain ⟨ji9, hji9⟩ : ∃ j_ : Int, (wrap64 (x7_2 - 1)) = j_ := ⟨_, rfl⟩
        replace H : (if 0 ≤ (ji9) then (if (ji9) < (x4_2.length : Int) then (if 0 ≤ x7_2 then (if x7_2 < (x4_2.length : Int) then (if (rd x4_2 (ji9)) > (rd x4_2 x7_2) then (torusref07_Sorted.l1 k2 ((x4_2.set ((ji9) : Int).toNat (rd x4_2 x7_2)).set (x7_2 : Int).toNat (rd x4_2 (ji9))) (wrap64 (1 - x5_2)) x6_1 ji9) else (torusref07_Sorted.l0 k2 x4_2 x5_2 (wrap64 (x6_1 + 1)))) else (none)) else (none)) else (none)) else (none)) = some (r1, r2) := by first | (rw [hji9] at H; exact H) | (simp only [hji9] at H ⊢; exact H)
        have hji9w : (IntKind.i64.wrap (x7_2 - 1)) = ji9 := (i64_w _).trans hji9
        by_cases c10 : 0 ≤ (ji9)
        ·rw [if_pos c10] at H
         have c10b0 : decide (0 ≤ (ji9)) = true := decide_eq_true c10
         clear c10
         by_cases c11 : (ji9) < (x4_2.length : Int)
         ·rw [if_pos c11] at H
          have c11b0 : decide ((ji9) < (x4_2.length : Int)) = true := decide_eq_true c11
          clear c11
          by_cases c12 : 0 ≤ x7_2
          ·rw [if_pos c12] at H
           have c12b0 : decide (0 ≤ x7_2) = true := decide_eq_true c12
           clear c12
           by_cases c13 : x7_2 < (x4_2.length : Int)
           ·rw [if_pos c13] at H
            have c13b0 : decide (x7_2 < (x4_2.length : Int)) = true := decide_eq_true c13
            clear c13
            by_cases c14 : (rd x4_2 (ji9)) > (rd x4_2 x7_2)
            ·rw [if_pos c14] at H
             have c14b0 : decide ((rd x4_2 x7_2) < (rd x4_2 (ji9))) = true := decide_eq_true c14
             clear c14
             obtain ⟨y305, hy305⟩ : ∃ y_ : List Int, y_ = (x4_2.set ((ji9) : Int).toNat (rd x4_2 x7_2)) := ⟨_, rfl⟩
             replace H : (torusref07_Sorted.l1 k2 (y305.set (x7_2 : Int).toNat (rd x4_2 (ji9))) (wrap64 (1 - x5_2)) x6_1 ji9) = some (r1, r2) := by first | (rw [hy305]; with_reducible exact H) | (have H2_ := (Option.bind_some _ _).symm.trans H; rw [hy305]; with_reducible exact H2_) | (have H2_ := (Option.bind_some _ _).symm.trans H; with_reducible exact H2_) | with_reducible exact H | (rw [hy305]; exact H) | exact H
             have Ny305 := Aside0.mk hy305
             clear hy305
             obtain ⟨y306, hy306⟩ : ∃ y_ : List Int, y_ = (y305.set (x7_2 : Int).toNat (rd x4_2 (ji9))) := ⟨_, rfl⟩
             replace H : (torusref07_Sorted.l1 k2 y306 (wrap64 (1 - x5_2)) x6_1 ji9) = some (r1, r2) := by first | (rw [hy306]; with_reducible exact H) | (have H2_ := (Option.bind_some _ _).symm.trans H; rw [hy306]; with_reducible exact H2_) | (have H2_ := (Option.bind_some _ _).symm.trans H; with_reducible exact H2_) | with_reducible exact H | (rw [hy306]; exact H) | exact H
             have Ny306 := Aside0.mk hy306
             clear hy306
             have H' := Aside0.mk H
             clear H
             try go_wp2
             have n0_ := Aside0.mk (Kd.R_drew HO_4.out)
             have n1_ := Aside0.mk (below_drew1 HB.out)
             clear HO_4
             clear HB
             have HO_4 := n0_
             have HB := n1_
             clear n0_ n1_
             have p301 : 0 ≤ ((ji9) : Int) := of_decide_eq_true as_
             have q301 : (ji9) < (x4_2.length : Int) := of_decide_eq_true as_
             obtain ⟨ad301, e301, hx301_0⟩ := Kd.at_int (Kd.R_reads' HO_4.out).2.2 (ji9) p301 q301
             cases e301
             replace p301 := eq_true p301
             replace q301 := eq_true q301
             have p302 : 0 ≤ (x7_2 : Int) := of_decide_eq_true as_
             have q302 : x7_2 < (x4_2.length : Int) := of_decide_eq_true as_
             obtain ⟨ad302, e302, hx302_0⟩ := Kd.at_int (Kd.R_reads' HO_4.out).2.2 x7_2 p302 q302
             obtain rfl : ad301 = ad302 := (by injection e302)
             replace p302 := eq_true p302
             replace q302 := eq_true q302
             refine start_ (n := 14) (S := fun w' => w'.cell? (ad301.add ((ji9)).toNat) = some (.int .i64 (rd x4_2 (ji9))) ∧ w'.cell? (ad301.add (x7_2).toNat) = some (.int .i64 (rd x4_2 x7_2))) (ds := []) #[false, false, false, false, false, false, false, false, false, false, false, false, false, false] (by kernel_rfl) rfl rfl ⟨hx301_0, hx302_0⟩ (fun hHeld => ?_); refine with_tabW torusref07_Sorted.tab7 torusref07_Sorted.bits7 (fun HT_ HW_ => ?_)
             generalize wr.drew = w17 at HO_4 HB hx301_0 hx302_0 hHeld ⊢
             refine pure_ (i := 0) (N := some 18) (v := ?_) (a' := ?_) #[true, false, false, false, false, false, false, false, false, false, false, false, false, false] rfl rfl (any_of HT_.out (by kernel_rfl)) (fun _ _ _ h => h) (Or.inl ⟨by rfl, ?_⟩) ?_ ?_
             rotate_left
             ·intro w'
              go_simp
              with_reducible rfl
             rotate_left
             ·simp only [Act.put, List.setIfInBounds_toArray, List.set_cons_zero, List.set_cons_succ, i64_w, i32_w]
              rfl
             refine pure_ (i := 1) (N := some 19) (v := ?_) (a' := ?_) #[true, true, false, false, false, false, false, false, false, false, false, false, false, false] rfl rfl (any_of HT_.out (by kernel_rfl)) (fun _ _ _ h => h) (Or.inl ⟨by rfl, ?_⟩) ?_ ?_
             rotate_left
             ·intro w'
              go_simp
              with_reducible rfl
             rotate_left
             ·simp only [Act.put, List.setIfInBounds_toArray, List.set_cons_zero, List.set_cons_succ, i64_w, i32_w]
              rfl
             refine pure_ (i := 2) (N := some 20) (v := ?_) (a' := ?_) #[true, true, true, false, false, false, false, false, false, false, false, false, false, false] rfl rfl (any_of HT_.out (by kernel_rfl)) (fun _ _ _ h => h) (Or.inl ⟨by rfl, ?_⟩) ?_ ?_
             rotate_left
             ·intro w'
              go_simp
              with_reducible rfl
             rotate_left
             ·simp only [Act.put, List.setIfInBounds_toArray, List.set_cons_zero, List.set_cons_succ, i64_w, i32_w]
              rfl
             refine pure_ (i := 3) (N := some 21) (v := ?_) (a' := ?_) #[true, true, true, true, false, false, false, false, false, false, false, false, false, false] rfl rfl (any_of HT_.out (by kernel_rfl)) (fun _ _ _ h => h) (Or.inl ⟨by rfl, ?_⟩) ?_ ?_
             rotate_left
             ·intro w'
              go_simp
              with_reducible rfl
             rotate_left
             ·simp only [Act.put, List.setIfInBounds_toArray, List.set_cons_zero, List.set_cons_succ, i64_w, i32_w]
              rfl
             refine pure_ (i := 4) (N := some 22) (v := ?_) (a' := ?_) #[true, true, true, true, true, false, false, false, false, false, false, false, false, false] rfl rfl (any_of HT_.out (by kernel_rfl)) (fun _ _ _ h => h) (Or.inl ⟨by rfl, ?_⟩) ?_ ?_
             rotate_left
             ·intro w'
              go_simp
              with_reducible rfl
             rotate_left
             ·simp only [Act.put, List.setIfInBounds_toArray, List.set_cons_zero, List.set_cons_succ, i64_w, i32_w]
              rfl
             refine pure_ (i := 5) (N := some 23) (v := ?_) (a' := ?_) #[true, true, true, true, true, true, false, false, false, false, false, false, false, false] rfl rfl (any_of HT_.out (by kernel_rfl)) (fun _ _ _ h => h) (Or.inl ⟨by rfl, ?_⟩) ?_ ?_
             rotate_left
             ·intro w'
              go_simp
              with_reducible rfl
             rotate_left
             ·simp only [Act.put, List.setIfInBounds_toArray, List.set_cons_zero, List.set_cons_succ, i64_w, i32_w]
              rfl
             refine pure_ (i := 6) (N := some 24) (v := ?_) (a' := ?_) #[true, true, true, true, true, true, true, false, false, false, false, false, false, false] rfl rfl (any_of HT_.out (by kernel_rfl)) (fun _ _ _ h => h) (Or.inl ⟨by rfl, ?_⟩) ?_ ?_
             rotate_left
             ·intro w'
              go_simp
              with_reducible rfl
             rotate_left
             ·simp only [Act.put, List.setIfInBounds_toArray, List.set_cons_zero, List.set_cons_succ, i64_w, i32_w]
              rfl
             refine pure_ (i := 8) (N := some 26) (v := ?_) (a' := ?_) #[true, true, true, true, true, true, true, false, true, false, false, false, false, false] rfl rfl (any_of HT_.out (by kernel_rfl)) (fun _ _ _ h => h) (Or.inl ⟨by rfl, ?_⟩) ?_ ?_
             rotate_left
             ·intro w'
              go_simp
              with_reducible rfl
             rotate_left
             ·simp only [Act.put, List.setIfInBounds_toArray, List.set_cons_zero, List.set_cons_succ, i64_w, i32_w]
              rfl
             refine pure_ (i := 9) (N := some 27) (v := ?_) (a' := ?_) #[true, true, true, true, true, true, true, false, true, true, false, false, false, false] rfl rfl (any_of HT_.out (by kernel_rfl)) (fun _ _ _ h => h) (Or.inl ⟨by rfl, ?_⟩) ?_ ?_
             rotate_left
             ·intro w'
              go_simp
              with_reducible rfl
             rotate_left
             ·simp only [Act.put, List.setIfInBounds_toArray, List.set_cons_zero, List.set_cons_succ, i64_w, i32_w]
              rfl
             refine pure_ (i := 10) (N := some 28) (v := ?_) (a' := ?_) #[true, true, true, true, true, true, true, false, true, true, true, false, false, false] rfl rfl (any_of HT_.out (by kernel_rfl)) (fun _ _ _ h => h) (Or.inl ⟨by rfl, ?_⟩) ?_ ?_
             rotate_left
             ·intro w'
              go_simp
              with_reducible rfl
             rotate_left
             ·simp only [Act.put, List.setIfInBounds_toArray, List.set_cons_zero, List.set_cons_succ, i64_w, i32_w]
              rfl
             refine take_ (i := 7) (N := some 25) (v := ?_) (a' := ?_) #[true, true, true, true, true, true, true, true, true, true, true, false, false, false] rfl rfl (take_ofW HT_.out HW_.out (by kernel_rfl)) (fun _ _ _ h => h) (Or.inl ⟨by rfl, ?_⟩) hHeld ?_ ?_
             rotate_left
             ·rintro w' ⟨s0, s1⟩
              go_simp
              with_reducible rfl
             rotate_left
             ·simp only [Act.put, List.setIfInBounds_toArray, List.set_cons_zero, List.set_cons_succ, i64_w, i32_w]
              rfl
             refine take_ (i := 11) (N := some 29) (v := ?_) (a' := ?_) #[true, true, true, true, true, true, true, true, true, true, true, true, false, false] rfl rfl (take_ofW HT_.out HW_.out (by kernel_rfl)) (fun _ _ _ h => h) (Or.inl ⟨by rfl, ?_⟩) hHeld ?_ ?_
             rotate_left
             ·rintro w' ⟨s0, s1⟩
              go_simp
              with_reducible rfl
             rotate_left
             ·simp only [Act.put, List.setIfInBounds_toArray, List.set_cons_zero, List.set_cons_succ, i64_w, i32_w]
              rfl
             refine pure_ (i := 12) (N := some 30) (v := ?_) (a' := ?_) #[true, true, true, true, true, true, true, true, true, true, true, true, true, false] rfl rfl (any_of HT_.out (by kernel_rfl)) (fun _ _ _ h => h) (Or.inl ⟨by rfl, ?_⟩) ?_ ?_
             rotate_left
             ·intro w'
              go_simp
              with_reducible rfl
             rotate_left
             ·simp only [Act.put, List.setIfInBounds_toArray, List.set_cons_zero, List.set_cons_succ, i64_w, i32_w]
              rfl
             refine pure_ (i := 13) (N := some 31) (v := ?_) (a' := ?_) #[true, true, true, true, true, true, true, true, true, true, true, true, true, true] rfl rfl (any_of HT_.out (by kernel_rfl)) (fun _ _ _ h => h) (Or.inl ⟨by rfl, ?_⟩) ?_ ?_
             rotate_left
             ·intro w'
              go_simp
              with_reducible rfl
             rotate_left
             ·simp only [Act.put, List.setIfInBounds_toArray, List.set_cons_zero, List.set_cons_succ, i64_w, i32_w]
              rfl
             refine done_ (done_of HT_.out (by kernel_rfl)) ?_
             try go_wp2
             have n0_ := Aside0.mk (Kd.R_drew HO_4.out)
             have n1_ := Aside0.mk (below_drew1 HB.out)
             clear HO_4
             clear HB
             have HO_4 := n0_
             have HB := n1_
             clear n0_ n1_
             have p303 : 0 ≤ (x7_2 : Int) := of_decide_eq_true as_
             have q303 : x7_2 < (x4_2.length : Int) := of_decide_eq_true as_
             obtain ⟨ad303, e303, hx303_0⟩ := Kd.at_int (Kd.R_reads' HO_4.out).2.2 x7_2 p303 q303
             obtain rfl : ad301 = ad303 := (by injection e303)
             replace p303 := eq_true p303
             replace q303 := eq_true q303
             have p304 : 0 ≤ ((ji9) : Int) := of_decide_eq_true as_
             have q304 : (ji9) < (x4_2.length : Int) := of_decide_eq_true as_
             obtain ⟨ad304, e304, hx304_0⟩ := Kd.at_int (Kd.R_reads' HO_4.out).2.2 (ji9) p304 q304
             obtain rfl : ad301 = ad304 := (by injection e304)
             replace p304 := eq_true p304
             replace q304 := eq_true q304
             have p15 : 0 ≤ ((ji9) : Int) := of_decide_eq_true as_
             have q15 : ((ji9) : Int) < ((x4_2.length : Int) : Int) := of_decide_eq_true as_
             obtain ⟨go15, co15, eo15, gb15, gl15, cl15, HG15⟩ := Kd.R_form HO_4.out (by omega)
             (first | cases eo15 | (injection eo15 with ea_ en_ ec_; (first | subst ea_ | (injection ea_ with ea_; subst ea_)); subst ec_; clear en_))
             have GB15 := Aside0.mk gb15
             have GG15 := Aside0.mk HG15
             clear gb15 gl15 HG15
             (first | simp only [add_plain] at hx301_0 | skip)
             (first | simp only [add_plain] at hx302_0 | skip)
             (first | simp only [add_plain] at hx303_0 | skip)
             (first | simp only [add_plain] at hx304_0 | skip)
             obtain ⟨hx15_0, hf15_0⟩ := Kd.R_celln 0 HO_4.out ((ji9) : Int) p15 q15
             replace p15 := eq_true p15
             replace q15 := eq_true q15
             have HP19 := Kd.R_putn HO_4.out ((ji9) : Int) (rd x4_2 x7_2)
             rw [← Ny305.out] at HP19
             have HQ19 := Aside0.mk HP19
             clear HP19
             have p16 : 0 ≤ (x7_2 : Int) := of_decide_eq_true as_
             have q16 : (x7_2 : Int) < ((x4_2.length : Int) : Int) := of_decide_eq_true as_
             obtain ⟨hx16_0, hf16_0⟩ := Kd.R_celln 0 HQ19.out (x7_2 : Int) p16 q16
             replace p16 := eq_true p16
             replace q16 := eq_true q16
             have HP20 := Kd.R_putn HQ19.out (x7_2 : Int) (rd x4_2 (ji9))
             rw [← Ny306.out] at HP20
             have HQ20 := Aside0.mk HP20
             clear HP20
             refine start_ (n := 18) (S := fun w' => w'.cell? ⟨go15, (x7_2).toNat, none⟩ = some (.int .i64 (rd x4_2 x7_2)) ∧ w'.cell? ⟨go15, ((ji9)).toNat, none⟩ = some (.int .i64 (rd x4_2 (ji9)))) (ds := [15, 17]) #[false, false, false, false, false, false, false, false, false, false, false, false, false, false, false, false, false, false] (by kernel_rfl) rfl rfl ⟨hx303_0, hx304_0⟩ (fun hHeld => ?_); refine with_tabW torusref07_Sorted.tab9 torusref07_Sorted.bits9 (fun HT_ HW_ => ?_)
             generalize w17.drew = w18 at HO_4 HB GG15 HQ19 HQ20 hf15_0 hf16_0 hx15_0 hx16_0 hx301_0 hx302_0 hx303_0 hx304_0 hHeld ⊢
             refine pure_ (i := 0) (N := some 34) (v := ?_) (a' := ?_) #[true, false, false, false, false, false, false, false, false, false, false, false, false, false, false, false, false, false] rfl rfl (any_of HT_.out (by kernel_rfl)) (fun _ _ _ h => h) (Or.inl ⟨by rfl, ?_⟩) ?_ ?_
             rotate_left
             ·intro w'
              go_simp
              with_reducible rfl
             rotate_left
             ·simp only [Act.put, List.setIfInBounds_toArray, List.set_cons_zero, List.set_cons_succ, i64_w, i32_w]
              rfl
             refine pure_ (i := 1) (N := some 35) (v := ?_) (a' := ?_) #[true, true, false, false, false, false, false, false, false, false, false, false, false, false, false, false, false, false] rfl rfl (any_of HT_.out (by kernel_rfl)) (fun _ _ _ h => h) (Or.inl ⟨by rfl, ?_⟩) ?_ ?_
             rotate_left
             ·intro w'
              go_simp
              with_reducible rfl
             rotate_left
             ·simp only [Act.put, List.setIfInBounds_toArray, List.set_cons_zero, List.set_cons_succ, i64_w, i32_w]
              rfl
             refine pure_ (i := 2) (N := some 36) (v := ?_) (a' := ?_) #[true, true, true, false, false, false, false, false, false, false, false, false, false, false, false, false, false, false] rfl rfl (any_of HT_.out (by kernel_rfl)) (fun _ _ _ h => h) (Or.inl ⟨by rfl, ?_⟩) ?_ ?_
             rotate_left
             ·intro w'
              go_simp
              with_reducible rfl
             rotate_left
             ·simp only [Act.put, List.setIfInBounds_toArray, List.set_cons_zero, List.set_cons_succ, i64_w, i32_w]
              rfl
             refine pure_ (i := 3) (N := some 37) (v := ?_) (a' := ?_) #[true, true, true, true, false, false, false, false, false, false, false, false, false, false, false, false, false, false] rfl rfl (any_of HT_.out (by kernel_rfl)) (fun _ _ _ h => h) (Or.inl ⟨by rfl, ?_⟩) ?_ ?_
             rotate_left
             ·intro w'
              go_simp
              with_reducible rfl
             rotate_left
             ·simp only [Act.put, List.setIfInBounds_toArray, List.set_cons_zero, List.set_cons_succ, i64_w, i32_w]
              rfl
             refine pure_ (i := 4) (N := some 38) (v := ?_) (a' := ?_) #[true, true, true, true, true, false, false, false, false, false, false, false, false, false, false, false, false, false] rfl rfl (any_of HT_.out (by kernel_rfl)) (fun _ _ _ h => h) (Or.inl ⟨by rfl, ?_⟩) ?_ ?_
             rotate_left
             ·intro w'
              go_simp
              with_reducible rfl
             rotate_left
             ·simp only [Act.put, List.setIfInBounds_toArray, List.set_cons_zero, List.set_cons_succ, i64_w, i32_w]
              rfl
             refine pure_ (i := 5) (N := some 39) (v := ?_) (a' := ?_) #[true, true, true, true, true, true, false, false, false, false, false, false, false, false, false, false, false, false] rfl rfl (any_of HT_.out (by kernel_rfl)) (fun _ _ _ h => h) (Or.inl ⟨by rfl, ?_⟩) ?_ ?_
             rotate_left
             ·intro w'
              go_simp
              with_reducible rfl
             rotate_left
             ·simp only [Act.put, List.setIfInBounds_toArray, List.set_cons_zero, List.set_cons_succ, i64_w, i32_w]
              rfl
             refine pure_ (i := 6) (N := some 40) (v := ?_) (a' := ?_) #[true, true, true, true, true, true, true, false, false, false, false, false, false, false, false, false, false, false] rfl rfl (any_of HT_.out (by kernel_rfl)) (fun _ _ _ h => h) (Or.inl ⟨by rfl, ?_⟩) ?_ ?_
             rotate_left
             ·intro w'
              go_simp
              with_reducible rfl
             rotate_left
             ·simp only [Act.put, List.setIfInBounds_toArray, List.set_cons_zero, List.set_cons_succ, i64_w, i32_w]
              rfl
             refine pure_ (i := 7) (N := some 41) (v := ?_) (a' := ?_) #[true, true, true, true, true, true, true, true, false, false, false, false, false, false, false, false, false, false] rfl rfl (any_of HT_.out (by kernel_rfl)) (fun _ _ _ h => h) (Or.inl ⟨by rfl, ?_⟩) ?_ ?_
             rotate_left
             ·intro w'
              go_simp
              with_reducible rfl
             rotate_left
             ·simp only [Act.put, List.setIfInBounds_toArray, List.set_cons_zero, List.set_cons_succ, i64_w, i32_w]
              rfl
             refine pure_ (i := 9) (N := some 43) (v := ?_) (a' := ?_) #[true, true, true, true, true, true, true, true, false, true, false, false, false, false, false, false, false, false] rfl rfl (any_of HT_.out (by kernel_rfl)) (fun _ _ _ h => h) (Or.inl ⟨by rfl, ?_⟩) ?_ ?_
             rotate_left
             ·intro w'
              go_simp
              with_reducible rfl
             rotate_left
             ·simp only [Act.put, List.setIfInBounds_toArray, List.set_cons_zero, List.set_cons_succ, i64_w, i32_w]
              rfl
             refine pure_ (i := 10) (N := some 44) (v := ?_) (a' := ?_) #[true, true, true, true, true, true, true, true, false, true, true, false, false, false, false, false, false, false] rfl rfl (any_of HT_.out (by kernel_rfl)) (fun _ _ _ h => h) (Or.inl ⟨by rfl, ?_⟩) ?_ ?_
             rotate_left
             ·intro w'
              go_simp
              with_reducible rfl
             rotate_left
             ·simp only [Act.put, List.setIfInBounds_toArray, List.set_cons_zero, List.set_cons_succ, i64_w, i32_w]
              rfl
             refine pure_ (i := 11) (N := some 45) (v := ?_) (a' := ?_) #[true, true, true, true, true, true, true, true, false, true, true, true, false, false, false, false, false, false] rfl rfl (any_of HT_.out (by kernel_rfl)) (fun _ _ _ h => h) (Or.inl ⟨by rfl, ?_⟩) ?_ ?_
             rotate_left
             ·intro w'
              go_simp
              with_reducible rfl
             rotate_left
             ·simp only [Act.put, List.setIfInBounds_toArray, List.set_cons_zero, List.set_cons_succ, i64_w, i32_w]
              rfl
             refine pure_ (i := 12) (N := some 46) (v := ?_) (a' := ?_) #[true, true, true, true, true, true, true, true, false, true, true, true, true, false, false, false, false, false] rfl rfl (any_of HT_.out (by kernel_rfl)) (fun _ _ _ h => h) (Or.inl ⟨by rfl, ?_⟩) ?_ ?_
             rotate_left
             ·intro w'
              go_simp
              with_reducible rfl
             rotate_left
             ·simp only [Act.put, List.setIfInBounds_toArray, List.set_cons_zero, List.set_cons_succ, i64_w, i32_w]
              rfl
             refine take_ (i := 8) (N := some 42) (v := ?_) (a' := ?_) #[true, true, true, true, true, true, true, true, true, true, true, true, true, false, false, false, false, false] rfl rfl (take_ofW HT_.out HW_.out (by kernel_rfl)) (fun _ _ _ h => h) (Or.inl ⟨by rfl, ?_⟩) hHeld ?_ ?_
             rotate_left
             ·rintro w' ⟨s0, s1⟩
              go_simp
              with_reducible rfl
             rotate_left
             ·simp only [Act.put, List.setIfInBounds_toArray, List.set_cons_zero, List.set_cons_succ, i64_w, i32_w]
              rfl
             refine take_ (i := 13) (N := some 47) (v := ?_) (a' := ?_) #[true, true, true, true, true, true, true, true, true, true, true, true, true, true, false, false, false, false] rfl rfl (take_ofW HT_.out HW_.out (by kernel_rfl)) (fun _ _ _ h => h) (Or.inl ⟨by rfl, ?_⟩) hHeld ?_ ?_
             rotate_left
             ·rintro w' ⟨s0, s1⟩
              go_simp
              with_reducible rfl
             rotate_left
             ·simp only [Act.put, List.setIfInBounds_toArray, List.set_cons_zero, List.set_cons_succ, i64_w, i32_w]
              rfl
             refine pure_ (i := 14) (N := some 48) (v := ?_) (a' := ?_) #[true, true, true, true, true, true, true, true, true, true, true, true, true, true, true, false, false, false] rfl rfl (any_of HT_.out (by kernel_rfl)) (fun _ _ _ h => h) (Or.inl ⟨by rfl, ?_⟩) ?_ ?_
             rotate_left
             ·intro w'
              go_simp
              with_reducible rfl
             rotate_left
             ·simp only [Act.put, List.setIfInBounds_toArray, List.set_cons_zero, List.set_cons_succ, i64_w, i32_w]
              rfl
             refine last_ (i := 15) (N := none) #[true, true, true, true, true, true, true, true, true, true, true, true, true, true, true, true, false, false] rfl rfl (one_of HT_.out (by kernel_rfl)) (by decide) (fun K hK => ?_)
             refine skip_ (w1 := ?_) (by rfl) rfl ?_ ?_
             rotate_left
             ·go_simp
              rfl
             refine hK.out _ _ ?_
             clear hK K
             refine pure_ (i := 16) (N := some 49) (v := ?_) (a' := ?_) #[true, true, true, true, true, true, true, true, true, true, true, true, true, true, true, true, true, false] rfl rfl (any_of HT_.out (by kernel_rfl)) (fun _ _ _ h => h) (Or.inl ⟨by rfl, ?_⟩) ?_ ?_
             rotate_left
             ·intro w'
              go_simp
              with_reducible rfl
             rotate_left
             ·simp only [Act.put, List.setIfInBounds_toArray, List.set_cons_zero, List.set_cons_succ, i64_w, i32_w]
              rfl
             refine last_ (i := 17) (N := none) #[true, true, true, true, true, true, true, true, true, true, true, true, true, true, true, true, true, true] rfl rfl (one_of HT_.out (by kernel_rfl)) (by decide) (fun K hK => ?_)
             refine skip_ (w1 := ?_) (by rfl) rfl ?_ ?_
             rotate_left
             ·go_simp
              rfl
             refine hK.out _ _ ?_
             clear hK K
             refine done_ (done_of HT_.out (by kernel_rfl)) ?_
             try go_wp2
             (try simp only [← hl4_2])
             go_roundg k2
             case measure => have := HK1.out; have := HK2.out; omega
             case rel => exact ⟨(y306), (wrap64 (1 - x5_2)), (ji9), sd_, (by first | rfl | (simp; done) | (simp only [← hji9] <;> (first | rfl | simp)) | (simp [*]; done)), H', ⟨by have := HK1.out; have := HK2.out; omega⟩, ⟨by (try simp only [hl4_2]); (with_reducible repeat (first | apply Kd.R_alloc | apply Kd.R_drewN | apply Kd.R_drew)); exact HQ20.out⟩, ⟨by repeat (first | (with_reducible first | exact HB.out | apply below_alloc | apply pw_below_drewN | apply below_drew1 | refine below_set ?_ GB15.out | refine below_set ?_ GB15.out) | exact HB.out)⟩⟩
            ·rw [if_neg c14] at H
             have c14b0 : decide ((rd x4_2 x7_2) < (rd x4_2 (ji9))) = false := decide_eq_false c14
             clear c14
             have H' := Aside0.mk H
             clear H
             try go_wp2
             have n0_ := Aside0.mk (Kd.R_drew HO_4.out)
             have n1_ := Aside0.mk (below_drew1 HB.out)
             clear HO_4
             clear HB
             have HO_4 := n0_
             have HB := n1_
             clear n0_ n1_
             have p301 : 0 ≤ ((ji9) : Int) := of_decide_eq_true as_
             have q301 : (ji9) < (x4_2.length : Int) := of_decide_eq_true as_
             obtain ⟨ad301, e301, hx301_0⟩ := Kd.at_int (Kd.R_reads' HO_4.out).2.2 (ji9) p301 q301
             cases e301
             replace p301 := eq_true p301
             replace q301 := eq_true q301
             have p302 : 0 ≤ (x7_2 : Int) := of_decide_eq_true as_
             have q302 : x7_2 < (x4_2.length : Int) := of_decide_eq_true as_
             obtain ⟨ad302, e302, hx302_0⟩ := Kd.at_int (Kd.R_reads' HO_4.out).2.2 x7_2 p302 q302
             obtain rfl : ad301 = ad302 := (by injection e302)
             replace p302 := eq_true p302
             replace q302 := eq_true q302
             refine start_ (n := 14) (S := fun w' => w'.cell? (ad301.add ((ji9)).toNat) = some (.int .i64 (rd x4_2 (ji9))) ∧ w'.cell? (ad301.add (x7_2).toNat) = some (.int .i64 (rd x4_2 x7_2))) (ds := []) #[false, false, false, false, false, false, false, false, false, false, false, false, false, false] (by kernel_rfl) rfl rfl ⟨hx301_0, hx302_0⟩ (fun hHeld => ?_); refine with_tabW torusref07_Sorted.tab7 torusref07_Sorted.bits7 (fun HT_ HW_ => ?_)
             generalize wr.drew = w21 at HO_4 HB hx301_0 hx302_0 hHeld ⊢
             refine pure_ (i := 0) (N := some 18) (v := ?_) (a' := ?_) #[true, false, false, false, false, false, false, false, false, false, false, false, false, false] rfl rfl (any_of HT_.out (by kernel_rfl)) (fun _ _ _ h => h) (Or.inl ⟨by rfl, ?_⟩) ?_ ?_
             rotate_left
             ·intro w'
              go_simp
              with_reducible rfl
             rotate_left
             ·simp only [Act.put, List.setIfInBounds_toArray, List.set_cons_zero, List.set_cons_succ, i64_w, i32_w]
              rfl
             refine pure_ (i := 1) (N := some 19) (v := ?_) (a' := ?_) #[true, true, false, false, false, false, false, false, false, false, false, false, false, false] rfl rfl (any_of HT_.out (by kernel_rfl)) (fun _ _ _ h => h) (Or.inl ⟨by rfl, ?_⟩) ?_ ?_
             rotate_left
             ·intro w'
              go_simp
              with_reducible rfl
             rotate_left
             ·simp only [Act.put, List.setIfInBounds_toArray, List.set_cons_zero, List.set_cons_succ, i64_w, i32_w]
              rfl
             refine pure_ (i := 2) (N := some 20) (v := ?_) (a' := ?_) #[true, true, true, false, false, false, false, false, false, false, false, false, false, false] rfl rfl (any_of HT_.out (by kernel_rfl)) (fun _ _ _ h => h) (Or.inl ⟨by rfl, ?_⟩) ?_ ?_
             rotate_left
             ·intro w'
              go_simp
              with_reducible rfl
             rotate_left
             ·simp only [Act.put, List.setIfInBounds_toArray, List.set_cons_zero, List.set_cons_succ, i64_w, i32_w]
              rfl
             refine pure_ (i := 3) (N := some 21) (v := ?_) (a' := ?_) #[true, true, true, true, false, false, false, false, false, false, false, false, false, false] rfl rfl (any_of HT_.out (by kernel_rfl)) (fun _ _ _ h => h) (Or.inl ⟨by rfl, ?_⟩) ?_ ?_
             rotate_left
             ·intro w'
              go_simp
              with_reducible rfl
             rotate_left
             ·simp only [Act.put, List.setIfInBounds_toArray, List.set_cons_zero, List.set_cons_succ, i64_w, i32_w]
              rfl
             refine pure_ (i := 4) (N := some 22) (v := ?_) (a' := ?_) #[true, true, true, true, true, false, false, false, false, false, false, false, false, false] rfl rfl (any_of HT_.out (by kernel_rfl)) (fun _ _ _ h => h) (Or.inl ⟨by rfl, ?_⟩) ?_ ?_
             rotate_left
             ·intro w'
              go_simp
              with_reducible rfl
             rotate_left
             ·simp only [Act.put, List.setIfInBounds_toArray, List.set_cons_zero, List.set_cons_succ, i64_w, i32_w]
              rfl
             refine pure_ (i := 5) (N := some 23) (v := ?_) (a' := ?_) #[true, true, true, true, true, true, false, false, false, false, false, false, false, false] rfl rfl (any_of HT_.out (by kernel_rfl)) (fun _ _ _ h => h) (Or.inl ⟨by rfl, ?_⟩) ?_ ?_
             rotate_left
             ·intro w'
              go_simp
              with_reducible rfl
             rotate_left
             ·simp only [Act.put, List.setIfInBounds_toArray, List.set_cons_zero, List.set_cons_succ, i64_w, i32_w]
              rfl
             refine pure_ (i := 6) (N := some 24) (v := ?_) (a' := ?_) #[true, true, true, true, true, true, true, false, false, false, false, false, false, false] rfl rfl (any_of HT_.out (by kernel_rfl)) (fun _ _ _ h => h) (Or.inl ⟨by rfl, ?_⟩) ?_ ?_
             rotate_left
             ·intro w'
              go_simp
              with_reducible rfl
             rotate_left
             ·simp only [Act.put, List.setIfInBounds_toArray, List.set_cons_zero, List.set_cons_succ, i64_w, i32_w]
              rfl
             refine pure_ (i := 8) (N := some 26) (v := ?_) (a' := ?_) #[true, true, true, true, true, true, true, false, true, false, false, false, false, false] rfl rfl (any_of HT_.out (by kernel_rfl)) (fun _ _ _ h => h) (Or.inl ⟨by rfl, ?_⟩) ?_ ?_
             rotate_left
             ·intro w'
              go_simp
              with_reducible rfl
             rotate_left
             ·simp only [Act.put, List.setIfInBounds_toArray, List.set_cons_zero, List.set_cons_succ, i64_w, i32_w]
              rfl
             refine pure_ (i := 9) (N := some 27) (v := ?_) (a' := ?_) #[true, true, true, true, true, true, true, false, true, true, false, false, false, false] rfl rfl (any_of HT_.out (by kernel_rfl)) (fun _ _ _ h => h) (Or.inl ⟨by rfl, ?_⟩) ?_ ?_
             rotate_left
             ·intro w'
              go_simp
              with_reducible rfl
             rotate_left
             ·simp only [Act.put, List.setIfInBounds_toArray, List.set_cons_zero, List.set_cons_succ, i64_w, i32_w]
              rfl
             refine pure_ (i := 10) (N := some 28) (v := ?_) (a' := ?_) #[true, true, true, true, true, true, true, false, true, true, true, false, false, false] rfl rfl (any_of HT_.out (by kernel_rfl)) (fun _ _ _ h => h) (Or.inl ⟨by rfl, ?_⟩) ?_ ?_
             rotate_left
             ·intro w'
              go_simp
              with_reducible rfl
             rotate_left
             ·simp only [Act.put, List.setIfInBounds_toArray, List.set_cons_zero, List.set_cons_succ, i64_w, i32_w]
              rfl
             refine take_ (i := 7) (N := some 25) (v := ?_) (a' := ?_) #[true, true, true, true, true, true, true, true, true, true, true, false, false, false] rfl rfl (take_ofW HT_.out HW_.out (by kernel_rfl)) (fun _ _ _ h => h) (Or.inl ⟨by rfl, ?_⟩) hHeld ?_ ?_
             rotate_left
             ·rintro w' ⟨s0, s1⟩
              go_simp
              with_reducible rfl
             rotate_left
             ·simp only [Act.put, List.setIfInBounds_toArray, List.set_cons_zero, List.set_cons_succ, i64_w, i32_w]
              rfl
             refine take_ (i := 11) (N := some 29) (v := ?_) (a' := ?_) #[true, true, true, true, true, true, true, true, true, true, true, true, false, false] rfl rfl (take_ofW HT_.out HW_.out (by kernel_rfl)) (fun _ _ _ h => h) (Or.inl ⟨by rfl, ?_⟩) hHeld ?_ ?_
             rotate_left
             ·rintro w' ⟨s0, s1⟩
              go_simp
              with_reducible rfl
             rotate_left
             ·simp only [Act.put, List.setIfInBounds_toArray, List.set_cons_zero, List.set_cons_succ, i64_w, i32_w]
              rfl
             refine pure_ (i := 12) (N := some 30) (v := ?_) (a' := ?_) #[true, true, true, true, true, true, true, true, true, true, true, true, true, false] rfl rfl (any_of HT_.out (by kernel_rfl)) (fun _ _ _ h => h) (Or.inl ⟨by rfl, ?_⟩) ?_ ?_
             rotate_left
             ·intro w'
              go_simp
              with_reducible rfl
             rotate_left
             ·simp only [Act.put, List.setIfInBounds_toArray, List.set_cons_zero, List.set_cons_succ, i64_w, i32_w]
              rfl
             refine pure_ (i := 13) (N := some 31) (v := ?_) (a' := ?_) #[true, true, true, true, true, true, true, true, true, true, true, true, true, true] rfl rfl (any_of HT_.out (by kernel_rfl)) (fun _ _ _ h => h) (Or.inl ⟨by rfl, ?_⟩) ?_ ?_
             rotate_left
             ·intro w'
              go_simp
              with_reducible rfl
             rotate_left
             ·simp only [Act.put, List.setIfInBounds_toArray, List.set_cons_zero, List.set_cons_succ, i64_w, i32_w]
              rfl
             refine done_ (done_of HT_.out (by kernel_rfl)) ?_
             try go_wp2
             (try simp only [← hl4_2])
             go_roundg k2
             case measure => have := HK1.out; have := HK2.out; omega
             case rel => exact ⟨(x4_2), (x5_2), (wrap64 (x6_1 + 1)), sd_, sd_, H', ⟨by have := HK1.out; have := HK2.out; omega⟩, ⟨by (try simp only [hl4_2]); (with_reducible repeat (first | apply Kd.R_alloc | apply Kd.R_drewN | apply Kd.R_drew)); exact HO_4.out⟩, ⟨bw_⟩⟩
           ·rw [if_neg c13] at H
            exact absurd H (by simp)
          ·rw [if_neg c12] at H
           exact absurd H (by simp)
         ·rw [if_neg c11] at H
          exact absurd H (by simp)
        ·rw [if_neg c10] at H
         exact absurd H (by simp)
       ·rw [if_neg c8] at H
        have c8b0 : decide (0 < x7_2) = false := decide_eq_false c8
        clear c8
        have H' := Aside0.mk H
        clear H
        try go_wp2
        have n0_ := Aside0.mk (Kd.R_drew HO_4.out)
        have n1_ := Aside0.mk (below_drew1 HB.out)
        clear HO_4
        clear HB
        have HO_4 := n0_
        have HB := n1_
        clear n0_ n1_
        refine start_ (n := 14) (S := fun w' => True) (ds := []) #[false, false, false, false, false, false, false, false, false, false, false, false, false, false] (by kernel_rfl) rfl rfl trivial (fun hHeld => ?_); refine with_tabW torusref07_Sorted.tab7 torusref07_Sorted.bits7 (fun HT_ HW_ => ?_)
        generalize wr.drew = w22 at HO_4 HB hHeld ⊢
        refine pure_ (i := 0) (N := some 18) (v := ?_) (a' := ?_) #[true, false, false, false, false, false, false, false, false, false, false, false, false, false] rfl rfl (any_of HT_.out (by kernel_rfl)) (fun _ _ _ h => h) (Or.inl ⟨by rfl, ?_⟩) ?_ ?_
        rotate_left
        ·intro w'
         go_simp
         with_reducible rfl
        rotate_left
        ·simp only [Act.put, List.setIfInBounds_toArray, List.set_cons_zero, List.set_cons_succ, i64_w, i32_w]
         rfl
        refine pure_ (i := 1) (N := some 19) (v := ?_) (a' := ?_) #[true, true, false, false, false, false, false, false, false, false, false, false, false, false] rfl rfl (any_of HT_.out (by kernel_rfl)) (fun _ _ _ h => h) (Or.inl ⟨by rfl, ?_⟩) ?_ ?_
        rotate_left
        ·intro w'
         go_simp
         with_reducible rfl
        rotate_left
        ·simp only [Act.put, List.setIfInBounds_toArray, List.set_cons_zero, List.set_cons_succ, i64_w, i32_w]
         rfl
        refine pure_ (i := 2) (N := some 20) (v := ?_) (a' := ?_) #[true, true, true, false, false, false, false, false, false, false, false, false, false, false] rfl rfl (any_of HT_.out (by kernel_rfl)) (fun _ _ _ h => h) (Or.inl ⟨by rfl, ?_⟩) ?_ ?_
        rotate_left
        ·intro w'
         go_simp
         with_reducible rfl
        rotate_left
        ·simp only [Act.put, List.setIfInBounds_toArray, List.set_cons_zero, List.set_cons_succ, i64_w, i32_w]
         rfl
        refine pure_ (i := 3) (N := some 21) (v := undef) (a' := ?_) #[true, true, true, true, false, false, false, false, false, false, false, false, false, false] rfl rfl (any_of HT_.out (by kernel_rfl)) (fun _ _ _ h => h) (Or.inr ⟨by rfl, rfl⟩) ?_ ?_
        rotate_left
        ·simp only [Act.put, List.setIfInBounds_toArray, List.set_cons_zero, List.set_cons_succ, i64_w, i32_w]
         rfl
        refine pure_ (i := 4) (N := some 22) (v := undef) (a' := ?_) #[true, true, true, true, true, false, false, false, false, false, false, false, false, false] rfl rfl (any_of HT_.out (by kernel_rfl)) (fun _ _ _ h => h) (Or.inr ⟨by rfl, rfl⟩) ?_ ?_
        rotate_left
        ·simp only [Act.put, List.setIfInBounds_toArray, List.set_cons_zero, List.set_cons_succ, i64_w, i32_w]
         rfl
        refine pure_ (i := 5) (N := some 23) (v := undef) (a' := ?_) #[true, true, true, true, true, true, false, false, false, false, false, false, false, false] rfl rfl (any_of HT_.out (by kernel_rfl)) (fun _ _ _ h => h) (Or.inr ⟨by rfl, rfl⟩) ?_ ?_
        rotate_left
        ·simp only [Act.put, List.setIfInBounds_toArray, List.set_cons_zero, List.set_cons_succ, i64_w, i32_w]
         rfl
        refine pure_ (i := 6) (N := some 24) (v := undef) (a' := ?_) #[true, true, true, true, true, true, true, false, false, false, false, false, false, false] rfl rfl (any_of HT_.out (by kernel_rfl)) (fun _ _ _ h => h) (Or.inr ⟨by rfl, rfl⟩) ?_ ?_
        rotate_left
        ·simp only [Act.put, List.setIfInBounds_toArray, List.set_cons_zero, List.set_cons_succ, i64_w, i32_w]
         rfl
        refine pure_ (i := 7) (N := some 25) (v := undef) (a' := ?_) #[true, true, true, true, true, true, true, true, false, false, false, false, false, false] rfl rfl (any_of HT_.out (by kernel_rfl)) (fun _ _ _ h => h) (Or.inr ⟨by rfl, rfl⟩) ?_ ?_
        rotate_left
        ·simp only [Act.put, List.setIfInBounds_toArray, List.set_cons_zero, List.set_cons_succ, i64_w, i32_w]
         rfl
        refine pure_ (i := 8) (N := some 26) (v := undef) (a' := ?_) #[true, true, true, true, true, true, true, true, true, false, false, false, false, false] rfl rfl (any_of HT_.out (by kernel_rfl)) (fun _ _ _ h => h) (Or.inr ⟨by rfl, rfl⟩) ?_ ?_
        rotate_left
        ·simp only [Act.put, List.setIfInBounds_toArray, List.set_cons_zero, List.set_cons_succ, i64_w, i32_w]
         rfl
        refine pure_ (i := 9) (N := some 27) (v := undef) (a' := ?_) #[true, true, true, true, true, true, true, true, true, true, false, false, false, false] rfl rfl (any_of HT_.out (by kernel_rfl)) (fun _ _ _ h => h) (Or.inr ⟨by rfl, rfl⟩) ?_ ?_
        rotate_left
        ·simp only [Act.put, List.setIfInBounds_toArray, List.set_cons_zero, List.set_cons_succ, i64_w, i32_w]
         rfl
        refine pure_ (i := 10) (N := some 28) (v := undef) (a' := ?_) #[true, true, true, true, true, true, true, true, true, true, true, false, false, false] rfl rfl (any_of HT_.out (by kernel_rfl)) (fun _ _ _ h => h) (Or.inr ⟨by rfl, rfl⟩) ?_ ?_
        rotate_left
        ·simp only [Act.put, List.setIfInBounds_toArray, List.set_cons_zero, List.set_cons_succ, i64_w, i32_w]
         rfl
        refine pure_ (i := 11) (N := some 29) (v := undef) (a' := ?_) #[true, true, true, true, true, true, true, true, true, true, true, true, false, false] rfl rfl (any_of HT_.out (by kernel_rfl)) (fun _ _ _ h => h) (Or.inr ⟨by rfl, rfl⟩) ?_ ?_
        rotate_left
        ·simp only [Act.put, List.setIfInBounds_toArray, List.set_cons_zero, List.set_cons_succ, i64_w, i32_w]
         rfl
        refine pure_ (i := 12) (N := some 30) (v := undef) (a' := ?_) #[true, true, true, true, true, true, true, true, true, true, true, true, true, false] rfl rfl (any_of HT_.out (by kernel_rfl)) (fun _ _ _ h => h) (Or.inr ⟨by rfl, rfl⟩) ?_ ?_
        rotate_left
        ·simp only [Act.put, List.setIfInBounds_toArray, List.set_cons_zero, List.set_cons_succ, i64_w, i32_w]
         rfl
        refine pure_ (i := 13) (N := some 31) (v := ?_) (a' := ?_) #[true, true, true, true, true, true, true, true, true, true, true, true, true, true] rfl rfl (any_of HT_.out (by kernel_rfl)) (fun _ _ _ h => h) (Or.inl ⟨by rfl, ?_⟩) ?_ ?_
        rotate_left
        ·intro w'
         go_simp
         with_reducible rfl
        rotate_left
        ·simp only [Act.put, List.setIfInBounds_toArray, List.set_cons_zero, List.set_cons_succ, i64_w, i32_w]
         rfl
        refine done_ (done_of HT_.out (by kernel_rfl)) ?_
        try go_wp2
        (try simp only [← hl4_2])
        go_roundg k2
        case measure => have := HK1.out; have := HK2.out; omega
        case rel => exact ⟨(x4_2), (x5_2), (wrap64 (x6_1 + 1)), sd_, sd_, H', ⟨by have := HK1.out; have := HK2.out; omega⟩, ⟨by (try simp only [hl4_2]); (with_reducible repeat (first | apply Kd.R_alloc | apply Kd.R_drewN | apply Kd.R_drew)); exact HO_4.out⟩, ⟨bw_⟩⟩
    ·rw [if_neg c6] at H
     have c6b0 : decide (x6_1 < (x4_1.length : Int)) = false := decide_eq_false c6
     clear c6
     simp only [Option.some.injEq, Prod.mk.injEq] at H
     obtain ⟨rfl, rfl⟩ := H
     obtain ⟨Ao23, co23, eo23⟩ := Kd.R_slice HO_4.out
     subst eo23
     go_wp2
     go_ret2
     exact ⟨_, by first | rfl | (simp [errW_none, errW_some] <;> rfl) | (simp [*, errW_none, errW_some] <;> rfl), rRa_ HO_4.out, bw_⟩
 ·rw [if_neg c2] at H
  exact absurd H (by simp)

end Go.Proofs.YticckanjfdcpaaaDoor.PSimplex
namespace Go.Proofs.YticckanjfdcpaaaDoor.PSimplex
open Go.RowKit Go.Proofs.YticckanjfdcpaaaDoorW.PrintWords Go.Proofs.YticckanjfdcpaaaDoorW.PrintLast Go.Proofs.YticckanjfdcpaaaDoorW.PrintMore
attribute [local go_sem] max2_int min2_int max_two min_two max_three min_three max_four min_four   -- for this text's walks alone
set_option linter.unusedVariables false
set_option linter.unusedSimpArgs false

/-! ### torusref07_In: function 46 -/
def torusref07_In.l0 : Nat → List Int → Int → Int → Option (Bool)
 |0, _, _, _ => none
 |k + 1, x0, x1, x5 => if x5 < (x0.length : Int) then (if 0 ≤ x5 then (if (rd x0 x5) = x1 then (some true) else (torusref07_In.l0 k x0 x1 (wrap64 (x5 + 1)))) else (none)) else (some false)
def torusref07_In.f (k : Nat) (l0 : List Int) (a1 : Int) : Option (Bool) := torusref07_In.l0 k l0 a1 0
theorem torusref07_In.mono_l : ∀ k, (∀ y0 y1 y2, LeO (torusref07_In.l0 k y0 y1 y2) (torusref07_In.l0 (k + 1) y0 y1 y2))
 |0 => fun _ _ _ r h => by simp [torusref07_In.l0] at h
 |k + 1 => by
  have ih0 := torusref07_In.mono_l k
  ·intro y0 y1 y2
   unfold torusref07_In.l0
   repeat' first
   |(with_reducible exact ih0 _ _ _)
   |(with_reducible exact LeO.refl _)
   |(with_reducible exact LeO.none _)
   |(with_reducible refine LeO.ite ?_ ?_)
   |(with_reducible refine LeO.bind ?_ (fun _ => ?_))
   |exact ih0 _ _ _
   |exact LeO.none _
   |refine LeO.ite ?_ ?_
   |refine LeO.bind ?_ (fun _ => ?_)
theorem torusref07_In.mono : ∀ a0 a1 k, LeO (torusref07_In.f k a0 a1) (torusref07_In.f (k + 1) a0 a1) := by
 intro a0 a1 k
 have ih0 := torusref07_In.mono_l k
 unfold torusref07_In.f
 repeat' first
   |(with_reducible exact ih0 _ _ _)
   |(with_reducible exact LeO.refl _)
   |(with_reducible exact LeO.none _)
   |(with_reducible refine LeO.ite ?_ ?_)
   |(with_reducible refine LeO.bind ?_ (fun _ => ?_))
   |exact ih0 _ _ _
   |exact LeO.none _
   |refine LeO.ite ?_ ?_
   |refine LeO.bind ?_ (fun _ => ?_)
set_option maxHeartbeats 8000000 in
set_option maxRecDepth 100000 in
theorem torusref07_In.calls (k : Nat) (A0 : Option Addr) (c0 : Nat) (l0 : List Int) (a1 : Int) (r : Bool) (w : World) (hr0 : Kd.C (Kd.int .i64) w A0 l0.length l0) (hc0 : l0.length ≤ c0) (h : torusref07_In.f k l0 a1 = some r) :
  Calls Tryd.prog 46 #[.slice A0 l0.length c0, .int .i64 a1] w fun e w' => e = .returned (.bool r) ∧ Drawn0 w w' := by
 have HR0 := Aside0.mk hr0
 have HC0 := Aside0.mk hc0
 clear hr0 hc0
 have H : (torusref07_In.l0 k l0 a1 0) = some r := h
 clear h
 have H' := Aside0.mk H
 clear H
 go_enter Tryd.func46, Tryd.ntmps46
 go_wp2
 go_loopg [5] k (fun kq v5 w' => ∃ (x5_1 : Int), v5 = .int .i64 x5_1 ∧ Aside0 (torusref07_In.l0 kq l0 a1 x5_1 = some r) ∧ Aside0 (kq ≤ k) ∧ Drawn0 w w')
 case atStart => exact ⟨(0), sd_, H', ⟨Nat.le_refl _⟩, dr_⟩
 case round =>
  clear H'
  try clear p2
  obtain ⟨x5_1, rfl, HA, HK1, ⟨m1, rfl⟩⟩ := hrel
  cases gk with
  |zero => exact absurd HA.out (by simp [torusref07_In.l0])
  |succ k1 =>
   have H := HA.out
   clear HA
   simp only [torusref07_In.l0] at H
   by_cases c3 : x5_1 < (l0.length : Int)
   ·rw [if_pos c3] at H
    have c3b0 : decide (x5_1 < (l0.length : Int)) = true := decide_eq_true c3
    clear c3
    by_cases c4 : 0 ≤ x5_1
    ·rw [if_pos c4] at H
     have c4b0 : decide (0 ≤ x5_1) = true := decide_eq_true c4
     clear c4
     by_cases c5 : (rd l0 x5_1) = a1
     ·rw [if_pos c5] at H
      have c5b0 : ((rd l0 x5_1) == a1) = true := beq_iff_eq.mpr c5
      have c5b1 : ((rd l0 x5_1) != a1) = false := bne_eq_false_iff_eq.mpr c5
      clear c5
      obtain rfl := Option.some.inj H
      have p341 : 0 ≤ (x5_1 : Int) := of_decide_eq_true as_
      have q341 : x5_1 < (l0.length : Int) := of_decide_eq_true as_
      obtain ⟨ad341, e341, hx341_0⟩ := Kd.at_int HR0.out x5_1 p341 q341
      cases e341
      replace p341 := eq_true p341
      replace q341 := eq_true q341
      go_wp2
      go_ret
      exact ⟨sd_, dr_⟩
     ·rw [if_neg c5] at H
      have c5b0 : ((rd l0 x5_1) == a1) = false := beq_eq_false_iff_ne.mpr c5
      have c5b1 : ((rd l0 x5_1) != a1) = true := bne_iff_ne.mpr c5
      have H' := Aside0.mk H
      clear H
      have p341 : 0 ≤ (x5_1 : Int) := of_decide_eq_true as_
      have q341 : x5_1 < (l0.length : Int) := of_decide_eq_true as_
      obtain ⟨ad341, e341, hx341_0⟩ := Kd.at_int HR0.out x5_1 p341 q341
      cases e341
      replace p341 := eq_true p341
      replace q341 := eq_true q341
      go_wp2
      go_roundg k1
      case measure => have := HK1.out; omega
      case rel => exact ⟨(wrap64 (x5_1 + 1)), sd_, H', ⟨by have := HK1.out; omega⟩, dr_⟩
    ·rw [if_neg c4] at H
     exact absurd H (by simp)
   ·rw [if_neg c3] at H
    have c3b0 : decide (x5_1 < (l0.length : Int)) = false := decide_eq_false c3
    clear c3
    obtain rfl := Option.some.inj H
    go_wp2
    go_ret
    exact ⟨sd_, dr_⟩

end Go.Proofs.YticckanjfdcpaaaDoor.PSimplex
namespace Go.Proofs.YticckanjfdcpaaaDoor.PSimplex
open Go.RowKit Go.Proofs.YticckanjfdcpaaaDoorW.PrintWords Go.Proofs.YticckanjfdcpaaaDoorW.PrintLast Go.Proofs.YticckanjfdcpaaaDoorW.PrintMore
attribute [local go_sem] max2_int min2_int max_two min_two max_three min_three max_four min_four   -- for this text's walks alone
set_option linter.unusedVariables false
set_option linter.unusedSimpArgs false

/-! ### torusref07_Valid: function 21 -/
mutual
def torusref07_Valid.l0 : Nat → List Int → Int → Int → List Int → Int → Option (List Int)
 |0, _, _, _, _, _ => none
 |k + 1, x0, x1, x2, x7, x8 => if x8 < (x0.length : Int) then (torusref07_Valid.j1 k x0 x1 x2 x7 x8 (decide ((x7.length : Int) < x1))) else (torusref07_Valid.j1 k x0 x1 x2 x7 x8 false)
def torusref07_Valid.j1 : Nat → List Int → Int → Int → List Int → Int → Bool → Option (List Int)
 |0, _, _, _, _, _, _ => none
 |k + 1, x0, x1, x2, x7, x8, x19 => if x19 = true then (if 0 ≤ x8 then (if x8 < (x0.length : Int) then (if x2 = 0 then (none) else ((torusref07_In.f k x7 (Int.tmod (wrap64 ((Int.tmod (rd x0 x8) x2) + x2)) x2)).bind fun t343 => (if t343 = true then (torusref07_Valid.l0 k x0 x1 x2 x7 (wrap64 (x8 + 1))) else (if x7.length < 17592186044416 then (torusref07_Valid.l0 k x0 x1 x2 (x7 ++ [Int.tmod (wrap64 ((Int.tmod (rd x0 x8) x2) + x2)) x2]) (wrap64 (x8 + 1))) else (none))))) else (none)) else (none)) else (if (x7.length : Int) = 0 then (if x7.length < 17592186044416 then ((torusref07_Sorted.f k (x7 ++ [0])).bind fun bt350 => (some bt350.1)) else (none)) else ((torusref07_Sorted.f k x7).bind fun bt354 => (some bt354.1)))
end
def torusref07_Valid.f (k : Nat) (l0 : List Int) (a1 : Int) (a2 : Int) : Option (List Int) := torusref07_Valid.l0 k l0 a1 a2 ([] : List Int) 0
theorem torusref07_Valid.mono_l : ∀ k, (∀ y0 y1 y2 y3 y4, LeO (torusref07_Valid.l0 k y0 y1 y2 y3 y4) (torusref07_Valid.l0 (k + 1) y0 y1 y2 y3 y4)) ∧ (∀ y0 y1 y2 y3 y4 y5, LeO (torusref07_Valid.j1 k y0 y1 y2 y3 y4 y5) (torusref07_Valid.j1 (k + 1) y0 y1 y2 y3 y4 y5))
 |0 => ⟨fun _ _ _ _ _ r h => by simp [torusref07_Valid.l0] at h, fun _ _ _ _ _ _ r h => by simp [torusref07_Valid.j1] at h⟩
 |k + 1 => by
  obtain ⟨ih0, ih1⟩ := torusref07_Valid.mono_l k
  refine ⟨?_, ?_⟩
  ·intro y0 y1 y2 y3 y4
   unfold torusref07_Valid.l0
   repeat' first
   |(with_reducible exact ih0 _ _ _ _ _)
   |(with_reducible exact ih1 _ _ _ _ _ _)
   |(with_reducible exact torusref07_In.mono _ _ _)
   |(with_reducible exact torusref07_Sorted.mono _ _)
   |(with_reducible exact LeO.refl _)
   |(with_reducible exact LeO.none _)
   |(with_reducible refine LeO.ite ?_ ?_)
   |(with_reducible refine LeO.bind ?_ (fun _ => ?_))
   |exact ih0 _ _ _ _ _
   |exact ih1 _ _ _ _ _ _
   |exact torusref07_In.mono _ _ _
   |exact torusref07_Sorted.mono _ _
   |exact LeO.none _
   |refine LeO.ite ?_ ?_
   |refine LeO.bind ?_ (fun _ => ?_)
  ·intro y0 y1 y2 y3 y4 y5
   unfold torusref07_Valid.j1
   repeat' first
   |(with_reducible exact ih0 _ _ _ _ _)
   |(with_reducible exact ih1 _ _ _ _ _ _)
   |(with_reducible exact torusref07_In.mono _ _ _)
   |(with_reducible exact torusref07_Sorted.mono _ _)
   |(with_reducible exact LeO.refl _)
   |(with_reducible exact LeO.none _)
   |(with_reducible refine LeO.ite ?_ ?_)
   |(with_reducible refine LeO.bind ?_ (fun _ => ?_))
   |exact ih0 _ _ _ _ _
   |exact ih1 _ _ _ _ _ _
   |exact torusref07_In.mono _ _ _
   |exact torusref07_Sorted.mono _ _
   |exact LeO.none _
   |refine LeO.ite ?_ ?_
   |refine LeO.bind ?_ (fun _ => ?_)
theorem torusref07_Valid.mono : ∀ a0 a1 a2 k, LeO (torusref07_Valid.f k a0 a1 a2) (torusref07_Valid.f (k + 1) a0 a1 a2) := by
 intro a0 a1 a2 k
 obtain ⟨ih0, ih1⟩ := torusref07_Valid.mono_l k
 unfold torusref07_Valid.f
 repeat' first
   |(with_reducible exact ih0 _ _ _ _ _)
   |(with_reducible exact ih1 _ _ _ _ _ _)
   |(with_reducible exact torusref07_In.mono _ _ _)
   |(with_reducible exact torusref07_Sorted.mono _ _)
   |(with_reducible exact LeO.refl _)
   |(with_reducible exact LeO.none _)
   |(with_reducible refine LeO.ite ?_ ?_)
   |(with_reducible refine LeO.bind ?_ (fun _ => ?_))
   |exact ih0 _ _ _ _ _
   |exact ih1 _ _ _ _ _ _
   |exact torusref07_In.mono _ _ _
   |exact torusref07_Sorted.mono _ _
   |exact LeO.none _
   |refine LeO.ite ?_ ?_
   |refine LeO.bind ?_ (fun _ => ?_)
set_option maxHeartbeats 8000000 in
set_option maxRecDepth 100000 in
theorem torusref07_Valid.calls (k : Nat) (A0 : Option Addr) (c0 : Nat) (l0 : List Int) (a1 : Int) (a2 : Int) (r : List Int) (w : World) (hr0 : Kd.C (Kd.int .i64) w A0 l0.length l0) (hc0 : l0.length ≤ c0) (h : torusref07_Valid.f k l0 a1 a2 = some r) :
  Calls Tryd.prog 21 #[.slice A0 l0.length c0, .int .i64 a1, .int .i64 a2] w fun e w' => ∃ v0_ : Value, e = .returned (v0_) ∧ Kd.R (Kd.int .i64) 3 w' w.heap.size (fun _ => True) v0_ r ∧ Below w.heap.size w w' := by
 have HR0 := Aside0.mk hr0
 have HC0 := Aside0.mk hc0
 clear hr0 hc0
 have HB := Aside0.mk (Below.refl w.heap.size w)
 have H : (torusref07_Valid.l0 k l0 a1 a2 ([] : List Int) 0) = some r := h
 clear h
 have H' := Aside0.mk H
 clear H
 go_enter Tryd.func21, Tryd.ntmps21
 go_wp2
 go_loopg [7, 8] k (fun kq v7 v8 w' => ∃ (x7_1 : List Int) (x8_1 : Int), v8 = .int .i64 x8_1 ∧ Aside0 (torusref07_Valid.l0 kq l0 a1 a2 x7_1 x8_1 = some r) ∧ Aside0 (kq ≤ k) ∧ Aside0 (Kd.R (Kd.int .i64) 3 w' w.heap.size (fun _ => True) v7 x7_1) ∧ Aside0 (Below w.heap.size w w'))
 case atStart => exact ⟨(([] : List Int)), (0), sd_, H', ⟨Nat.le_refl _⟩, ⟨by first | exact Kd.R_nil _ _ _ _ _ | exact Kd.N_nil _ _ _ _ _ | exact Kd.V_nil _ _ _ _ _ | exact Kd.Q_nil _ _ _ _ _ | exact Kd.S_nil _ _ _ _ _⟩, ⟨bw_⟩⟩
 case round =>
  clear H'
  try clear c2
  try clear p2
  obtain ⟨x7_1, x8_1, rfl, HA, HK1, HO_7, HB⟩ := hrel
  cases gk with
  |zero => exact absurd HA.out (by simp [torusref07_Valid.l0])
  |succ k1 =>
   have H := HA.out
   clear HA
   simp only [torusref07_Valid.l0] at H
   have HC4 := Aside0.mk H
   clear H
   go_upto_region 3 with (fail)
   go_cut [19] (fun v19 wc => ∃ (kq : Nat) (x19_3 : Bool), v19 = .bool x19_3 ∧ Aside0 (torusref07_Valid.j1 kq l0 a1 a2 x7_1 x8_1 x19_3 = some r) ∧ Aside0 (kq ≤ k1) ∧ Aside0 (Kd.R (Kd.int .i64) 3 wc w.heap.size (fun _ => True) u7 x7_1) ∧ Aside0 (Below w.heap.size w wc))
   case first =>
    have H := HC4.out
    clear HC4
    by_cases c5 : x8_1 < (l0.length : Int)
    ·rw [if_pos c5] at H
     have c5b0 : decide (x8_1 < (l0.length : Int)) = true := decide_eq_true c5
     clear c5
     (first | rw [c5b0] | (simp only [i64_w, i32_w]; rw [c5b0]) | skip)
     have H' := Aside0.mk H
     clear H
     obtain ⟨Ao6, co6, eo6⟩ := Kd.R_slice HO_7.out
     subst eo6
     go_wp2
     go_meet
     case rel => exact ⟨_, (decide ((x7_1.length : Int) < a1)), sd_, H', ⟨by have := HK1.out; first | omega | exact Nat.le_refl _⟩, ⟨rRa_ HO_7.out⟩, ⟨bw_⟩⟩
    ·rw [if_neg c5] at H
     have c5b0 : decide (x8_1 < (l0.length : Int)) = false := decide_eq_false c5
     clear c5
     (first | rw [c5b0] | (simp only [i64_w, i32_w]; rw [c5b0]) | skip)
     have H' := Aside0.mk H
     clear H
     go_wp2
     go_meet
     case rel => exact ⟨_, (false), sd_, H', ⟨by have := HK1.out; first | omega | exact Nat.le_refl _⟩, ⟨rRa_ HO_7.out⟩, ⟨bw_⟩⟩
   case rest =>
    clear HC4
    try clear c2
    try clear p2
    try clear c5
    try clear c5b0
    try clear p2
    obtain ⟨kq, x19_3, rfl, HA, HJ3, HO_7, HB⟩ := hcut
    cases kq with
    |zero => exact absurd HA.out (by simp [torusref07_Valid.j1])
    |succ kj3 =>
     have H := HA.out
     clear HA
     simp only [torusref07_Valid.j1] at H
     by_cases c7 : x19_3 = true
     ·subst c7
      have H1 : (if 0 ≤ x8_1 then (if x8_1 < (l0.length : Int) then (if a2 = 0 then (none) else ((torusref07_In.f kj3 x7_1 (Int.tmod (wrap64 ((Int.tmod (rd l0 x8_1) a2) + a2)) a2)).bind fun t343 => (if t343 = true then (torusref07_Valid.l0 kj3 l0 a1 a2 x7_1 (wrap64 (x8_1 + 1))) else (if x7_1.length < 17592186044416 then (torusref07_Valid.l0 kj3 l0 a1 a2 (x7_1 ++ [Int.tmod (wrap64 ((Int.tmod (rd l0 x8_1) a2) + a2)) a2]) (wrap64 (x8_1 + 1))) else (none))))) else (none)) else (none)) = some r := by rw [if_pos rfl] at H; exact H
      clear H
      have H := H1
      clear H1
      by_cases c8 : 0 ≤ x8_1
      ·rw [if_pos c8] at H
       have c8b0 : decide (0 ≤ x8_1) = true := decide_eq_true c8
       clear c8
       by_cases c9 : x8_1 < (l0.length : Int)
       ·rw [if_pos c9] at H
        have c9b0 : decide (x8_1 < (l0.length : Int)) = true := decide_eq_true c9
        clear c9
        by_cases c10 : a2 = 0
        ·rw [if_pos c10] at H
         exact absurd H (by simp)
        ·rw [if_neg c10] at H
         have c10b0 : (a2 == 0) = false := beq_eq_false_iff_ne.mpr c10
         have c10b1 : (a2 != 0) = true := bne_iff_ne.mpr c10
         replace H := Option.bind_eq_some_iff.mp H
         obtain ⟨t343, A110, H⟩ := H
         replace H : (if t343 = true then (torusref07_Valid.l0 kj3 l0 a1 a2 x7_1 (wrap64 (x8_1 + 1))) else (if x7_1.length < 17592186044416 then (torusref07_Valid.l0 kj3 l0 a1 a2 (x7_1 ++ [Int.tmod (wrap64 ((Int.tmod (rd l0 x8_1) a2) + a2)) a2]) (wrap64 (x8_1 + 1))) else (none))) = some r := H
         have A11 := Aside0.mk A110
         clear A110
         by_cases c12 : t343 = true
         ·subst c12
          have H1 : (torusref07_Valid.l0 kj3 l0 a1 a2 x7_1 (wrap64 (x8_1 + 1))) = some r := by rw [if_pos rfl] at H; exact H
          clear H
          have H := H1
          clear H1
          have H' := Aside0.mk H
          clear H
          have p342 : 0 ≤ (x8_1 : Int) := of_decide_eq_true as_
          have q342 : x8_1 < (l0.length : Int) := of_decide_eq_true as_
          obtain ⟨ad342, e342, hx342_0⟩ := Kd.at_int HR0.out x8_1 p342 q342
          cases e342
          replace hx342_0 := (HB.out.cell (World.block_lt_of_cell? w _ hx342_0)).trans hx342_0
          replace p342 := eq_true p342
          replace q342 := eq_true q342
          obtain ⟨Ao13, co13, eo13⟩ := Kd.R_slice HO_7.out
          subst eo13
          go_wp2_with (first | ((with_reducible refine gate_callee (f := 46) rfl ?_); refine goesL_ (some 34) rfl rfl Tryd.func46 (by kernel_rfl) rfl #[.slice Ao13 x7_1.length co13, .int .i64 (Int.tmod (wrap64 ((Int.tmod (rd l0 x8_1) a2) + a2)) a2)] rfl ag_ ?_; (with_reducible refine (torusref07_In.calls kj3 _ _ x7_1 (Int.tmod (wrap64 ((Int.tmod (rd l0 x8_1) a2) + a2)) a2) true _ ?side1 ?side2 A11.out).mono ?_); (case side1 => repeat (first | exact (Kd.R_reads' HO_7.out).2.2 | (with_reducible refine Kd.C_alloc ?_ _) | (with_reducible refine Kd.C_drewN ?_ _) | (with_reducible refine Kd.C_drew ?_))); (case side2 => exact (Kd.R_reads' HO_7.out).2.1); rintro e w' ⟨rfl, ⟨nd, rfl⟩⟩; refine ⟨_, rfl, ?_⟩))
          go_roundg kj3
          case measure => have := HK1.out; have := HJ3.out; omega
          case rel => exact ⟨(x7_1), (wrap64 (x8_1 + 1)), sd_, H', ⟨by have := HK1.out; have := HJ3.out; omega⟩, ⟨rRa_ HO_7.out⟩, ⟨bw_⟩⟩
         ·replace c12 := Bool.eq_false_iff.mpr c12
          subst c12
          have H1 : (if x7_1.length < 17592186044416 then (torusref07_Valid.l0 kj3 l0 a1 a2 (x7_1 ++ [Int.tmod (wrap64 ((Int.tmod (rd l0 x8_1) a2) + a2)) a2]) (wrap64 (x8_1 + 1))) else (none)) = some r := by rw [if_neg (show ¬ (false = true) by decide)] at H; exact H
          clear H
          have H := H1
          clear H1
          by_cases c14 : x7_1.length < 17592186044416
          ·rw [if_pos c14] at H
           have LMc14 := Aside0.mk c14
           clear c14
           obtain ⟨y344, hy344⟩ : ∃ y_ : List Int, y_ = (x7_1 ++ [Int.tmod (wrap64 ((Int.tmod (rd l0 x8_1) a2) + a2)) a2]) := ⟨_, rfl⟩
           replace H : (torusref07_Valid.l0 kj3 l0 a1 a2 y344 (wrap64 (x8_1 + 1))) = some r := by first | (rw [hy344]; with_reducible exact H) | (have H2_ := (Option.bind_some _ _).symm.trans H; rw [hy344]; with_reducible exact H2_) | (have H2_ := (Option.bind_some _ _).symm.trans H; with_reducible exact H2_) | with_reducible exact H | (rw [hy344]; exact H) | exact H
           have Ny344 := Aside0.mk hy344
           clear hy344
           have H' := Aside0.mk H
           clear H
           have p342 : 0 ≤ (x8_1 : Int) := of_decide_eq_true as_
           have q342 : x8_1 < (l0.length : Int) := of_decide_eq_true as_
           obtain ⟨ad342, e342, hx342_0⟩ := Kd.at_int HR0.out x8_1 p342 q342
           cases e342
           replace hx342_0 := (HB.out.cell (World.block_lt_of_cell? w _ hx342_0)).trans hx342_0
           replace p342 := eq_true p342
           replace q342 := eq_true q342
           obtain ⟨Ao15, co15, eo15⟩ := Kd.R_slice HO_7.out
           subst eo15
           go_wp2_with (first | ((with_reducible refine gate_callee (f := 46) rfl ?_); refine goesL_ (some 34) rfl rfl Tryd.func46 (by kernel_rfl) rfl #[.slice Ao15 x7_1.length co15, .int .i64 (Int.tmod (wrap64 ((Int.tmod (rd l0 x8_1) a2) + a2)) a2)] rfl ag_ ?_; (with_reducible refine (torusref07_In.calls kj3 _ _ x7_1 (Int.tmod (wrap64 ((Int.tmod (rd l0 x8_1) a2) + a2)) a2) false _ ?side1 ?side2 A11.out).mono ?_); (case side1 => repeat (first | exact (Kd.R_reads' HO_7.out).2.2 | (with_reducible refine Kd.C_alloc ?_ _) | (with_reducible refine Kd.C_drewN ?_ _) | (with_reducible refine Kd.C_drew ?_))); (case side2 => exact (Kd.R_reads' HO_7.out).2.1); rintro e w' ⟨rfl, ⟨nd, rfl⟩⟩; refine ⟨_, rfl, ?_⟩) | ((with_reducible refine gate_builtin (b := .append) (xs := #[.tmp 36, .tmp 38]) rfl ?_); (try (refine gate_guard (by rfl) ?_; dsimp only)); at_builtin; refine Kd.R_append (Kd.int .i64) (w0 := w) w.heap.size rfl (.tmp 36) (.tmp 38) 22 3 (.int .i64 0) 8 rfl Tryd.underlying22 info3 rfl (by decide) (by omega) (.slice Ao15 x7_1.length co15) x7_1 (Int.tmod (wrap64 ((Int.tmod (rd l0 x8_1) a2) + a2)) a2) [.int .i64 (Int.tmod (wrap64 ((Int.tmod (rd l0 x8_1) a2) + a2)) a2)] (fun _ => True) (fun _ => False) rfl rfl ?aP (fun _ hk => hk.elim) ?aF ?aO ?aB ?aS ?aL ?_; (case aP => exact rfl); (case aB => exact bw_); (case aF => exact (fun _ _ => trivial)); (case aO => exact (rRa_ HO_7.out)); (case aS => exact (below_size bw_)); (case aL => have := LMc14.out; omega); intro v345 w16 ho hb hg hat; rw [← Ny344.out] at ho; have n0_ := Aside0.mk (hb); have n1_ := Aside0.mk (ho); clear HB; clear HO_7; have HB := n0_; have HO346 := n1_; clear n0_ n1_; clear ho hb hg hat))
           go_roundg kj3
           case measure => have := HK1.out; have := HJ3.out; omega
           case rel => exact ⟨(y344), (wrap64 (x8_1 + 1)), sd_, H', ⟨by have := HK1.out; have := HJ3.out; omega⟩, ⟨rRa_ HO346.out⟩, ⟨bw_⟩⟩
          ·rw [if_neg c14] at H
           exact absurd H (by simp)
       ·rw [if_neg c9] at H
        exact absurd H (by simp)
      ·rw [if_neg c8] at H
       exact absurd H (by simp)
     ·replace c7 := Bool.eq_false_iff.mpr c7
      subst c7
      have H1 : (if (x7_1.length : Int) = 0 then (if x7_1.length < 17592186044416 then ((torusref07_Sorted.f kj3 (x7_1 ++ [0])).bind fun bt350 => (some bt350.1)) else (none)) else ((torusref07_Sorted.f kj3 x7_1).bind fun bt354 => (some bt354.1))) = some r := by rw [if_neg (show ¬ (false = true) by decide)] at H; exact H
      clear H
      have H := H1
      clear H1
      by_cases c17 : (x7_1.length : Int) = 0
      ·rw [if_pos c17] at H
       have c17b0 : ((x7_1.length : Int) == 0) = true := beq_iff_eq.mpr c17
       have c17b1 : ((x7_1.length : Int) != 0) = false := bne_eq_false_iff_eq.mpr c17
       clear c17
       by_cases c18 : x7_1.length < 17592186044416
       ·rw [if_pos c18] at H
        have LMc18 := Aside0.mk c18
        clear c18
        obtain ⟨y347, hy347⟩ : ∃ y_ : List Int, y_ = (x7_1 ++ [0]) := ⟨_, rfl⟩
        replace H : ((torusref07_Sorted.f kj3 y347).bind fun bt350 => (some bt350.1)) = some r := by first | (rw [hy347]; with_reducible exact H) | (have H2_ := (Option.bind_some _ _).symm.trans H; rw [hy347]; with_reducible exact H2_) | (have H2_ := (Option.bind_some _ _).symm.trans H; with_reducible exact H2_) | with_reducible exact H | (rw [hy347]; exact H) | exact H
        have Ny347 := Aside0.mk hy347
        clear hy347
        replace H := Option.bind_eq_some_iff.mp H
        obtain ⟨⟨t350, t351⟩, A190, H⟩ := H
        replace H : (some t350) = some r := H
        have A19 := Aside0.mk A190
        clear A190
        obtain rfl := Option.some.inj H
        obtain ⟨Ao20, co20, eo20⟩ := Kd.R_slice HO_7.out
        subst eo20
        go_wp2_with (first | ((with_reducible refine gate_builtin (b := .append) (xs := #[.tmp 43, .tmp 44]) rfl ?_); (try (refine gate_guard (by rfl) ?_; dsimp only)); at_builtin; refine Kd.R_append (Kd.int .i64) (w0 := w) w.heap.size rfl (.tmp 43) (.tmp 44) 22 3 (.int .i64 0) 8 rfl Tryd.underlying22 info3 rfl (by decide) (by omega) (.slice Ao20 x7_1.length co20) x7_1 0 [.int .i64 0] (fun _ => True) (fun _ => False) rfl rfl ?aP (fun _ hk => hk.elim) ?aF ?aO ?aB ?aS ?aL ?_; (case aP => exact rfl); (case aB => exact bw_); (case aF => exact (fun _ _ => trivial)); (case aO => exact (rRa_ HO_7.out)); (case aS => exact (below_size bw_)); (case aL => have := LMc18.out; omega); intro v348 w21 ho hb hg hat; rw [← Ny347.out] at ho; have n0_ := Aside0.mk (hb); have n1_ := Aside0.mk (ho); clear HB; clear HO_7; have HB := n0_; have HO349 := n1_; clear n0_ n1_; clear ho hb hg hat; obtain ⟨Ao22, co22, eo22⟩ := Kd.R_slice HO349.out; subst eo22) | ((with_reducible refine gate_callee (f := 43) rfl ?_); refine goesL_ (some 48) rfl rfl Tryd.func43 (by kernel_rfl) rfl #[.slice Ao22 y347.length co22] rfl ag_ ?_; (with_reducible refine (torusref07_Sorted.calls kj3 _ _ y347 t350 t351 _ ?side1 ?side2 A19.out).mono ?_); (case side1 => repeat (first | exact (Kd.R_reads' HO349.out).2.2 | (with_reducible refine Kd.C_alloc ?_ _) | (with_reducible refine Kd.C_drewN ?_ _) | (with_reducible refine Kd.C_drew ?_))); (case side2 => exact (Kd.R_reads' HO349.out).2.1); rintro e w23 ⟨v352, rfl, ho0, hb⟩; refine ⟨_, rfl, ?_⟩; have n0_ := Aside0.mk (Kd.R_elder' (rRa_ HO349.out) (Kd.R_base ho0) hb); have n1_ := Aside0.mk (Kd.R_lower (Kd.R_new' ho0 (Kd.R_lt (rRa_ HO349.out))) (below_size bw_)); have n2_ := Aside0.mk (below_step bw_ hb); clear HO349; clear HB; have HO349 := n0_; have HO353 := n1_; have HB := n2_; clear n0_ n1_ n2_; (try clear hb); (try clear hb2); (try clear hk); (try clear hi); (try clear ho0)))
        go_ret
        exact ⟨_, by first | rfl | (simp [errW_none, errW_some] <;> rfl) | (simp [*, errW_none, errW_some] <;> rfl), by (with_reducible repeat (first | apply Kd.R_alloc | apply Kd.R_drewN | apply Kd.R_drew)); exact Kd.R_mono HO353.out (fun _ hk => trivial), bw_⟩
       ·rw [if_neg c18] at H
        exact absurd H (by simp)
      ·rw [if_neg c17] at H
       have c17b0 : ((x7_1.length : Int) == 0) = false := beq_eq_false_iff_ne.mpr c17
       have c17b1 : ((x7_1.length : Int) != 0) = true := bne_iff_ne.mpr c17
       have c17b2 : ¬ (x7_1 = []) := fun h_ => c17 (by rw [h_]; rfl)
       replace H := Option.bind_eq_some_iff.mp H
       obtain ⟨⟨t354, t355⟩, A240, H⟩ := H
       replace H : (some t354) = some r := H
       have A24 := Aside0.mk A240
       clear A240
       obtain rfl := Option.some.inj H
       obtain ⟨Ao25, co25, eo25⟩ := Kd.R_slice HO_7.out
       subst eo25
       go_wp2_with (first | ((with_reducible refine gate_callee (f := 43) rfl ?_); refine goesL_ (some 48) rfl rfl Tryd.func43 (by kernel_rfl) rfl #[.slice Ao25 x7_1.length co25] rfl ag_ ?_; (with_reducible refine (torusref07_Sorted.calls kj3 _ _ x7_1 t354 t355 _ ?side1 ?side2 A24.out).mono ?_); (case side1 => repeat (first | exact (Kd.R_reads' HO_7.out).2.2 | (with_reducible refine Kd.C_alloc ?_ _) | (with_reducible refine Kd.C_drewN ?_ _) | (with_reducible refine Kd.C_drew ?_))); (case side2 => exact (Kd.R_reads' HO_7.out).2.1); rintro e w26 ⟨v356, rfl, ho0, hb⟩; refine ⟨_, rfl, ?_⟩; have n0_ := Aside0.mk (Kd.R_elder' (rRa_ HO_7.out) (Kd.R_base ho0) hb); have n1_ := Aside0.mk (Kd.R_lower (Kd.R_new' ho0 (Kd.R_lt (rRa_ HO_7.out))) (below_size bw_)); have n2_ := Aside0.mk (below_step bw_ hb); clear HO_7; clear HB; have HO_7 := n0_; have HO357 := n1_; have HB := n2_; clear n0_ n1_ n2_; (try clear hb); (try clear hb2); (try clear hk); (try clear hi); (try clear ho0)))
       go_ret
       exact ⟨_, by first | rfl | (simp [errW_none, errW_some] <;> rfl) | (simp [*, errW_none, errW_some] <;> rfl), by (with_reducible repeat (first | apply Kd.R_alloc | apply Kd.R_drewN | apply Kd.R_drew)); exact Kd.R_mono HO357.out (fun _ hk => trivial), bw_⟩

end Go.Proofs.YticckanjfdcpaaaDoor.PSimplex
namespace Go.Proofs.YticckanjfdcpaaaDoor.PSimplex
open Go.RowKit Go.Proofs.YticckanjfdcpaaaDoorW.PrintWords Go.Proofs.YticckanjfdcpaaaDoorW.PrintLast Go.Proofs.YticckanjfdcpaaaDoorW.PrintMore
attribute [local go_sem] max2_int min2_int max_two min_two max_three min_three max_four min_four   -- for this text's walks alone
set_option linter.unusedVariables false
set_option linter.unusedSimpArgs false

/-! ### toruslaw07_SimplexNumbers: function 6 -/
mutual
def toruslaw07_SimplexNumbers.j0 : Nat → List Int → List Int → Bool → Option (Bool)
 |0, _, _, _ => none
 |k + 1, x0, x1, x26 => if x26 = true then ((toruslaw07_awake.f k).bind fun t359 => (some t359)) else ((torusref07_Valid.f k x0 5 64).bind fun t360 => ((torusref07_Valid.f k x1 5 64).bind fun t363 => (if 0 ≤ (mn (t360.length : Int) (t363.length : Int)) then (if (mn (t360.length : Int) (t363.length : Int)) ≤ (t360.length : Int) then ((some (t360.take ((mn (t360.length : Int) (t363.length : Int)) : Int).toNat : List Int)).bind fun y366 => (if (mn (t360.length : Int) (t363.length : Int)) ≤ (t363.length : Int) then ((some (t363.take ((mn (t360.length : Int) (t363.length : Int)) : Int).toNat : List Int)).bind fun y369 => ((simplex_Number.f k y366).bind fun bt372 => ((simplex_Number.f k y369).bind fun bt374 => ((simplex_Numbered.f k (wrap64 ((mn (t360.length : Int) (t363.length : Int)) - 1)) bt372.1).bind fun bt376 => (if bt372.2 = 0 then (if bt374.2 = 0 then ((toruslaw07_is.f k bt376.1 bt376.2 y366).bind fun t380 => (toruslaw07_SimplexNumbers.j1 k y366 y369 (mn (t360.length : Int) (t363.length : Int)) bt372.1 bt374.1 (!t380))) else (toruslaw07_SimplexNumbers.j1 k y366 y369 (mn (t360.length : Int) (t363.length : Int)) bt372.1 bt374.1 true)) else (toruslaw07_SimplexNumbers.j1 k y366 y369 (mn (t360.length : Int) (t363.length : Int)) bt372.1 bt374.1 true)))))) else (none))) else (none)) else (none))))
def toruslaw07_SimplexNumbers.j1 : Nat → List Int → List Int → Int → Int → Int → Bool → Option (Bool)
 |0, _, _, _, _, _, _ => none
 |k + 1, x5, x6, x7, x8, x10, x72 => if x72 = true then (none) else (toruslaw07_SimplexNumbers.l0 k x5 x6 x8 x10 (wrap64 (x7 - 1)))
def toruslaw07_SimplexNumbers.l0 : Nat → List Int → List Int → Int → Int → Int → Option (Bool)
 |0, _, _, _, _, _ => none
 |k + 1, x5, x6, x8, x10, x14 => if x14 ≥ 0 then (if 0 ≤ x14 then (if x14 < (x5.length : Int) then (if x14 < (x6.length : Int) then (if (rd x5 x14) = (rd x6 x14) then (toruslaw07_SimplexNumbers.l0 k x5 x6 x8 x10 (wrap64 (x14 - 1))) else (if ((decide ((rd x5 x14) < (rd x6 x14))) == (decide (x8 < x10))) = true then (some (x8 != x10)) else (none))) else (none)) else (none)) else (none)) else (some (x8 == x10))
end
def toruslaw07_SimplexNumbers.f (k : Nat) (l0 : List Int) (l1 : List Int) : Option (Bool) := if (l0.length : Int) > 50 then (toruslaw07_SimplexNumbers.j0 k l0 l1 true) else (if (l1.length : Int) > 50 then (toruslaw07_SimplexNumbers.j0 k l0 l1 true) else ((toruslaw07_awake.f k).bind fun t358 => (toruslaw07_SimplexNumbers.j0 k l0 l1 (!t358))))
theorem toruslaw07_SimplexNumbers.mono_l : ∀ k, (∀ y0 y1 y2, LeO (toruslaw07_SimplexNumbers.j0 k y0 y1 y2) (toruslaw07_SimplexNumbers.j0 (k + 1) y0 y1 y2)) ∧ (∀ y0 y1 y2 y3 y4 y5, LeO (toruslaw07_SimplexNumbers.j1 k y0 y1 y2 y3 y4 y5) (toruslaw07_SimplexNumbers.j1 (k + 1) y0 y1 y2 y3 y4 y5)) ∧ (∀ y0 y1 y2 y3 y4, LeO (toruslaw07_SimplexNumbers.l0 k y0 y1 y2 y3 y4) (toruslaw07_SimplexNumbers.l0 (k + 1) y0 y1 y2 y3 y4))
 |0 => ⟨fun _ _ _ r h => by simp [toruslaw07_SimplexNumbers.j0] at h, fun _ _ _ _ _ _ r h => by simp [toruslaw07_SimplexNumbers.j1] at h, fun _ _ _ _ _ r h => by simp [toruslaw07_SimplexNumbers.l0] at h⟩
 |k + 1 => by
  obtain ⟨ih0, ih1, ih2⟩ := toruslaw07_SimplexNumbers.mono_l k
  refine ⟨?_, ?_, ?_⟩
  ·intro y0 y1 y2
   unfold toruslaw07_SimplexNumbers.j0
   repeat' first
   |(with_reducible exact ih0 _ _ _)
   |(with_reducible exact ih1 _ _ _ _ _ _)
   |(with_reducible exact ih2 _ _ _ _ _)
   |(with_reducible exact simplex_Number.mono _ _)
   |(with_reducible exact simplex_Numbered.mono _ _ _)
   |(with_reducible exact toruslaw07_awake.mono _)
   |(with_reducible exact toruslaw07_is.mono _ _ _ _)
   |(with_reducible exact torusref07_Valid.mono _ _ _ _)
   |(with_reducible exact LeO.refl _)
   |(with_reducible exact LeO.none _)
   |(with_reducible refine LeO.ite ?_ ?_)
   |(with_reducible refine LeO.bind ?_ (fun _ => ?_))
   |exact ih0 _ _ _
   |exact ih1 _ _ _ _ _ _
   |exact ih2 _ _ _ _ _
   |exact simplex_Number.mono _ _
   |exact simplex_Numbered.mono _ _ _
   |exact toruslaw07_awake.mono _
   |exact toruslaw07_is.mono _ _ _ _
   |exact torusref07_Valid.mono _ _ _ _
   |exact LeO.none _
   |refine LeO.ite ?_ ?_
   |refine LeO.bind ?_ (fun _ => ?_)
  ·intro y0 y1 y2 y3 y4 y5
   unfold toruslaw07_SimplexNumbers.j1
   repeat' first
   |(with_reducible exact ih0 _ _ _)
   |(with_reducible exact ih1 _ _ _ _ _ _)
   |(with_reducible exact ih2 _ _ _ _ _)
   |(with_reducible exact simplex_Number.mono _ _)
   |(with_reducible exact simplex_Numbered.mono _ _ _)
   |(with_reducible exact toruslaw07_awake.mono _)
   |(with_reducible exact toruslaw07_is.mono _ _ _ _)
   |(with_reducible exact torusref07_Valid.mono _ _ _ _)
   |(with_reducible exact LeO.refl _)
   |(with_reducible exact LeO.none _)
   |(with_reducible refine LeO.ite ?_ ?_)
   |(with_reducible refine LeO.bind ?_ (fun _ => ?_))
   |exact ih0 _ _ _
   |exact ih1 _ _ _ _ _ _
   |exact ih2 _ _ _ _ _
   |exact simplex_Number.mono _ _
   |exact simplex_Numbered.mono _ _ _
   |exact toruslaw07_awake.mono _
   |exact toruslaw07_is.mono _ _ _ _
   |exact torusref07_Valid.mono _ _ _ _
   |exact LeO.none _
   |refine LeO.ite ?_ ?_
   |refine LeO.bind ?_ (fun _ => ?_)
  ·intro y0 y1 y2 y3 y4
   unfold toruslaw07_SimplexNumbers.l0
   repeat' first
   |(with_reducible exact ih0 _ _ _)
   |(with_reducible exact ih1 _ _ _ _ _ _)
   |(with_reducible exact ih2 _ _ _ _ _)
   |(with_reducible exact simplex_Number.mono _ _)
   |(with_reducible exact simplex_Numbered.mono _ _ _)
   |(with_reducible exact toruslaw07_awake.mono _)
   |(with_reducible exact toruslaw07_is.mono _ _ _ _)
   |(with_reducible exact torusref07_Valid.mono _ _ _ _)
   |(with_reducible exact LeO.refl _)
   |(with_reducible exact LeO.none _)
   |(with_reducible refine LeO.ite ?_ ?_)
   |(with_reducible refine LeO.bind ?_ (fun _ => ?_))
   |exact ih0 _ _ _
   |exact ih1 _ _ _ _ _ _
   |exact ih2 _ _ _ _ _
   |exact simplex_Number.mono _ _
   |exact simplex_Numbered.mono _ _ _
   |exact toruslaw07_awake.mono _
   |exact toruslaw07_is.mono _ _ _ _
   |exact torusref07_Valid.mono _ _ _ _
   |exact LeO.none _
   |refine LeO.ite ?_ ?_
   |refine LeO.bind ?_ (fun _ => ?_)
theorem toruslaw07_SimplexNumbers.mono : ∀ a0 a1 k, LeO (toruslaw07_SimplexNumbers.f k a0 a1) (toruslaw07_SimplexNumbers.f (k + 1) a0 a1) := by
 intro a0 a1 k
 obtain ⟨ih0, ih1, ih2⟩ := toruslaw07_SimplexNumbers.mono_l k
 unfold toruslaw07_SimplexNumbers.f
 repeat' first
   |(with_reducible exact ih0 _ _ _)
   |(with_reducible exact ih1 _ _ _ _ _ _)
   |(with_reducible exact ih2 _ _ _ _ _)
   |(with_reducible exact simplex_Number.mono _ _)
   |(with_reducible exact simplex_Numbered.mono _ _ _)
   |(with_reducible exact toruslaw07_awake.mono _)
   |(with_reducible exact toruslaw07_is.mono _ _ _ _)
   |(with_reducible exact torusref07_Valid.mono _ _ _ _)
   |(with_reducible exact LeO.refl _)
   |(with_reducible exact LeO.none _)
   |(with_reducible refine LeO.ite ?_ ?_)
   |(with_reducible refine LeO.bind ?_ (fun _ => ?_))
   |exact ih0 _ _ _
   |exact ih1 _ _ _ _ _ _
   |exact ih2 _ _ _ _ _
   |exact simplex_Number.mono _ _
   |exact simplex_Numbered.mono _ _ _
   |exact toruslaw07_awake.mono _
   |exact toruslaw07_is.mono _ _ _ _
   |exact torusref07_Valid.mono _ _ _ _
   |exact LeO.none _
   |refine LeO.ite ?_ ?_
   |refine LeO.bind ?_ (fun _ => ?_)
set_option maxHeartbeats 8000000 in
set_option maxRecDepth 100000 in
theorem toruslaw07_SimplexNumbers.calls (k : Nat) (A0 : Option Addr) (c0 : Nat) (l0 : List Int) (A1 : Option Addr) (c1 : Nat) (l1 : List Int) (r : Bool) (w : World) (hr0 : Kd.C (Kd.int .i64) w A0 l0.length l0) (hc0 : l0.length ≤ c0) (hr1 : Kd.C (Kd.int .i64) w A1 l1.length l1) (hc1 : l1.length ≤ c1) (hg : Aside0 (Glob w)) (hrt : Aside0 (r = true)) (h : toruslaw07_SimplexNumbers.f k l0 l1 = some r) :
  Calls Tryd.prog 6 #[.slice A0 l0.length c0, .slice A1 l1.length c1] w fun e w' => e = .returned (.bool r) ∧ Below w.heap.size w w' := by
 have HR0 := Aside0.mk hr0
 have HC0 := Aside0.mk hc0
 clear hr0 hc0
 have HR1 := Aside0.mk hr1
 have HC1 := Aside0.mk hc1
 clear hr1 hc1
 have HB := Aside0.mk (Below.refl w.heap.size w)
 have H : (if (l0.length : Int) > 50 then (toruslaw07_SimplexNumbers.j0 k l0 l1 true) else (if (l1.length : Int) > 50 then (toruslaw07_SimplexNumbers.j0 k l0 l1 true) else ((toruslaw07_awake.f k).bind fun t358 => (toruslaw07_SimplexNumbers.j0 k l0 l1 (!t358))))) = some r := h
 clear h
 have HC3 := Aside0.mk H
 clear H
 go_enter Tryd.func6, Tryd.ntmps6
 go_upto_region 1 with (fail)
 repeat (go_quiet (fail); go_upto_region 1 with (fail))
 go_cut [26] (fun v26 wc => ∃ (kq : Nat) (x26_2 : Bool), v26 = .bool x26_2 ∧ Aside0 (toruslaw07_SimplexNumbers.j0 kq l0 l1 x26_2 = some r) ∧ Aside0 (kq ≤ k) ∧ Aside0 (Below w.heap.size w wc))
 case first =>
  have H := HC3.out
  clear HC3
  by_cases c4 : (l0.length : Int) > 50
  ·rw [if_pos c4] at H
   have c4b0 : decide (50 < (l0.length : Int)) = true := decide_eq_true c4
   have c4b1 : decide (50 < l0.length) = true := decide_eq_true (by omega)
   clear c4
   (first | rw [c4b0] | (simp only [i64_w, i32_w]; rw [c4b0]) | skip)
   have H' := Aside0.mk H
   clear H
   go_wp2
   repeat (go_quiet (fail); try go_wp2)
   go_meet
   case rel => exact ⟨_, (true), sd_, H', ⟨by first | omega | exact Nat.le_refl _⟩, ⟨bw_⟩⟩
  ·rw [if_neg c4] at H
   have c4b0 : decide (50 < (l0.length : Int)) = false := decide_eq_false c4
   have c4b1 : decide (50 < l0.length) = false := decide_eq_false (by omega)
   clear c4
   (first | rw [c4b0] | (simp only [i64_w, i32_w]; rw [c4b0]) | skip)
   by_cases c5 : (l1.length : Int) > 50
   ·rw [if_pos c5] at H
    have c5b0 : decide (50 < (l1.length : Int)) = true := decide_eq_true c5
    have c5b1 : decide (50 < l1.length) = true := decide_eq_true (by omega)
    clear c5
    have H' := Aside0.mk H
    clear H
    go_wp2
    repeat (go_quiet (fail); try go_wp2)
    go_meet
    case rel => exact ⟨_, (true), sd_, H', ⟨by first | omega | exact Nat.le_refl _⟩, ⟨bw_⟩⟩
   ·rw [if_neg c5] at H
    have c5b0 : decide (50 < (l1.length : Int)) = false := decide_eq_false c5
    have c5b1 : decide (50 < l1.length) = false := decide_eq_false (by omega)
    clear c5
    replace H := Option.bind_eq_some_iff.mp H
    obtain ⟨t358, A60, H⟩ := H
    replace H : (toruslaw07_SimplexNumbers.j0 k l0 l1 (!t358)) = some r := H
    have A6 := Aside0.mk A60
    clear A60
    have H' := Aside0.mk H
    clear H
    go_wp2_with (first | (go_at_call 12; (with_reducible refine (toruslaw07_awake.calls k  t358 _ ?side1 A6.out).mono ?_); (case side1 => first | exact hg | exact ⟨Glob.below hg.out bw_⟩); rintro e w7 ⟨rfl, hb⟩; have n0_ := Aside0.mk (below_step bw_ hb); clear HB; have HB := n0_; clear n0_; (try clear hb); (try clear hb2); (try clear hk); (try clear hi)))
    repeat (go_quiet (first | (go_at_call 12; (with_reducible refine (toruslaw07_awake.calls k  t358 _ ?side1 A6.out).mono ?_); (case side1 => first | exact hg | exact ⟨Glob.below hg.out bw_⟩); rintro e w7 ⟨rfl, hb⟩; have n0_ := Aside0.mk (below_step bw_ hb); clear HB; have HB := n0_; clear n0_; (try clear hb); (try clear hb2); (try clear hk); (try clear hi))); try go_wp2_with (first | (go_at_call 12; (with_reducible refine (toruslaw07_awake.calls k  t358 _ ?side1 A6.out).mono ?_); (case side1 => first | exact hg | exact ⟨Glob.below hg.out bw_⟩); rintro e w7 ⟨rfl, hb⟩; have n0_ := Aside0.mk (below_step bw_ hb); clear HB; have HB := n0_; clear n0_; (try clear hb); (try clear hb2); (try clear hk); (try clear hi))))
    go_meet
    case rel => exact ⟨_, (!t358), sd_, H', ⟨by first | omega | exact Nat.le_refl _⟩, ⟨bw_⟩⟩
 case rest =>
  clear HC3
  try clear c1
  try clear p2
  try clear c4
  try clear c4b0
  try clear c4b1
  try clear c5
  try clear c5b0
  try clear c5b1
  try clear c6
  obtain ⟨kq, x26_2, rfl, HA, HJ2, HB⟩ := hcut
  cases kq with
  |zero => exact absurd HA.out (by simp [toruslaw07_SimplexNumbers.j0])
  |succ kj2 =>
   have H := HA.out
   clear HA
   simp only [toruslaw07_SimplexNumbers.j0] at H
   by_cases c8 : x26_2 = true
   ·subst c8
    have H1 : ((toruslaw07_awake.f kj2).bind fun t359 => (some t359)) = some r := by rw [if_pos rfl] at H; exact H
    clear H
    have H := H1
    clear H1
    replace H := Option.bind_eq_some_iff.mp H
    obtain ⟨t359, A90, H⟩ := H
    replace H : (some t359) = some r := H
    have A9 := Aside0.mk A90
    clear A90
    first
    |with_reducible exact absurd ((Option.some.inj H).trans hrt.out) Bool.false_ne_true
    |skip
     obtain rfl := Option.some.inj H
     go_wp2_with (first | (go_at_call 12; (with_reducible refine (toruslaw07_awake.calls kj2  t359 _ ?side1 A9.out).mono ?_); (case side1 => first | exact hg | exact ⟨Glob.below hg.out bw_⟩); rintro e w10 ⟨rfl, hb⟩; have n0_ := Aside0.mk (below_step bw_ hb); clear HB; have HB := n0_; clear n0_; (try clear hb); (try clear hb2); (try clear hk); (try clear hi)))
     repeat (go_quiet (first | (go_at_call 12; (with_reducible refine (toruslaw07_awake.calls kj2  t359 _ ?side1 A9.out).mono ?_); (case side1 => first | exact hg | exact ⟨Glob.below hg.out bw_⟩); rintro e w10 ⟨rfl, hb⟩; have n0_ := Aside0.mk (below_step bw_ hb); clear HB; have HB := n0_; clear n0_; (try clear hb); (try clear hb2); (try clear hk); (try clear hi))); try go_wp2_with (first | (go_at_call 12; (with_reducible refine (toruslaw07_awake.calls kj2  t359 _ ?side1 A9.out).mono ?_); (case side1 => first | exact hg | exact ⟨Glob.below hg.out bw_⟩); rintro e w10 ⟨rfl, hb⟩; have n0_ := Aside0.mk (below_step bw_ hb); clear HB; have HB := n0_; clear n0_; (try clear hb); (try clear hb2); (try clear hk); (try clear hi))))
     go_ret
     exact ⟨by first | rfl | (simp [errW_none, errW_some] <;> rfl) | (simp [*, errW_none, errW_some] <;> rfl), bw_⟩
   ·replace c8 := Bool.eq_false_iff.mpr c8
    subst c8
    have H1 : ((torusref07_Valid.f kj2 l0 5 64).bind fun t360 => ((torusref07_Valid.f kj2 l1 5 64).bind fun t363 => (if 0 ≤ (mn (t360.length : Int) (t363.length : Int)) then (if (mn (t360.length : Int) (t363.length : Int)) ≤ (t360.length : Int) then ((some (t360.take ((mn (t360.length : Int) (t363.length : Int)) : Int).toNat : List Int)).bind fun y366 => (if (mn (t360.length : Int) (t363.length : Int)) ≤ (t363.length : Int) then ((some (t363.take ((mn (t360.length : Int) (t363.length : Int)) : Int).toNat : List Int)).bind fun y369 => ((simplex_Number.f kj2 y366).bind fun bt372 => ((simplex_Number.f kj2 y369).bind fun bt374 => ((simplex_Numbered.f kj2 (wrap64 ((mn (t360.length : Int) (t363.length : Int)) - 1)) bt372.1).bind fun bt376 => (if bt372.2 = 0 then (if bt374.2 = 0 then ((toruslaw07_is.f kj2 bt376.1 bt376.2 y366).bind fun t380 => (toruslaw07_SimplexNumbers.j1 kj2 y366 y369 (mn (t360.length : Int) (t363.length : Int)) bt372.1 bt374.1 (!t380))) else (toruslaw07_SimplexNumbers.j1 kj2 y366 y369 (mn (t360.length : Int) (t363.length : Int)) bt372.1 bt374.1 true)) else (toruslaw07_SimplexNumbers.j1 kj2 y366 y369 (mn (t360.length : Int) (t363.length : Int)) bt372.1 bt374.1 true)))))) else (none))) else (none)) else (none)))) = some r := by rw [if_neg (show ¬ (false = true) by decide)] at H; exact H
    clear H
    have H := H1
    clear H1
    replace H := Option.bind_eq_some_iff.mp H
    obtain ⟨t360, A110, H⟩ := H
    replace H : ((torusref07_Valid.f kj2 l1 5 64).bind fun t363 => (if 0 ≤ (mn (t360.length : Int) (t363.length : Int)) then (if (mn (t360.length : Int) (t363.length : Int)) ≤ (t360.length : Int) then ((some (t360.take ((mn (t360.length : Int) (t363.length : Int)) : Int).toNat : List Int)).bind fun y366 => (if (mn (t360.length : Int) (t363.length : Int)) ≤ (t363.length : Int) then ((some (t363.take ((mn (t360.length : Int) (t363.length : Int)) : Int).toNat : List Int)).bind fun y369 => ((simplex_Number.f kj2 y366).bind fun bt372 => ((simplex_Number.f kj2 y369).bind fun bt374 => ((simplex_Numbered.f kj2 (wrap64 ((mn (t360.length : Int) (t363.length : Int)) - 1)) bt372.1).bind fun bt376 => (if bt372.2 = 0 then (if bt374.2 = 0 then ((toruslaw07_is.f kj2 bt376.1 bt376.2 y366).bind fun t380 => (toruslaw07_SimplexNumbers.j1 kj2 y366 y369 (mn (t360.length : Int) (t363.length : Int)) bt372.1 bt374.1 (!t380))) else (toruslaw07_SimplexNumbers.j1 kj2 y366 y369 (mn (t360.length : Int) (t363.length : Int)) bt372.1 bt374.1 true)) else (toruslaw07_SimplexNumbers.j1 kj2 y366 y369 (mn (t360.length : Int) (t363.length : Int)) bt372.1 bt374.1 true)))))) else (none))) else (none)) else (none))) = some r := H
    have A11 := Aside0.mk A110
    clear A110
    replace H := Option.bind_eq_some_iff.mp H
    obtain ⟨t363, A120, H⟩ := H
    replace H : (if 0 ≤ (mn (t360.length : Int) (t363.length : Int)) then (if (mn (t360.length : Int) (t363.length : Int)) ≤ (t360.length : Int) then ((some (t360.take ((mn (t360.length : Int) (t363.length : Int)) : Int).toNat : List Int)).bind fun y366 => (if (mn (t360.length : Int) (t363.length : Int)) ≤ (t363.length : Int) then ((some (t363.take ((mn (t360.length : Int) (t363.length : Int)) : Int).toNat : List Int)).bind fun y369 => ((simplex_Number.f kj2 y366).bind fun bt372 => ((simplex_Number.f kj2 y369).bind fun bt374 => ((simplex_Numbered.f kj2 (wrap64 ((mn (t360.length : Int) (t363.length : Int)) - 1)) bt372.1).bind fun bt376 => (if bt372.2 = 0 then (if bt374.2 = 0 then ((toruslaw07_is.f kj2 bt376.1 bt376.2 y366).bind fun t380 => (toruslaw07_SimplexNumbers.j1 kj2 y366 y369 (mn (t360.length : Int) (t363.length : Int)) bt372.1 bt374.1 (!t380))) else (toruslaw07_SimplexNumbers.j1 kj2 y366 y369 (mn (t360.length : Int) (t363.length : Int)) bt372.1 bt374.1 true)) else (toruslaw07_SimplexNumbers.j1 kj2 y366 y369 (mn (t360.length : Int) (t363.length : Int)) bt372.1 bt374.1 true)))))) else (none))) else (none)) else (none)) = some r := H
    have A12 := Aside0.mk A120
    clear A120
    obtain ⟨ji13, hji13⟩ : ∃ j_ : Int, (mn (t360.length : Int) (t363.length : Int)) = j_ := ⟨_, rfl⟩
    replace H : (if 0 ≤ (ji13) then (if (ji13) ≤ (t360.length : Int) then ((some (t360.take ((ji13) : Int).toNat : List Int)).bind fun y366 => (if (ji13) ≤ (t363.length : Int) then ((some (t363.take ((ji13) : Int).toNat : List Int)).bind fun y369 => ((simplex_Number.f kj2 y366).bind fun bt372 => ((simplex_Number.f kj2 y369).bind fun bt374 => ((simplex_Numbered.f kj2 (wrap64 ((ji13) - 1)) bt372.1).bind fun bt376 => (if bt372.2 = 0 then (if bt374.2 = 0 then ((toruslaw07_is.f kj2 bt376.1 bt376.2 y366).bind fun t380 => (toruslaw07_SimplexNumbers.j1 kj2 y366 y369 ji13 bt372.1 bt374.1 (!t380))) else (toruslaw07_SimplexNumbers.j1 kj2 y366 y369 ji13 bt372.1 bt374.1 true)) else (toruslaw07_SimplexNumbers.j1 kj2 y366 y369 ji13 bt372.1 bt374.1 true)))))) else (none))) else (none)) else (none)) = some r := by first | (rw [hji13] at H; exact H) | (simp only [hji13] at H ⊢; exact H)
    (try rw [hji13] at A11)
    (try rw [hji13] at A12)
    (try (have hji13l : 0 ≤ ji13 := by (rw [← hji13]; unfold mn; (repeat' split) <;> omega)))
    (try (have hji13m : 0 ≤ ji13 := by omega))
    have hji13_ : (if (t363.length : Int) < (t360.length : Int) then (t363.length : Int) else (t360.length : Int)) = ji13 := hji13
    (try (have hji13n := hji13_; simp only [Int.ofNat_lt] at hji13n))
    by_cases c14 : 0 ≤ (ji13)
    ·rw [if_pos c14] at H
     have c14b0 := eq_true c14
     have c14b1 : decide (0 ≤ (ji13)) = true := decide_eq_true c14
     clear c14
     by_cases c15 : (ji13) ≤ (t360.length : Int)
     ·rw [if_pos c15] at H
      have c15b0 := eq_true c15
      have c15b1 : decide ((ji13) ≤ (t360.length : Int)) = true := decide_eq_true c15
      clear c15
      obtain ⟨y366, hy366⟩ : ∃ y_ : List Int, y_ = (t360.take ((ji13) : Int).toNat) := ⟨_, rfl⟩
      replace H : (if (ji13) ≤ (t363.length : Int) then ((some (t363.take ((ji13) : Int).toNat : List Int)).bind fun y369 => ((simplex_Number.f kj2 y366).bind fun bt372 => ((simplex_Number.f kj2 y369).bind fun bt374 => ((simplex_Numbered.f kj2 (wrap64 ((ji13) - 1)) bt372.1).bind fun bt376 => (if bt372.2 = 0 then (if bt374.2 = 0 then ((toruslaw07_is.f kj2 bt376.1 bt376.2 y366).bind fun t380 => (toruslaw07_SimplexNumbers.j1 kj2 y366 y369 ji13 bt372.1 bt374.1 (!t380))) else (toruslaw07_SimplexNumbers.j1 kj2 y366 y369 ji13 bt372.1 bt374.1 true)) else (toruslaw07_SimplexNumbers.j1 kj2 y366 y369 ji13 bt372.1 bt374.1 true)))))) else (none)) = some r := by first | (rw [hy366]; with_reducible exact H) | (have H2_ := (Option.bind_some _ _).symm.trans H; rw [hy366]; with_reducible exact H2_) | (have H2_ := (Option.bind_some _ _).symm.trans H; with_reducible exact H2_) | with_reducible exact H | (rw [hy366]; exact H) | exact H
      have Ny366 := Aside0.mk hy366
      clear hy366
      by_cases c16 : (ji13) ≤ (t363.length : Int)
      ·rw [if_pos c16] at H
       have c16b0 := eq_true c16
       have c16b1 : decide ((ji13) ≤ (t363.length : Int)) = true := decide_eq_true c16
       clear c16
       obtain ⟨y369, hy369⟩ : ∃ y_ : List Int, y_ = (t363.take ((ji13) : Int).toNat) := ⟨_, rfl⟩
       replace H : ((simplex_Number.f kj2 y366).bind fun bt372 => ((simplex_Number.f kj2 y369).bind fun bt374 => ((simplex_Numbered.f kj2 (wrap64 ((ji13) - 1)) bt372.1).bind fun bt376 => (if bt372.2 = 0 then (if bt374.2 = 0 then ((toruslaw07_is.f kj2 bt376.1 bt376.2 y366).bind fun t380 => (toruslaw07_SimplexNumbers.j1 kj2 y366 y369 ji13 bt372.1 bt374.1 (!t380))) else (toruslaw07_SimplexNumbers.j1 kj2 y366 y369 ji13 bt372.1 bt374.1 true)) else (toruslaw07_SimplexNumbers.j1 kj2 y366 y369 ji13 bt372.1 bt374.1 true))))) = some r := by first | (rw [hy369]; with_reducible exact H) | (have H2_ := (Option.bind_some _ _).symm.trans H; rw [hy369]; with_reducible exact H2_) | (have H2_ := (Option.bind_some _ _).symm.trans H; with_reducible exact H2_) | with_reducible exact H | (rw [hy369]; exact H) | exact H
       have Ny369 := Aside0.mk hy369
       clear hy369
       replace H := Option.bind_eq_some_iff.mp H
       obtain ⟨⟨t372, t373⟩, A170, H⟩ := H
       replace H : ((simplex_Number.f kj2 y369).bind fun bt374 => ((simplex_Numbered.f kj2 (wrap64 ((ji13) - 1)) t372).bind fun bt376 => (if t373 = 0 then (if bt374.2 = 0 then ((toruslaw07_is.f kj2 bt376.1 bt376.2 y366).bind fun t380 => (toruslaw07_SimplexNumbers.j1 kj2 y366 y369 ji13 t372 bt374.1 (!t380))) else (toruslaw07_SimplexNumbers.j1 kj2 y366 y369 ji13 t372 bt374.1 true)) else (toruslaw07_SimplexNumbers.j1 kj2 y366 y369 ji13 t372 bt374.1 true)))) = some r := H
       have A17 := Aside0.mk A170
       clear A170
       replace H := Option.bind_eq_some_iff.mp H
       obtain ⟨⟨t374, t375⟩, A180, H⟩ := H
       replace H : ((simplex_Numbered.f kj2 (wrap64 ((ji13) - 1)) t372).bind fun bt376 => (if t373 = 0 then (if t375 = 0 then ((toruslaw07_is.f kj2 bt376.1 bt376.2 y366).bind fun t380 => (toruslaw07_SimplexNumbers.j1 kj2 y366 y369 ji13 t372 t374 (!t380))) else (toruslaw07_SimplexNumbers.j1 kj2 y366 y369 ji13 t372 t374 true)) else (toruslaw07_SimplexNumbers.j1 kj2 y366 y369 ji13 t372 t374 true))) = some r := H
       have A18 := Aside0.mk A180
       clear A180
       replace H := Option.bind_eq_some_iff.mp H
       obtain ⟨⟨t376, t377⟩, A190, H⟩ := H
       replace H : (if t373 = 0 then (if t375 = 0 then ((toruslaw07_is.f kj2 t376 t377 y366).bind fun t380 => (toruslaw07_SimplexNumbers.j1 kj2 y366 y369 ji13 t372 t374 (!t380))) else (toruslaw07_SimplexNumbers.j1 kj2 y366 y369 ji13 t372 t374 true)) else (toruslaw07_SimplexNumbers.j1 kj2 y366 y369 ji13 t372 t374 true)) = some r := H
       have A19 := Aside0.mk A190
       clear A190
       have HC20 := Aside0.mk H
       clear H
       go_upto_region 9 with (first | (go_at_call 21; (with_reducible refine (torusref07_Valid.calls kj2 _ _ l0 5 64 t360 _ ?side1 ?side2 A11.out).mono ?_); (case side1 => exact cs_ (Kd.C_below HR0.out HB.out)); (case side2 => exact HC0.out); rintro e w21 ⟨v361, rfl, ho0, hb⟩; have n0_ := Aside0.mk (Kd.R_lower ho0 (below_size bw_)); have n1_ := Aside0.mk (below_step bw_ hb); clear HB; have HO362 := n0_; have HB := n1_; clear n0_ n1_; (try clear hb); (try clear hb2); (try clear hk); (try clear hi); (try clear ho0)) | (go_at_call 21; (with_reducible refine (torusref07_Valid.calls kj2 _ _ l1 5 64 t363 _ ?side1 ?side2 A12.out).mono ?_); (case side1 => exact cs_ (Kd.C_below HR1.out HB.out)); (case side2 => exact HC1.out); rintro e w22 ⟨v364, rfl, ho0, hb⟩; have n0_ := Aside0.mk (Kd.R_elder' (rRa_ HO362.out) (Kd.R_base ho0) hb); have n1_ := Aside0.mk (Kd.R_lower (Kd.R_new' ho0 (Kd.R_lt (rRa_ HO362.out))) (below_size bw_)); have n2_ := Aside0.mk (below_step bw_ hb); clear HO362; clear HB; have HO362 := n0_; have HO365 := n1_; have HB := n2_; clear n0_ n1_ n2_; (try clear hb); (try clear hb2); (try clear hk); (try clear hi); (try clear ho0); obtain ⟨Ao23, co23, eo23⟩ := Kd.R_slice HO362.out; subst eo23; obtain ⟨Ao24, co24, eo24⟩ := Kd.R_slice HO365.out; subst eo24; have q25 : ((ji13) : Int) ≤ ((t360.length : Int) : Int) := of_decide_eq_true as_; obtain ⟨i025, hi025, _, hsz25, _⟩ := info_parts info3; have hcut25 := cut_to (P := Tryd.prog) 22 3 .i64 Tryd.underlying22 hi025 Ao23 t360.length co23 (ji13) (of_decide_eq_true as_) q25 (Kd.R_reads' HO362.out).2.1; have hr25 := Kd.R_take (m := ((ji13) : Int).toNat) HO362.out (by omega); have hy25 : y366.length = ((ji13) : Int).toNat := (by rw [Ny366.out, List.length_take]; omega); rw [← Ny366.out] at hr25; rw [← hy25] at hr25 hcut25; clear hy25 hi025 hsz25 HO362; have HO368 := Aside0.mk hr25; clear hr25; replace q25 := eq_true q25; have q26 : ((ji13) : Int) ≤ ((t363.length : Int) : Int) := of_decide_eq_true as_; obtain ⟨i026, hi026, _, hsz26, _⟩ := info_parts info3; have hcut26 := cut_to (P := Tryd.prog) 22 3 .i64 Tryd.underlying22 hi026 Ao24 t363.length co24 (ji13) (of_decide_eq_true as_) q26 (Kd.R_reads' HO365.out).2.1; have hr26 := Kd.R_take (m := ((ji13) : Int).toNat) HO365.out (by omega); have hy26 : y369.length = ((ji13) : Int).toNat := (by rw [Ny369.out, List.length_take]; omega); rw [← Ny369.out] at hr26; rw [← hy26] at hr26 hcut26; clear hy26 hi026 hsz26 HO365; have HO371 := Aside0.mk hr26; clear hr26; replace q26 := eq_true q26) | (go_at_call 13; (with_reducible refine (simplex_Number.calls kj2 _ _ y366 t372 t373 _ ?side1 ?side2 ?side3 A17.out).mono ?_); (case side1 => repeat (first | exact (Kd.R_reads' HO368.out).2.2 | (with_reducible refine Kd.C_alloc ?_ _) | (with_reducible refine Kd.C_drewN ?_ _) | (with_reducible refine Kd.C_drew ?_))); (case side2 => exact (Kd.R_reads' HO368.out).2.1); (case side3 => first | exact hg | exact ⟨Glob.below hg.out bw_⟩); rintro e w27 ⟨rfl, hb⟩; have n0_ := Aside0.mk (Kd.R_below (rRa_ HO368.out) hb); have n1_ := Aside0.mk (Kd.R_below (rRa_ HO371.out) hb); have n2_ := Aside0.mk (below_step bw_ hb); clear HO368; clear HO371; clear HB; have HO368 := n0_; have HO371 := n1_; have HB := n2_; clear n0_ n1_ n2_; (try clear hb); (try clear hb2); (try clear hk); (try clear hi)) | (go_at_call 13; (with_reducible refine (simplex_Number.calls kj2 _ _ y369 t374 t375 _ ?side1 ?side2 ?side3 A18.out).mono ?_); (case side1 => repeat (first | exact (Kd.R_reads' HO371.out).2.2 | (with_reducible refine Kd.C_alloc ?_ _) | (with_reducible refine Kd.C_drewN ?_ _) | (with_reducible refine Kd.C_drew ?_))); (case side2 => exact (Kd.R_reads' HO371.out).2.1); (case side3 => first | exact hg | exact ⟨Glob.below hg.out bw_⟩); rintro e w28 ⟨rfl, hb⟩; have n0_ := Aside0.mk (Kd.R_below (rRa_ HO368.out) hb); have n1_ := Aside0.mk (Kd.R_below (rRa_ HO371.out) hb); have n2_ := Aside0.mk (below_step bw_ hb); clear HO368; clear HO371; clear HB; have HO368 := n0_; have HO371 := n1_; have HB := n2_; clear n0_ n1_ n2_; (try clear hb); (try clear hb2); (try clear hk); (try clear hi)) | (go_at_call 15; (with_reducible refine (simplex_Numbered.calls kj2 (wrap64 ((ji13) - 1)) t372 t376 t377 _ ?side1 A19.out).mono ?_); (case side1 => first | exact hg | exact ⟨Glob.below hg.out bw_⟩); rintro e w29 ⟨v378, rfl, ho0, hb⟩; have n0_ := Aside0.mk (Kd.R_elder' (rRa_ HO368.out) (Kd.R_base ho0) hb); have n1_ := Aside0.mk (Kd.R_elder' (rRa_ HO371.out) (Kd.R_base ho0) hb); have n2_ := Aside0.mk (Kd.R_lower (Kd.R_new' (Kd.R_new' ho0 (Kd.R_lt (rRa_ HO368.out))) (Kd.R_lt (rRa_ HO371.out))) (below_size bw_)); have n3_ := Aside0.mk (below_step bw_ hb); clear HO368; clear HO371; clear HB; have HO368 := n0_; have HO371 := n1_; have HO379 := n2_; have HB := n3_; clear n0_ n1_ n2_ n3_; (try clear hb); (try clear hb2); (try clear hk); (try clear hi); (try clear ho0)))
       repeat (go_quiet (first | (go_at_call 21; (with_reducible refine (torusref07_Valid.calls kj2 _ _ l0 5 64 t360 _ ?side1 ?side2 A11.out).mono ?_); (case side1 => exact cs_ (Kd.C_below HR0.out HB.out)); (case side2 => exact HC0.out); rintro e w21 ⟨v361, rfl, ho0, hb⟩; have n0_ := Aside0.mk (Kd.R_lower ho0 (below_size bw_)); have n1_ := Aside0.mk (below_step bw_ hb); clear HB; have HO362 := n0_; have HB := n1_; clear n0_ n1_; (try clear hb); (try clear hb2); (try clear hk); (try clear hi); (try clear ho0)) | (go_at_call 21; (with_reducible refine (torusref07_Valid.calls kj2 _ _ l1 5 64 t363 _ ?side1 ?side2 A12.out).mono ?_); (case side1 => exact cs_ (Kd.C_below HR1.out HB.out)); (case side2 => exact HC1.out); rintro e w22 ⟨v364, rfl, ho0, hb⟩; have n0_ := Aside0.mk (Kd.R_elder' (rRa_ HO362.out) (Kd.R_base ho0) hb); have n1_ := Aside0.mk (Kd.R_lower (Kd.R_new' ho0 (Kd.R_lt (rRa_ HO362.out))) (below_size bw_)); have n2_ := Aside0.mk (below_step bw_ hb); clear HO362; clear HB; have HO362 := n0_; have HO365 := n1_; have HB := n2_; clear n0_ n1_ n2_; (try clear hb); (try clear hb2); (try clear hk); (try clear hi); (try clear ho0); obtain ⟨Ao23, co23, eo23⟩ := Kd.R_slice HO362.out; subst eo23; obtain ⟨Ao24, co24, eo24⟩ := Kd.R_slice HO365.out; subst eo24; have q25 : ((ji13) : Int) ≤ ((t360.length : Int) : Int) := of_decide_eq_true as_; obtain ⟨i025, hi025, _, hsz25, _⟩ := info_parts info3; have hcut25 := cut_to (P := Tryd.prog) 22 3 .i64 Tryd.underlying22 hi025 Ao23 t360.length co23 (ji13) (of_decide_eq_true as_) q25 (Kd.R_reads' HO362.out).2.1; have hr25 := Kd.R_take (m := ((ji13) : Int).toNat) HO362.out (by omega); have hy25 : y366.length = ((ji13) : Int).toNat := (by rw [Ny366.out, List.length_take]; omega); rw [← Ny366.out] at hr25; rw [← hy25] at hr25 hcut25; clear hy25 hi025 hsz25 HO362; have HO368 := Aside0.mk hr25; clear hr25; replace q25 := eq_true q25; have q26 : ((ji13) : Int) ≤ ((t363.length : Int) : Int) := of_decide_eq_true as_; obtain ⟨i026, hi026, _, hsz26, _⟩ := info_parts info3; have hcut26 := cut_to (P := Tryd.prog) 22 3 .i64 Tryd.underlying22 hi026 Ao24 t363.length co24 (ji13) (of_decide_eq_true as_) q26 (Kd.R_reads' HO365.out).2.1; have hr26 := Kd.R_take (m := ((ji13) : Int).toNat) HO365.out (by omega); have hy26 : y369.length = ((ji13) : Int).toNat := (by rw [Ny369.out, List.length_take]; omega); rw [← Ny369.out] at hr26; rw [← hy26] at hr26 hcut26; clear hy26 hi026 hsz26 HO365; have HO371 := Aside0.mk hr26; clear hr26; replace q26 := eq_true q26) | (go_at_call 13; (with_reducible refine (simplex_Number.calls kj2 _ _ y366 t372 t373 _ ?side1 ?side2 ?side3 A17.out).mono ?_); (case side1 => repeat (first | exact (Kd.R_reads' HO368.out).2.2 | (with_reducible refine Kd.C_alloc ?_ _) | (with_reducible refine Kd.C_drewN ?_ _) | (with_reducible refine Kd.C_drew ?_))); (case side2 => exact (Kd.R_reads' HO368.out).2.1); (case side3 => first | exact hg | exact ⟨Glob.below hg.out bw_⟩); rintro e w27 ⟨rfl, hb⟩; have n0_ := Aside0.mk (Kd.R_below (rRa_ HO368.out) hb); have n1_ := Aside0.mk (Kd.R_below (rRa_ HO371.out) hb); have n2_ := Aside0.mk (below_step bw_ hb); clear HO368; clear HO371; clear HB; have HO368 := n0_; have HO371 := n1_; have HB := n2_; clear n0_ n1_ n2_; (try clear hb); (try clear hb2); (try clear hk); (try clear hi)) | (go_at_call 13; (with_reducible refine (simplex_Number.calls kj2 _ _ y369 t374 t375 _ ?side1 ?side2 ?side3 A18.out).mono ?_); (case side1 => repeat (first | exact (Kd.R_reads' HO371.out).2.2 | (with_reducible refine Kd.C_alloc ?_ _) | (with_reducible refine Kd.C_drewN ?_ _) | (with_reducible refine Kd.C_drew ?_))); (case side2 => exact (Kd.R_reads' HO371.out).2.1); (case side3 => first | exact hg | exact ⟨Glob.below hg.out bw_⟩); rintro e w28 ⟨rfl, hb⟩; have n0_ := Aside0.mk (Kd.R_below (rRa_ HO368.out) hb); have n1_ := Aside0.mk (Kd.R_below (rRa_ HO371.out) hb); have n2_ := Aside0.mk (below_step bw_ hb); clear HO368; clear HO371; clear HB; have HO368 := n0_; have HO371 := n1_; have HB := n2_; clear n0_ n1_ n2_; (try clear hb); (try clear hb2); (try clear hk); (try clear hi)) | (go_at_call 15; (with_reducible refine (simplex_Numbered.calls kj2 (wrap64 ((ji13) - 1)) t372 t376 t377 _ ?side1 A19.out).mono ?_); (case side1 => first | exact hg | exact ⟨Glob.below hg.out bw_⟩); rintro e w29 ⟨v378, rfl, ho0, hb⟩; have n0_ := Aside0.mk (Kd.R_elder' (rRa_ HO368.out) (Kd.R_base ho0) hb); have n1_ := Aside0.mk (Kd.R_elder' (rRa_ HO371.out) (Kd.R_base ho0) hb); have n2_ := Aside0.mk (Kd.R_lower (Kd.R_new' (Kd.R_new' ho0 (Kd.R_lt (rRa_ HO368.out))) (Kd.R_lt (rRa_ HO371.out))) (below_size bw_)); have n3_ := Aside0.mk (below_step bw_ hb); clear HO368; clear HO371; clear HB; have HO368 := n0_; have HO371 := n1_; have HO379 := n2_; have HB := n3_; clear n0_ n1_ n2_ n3_; (try clear hb); (try clear hb2); (try clear hk); (try clear hi); (try clear ho0))); go_upto_region 9 with (first | (go_at_call 21; (with_reducible refine (torusref07_Valid.calls kj2 _ _ l0 5 64 t360 _ ?side1 ?side2 A11.out).mono ?_); (case side1 => exact cs_ (Kd.C_below HR0.out HB.out)); (case side2 => exact HC0.out); rintro e w21 ⟨v361, rfl, ho0, hb⟩; have n0_ := Aside0.mk (Kd.R_lower ho0 (below_size bw_)); have n1_ := Aside0.mk (below_step bw_ hb); clear HB; have HO362 := n0_; have HB := n1_; clear n0_ n1_; (try clear hb); (try clear hb2); (try clear hk); (try clear hi); (try clear ho0)) | (go_at_call 21; (with_reducible refine (torusref07_Valid.calls kj2 _ _ l1 5 64 t363 _ ?side1 ?side2 A12.out).mono ?_); (case side1 => exact cs_ (Kd.C_below HR1.out HB.out)); (case side2 => exact HC1.out); rintro e w22 ⟨v364, rfl, ho0, hb⟩; have n0_ := Aside0.mk (Kd.R_elder' (rRa_ HO362.out) (Kd.R_base ho0) hb); have n1_ := Aside0.mk (Kd.R_lower (Kd.R_new' ho0 (Kd.R_lt (rRa_ HO362.out))) (below_size bw_)); have n2_ := Aside0.mk (below_step bw_ hb); clear HO362; clear HB; have HO362 := n0_; have HO365 := n1_; have HB := n2_; clear n0_ n1_ n2_; (try clear hb); (try clear hb2); (try clear hk); (try clear hi); (try clear ho0); obtain ⟨Ao23, co23, eo23⟩ := Kd.R_slice HO362.out; subst eo23; obtain ⟨Ao24, co24, eo24⟩ := Kd.R_slice HO365.out; subst eo24; have q25 : ((ji13) : Int) ≤ ((t360.length : Int) : Int) := of_decide_eq_true as_; obtain ⟨i025, hi025, _, hsz25, _⟩ := info_parts info3; have hcut25 := cut_to (P := Tryd.prog) 22 3 .i64 Tryd.underlying22 hi025 Ao23 t360.length co23 (ji13) (of_decide_eq_true as_) q25 (Kd.R_reads' HO362.out).2.1; have hr25 := Kd.R_take (m := ((ji13) : Int).toNat) HO362.out (by omega); have hy25 : y366.length = ((ji13) : Int).toNat := (by rw [Ny366.out, List.length_take]; omega); rw [← Ny366.out] at hr25; rw [← hy25] at hr25 hcut25; clear hy25 hi025 hsz25 HO362; have HO368 := Aside0.mk hr25; clear hr25; replace q25 := eq_true q25; have q26 : ((ji13) : Int) ≤ ((t363.length : Int) : Int) := of_decide_eq_true as_; obtain ⟨i026, hi026, _, hsz26, _⟩ := info_parts info3; have hcut26 := cut_to (P := Tryd.prog) 22 3 .i64 Tryd.underlying22 hi026 Ao24 t363.length co24 (ji13) (of_decide_eq_true as_) q26 (Kd.R_reads' HO365.out).2.1; have hr26 := Kd.R_take (m := ((ji13) : Int).toNat) HO365.out (by omega); have hy26 : y369.length = ((ji13) : Int).toNat := (by rw [Ny369.out, List.length_take]; omega); rw [← Ny369.out] at hr26; rw [← hy26] at hr26 hcut26; clear hy26 hi026 hsz26 HO365; have HO371 := Aside0.mk hr26; clear hr26; replace q26 := eq_true q26) | (go_at_call 13; (with_reducible refine (simplex_Number.calls kj2 _ _ y366 t372 t373 _ ?side1 ?side2 ?side3 A17.out).mono ?_); (case side1 => repeat (first | exact (Kd.R_reads' HO368.out).2.2 | (with_reducible refine Kd.C_alloc ?_ _) | (with_reducible refine Kd.C_drewN ?_ _) | (with_reducible refine Kd.C_drew ?_))); (case side2 => exact (Kd.R_reads' HO368.out).2.1); (case side3 => first | exact hg | exact ⟨Glob.below hg.out bw_⟩); rintro e w27 ⟨rfl, hb⟩; have n0_ := Aside0.mk (Kd.R_below (rRa_ HO368.out) hb); have n1_ := Aside0.mk (Kd.R_below (rRa_ HO371.out) hb); have n2_ := Aside0.mk (below_step bw_ hb); clear HO368; clear HO371; clear HB; have HO368 := n0_; have HO371 := n1_; have HB := n2_; clear n0_ n1_ n2_; (try clear hb); (try clear hb2); (try clear hk); (try clear hi)) | (go_at_call 13; (with_reducible refine (simplex_Number.calls kj2 _ _ y369 t374 t375 _ ?side1 ?side2 ?side3 A18.out).mono ?_); (case side1 => repeat (first | exact (Kd.R_reads' HO371.out).2.2 | (with_reducible refine Kd.C_alloc ?_ _) | (with_reducible refine Kd.C_drewN ?_ _) | (with_reducible refine Kd.C_drew ?_))); (case side2 => exact (Kd.R_reads' HO371.out).2.1); (case side3 => first | exact hg | exact ⟨Glob.below hg.out bw_⟩); rintro e w28 ⟨rfl, hb⟩; have n0_ := Aside0.mk (Kd.R_below (rRa_ HO368.out) hb); have n1_ := Aside0.mk (Kd.R_below (rRa_ HO371.out) hb); have n2_ := Aside0.mk (below_step bw_ hb); clear HO368; clear HO371; clear HB; have HO368 := n0_; have HO371 := n1_; have HB := n2_; clear n0_ n1_ n2_; (try clear hb); (try clear hb2); (try clear hk); (try clear hi)) | (go_at_call 15; (with_reducible refine (simplex_Numbered.calls kj2 (wrap64 ((ji13) - 1)) t372 t376 t377 _ ?side1 A19.out).mono ?_); (case side1 => first | exact hg | exact ⟨Glob.below hg.out bw_⟩); rintro e w29 ⟨v378, rfl, ho0, hb⟩; have n0_ := Aside0.mk (Kd.R_elder' (rRa_ HO368.out) (Kd.R_base ho0) hb); have n1_ := Aside0.mk (Kd.R_elder' (rRa_ HO371.out) (Kd.R_base ho0) hb); have n2_ := Aside0.mk (Kd.R_lower (Kd.R_new' (Kd.R_new' ho0 (Kd.R_lt (rRa_ HO368.out))) (Kd.R_lt (rRa_ HO371.out))) (below_size bw_)); have n3_ := Aside0.mk (below_step bw_ hb); clear HO368; clear HO371; clear HB; have HO368 := n0_; have HO371 := n1_; have HO379 := n2_; have HB := n3_; clear n0_ n1_ n2_ n3_; (try clear hb); (try clear hb2); (try clear hk); (try clear hi); (try clear ho0))))
       (try simp only [Act.put, List.setIfInBounds_toArray, List.set_cons_zero, List.set_cons_succ])
       go_cut [72] (fun v72 wc => ∃ (kq : Nat) (x72_19 : Bool), v72 = .bool x72_19 ∧ Aside0 (toruslaw07_SimplexNumbers.j1 kq y366 y369 ji13 t372 t374 x72_19 = some r) ∧ Aside0 (kq ≤ kj2) ∧ Aside0 (Kd.R (Kd.int .i64) 3 wc w.heap.size (fun k_ => some k_ ≠ ((.slice Ao24 y369.length co24) : Value).ownBlock) (.slice Ao23 y366.length co23) y366) ∧ Aside0 (Kd.R (Kd.int .i64) 3 wc w.heap.size (fun k_ => some k_ ≠ ((.slice Ao23 y366.length co23) : Value).ownBlock) (.slice Ao24 y369.length co24) y369) ∧ Aside0 (Below w.heap.size w wc))
       case first =>
        have H := HC20.out
        clear HC20
        by_cases c30 : t373 = 0
        ·rw [if_pos c30] at H
         have c30b0 : (t373 == 0) = true := beq_iff_eq.mpr c30
         have c30b1 : (t373 != 0) = false := bne_eq_false_iff_eq.mpr c30
         clear c30
         (first | rw [c30b0] | (simp only [i64_w, i32_w]; rw [c30b0]) | skip)
         by_cases c31 : t375 = 0
         ·rw [if_pos c31] at H
          have c31b0 : (t375 == 0) = true := beq_iff_eq.mpr c31
          have c31b1 : (t375 != 0) = false := bne_eq_false_iff_eq.mpr c31
          clear c31
          replace H := Option.bind_eq_some_iff.mp H
          obtain ⟨t380, A320, H⟩ := H
          replace H : (toruslaw07_SimplexNumbers.j1 kj2 y366 y369 ji13 t372 t374 (!t380)) = some r := H
          have A32 := Aside0.mk A320
          clear A320
          have H' := Aside0.mk H
          clear H
          obtain ⟨Ao33, co33, eo33⟩ := Kd.R_slice HO379.out
          subst eo33
          go_wp2_with (first | (go_at_call 22; (with_reducible refine (toruslaw07_is.calls kj2 _ _ t376 t377 _ _ y366 t380 _ ?side1 ?side2 ?side3 ?side4 A32.out).mono ?_); (case side1 => repeat (first | exact (Kd.R_reads' HO379.out).2.2 | (with_reducible refine Kd.C_alloc ?_ _) | (with_reducible refine Kd.C_drewN ?_ _) | (with_reducible refine Kd.C_drew ?_))); (case side2 => exact (Kd.R_reads' HO379.out).2.1); (case side3 => repeat (first | exact (Kd.R_reads' HO368.out).2.2 | (with_reducible refine Kd.C_alloc ?_ _) | (with_reducible refine Kd.C_drewN ?_ _) | (with_reducible refine Kd.C_drew ?_))); (case side4 => exact (Kd.R_reads' HO368.out).2.1); rintro e w' ⟨rfl, ⟨nd, rfl⟩⟩; (try first | exact ⟨rfl, _, World.drewN_drewN _ _ _⟩ | exact ⟨rfl, _, Eq.trans (World.drewN_drewN _ _ _) (congrArg (World.drewN _) (Nat.add_assoc _ _ _))⟩)))
          repeat (go_quiet (first | (go_at_call 22; (with_reducible refine (toruslaw07_is.calls kj2 _ _ t376 t377 _ _ y366 t380 _ ?side1 ?side2 ?side3 ?side4 A32.out).mono ?_); (case side1 => repeat (first | exact (Kd.R_reads' HO379.out).2.2 | (with_reducible refine Kd.C_alloc ?_ _) | (with_reducible refine Kd.C_drewN ?_ _) | (with_reducible refine Kd.C_drew ?_))); (case side2 => exact (Kd.R_reads' HO379.out).2.1); (case side3 => repeat (first | exact (Kd.R_reads' HO368.out).2.2 | (with_reducible refine Kd.C_alloc ?_ _) | (with_reducible refine Kd.C_drewN ?_ _) | (with_reducible refine Kd.C_drew ?_))); (case side4 => exact (Kd.R_reads' HO368.out).2.1); rintro e w' ⟨rfl, ⟨nd, rfl⟩⟩; (try first | exact ⟨rfl, _, World.drewN_drewN _ _ _⟩ | exact ⟨rfl, _, Eq.trans (World.drewN_drewN _ _ _) (congrArg (World.drewN _) (Nat.add_assoc _ _ _))⟩))); try go_wp2_with (first | (go_at_call 22; (with_reducible refine (toruslaw07_is.calls kj2 _ _ t376 t377 _ _ y366 t380 _ ?side1 ?side2 ?side3 ?side4 A32.out).mono ?_); (case side1 => repeat (first | exact (Kd.R_reads' HO379.out).2.2 | (with_reducible refine Kd.C_alloc ?_ _) | (with_reducible refine Kd.C_drewN ?_ _) | (with_reducible refine Kd.C_drew ?_))); (case side2 => exact (Kd.R_reads' HO379.out).2.1); (case side3 => repeat (first | exact (Kd.R_reads' HO368.out).2.2 | (with_reducible refine Kd.C_alloc ?_ _) | (with_reducible refine Kd.C_drewN ?_ _) | (with_reducible refine Kd.C_drew ?_))); (case side4 => exact (Kd.R_reads' HO368.out).2.1); rintro e w' ⟨rfl, ⟨nd, rfl⟩⟩; (try first | exact ⟨rfl, _, World.drewN_drewN _ _ _⟩ | exact ⟨rfl, _, Eq.trans (World.drewN_drewN _ _ _) (congrArg (World.drewN _) (Nat.add_assoc _ _ _))⟩))))
          go_meet
          case rel => exact ⟨_, (!t380), sd_, H', ⟨by have := HJ2.out; first | omega | exact Nat.le_refl _⟩, ⟨by (with_reducible repeat (first | apply Kd.R_alloc | apply Kd.R_drewN | apply Kd.R_drew)); exact Kd.R_mono HO368.out (fun _ hk => by first | exact hk.1.2 | exact own_ne_len hk.1.2)⟩, ⟨by (with_reducible repeat (first | apply Kd.R_alloc | apply Kd.R_drewN | apply Kd.R_drew)); exact Kd.R_mono HO371.out (fun _ hk => by first | exact hk.1.2 | exact own_ne_len hk.1.2)⟩, ⟨bw_⟩⟩
         ·rw [if_neg c31] at H
          have c31b0 : (t375 == 0) = false := beq_eq_false_iff_ne.mpr c31
          have c31b1 : (t375 != 0) = true := bne_iff_ne.mpr c31
          have H' := Aside0.mk H
          clear H
          go_wp2
          repeat (go_quiet (fail); try go_wp2)
          go_meet
          case rel => exact ⟨_, (true), sd_, H', ⟨by have := HJ2.out; first | omega | exact Nat.le_refl _⟩, ⟨by (with_reducible repeat (first | apply Kd.R_alloc | apply Kd.R_drewN | apply Kd.R_drew)); exact Kd.R_mono HO368.out (fun _ hk => by first | exact hk.1.2 | exact own_ne_len hk.1.2)⟩, ⟨by (with_reducible repeat (first | apply Kd.R_alloc | apply Kd.R_drewN | apply Kd.R_drew)); exact Kd.R_mono HO371.out (fun _ hk => by first | exact hk.1.2 | exact own_ne_len hk.1.2)⟩, ⟨bw_⟩⟩
        ·rw [if_neg c30] at H
         have c30b0 : (t373 == 0) = false := beq_eq_false_iff_ne.mpr c30
         have c30b1 : (t373 != 0) = true := bne_iff_ne.mpr c30
         (first | rw [c30b0] | (simp only [i64_w, i32_w]; rw [c30b0]) | skip)
         have H' := Aside0.mk H
         clear H
         go_wp2
         repeat (go_quiet (fail); try go_wp2)
         go_meet
         case rel => exact ⟨_, (true), sd_, H', ⟨by have := HJ2.out; first | omega | exact Nat.le_refl _⟩, ⟨by (with_reducible repeat (first | apply Kd.R_alloc | apply Kd.R_drewN | apply Kd.R_drew)); exact Kd.R_mono HO368.out (fun _ hk => by first | exact hk.1.2 | exact own_ne_len hk.1.2)⟩, ⟨by (with_reducible repeat (first | apply Kd.R_alloc | apply Kd.R_drewN | apply Kd.R_drew)); exact Kd.R_mono HO371.out (fun _ hk => by first | exact hk.1.2 | exact own_ne_len hk.1.2)⟩, ⟨bw_⟩⟩
       case rest =>
        clear HC20
        try clear c1
        try clear p2
        try clear q2
        try clear c3
        try clear c4
        try clear c4b0
        try clear c4b1
        try clear c5
        try clear c5b0
        try clear c5b1
        try clear c6
        try clear p6
        try clear c8
        try clear c14
        try clear c14b0
        try clear c14b1
        try clear c15
        try clear c15b0
        try clear c15b1
        try clear c16
        try clear c16b0
        try clear c16b1
        try clear q25
        try clear q26
        try clear c30
        try clear c30b0
        try clear c30b1
        try clear c31
        try clear c31b0
        try clear c31b1
        try clear p2
        try clear q25
        try clear q26
        obtain ⟨kq, x72_19, rfl, HA, HJ19, HO_5, HO_6, HB⟩ := hcut
        cases kq with
        |zero => exact absurd HA.out (by simp [toruslaw07_SimplexNumbers.j1])
        |succ kj19 =>
         have H := HA.out
         clear HA
         simp only [toruslaw07_SimplexNumbers.j1] at H
         by_cases c34 : x72_19 = true
         ·subst c34
          have H1 : (none) = some r := by rw [if_pos rfl] at H; exact H
          clear H
          have H := H1
          clear H1
          exact absurd H (by simp)
         ·replace c34 := Bool.eq_false_iff.mpr c34
          subst c34
          have H1 : (toruslaw07_SimplexNumbers.l0 kj19 y366 y369 t372 t374 (wrap64 (ji13 - 1))) = some r := by rw [if_neg (show ¬ (false = true) by decide)] at H; exact H
          clear H
          have H := H1
          clear H1
          have H' := Aside0.mk H
          clear H
          go_wp2
          repeat (go_quiet (fail); try go_wp2)
          go_loopg [14] kj19 (fun kq v14 w' => ∃ (x14_3 : Int), v14 = .int .i64 x14_3 ∧ Aside0 (toruslaw07_SimplexNumbers.l0 kq y366 y369 t372 t374 x14_3 = some r) ∧ Aside0 (kq ≤ kj19) ∧ Aside0 (Kd.R (Kd.int .i64) 3 w' w.heap.size (fun k_ => some k_ ≠ ((.slice Ao24 y369.length co24) : Value).ownBlock) (.slice Ao23 y366.length co23) y366) ∧ Aside0 (Kd.R (Kd.int .i64) 3 w' w.heap.size (fun k_ => some k_ ≠ ((.slice Ao23 y366.length co23) : Value).ownBlock) (.slice Ao24 y369.length co24) y369) ∧ Aside0 (Below w.heap.size w w'))
          case atStart => exact ⟨(wrap64 (ji13 - 1)), (by first | rfl | (simp; done) | (simp only [← hji13] <;> (first | rfl | simp)) | (simp [*]; done)), H', ⟨Nat.le_refl _⟩, ⟨rRa_ HO_5.out⟩, ⟨rRa_ HO_6.out⟩, ⟨bw_⟩⟩
          case round =>
           clear H'
           try clear c1
           try clear p2
           try clear q2
           try clear c3
           try clear c4
           try clear c4b0
           try clear c4b1
           try clear c5
           try clear c5b0
           try clear c5b1
           try clear c6
           try clear p6
           try clear c8
           try clear c14
           try clear c14b0
           try clear c14b1
           try clear c15
           try clear c15b0
           try clear c15b1
           try clear c16
           try clear c16b0
           try clear c16b1
           try clear q25
           try clear q26
           try clear c30
           try clear c30b0
           try clear c30b1
           try clear c31
           try clear c31b0
           try clear c31b1
           try clear c34
           try clear p2
           try clear p6
           try clear q2
           try clear q25
           try clear q26
           obtain ⟨x14_3, rfl, HA, HK3, HO_5, HO_6, HB⟩ := hrel
           cases gk with
           |zero => exact absurd HA.out (by simp [toruslaw07_SimplexNumbers.l0])
           |succ k3 =>
            have H := HA.out
            clear HA
            simp only [toruslaw07_SimplexNumbers.l0] at H
            by_cases c35 : x14_3 ≥ 0
            ·rw [if_pos c35] at H
             have c35b0 : decide (0 ≤ x14_3) = true := decide_eq_true c35
             clear c35
             by_cases c36 : 0 ≤ x14_3
             ·rw [if_pos c36] at H
              have c36b0 : decide (0 ≤ x14_3) = true := decide_eq_true c36
              clear c36
              by_cases c37 : x14_3 < (y366.length : Int)
              ·rw [if_pos c37] at H
               have c37b0 : decide (x14_3 < (y366.length : Int)) = true := decide_eq_true c37
               clear c37
               by_cases c38 : x14_3 < (y369.length : Int)
               ·rw [if_pos c38] at H
                have c38b0 : decide (x14_3 < (y369.length : Int)) = true := decide_eq_true c38
                clear c38
                by_cases c39 : (rd y366 x14_3) = (rd y369 x14_3)
                ·rw [if_pos c39] at H
                 have c39b0 : ((rd y366 x14_3) == (rd y369 x14_3)) = true := beq_iff_eq.mpr c39
                 have c39b1 : ((rd y366 x14_3) != (rd y369 x14_3)) = false := bne_eq_false_iff_eq.mpr c39
                 clear c39
                 have H' := Aside0.mk H
                 clear H
                 have p381 : 0 ≤ (x14_3 : Int) := of_decide_eq_true as_
                 have q381 : x14_3 < (y366.length : Int) := of_decide_eq_true as_
                 obtain ⟨ad381, e381, hx381_0⟩ := Kd.at_int (Kd.R_reads' HO_5.out).2.2 x14_3 p381 q381
                 cases e381
                 replace p381 := eq_true p381
                 replace q381 := eq_true q381
                 have p382 : 0 ≤ (x14_3 : Int) := of_decide_eq_true as_
                 have q382 : x14_3 < (y369.length : Int) := of_decide_eq_true as_
                 obtain ⟨ad382, e382, hx382_0⟩ := Kd.at_int (Kd.R_reads' HO_6.out).2.2 x14_3 p382 q382
                 cases e382
                 replace p382 := eq_true p382
                 replace q382 := eq_true q382
                 go_wp2
                 repeat (go_quiet (fail); try go_wp2)
                 go_roundg k3
                 case measure => have := HJ2.out; have := HJ19.out; have := HK3.out; omega
                 case rel => exact ⟨(wrap64 (x14_3 - 1)), sd_, H', ⟨by have := HJ2.out; have := HJ19.out; have := HK3.out; omega⟩, ⟨rRa_ HO_5.out⟩, ⟨rRa_ HO_6.out⟩, ⟨bw_⟩⟩
                ·rw [if_neg c39] at H
                 have c39b0 : ((rd y366 x14_3) == (rd y369 x14_3)) = false := beq_eq_false_iff_ne.mpr c39
                 have c39b1 : ((rd y366 x14_3) != (rd y369 x14_3)) = true := bne_iff_ne.mpr c39
                 by_cases c40 : ((decide ((rd y366 x14_3) < (rd y369 x14_3))) == (decide (t372 < t374))) = true
                 ·rw [if_pos c40] at H
                  have c40b0 : ((decide ((rd y366 x14_3) < (rd y369 x14_3))) == (decide (t372 < t374))) = true := c40
                  (try (have c40b1 : decide ((decide ((rd y366 x14_3) < (rd y369 x14_3))) = (decide (t372 < t374))) = true := by simpa using c40))
                  (try (have c40b2 : ((decide ((rd y366 x14_3) < (rd y369 x14_3))) == (decide (t372 < t374))) = true := by simpa using c40))
                  clear c40
                  first
                  |with_reducible exact absurd ((Option.some.inj H).trans hrt.out) Bool.false_ne_true
                  |skip
                   obtain rfl := Option.some.inj H
                   have p381 : 0 ≤ (x14_3 : Int) := of_decide_eq_true as_
                   have q381 : x14_3 < (y366.length : Int) := of_decide_eq_true as_
                   obtain ⟨ad381, e381, hx381_0⟩ := Kd.at_int (Kd.R_reads' HO_5.out).2.2 x14_3 p381 q381
                   cases e381
                   replace p381 := eq_true p381
                   replace q381 := eq_true q381
                   have p382 : 0 ≤ (x14_3 : Int) := of_decide_eq_true as_
                   have q382 : x14_3 < (y369.length : Int) := of_decide_eq_true as_
                   obtain ⟨ad382, e382, hx382_0⟩ := Kd.at_int (Kd.R_reads' HO_6.out).2.2 x14_3 p382 q382
                   cases e382
                   replace p382 := eq_true p382
                   replace q382 := eq_true q382
                   have p383 : 0 ≤ (x14_3 : Int) := of_decide_eq_true as_
                   have q383 : x14_3 < (y366.length : Int) := of_decide_eq_true as_
                   obtain ⟨ad383, e383, hx383_0⟩ := Kd.at_int (Kd.R_reads' HO_5.out).2.2 x14_3 p383 q383
                   obtain rfl : ad381 = ad383 := (by injection e383)
                   replace p383 := eq_true p383
                   replace q383 := eq_true q383
                   have p384 : 0 ≤ (x14_3 : Int) := of_decide_eq_true as_
                   have q384 : x14_3 < (y369.length : Int) := of_decide_eq_true as_
                   obtain ⟨ad384, e384, hx384_0⟩ := Kd.at_int (Kd.R_reads' HO_6.out).2.2 x14_3 p384 q384
                   obtain rfl : ad382 = ad384 := (by injection e384)
                   replace p384 := eq_true p384
                   replace q384 := eq_true q384
                   go_wp2
                   repeat (go_quiet (fail); try go_wp2)
                   go_ret
                   exact ⟨by first | rfl | (simp [errW_none, errW_some] <;> rfl) | (simp only [← hji13]; first | rfl | (simp [errW_none, errW_some] <;> rfl)) | (simp [*, errW_none, errW_some] <;> rfl), bw_⟩
                 ·rw [if_neg c40] at H
                  exact absurd H (by simp)
               ·rw [if_neg c38] at H
                exact absurd H (by simp)
              ·rw [if_neg c37] at H
               exact absurd H (by simp)
             ·rw [if_neg c36] at H
              exact absurd H (by simp)
            ·rw [if_neg c35] at H
             have c35b0 : decide (0 ≤ x14_3) = false := decide_eq_false c35
             clear c35
             first
             |with_reducible exact absurd ((Option.some.inj H).trans hrt.out) Bool.false_ne_true
             |skip
              obtain rfl := Option.some.inj H
              go_wp2
              repeat (go_quiet (fail); try go_wp2)
              go_ret
              exact ⟨by first | rfl | (simp [errW_none, errW_some] <;> rfl) | (simp only [← hji13]; first | rfl | (simp [errW_none, errW_some] <;> rfl)) | (simp [*, errW_none, errW_some] <;> rfl), bw_⟩
      ·rw [if_neg c16] at H
       exact absurd H (by simp)
     ·rw [if_neg c15] at H
      exact absurd H (by simp)
    ·rw [if_neg c14] at H
     exact absurd H (by simp)

/-- THE ONE PURE STATEMENT of toruslaw07_SimplexNumbers: yours. -/
def toruslaw07_SimplexNumbers.Pure : Prop := ∀ (l0 : List Int) (l1 : List Int), l0.length ≤ maxLen → l0.length * 8 ≤ 140737488351232 → (∀ x ∈ l0, (Lit.int .i64 x).wf = true) → l1.length ≤ maxLen → l1.length * 8 ≤ 140737488351232 → (∀ x ∈ l1, (Lit.int .i64 x).wf = true) → ∃ k, toruslaw07_SimplexNumbers.f k l0 l1 = some true
theorem toruslaw07_SimplexNumbers.walk (P : toruslaw07_SimplexNumbers.Pure) (a0 : Option Addr) (len0 cap0 : Nat) (z0 : List Int) (a1 : Option Addr) (len1 cap1 : Nat) (z1 : List Int) (w : World) (hg : Aside0 (Glob w)) (w0 : (a0 = none ∧ len0 = 0 ∧ cap0 = 0 ∧ z0 = []) ∨ ∃ x, a0 = some x ∧ len0 ≤ cap0 ∧ cap0 ≤ maxLen ∧ z0.length = cap0 ∧ (∀ i, i < z0.length → w.cell? (x.add i) = some (.int .i64 (z0.getD i 0))) ∧ ∀ n ∈ z0, (Lit.int .i64 n).wf = true) (y0 : len0 * 8 ≤ 140737488351232) (w1 : (a1 = none ∧ len1 = 0 ∧ cap1 = 0 ∧ z1 = []) ∨ ∃ x, a1 = some x ∧ len1 ≤ cap1 ∧ cap1 ≤ maxLen ∧ z1.length = cap1 ∧ (∀ i, i < z1.length → w.cell? (x.add i) = some (.int .i64 (z1.getD i 0))) ∧ ∀ n ∈ z1, (Lit.int .i64 n).wf = true) (y1 : len1 * 8 ≤ 140737488351232) :
  Calls Tryd.prog 6 #[.slice a0 len0 cap0, .slice a1 len1 cap1] w fun e w' => e = .returned (.bool true) ∧ Below w.heap.size w w' := by
 obtain ⟨l0, rfl, hr0, hm0, hw0, hc0⟩ := ReadsInt.ofRowC w0
 obtain ⟨l1, rfl, hr1, hm1, hw1, hc1⟩ := ReadsInt.ofRowC w1
 obtain ⟨k, h⟩ := P l0 l1 hm0 y0 hw0 hm1 y1 hw1
 refine (toruslaw07_SimplexNumbers.calls k _ _ l0 _ _ l1 true w (Kd.C_of_reads (d := (0 : Int)) (h1 := fun _ => rfl) hr0) hc0 (Kd.C_of_reads (d := (0 : Int)) (h1 := fun _ => rfl) hr1) hc1 hg ⟨rfl⟩ h).mono ?_
 rintro e w' ⟨rfl, hd⟩
 exact ⟨rfl, hd⟩

end Go.Proofs.YticckanjfdcpaaaDoor.PSimplex
namespace Go.Proofs.YticckanjfdcpaaaDoor.PSimplex
open Go.RowKit Go.Proofs.YticckanjfdcpaaaDoorW.PrintWords Go.Proofs.YticckanjfdcpaaaDoorW.PrintLast Go.Proofs.YticckanjfdcpaaaDoorW.PrintMore
set_option linter.unusedVariables false
set_option linter.unusedSimpArgs false
set_option maxRecDepth 100000
theorem awake_now : toruslaw07_awake.f 100 = some true := by decide +kernel
theorem wrap_id {a : Int} (h0 : -9223372036854775808 ≤ a) (h1 : a ≤ 9223372036854775807) : wrap64 a = a := by unfold wrap64; omega
theorem ev_bind {α β : Type} {g : Nat → Option α} {f : Nat → α → Option β} {a : α} {r : β} (h : Ev g a) : Ev (fun n => (g n).bind (f n)) r ↔ Ev (fun n => f n a) r := by
  refine ⟨fun hb => ?_, fun hf => Ev.bind h hf⟩
  obtain ⟨K, h⟩ := h
  obtain ⟨K', hb⟩ := hb
  refine ⟨max K K', fun n hn => ?_⟩
  have h2 : (g n).bind (f n) = some r := hb n (by omega)
  rw [h n (by omega)] at h2
  exact h2
theorem ev_succ {α : Type} {g : Nat → Option α} {r : α} (h : Ev (fun k => g (k + 1)) r) : Ev g r := Ev.step (fun _ => rfl) h
theorem awake_ev : Ev (fun k => toruslaw07_awake.f k) true := Ev.of toruslaw07_awake.mono (k := 100) awake_now

/-! ### The order -/
/-- The first difference of two lists. -/
def lex : List Int → List Int → Int
  | x :: xs, y :: ys => if x < y then -1 else if y < x then 1 else lex xs ys
  | _, _ => 0
/-- Lists by length, then by the first difference. -/
def cm (a b : List Int) : Int := if a.length < b.length then -1 else if b.length < a.length then 1 else lex a b
theorem lex_cons (x y : Int) (xs ys : List Int) : lex (x :: xs) (y :: ys) = if x < y then -1 else if y < x then 1 else lex xs ys := rfl
theorem lex_self : ∀ a, lex a a = 0
  | [] => rfl
  | x :: xs => by simp [lex, lex_self xs]
theorem lex_swap : ∀ a b, lex b a = -lex a b
  | [], [] => rfl
  | [], _ :: _ => rfl
  | _ :: _, [] => rfl
  | x :: xs, y :: ys => by
    have := lex_swap xs ys
    unfold lex
    split <;> split <;> (try split) <;> omega
theorem lex_range : ∀ a b, lex a b = -1 ∨ lex a b = 0 ∨ lex a b = 1
  | [], [] => by simp [lex]
  | [], _ :: _ => by simp [lex]
  | _ :: _, [] => by simp [lex]
  | x :: xs, y :: ys => by
    have := lex_range xs ys
    unfold lex
    split
    · simp
    · split
      · simp
      · exact this
theorem lex_eq : ∀ a b, a.length = b.length → lex a b = 0 → a = b
  | [], [], _, _ => rfl
  | x :: xs, y :: ys, h, e => by
    unfold lex at e
    split at e
    · simp at e
    · split at e
      · simp at e
      · rw [lex_eq xs ys (by simpa using h) e]
        congr 1
        omega
theorem lex_le : ∀ a b c, a.length = b.length → b.length = c.length → lex a b ≤ 0 → lex b c ≤ 0 → lex a c ≤ 0
  | [], [], [], _, _, _, _ => by simp [lex]
  | x :: xs, y :: ys, z :: zs, h, h', e, e' => by
    have ih := lex_le xs ys zs (by simpa using h) (by simpa using h')
    unfold lex at e e' ⊢
    split at e <;> split at e' <;> split <;> (try split) <;> (try split at e) <;> (try split at e') <;> first | omega | (exact ih e e') | skip
theorem cm_self (a : List Int) : cm a a = 0 := by simp [cm, lex_self]
theorem cm_swap (a b : List Int) : cm b a = -cm a b := by
  have := lex_swap a b
  unfold cm
  split <;> split <;> omega
theorem cm_range (a b : List Int) : cm a b = -1 ∨ cm a b = 0 ∨ cm a b = 1 := by
  have := lex_range a b
  unfold cm
  split
  · simp
  · split
    · simp
    · exact this
theorem cm_eq (a b : List Int) (h : cm a b = 0) : a = b := by
  unfold cm at h
  split at h
  · simp at h
  · split at h
    · simp at h
    · exact lex_eq a b (by omega) h
theorem cm_le (a b c : List Int) (h : cm a b ≤ 0) (h' : cm b c ≤ 0) : cm a c ≤ 0 := by
  have := lex_le a b c
  unfold cm at h h' ⊢
  split at h <;> split at h' <;> (try split at h) <;> (try split at h') <;> split <;> (try split) <;> first | omega | (exact this (by omega) (by omega) h h')

theorem drop_cons (a : List Int) (i : Nat) (h : i < a.length) : a.drop i = rd a (i : Int) :: a.drop (i + 1) := by
  rw [List.drop_eq_getElem_cons h]
  simp [rd, h]
theorem rcmp_l (a b : List Int) (he : a.length = b.length) (hl : a.length ≤ 9223372036854775806) : ∀ (m i k : Nat), m = a.length - i → m < k → i ≤ a.length →
    torusref07_Cmp.l0 k a b (i : Int) = some (lex (a.drop i) (b.drop i))
  | 0, i, k + 1, hm, hk, hi => by
    have e : ¬ ((i : Int) < (a.length : Int)) := by omega
    unfold torusref07_Cmp.l0
    rw [if_neg e, List.drop_of_length_le (by omega), List.drop_of_length_le (by omega)]
    rfl
  | m + 1, i, k + 1, hm, hk, hi => by
    have ih := rcmp_l a b he hl m (i + 1) k (by omega) (by omega) (by omega)
    have w : wrap64 ((i : Int) + 1) = ((i + 1 : Nat) : Int) := by rw [wrap_id (by omega) (by omega)]; omega
    unfold torusref07_Cmp.l0
    rw [if_pos (by omega), if_pos (by omega), if_pos (by omega), drop_cons a i (by omega), drop_cons b i (by omega), w, ih, lex_cons]
    by_cases c : rd a (i : Int) < rd b (i : Int)
    · rw [if_pos c, if_pos c]
    · rw [if_neg c, if_neg c]
      by_cases c' : rd b (i : Int) < rd a (i : Int)
      · rw [if_pos c', if_pos c']
      · rw [if_neg c', if_neg c']
theorem rcmp_ev (a b : List Int) (hl : a.length ≤ 9223372036854775806) : Ev (fun k => torusref07_Cmp.f k a b) (cm a b) := by
  refine Ev.of (torusref07_Cmp.mono a b) (k := a.length + 1) ?_
  unfold torusref07_Cmp.f cm
  by_cases c : (a.length : Int) = (b.length : Int)
  · rw [if_pos c, if_neg (by omega), if_neg (by omega)]
    simpa using rcmp_l a b (by omega) hl a.length 0 (a.length + 1) (by omega) (by omega) (by omega)
  · rw [if_neg c]
    by_cases c' : (a.length : Int) < (b.length : Int)
    · rw [if_pos c', if_pos (by omega)]
    · rw [if_neg c', if_neg (by omega), if_pos (by omega)]
theorem ccmp (a b : Int) : cmp_Compare_int.f a b = some (if a < b then -1 else if b < a then 1 else 0) := by
  have h : ∀ x : Int, cmp_isNaN_int.f x = some false := fun x => by simp [cmp_isNaN_int.f]
  unfold cmp_Compare_int.f
  rw [h, h]
  simp only [Option.bind_some]
  rw [if_neg (by simp), if_neg (by simp)]
  split
  · rfl
  · split <;> rfl
theorem scmp_l (a b : List Int) (he : a.length = b.length) (hl : a.length ≤ 9223372036854775806) : ∀ (m i k : Nat), m = a.length - i → m < k → i ≤ a.length →
    api_Simplex_int_45.l0 k a b a (a.length : Int) (i : Int) = some (lex (a.drop i) (b.drop i))
  | 0, i, k + 1, hm, hk, hi => by
    unfold api_Simplex_int_45.l0
    rw [if_neg (by omega), if_neg (by omega), List.drop_of_length_le (by omega), List.drop_of_length_le (by omega)]
    rfl
  | m + 1, i, k + 1, hm, hk, hi => by
    have ih := scmp_l a b he hl m (i + 1) k (by omega) (by omega) (by omega)
    have w : wrap64 ((i : Int) + 1) = ((i + 1 : Nat) : Int) := by rw [wrap_id (by omega) (by omega)]; omega
    unfold api_Simplex_int_45.l0
    rw [if_pos (by omega), if_pos (by omega), if_pos (by omega), if_neg (by omega), if_pos (by omega), ccmp, drop_cons a i (by omega), drop_cons b i (by omega), w, ih, lex_cons]
    simp only [Option.bind_some]
    by_cases c : rd a (i : Int) < rd b (i : Int)
    · rw [if_pos c, if_pos c]; rfl
    · rw [if_neg c, if_neg c]
      by_cases c' : rd b (i : Int) < rd a (i : Int)
      · rw [if_pos c', if_pos c']; rfl
      · rw [if_neg c', if_neg c', if_pos rfl]
theorem scmp_ev (a b : List Int) (hl : a.length ≤ 9223372036854775806) : Ev (fun k => simplex_Cmp.f k a b) (cm a b) := by
  refine Ev.of (simplex_Cmp.mono a b) (k := a.length + 1) ?_
  unfold simplex_Cmp.f cm
  rw [ccmp]
  simp only [Option.bind_some]
  by_cases c : (a.length : Int) < (b.length : Int)
  · rw [if_pos c, if_neg (by decide), if_pos (by omega)]
  · rw [if_neg c]
    by_cases c' : (b.length : Int) < (a.length : Int)
    · rw [if_pos c', if_neg (by decide), if_neg (by omega), if_pos (by omega)]
    · rw [if_neg c', if_pos rfl, if_neg (by omega), if_neg (by omega)]
      unfold api_Simplex_int_45.f
      have := scmp_l a b (by omega) hl a.length 0 (a.length + 1) (by omega) (by omega) (by omega)
      simp only [List.drop_zero] at this
      rw [show ((0 : Nat) : Int) = 0 from rfl] at this
      rw [this]
      rfl

theorem law_long {α : Type} {g : Nat → Option α} {f : Nat → α → Option Bool} {a : α} (h : Ev g a) (hf : Ev (fun n => f n a) true) : Ev (fun n => (g n).bind (f n)) true := (ev_bind h).mpr hf
end Go.Proofs.YticckanjfdcpaaaDoor.PSimplex
namespace Go.Proofs.YticckanjfdcpaaaDoor.PSimplex
open Go.RowKit Go.Proofs.YticckanjfdcpaaaDoorW.PrintWords Go.Proofs.YticckanjfdcpaaaDoorW.PrintLast Go.Proofs.YticckanjfdcpaaaDoorW.PrintMore
attribute [local go_sem] max2_int min2_int max_two min_two max_three min_three max_four min_four   -- for this text's walks alone
set_option linter.unusedVariables false
set_option linter.unusedSimpArgs false

/-! ### torusref07_Check: function 28 -/
mutual
def torusref07_Check.l0 : Nat → List Int → Int → Option (Int)
 |0, _, _ => none
 |k + 1, x0, x3 => if x3 < (x0.length : Int) then (if 0 ≤ x3 then (if (rd x0 x3) < 0 then (some 1) else (if (rd x0 x3) ≥ 64 then (some 1) else (torusref07_Check.l0 k x0 (wrap64 (x3 + 1))))) else (none)) else (torusref07_Check.l1 k x0 1)
def torusref07_Check.l1 : Nat → List Int → Int → Option (Int)
 |0, _, _ => none
 |k + 1, x0, x4 => if x4 < (x0.length : Int) then (if 0 ≤ x4 then (if 0 ≤ (wrap64 (x4 - 1)) then (if (wrap64 (x4 - 1)) < (x0.length : Int) then (if (rd x0 x4) ≤ (rd x0 (wrap64 (x4 - 1))) then (some 6) else (torusref07_Check.l1 k x0 (wrap64 (x4 + 1)))) else (none)) else (none)) else (none)) else (some 0)
end
def torusref07_Check.f (k : Nat) (l0 : List Int) : Option (Int) := if (l0.length : Int) = 0 then (some 1) else (if (l0.length : Int) > 5 then (some 3) else (torusref07_Check.l0 k l0 0))
theorem torusref07_Check.mono_l : ∀ k, (∀ y0 y1, LeO (torusref07_Check.l0 k y0 y1) (torusref07_Check.l0 (k + 1) y0 y1)) ∧ (∀ y0 y1, LeO (torusref07_Check.l1 k y0 y1) (torusref07_Check.l1 (k + 1) y0 y1))
 |0 => ⟨fun _ _ r h => by simp [torusref07_Check.l0] at h, fun _ _ r h => by simp [torusref07_Check.l1] at h⟩
 |k + 1 => by
  obtain ⟨ih0, ih1⟩ := torusref07_Check.mono_l k
  refine ⟨?_, ?_⟩
  ·intro y0 y1
   unfold torusref07_Check.l0
   repeat' first
   |(with_reducible exact ih0 _ _)
   |(with_reducible exact ih1 _ _)
   |(with_reducible exact LeO.refl _)
   |(with_reducible exact LeO.none _)
   |(with_reducible refine LeO.ite ?_ ?_)
   |(with_reducible refine LeO.bind ?_ (fun _ => ?_))
   |exact ih0 _ _
   |exact ih1 _ _
   |exact LeO.none _
   |refine LeO.ite ?_ ?_
   |refine LeO.bind ?_ (fun _ => ?_)
  ·intro y0 y1
   unfold torusref07_Check.l1
   repeat' first
   |(with_reducible exact ih0 _ _)
   |(with_reducible exact ih1 _ _)
   |(with_reducible exact LeO.refl _)
   |(with_reducible exact LeO.none _)
   |(with_reducible refine LeO.ite ?_ ?_)
   |(with_reducible refine LeO.bind ?_ (fun _ => ?_))
   |exact ih0 _ _
   |exact ih1 _ _
   |exact LeO.none _
   |refine LeO.ite ?_ ?_
   |refine LeO.bind ?_ (fun _ => ?_)
theorem torusref07_Check.mono : ∀ a0 k, LeO (torusref07_Check.f k a0) (torusref07_Check.f (k + 1) a0) := by
 intro a0 k
 obtain ⟨ih0, ih1⟩ := torusref07_Check.mono_l k
 unfold torusref07_Check.f
 repeat' first
   |(with_reducible exact ih0 _ _)
   |(with_reducible exact ih1 _ _)
   |(with_reducible exact LeO.refl _)
   |(with_reducible exact LeO.none _)
   |(with_reducible refine LeO.ite ?_ ?_)
   |(with_reducible refine LeO.bind ?_ (fun _ => ?_))
   |exact ih0 _ _
   |exact ih1 _ _
   |exact LeO.none _
   |refine LeO.ite ?_ ?_
   |refine LeO.bind ?_ (fun _ => ?_)
set_option maxHeartbeats 8000000 in
set_option maxRecDepth 100000 in
theorem torusref07_Check.calls (k : Nat) (A0 : Option Addr) (c0 : Nat) (l0 : List Int) (r : Int) (w : World) (hr0 : Kd.C (Kd.int .i64) w A0 l0.length l0) (hc0 : l0.length ≤ c0) (h : torusref07_Check.f k l0 = some r) :
  Calls Tryd.prog 28 #[.slice A0 l0.length c0] w fun e w' => e = .returned (.int .i64 r) ∧ Drawn0 w w' := by
 have HR0 := Aside0.mk hr0
 have HC0 := Aside0.mk hc0
 clear hr0 hc0
 have H : (if (l0.length : Int) = 0 then (some 1) else (if (l0.length : Int) > 5 then (some 3) else (torusref07_Check.l0 k l0 0))) = some r := h
 clear h
 by_cases c2 : (l0.length : Int) = 0
 ·rw [if_pos c2] at H
  have c2b0 : ((l0.length : Int) == 0) = true := beq_iff_eq.mpr c2
  have c2b1 : ((l0.length : Int) != 0) = false := bne_eq_false_iff_eq.mpr c2
  clear c2
  obtain rfl := Option.some.inj H
  go_enter Tryd.func28, Tryd.ntmps28
  go_wp2
  repeat (go_quiet (fail); try go_wp2)
  go_ret
  exact ⟨sd_, dr_⟩
 ·rw [if_neg c2] at H
  have c2b0 : ((l0.length : Int) == 0) = false := beq_eq_false_iff_ne.mpr c2
  have c2b1 : ((l0.length : Int) != 0) = true := bne_iff_ne.mpr c2
  have c2b2 : ¬ (l0 = []) := fun h_ => c2 (by rw [h_]; rfl)
  by_cases c3 : (l0.length : Int) > 5
  ·rw [if_pos c3] at H
   have c3b0 : decide (5 < (l0.length : Int)) = true := decide_eq_true c3
   have c3b1 : decide (5 < l0.length) = true := decide_eq_true (by omega)
   clear c3
   obtain rfl := Option.some.inj H
   go_enter Tryd.func28, Tryd.ntmps28
   go_wp2
   repeat (go_quiet (fail); try go_wp2)
   go_ret
   exact ⟨sd_, dr_⟩
  ·rw [if_neg c3] at H
   have c3b0 : decide (5 < (l0.length : Int)) = false := decide_eq_false c3
   have c3b1 : decide (5 < l0.length) = false := decide_eq_false (by omega)
   clear c3
   have H' := Aside0.mk H
   clear H
   go_enter Tryd.func28, Tryd.ntmps28
   go_wp2
   repeat (go_quiet (fail); try go_wp2)
   go_loopg [3] k (fun kq v3 w' => ∃ (x3_1 : Int), v3 = .int .i64 x3_1 ∧ Aside0 (torusref07_Check.l0 kq l0 x3_1 = some r) ∧ Aside0 (kq ≤ k) ∧ Drawn0 w w')
   case atStart => exact ⟨(0), sd_, H', ⟨Nat.le_refl _⟩, dr_⟩
   case round =>
    clear H'
    try clear c2
    try clear c2b0
    try clear c2b1
    try clear c2b2
    try clear p2
    try clear c3
    try clear c3b0
    try clear c3b1
    obtain ⟨x3_1, rfl, HA, HK1, ⟨m1, rfl⟩⟩ := hrel
    cases gk with
    |zero => exact absurd HA.out (by simp [torusref07_Check.l0])
    |succ k1 =>
     have H := HA.out
     clear HA
     simp only [torusref07_Check.l0] at H
     by_cases c4 : x3_1 < (l0.length : Int)
     ·rw [if_pos c4] at H
      have c4b0 : decide (x3_1 < (l0.length : Int)) = true := decide_eq_true c4
      clear c4
      by_cases c5 : 0 ≤ x3_1
      ·rw [if_pos c5] at H
       have c5b0 : decide (0 ≤ x3_1) = true := decide_eq_true c5
       clear c5
       by_cases c6 : (rd l0 x3_1) < 0
       ·rw [if_pos c6] at H
        have c6b0 : decide ((rd l0 x3_1) < 0) = true := decide_eq_true c6
        clear c6
        obtain rfl := Option.some.inj H
        have p266 : 0 ≤ (x3_1 : Int) := of_decide_eq_true as_
        have q266 : x3_1 < (l0.length : Int) := of_decide_eq_true as_
        obtain ⟨ad266, e266, hx266_0⟩ := Kd.at_int HR0.out x3_1 p266 q266
        cases e266
        replace p266 := eq_true p266
        replace q266 := eq_true q266
        go_wp2
        repeat (go_quiet (fail); try go_wp2)
        go_ret
        exact ⟨sd_, dr_⟩
       ·rw [if_neg c6] at H
        have c6b0 : decide ((rd l0 x3_1) < 0) = false := decide_eq_false c6
        clear c6
        by_cases c7 : (rd l0 x3_1) ≥ 64
        ·rw [if_pos c7] at H
         have c7b0 : decide (64 ≤ (rd l0 x3_1)) = true := decide_eq_true c7
         clear c7
         obtain rfl := Option.some.inj H
         have p266 : 0 ≤ (x3_1 : Int) := of_decide_eq_true as_
         have q266 : x3_1 < (l0.length : Int) := of_decide_eq_true as_
         obtain ⟨ad266, e266, hx266_0⟩ := Kd.at_int HR0.out x3_1 p266 q266
         cases e266
         replace p266 := eq_true p266
         replace q266 := eq_true q266
         have p267 : 0 ≤ (x3_1 : Int) := of_decide_eq_true as_
         have q267 : x3_1 < (l0.length : Int) := of_decide_eq_true as_
         obtain ⟨ad267, e267, hx267_0⟩ := Kd.at_int HR0.out x3_1 p267 q267
         obtain rfl : ad266 = ad267 := (by injection e267)
         replace p267 := eq_true p267
         replace q267 := eq_true q267
         go_wp2
         repeat (go_quiet (fail); try go_wp2)
         go_ret
         exact ⟨sd_, dr_⟩
        ·rw [if_neg c7] at H
         have c7b0 : decide (64 ≤ (rd l0 x3_1)) = false := decide_eq_false c7
         clear c7
         have H' := Aside0.mk H
         clear H
         have p266 : 0 ≤ (x3_1 : Int) := of_decide_eq_true as_
         have q266 : x3_1 < (l0.length : Int) := of_decide_eq_true as_
         obtain ⟨ad266, e266, hx266_0⟩ := Kd.at_int HR0.out x3_1 p266 q266
         cases e266
         replace p266 := eq_true p266
         replace q266 := eq_true q266
         have p267 : 0 ≤ (x3_1 : Int) := of_decide_eq_true as_
         have q267 : x3_1 < (l0.length : Int) := of_decide_eq_true as_
         obtain ⟨ad267, e267, hx267_0⟩ := Kd.at_int HR0.out x3_1 p267 q267
         obtain rfl : ad266 = ad267 := (by injection e267)
         replace p267 := eq_true p267
         replace q267 := eq_true q267
         go_wp2
         repeat (go_quiet (fail); try go_wp2)
         go_roundg k1
         case measure => have := HK1.out; omega
         case rel => exact ⟨(wrap64 (x3_1 + 1)), sd_, H', ⟨by have := HK1.out; omega⟩, dr_⟩
      ·rw [if_neg c5] at H
       exact absurd H (by simp)
     ·rw [if_neg c4] at H
      have c4b0 : decide (x3_1 < (l0.length : Int)) = false := decide_eq_false c4
      clear c4
      have H' := Aside0.mk H
      clear H
      go_wp2
      repeat (go_quiet (fail); try go_wp2)
      go_loopg [4] k1 (fun kq v4 w' => ∃ (x4_2 : Int), v4 = .int .i64 x4_2 ∧ Aside0 (torusref07_Check.l1 kq l0 x4_2 = some r) ∧ Aside0 (kq ≤ k1) ∧ Drawn0 w w')
      case atStart => exact ⟨(1), sd_, H', ⟨Nat.le_refl _⟩, dr_⟩
      case round =>
       clear H'
       try clear c2
       try clear c2b0
       try clear c2b1
       try clear c2b2
       try clear p2
       try clear q2
       try clear hx2
       try clear c3
       try clear c3b0
       try clear c3b1
       try clear c4
       try clear c4b0
       try clear c5
       try clear c5b0
       try clear c6
       try clear c6b0
       try clear p6
       try clear c7
       try clear c7b0
       try clear hx266_0
       try clear hx267_0
       try clear p2
       try clear p266
       try clear p267
       try clear q266
       try clear q267
       obtain ⟨x4_2, rfl, HA, HK2, ⟨m2, rfl⟩⟩ := hrel
       cases gk with
       |zero => exact absurd HA.out (by simp [torusref07_Check.l1])
       |succ k2 =>
        have H := HA.out
        clear HA
        simp only [torusref07_Check.l1] at H
        by_cases c8 : x4_2 < (l0.length : Int)
        ·rw [if_pos c8] at H
         have c8b0 : decide (x4_2 < (l0.length : Int)) = true := decide_eq_true c8
         clear c8
         by_cases c9 : 0 ≤ x4_2
         ·rw [if_pos c9] at H
          have c9b0 : decide (0 ≤ x4_2) = true := decide_eq_true c9
          clear c9
          obtain ⟨ji10, hji10⟩ : ∃ j_ : Int, (wrap64 (x4_2 - 1)) = j_ := ⟨_, rfl⟩
          replace H : (if 0 ≤ (ji10) then (if (ji10) < (l0.length : Int) then (if (rd l0 x4_2) ≤ (rd l0 (ji10)) then (some 6) else (torusref07_Check.l1 k2 l0 (wrap64 (x4_2 + 1)))) else (none)) else (none)) = some r := by first | (rw [hji10] at H; exact H) | (simp only [hji10] at H ⊢; exact H)
          have hji10w : (IntKind.i64.wrap (x4_2 - 1)) = ji10 := (i64_w _).trans hji10
          by_cases c11 : 0 ≤ (ji10)
          ·rw [if_pos c11] at H
           have c11b0 : decide (0 ≤ (ji10)) = true := decide_eq_true c11
           clear c11
           by_cases c12 : (ji10) < (l0.length : Int)
           ·rw [if_pos c12] at H
            have c12b0 : decide ((ji10) < (l0.length : Int)) = true := decide_eq_true c12
            clear c12
            by_cases c13 : (rd l0 x4_2) ≤ (rd l0 (ji10))
            ·rw [if_pos c13] at H
             have c13b0 : decide ((rd l0 x4_2) ≤ (rd l0 (ji10))) = true := decide_eq_true c13
             clear c13
             obtain rfl := Option.some.inj H
             have p268 : 0 ≤ (x4_2 : Int) := of_decide_eq_true as_
             have q268 : x4_2 < (l0.length : Int) := of_decide_eq_true as_
             obtain ⟨ad268, e268, hx268_0⟩ := Kd.at_int HR0.out x4_2 p268 q268
             cases e268
             replace p268 := eq_true p268
             replace q268 := eq_true q268
             have p269 : 0 ≤ ((ji10) : Int) := of_decide_eq_true as_
             have q269 : (ji10) < (l0.length : Int) := of_decide_eq_true as_
             obtain ⟨ad269, e269, hx269_0⟩ := Kd.at_int HR0.out (ji10) p269 q269
             obtain rfl : ad268 = ad269 := (by injection e269)
             replace p269 := eq_true p269
             replace q269 := eq_true q269
             go_wp2
             repeat (go_quiet (fail); try go_wp2)
             go_ret
             exact ⟨by first | rfl | (simp; done) | (simp only [← hji10] <;> (first | rfl | simp)) | (simp [*]; done), dr_⟩
            ·rw [if_neg c13] at H
             have c13b0 : decide ((rd l0 x4_2) ≤ (rd l0 (ji10))) = false := decide_eq_false c13
             clear c13
             have H' := Aside0.mk H
             clear H
             have p268 : 0 ≤ (x4_2 : Int) := of_decide_eq_true as_
             have q268 : x4_2 < (l0.length : Int) := of_decide_eq_true as_
             obtain ⟨ad268, e268, hx268_0⟩ := Kd.at_int HR0.out x4_2 p268 q268
             cases e268
             replace p268 := eq_true p268
             replace q268 := eq_true q268
             have p269 : 0 ≤ ((ji10) : Int) := of_decide_eq_true as_
             have q269 : (ji10) < (l0.length : Int) := of_decide_eq_true as_
             obtain ⟨ad269, e269, hx269_0⟩ := Kd.at_int HR0.out (ji10) p269 q269
             obtain rfl : ad268 = ad269 := (by injection e269)
             replace p269 := eq_true p269
             replace q269 := eq_true q269
             go_wp2
             repeat (go_quiet (fail); try go_wp2)
             go_roundg k2
             case measure => have := HK1.out; have := HK2.out; omega
             case rel => exact ⟨(wrap64 (x4_2 + 1)), sd_, H', ⟨by have := HK1.out; have := HK2.out; omega⟩, dr_⟩
           ·rw [if_neg c12] at H
            exact absurd H (by simp)
          ·rw [if_neg c11] at H
           exact absurd H (by simp)
         ·rw [if_neg c9] at H
          exact absurd H (by simp)
        ·rw [if_neg c8] at H
         have c8b0 : decide (x4_2 < (l0.length : Int)) = false := decide_eq_false c8
         clear c8
         obtain rfl := Option.some.inj H
         go_wp2
         repeat (go_quiet (fail); try go_wp2)
         go_ret
         exact ⟨sd_, dr_⟩

end Go.Proofs.YticckanjfdcpaaaDoor.PSimplex
namespace Go.Proofs.YticckanjfdcpaaaDoor.PSimplex
open Go.RowKit Go.Proofs.YticckanjfdcpaaaDoorW.PrintWords Go.Proofs.YticckanjfdcpaaaDoorW.PrintLast Go.Proofs.YticckanjfdcpaaaDoorW.PrintMore
set_option linter.unusedVariables false
set_option linter.unusedSimpArgs false

def bad (v : Int) : Bool := decide (v < 0) || decide (v ≥ 64)
def asc : List Int → Bool
  | x :: y :: t => decide (x < y) && asc (y :: t)
  | _ => true
def ck (l : List Int) : Int := if l.length = 0 then 1 else if l.length > 5 then 3 else if l.any bad = true then 1 else if asc l = true then 0 else 6
theorem wrap_nat (i : Nat) (h : i ≤ 1000000) : wrap64 ((i : Int) + 1) = ((i + 1 : Nat) : Int) := by rw [wrap_id (by omega) (by omega)]; omega
theorem bad_if (v : Int) : (decide (v < 0) || decide (v ≥ 64)) = bad v := rfl
theorem vert_l (l : List Int) (hl : l.length ≤ 1000) : ∀ (m i : Nat), m = l.length - i → i ≤ l.length →
    Ev (fun k => (vert_ix.l0 k l (l.length : Int) (i : Int)).bind fun t => if t ≥ 0 then some (1 : Int) else some 0) (if (l.drop i).any bad = true then 1 else 0)
  | 0, i, hm, hi => by
    rw [List.drop_of_length_le (by omega)]
    refine ev_succ ?_
    simp only [vert_ix.l0, if_neg (show ¬ ((i : Int) < (l.length : Int)) by omega), Option.bind_some]
    exact Ev.now _
  | m + 1, i, hm, hi => by
    have ih := vert_l l hl m (i + 1) (by omega) (by omega)
    rw [drop_cons l i (by omega)]
    refine ev_succ ?_
    simp only [vert_ix.l0, if_pos (show ((i : Int) < (l.length : Int)) by omega), if_pos (show (0 : Int) ≤ (i : Int) by omega), bad_if, wrap_nat i (by omega)]
    cases hb : bad (rd l (i : Int)) with
    | true =>
      simp only [if_true, Option.bind_some, if_pos (show (i : Int) ≥ 0 by omega), List.any_cons, hb, Bool.true_or]
      exact Ev.now _
    | false =>
      simp only [Bool.false_eq_true, if_false, List.any_cons, hb, Bool.false_or]
      exact ih
theorem asc_cons (l : List Int) (i : Nat) (h : i + 1 < l.length) : asc (l.drop i) = (decide (rd l (i : Int) < rd l ((i + 1 : Nat) : Int)) && asc (l.drop (i + 1))) := by
  rw [drop_cons l i (by omega), drop_cons l (i + 1) h]
  rfl
theorem asc_end (l : List Int) (i : Nat) (h : l.length ≤ i + 1) : asc (l.drop i) = true := by
  by_cases h2 : i < l.length
  · rw [drop_cons l i h2, List.drop_of_length_le (by omega)]
    rfl
  · rw [List.drop_of_length_le (by omega)]
    rfl
theorem rd_drop1 (l : List Int) (i : Nat) : rd (l.drop 1) (i : Int) = rd l ((i + 1 : Nat) : Int) := by
  simp [rd, List.getElem?_drop, Nat.add_comm]
theorem scheck_l (l : List Int) (hl : l.length ≤ 1000) (h1 : 1 ≤ l.length) : ∀ (m i : Nat), m = l.length - 1 - i → i ≤ l.length - 1 →
    Ev (fun k => simplex_Check.l0 k l (l.drop 1) ((l.drop 1).length : Int) (i : Int)) (if asc (l.drop i) = true then 0 else 6)
  | 0, i, hm, hi => by
    have hd : (l.drop 1).length = l.length - 1 := List.length_drop
    rw [asc_end l i (by omega)]
    refine ev_succ ?_
    simp only [simplex_Check.l0, if_neg (show ¬ ((i : Int) < ((l.drop 1).length : Int)) by omega)]
    exact Ev.now _
  | m + 1, i, hm, hi => by
    have hd : (l.drop 1).length = l.length - 1 := List.length_drop
    have ih := scheck_l l hl h1 m (i + 1) (by omega) (by omega)
    rw [asc_cons l i (by omega)]
    refine ev_succ ?_
    simp only [simplex_Check.l0, if_pos (show ((i : Int) < ((l.drop 1).length : Int)) by omega), if_pos (show (0 : Int) ≤ (i : Int) by omega), if_pos (show ((i : Int) < (l.length : Int)) by omega), wrap_nat i (by omega), rd_drop1]
    by_cases c : rd l ((i + 1 : Nat) : Int) ≤ rd l (i : Int)
    · simp only [if_pos c, decide_eq_false (show ¬ (rd l (i : Int) < rd l ((i + 1 : Nat) : Int)) by omega), Bool.false_and, Bool.false_eq_true, if_false]
      exact Ev.now _
    · simp only [if_neg c, decide_eq_true (show (rd l (i : Int) < rd l ((i + 1 : Nat) : Int)) by omega), Bool.true_and]
      exact ih
theorem svert_ev (l : List Int) : Ev (fun k => simplex_vertices.f k l) (if l.length = 0 then 1 else if l.length > 5 then 3 else if l.any bad = true then 1 else 0) := by
  by_cases c : l.length = 0
  · simp only [simplex_vertices.f, if_pos c, if_pos (show (l.length : Int) = 0 by omega)]
    exact Ev.now _
  · by_cases c' : l.length > 5
    · simp only [simplex_vertices.f, if_neg c, if_pos c', if_neg (show ¬ ((l.length : Int) = 0) by omega), if_pos (show (l.length : Int) > 5 by omega)]
      exact Ev.now _
    · simp only [simplex_vertices.f, if_neg c, if_neg c', if_neg (show ¬ ((l.length : Int) = 0) by omega), if_neg (show ¬ ((l.length : Int) > 5) by omega)]
      simpa using vert_l l (by omega) l.length 0 (by omega) (by omega)
theorem scheck_ev (l : List Int) : Ev (fun k => simplex_Check.f k l) (ck l) := by
  unfold simplex_Check.f ck
  refine (ev_bind (svert_ev l)).mpr ?_
  by_cases c : l.length = 0
  · simp only [if_pos c]
    exact Ev.now _
  · by_cases c' : l.length > 5
    · simp only [if_neg c, if_pos c']
      exact Ev.now _
    · simp only [if_neg c, if_neg c']
      cases hb : l.any bad with
      | true => exact Ev.now _
      | false =>
        simp only [Bool.false_eq_true, if_false, if_true, if_pos (show 1 ≤ (l.length : Int) by omega)]
        simpa using scheck_l l (by omega) (by omega) (l.length - 1) 0 (by omega) (by omega)
theorem rcheck_l1 (l : List Int) (hl : l.length ≤ 1000) : ∀ (m i : Nat), m = l.length - 1 - i → Ev (fun k => torusref07_Check.l1 k l ((i + 1 : Nat) : Int)) (if asc (l.drop i) = true then 0 else 6)
  | 0, i, hm => by
    rw [asc_end l i (by omega)]
    refine ev_succ ?_
    simp only [torusref07_Check.l1, if_neg (show ¬ (((i + 1 : Nat) : Int) < (l.length : Int)) by omega)]
    exact Ev.now _
  | m + 1, i, hm => by
    have ih := rcheck_l1 l hl m (i + 1) (by omega)
    have hw : wrap64 (((i + 1 : Nat) : Int) - 1) = (i : Int) := by rw [wrap_id (by omega) (by omega)]; omega
    rw [asc_cons l i (by omega)]
    refine ev_succ ?_
    simp only [torusref07_Check.l1, if_pos (show (((i + 1 : Nat) : Int) < (l.length : Int)) by omega), if_pos (show (0 : Int) ≤ ((i + 1 : Nat) : Int) by omega), hw, if_pos (show (0 : Int) ≤ (i : Int) by omega), if_pos (show ((i : Int) < (l.length : Int)) by omega), wrap_nat (i + 1) (by omega)]
    by_cases c : rd l ((i + 1 : Nat) : Int) ≤ rd l (i : Int)
    · simp only [if_pos c, decide_eq_false (show ¬ (rd l (i : Int) < rd l ((i + 1 : Nat) : Int)) by omega), Bool.false_and, Bool.false_eq_true, if_false]
      exact Ev.now _
    · simp only [if_neg c, decide_eq_true (show (rd l (i : Int) < rd l ((i + 1 : Nat) : Int)) by omega), Bool.true_and]
      exact ih
theorem rcheck_l0 (l : List Int) (hl : l.length ≤ 1000) : ∀ (m i : Nat), m = l.length - i → i ≤ l.length → Ev (fun k => torusref07_Check.l0 k l (i : Int)) (if (l.drop i).any bad = true then 1 else if asc l = true then 0 else 6)
  | 0, i, hm, hi => by
    rw [List.drop_of_length_le (by omega)]
    refine ev_succ ?_
    simp only [torusref07_Check.l0, if_neg (show ¬ ((i : Int) < (l.length : Int)) by omega), List.any_nil, Bool.false_eq_true, if_false]
    simpa using rcheck_l1 l hl (l.length - 1) 0 (by omega)
  | m + 1, i, hm, hi => by
    have ih := rcheck_l0 l hl m (i + 1) (by omega) (by omega)
    rw [drop_cons l i (by omega)]
    refine ev_succ ?_
    simp only [torusref07_Check.l0, if_pos (show ((i : Int) < (l.length : Int)) by omega), if_pos (show (0 : Int) ≤ (i : Int) by omega), wrap_nat i (by omega), List.any_cons]
    by_cases c : rd l (i : Int) < 0
    · have hb : bad (rd l (i : Int)) = true := by simp [bad, c]
      simp only [if_pos c, hb, Bool.true_or, if_true]
      exact Ev.now _
    · by_cases c' : rd l (i : Int) ≥ 64
      · have hb : bad (rd l (i : Int)) = true := by simp [bad, c']
        simp only [if_neg c, if_pos c', hb, Bool.true_or, if_true]
        exact Ev.now _
      · have hb : bad (rd l (i : Int)) = false := by simp [bad]; omega
        simp only [if_neg c, if_neg c', hb, Bool.false_or]
        exact ih
theorem rcheck_ev (l : List Int) : Ev (fun k => torusref07_Check.f k l) (ck l) := by
  unfold torusref07_Check.f ck
  by_cases c : l.length = 0
  · simp only [if_pos c, if_pos (show (l.length : Int) = 0 by omega)]
    exact Ev.now _
  · by_cases c' : l.length > 5
    · simp only [if_neg c, if_pos c', if_neg (show ¬ ((l.length : Int) = 0) by omega), if_pos (show (l.length : Int) > 5 by omega)]
      exact Ev.now _
    · simp only [if_neg c, if_neg c', if_neg (show ¬ ((l.length : Int) = 0) by omega), if_neg (show ¬ ((l.length : Int) > 5) by omega)]
      simpa using rcheck_l0 l (by omega) l.length 0 (by omega) (by omega)
theorem ck_ok {l : List Int} (h : ck l = 0) : 1 ≤ l.length ∧ l.length ≤ 5 ∧ l.any bad = false ∧ asc l = true := by
  unfold ck at h
  split at h
  · simp at h
  · split at h
    · simp at h
    · split at h
      · simp at h
      · rename_i c1 c2 c3
        split at h
        · rename_i c4
          exact ⟨by omega, by omega, by simpa using c3, c4⟩
        · simp at h
theorem ck_of {l : List Int} (h1 : 1 ≤ l.length) (h2 : l.length ≤ 5) (h3 : l.any bad = false) (h4 : asc l = true) : ck l = 0 := by
  unfold ck
  rw [if_neg (by omega), if_neg (by omega), h3, h4]
  rfl
end Go.Proofs.YticckanjfdcpaaaDoor.PSimplex
namespace Go.Proofs.YticckanjfdcpaaaDoor.PSimplex
open Go.RowKit Go.Proofs.YticckanjfdcpaaaDoorW.PrintWords Go.Proofs.YticckanjfdcpaaaDoorW.PrintLast Go.Proofs.YticckanjfdcpaaaDoorW.PrintMore
attribute [local go_sem] max2_int min2_int max_two min_two max_three min_three max_four min_four   -- for this text's walks alone
set_option linter.unusedVariables false
set_option linter.unusedSimpArgs false

/-! ### torusref07_Over: function 39 -/
def torusref07_Over.l0 : Nat → Int → Int → Int → Int → Option (Int)
 |0, _, _, _, _ => none
 |k + 1, x0, x1, x5, x6 => if x6 < x1 then (if (wrap64 (x6 + 1)) = 0 then (none) else (torusref07_Over.l0 k x0 x1 (wrap64 (Int.tdiv (wrap64 (x5 * (wrap64 (x0 - x6)))) (wrap64 (x6 + 1)))) (wrap64 (x6 + 1)))) else (some x5)
def torusref07_Over.f (k : Nat) (a0 : Int) (a1 : Int) : Option (Int) := torusref07_Over.l0 k a0 a1 1 0
theorem torusref07_Over.mono_l : ∀ k, (∀ y0 y1 y2 y3, LeO (torusref07_Over.l0 k y0 y1 y2 y3) (torusref07_Over.l0 (k + 1) y0 y1 y2 y3))
 |0 => fun _ _ _ _ r h => by simp [torusref07_Over.l0] at h
 |k + 1 => by
  have ih0 := torusref07_Over.mono_l k
  ·intro y0 y1 y2 y3
   unfold torusref07_Over.l0
   repeat' first
   |(with_reducible exact ih0 _ _ _ _)
   |(with_reducible exact LeO.refl _)
   |(with_reducible exact LeO.none _)
   |(with_reducible refine LeO.ite ?_ ?_)
   |(with_reducible refine LeO.bind ?_ (fun _ => ?_))
   |exact ih0 _ _ _ _
   |exact LeO.none _
   |refine LeO.ite ?_ ?_
   |refine LeO.bind ?_ (fun _ => ?_)
theorem torusref07_Over.mono : ∀ a0 a1 k, LeO (torusref07_Over.f k a0 a1) (torusref07_Over.f (k + 1) a0 a1) := by
 intro a0 a1 k
 have ih0 := torusref07_Over.mono_l k
 unfold torusref07_Over.f
 repeat' first
   |(with_reducible exact ih0 _ _ _ _)
   |(with_reducible exact LeO.refl _)
   |(with_reducible exact LeO.none _)
   |(with_reducible refine LeO.ite ?_ ?_)
   |(with_reducible refine LeO.bind ?_ (fun _ => ?_))
   |exact ih0 _ _ _ _
   |exact LeO.none _
   |refine LeO.ite ?_ ?_
   |refine LeO.bind ?_ (fun _ => ?_)
set_option maxHeartbeats 8000000 in
set_option maxRecDepth 100000 in
theorem torusref07_Over.calls (k : Nat) (a0 : Int) (a1 : Int) (r : Int) (w : World) (h : torusref07_Over.f k a0 a1 = some r) :
  Calls Tryd.prog 39 #[.int .i64 a0, .int .i64 a1] w fun e w' => e = .returned (.int .i64 r) ∧ Drawn0 w w' := by
 have H : (torusref07_Over.l0 k a0 a1 1 0) = some r := h
 clear h
 have H' := Aside0.mk H
 clear H
 go_enter Tryd.func39, Tryd.ntmps39
 go_wp2
 go_loopg [5, 6] k (fun kq v5 v6 w' => ∃ (x5_1 : Int) (x6_1 : Int), v5 = .int .i64 x5_1 ∧ v6 = .int .i64 x6_1 ∧ Aside0 (torusref07_Over.l0 kq a0 a1 x5_1 x6_1 = some r) ∧ Aside0 (kq ≤ k) ∧ Drawn0 w w')
 case atStart => exact ⟨(1), (0), sd_, sd_, H', ⟨Nat.le_refl _⟩, dr_⟩
 case round =>
  clear H'
  try clear p2
  obtain ⟨x5_1, x6_1, rfl, rfl, HA, HK1, ⟨m1, rfl⟩⟩ := hrel
  cases gk with
  |zero => exact absurd HA.out (by simp [torusref07_Over.l0])
  |succ k1 =>
   have H := HA.out
   clear HA
   simp only [torusref07_Over.l0] at H
   by_cases c3 : x6_1 < a1
   ·rw [if_pos c3] at H
    have c3b0 : decide (x6_1 < a1) = true := decide_eq_true c3
    clear c3
    by_cases c4 : (wrap64 (x6_1 + 1)) = 0
    ·rw [if_pos c4] at H
     exact absurd H (by simp)
    ·rw [if_neg c4] at H
     have c4b0 : ((wrap64 (x6_1 + 1)) == 0) = false := beq_eq_false_iff_ne.mpr c4
     have c4b1 : ((wrap64 (x6_1 + 1)) != 0) = true := bne_iff_ne.mpr c4
     have H' := Aside0.mk H
     clear H
     go_wp2
     go_roundg k1
     case measure => have := HK1.out; omega
     case rel => exact ⟨(wrap64 (Int.tdiv (wrap64 (x5_1 * (wrap64 (a0 - x6_1)))) (wrap64 (x6_1 + 1)))), (wrap64 (x6_1 + 1)), sd_, sd_, H', ⟨by have := HK1.out; omega⟩, dr_⟩
   ·rw [if_neg c3] at H
    have c3b0 : decide (x6_1 < a1) = false := decide_eq_false c3
    clear c3
    obtain rfl := Option.some.inj H
    go_wp2
    go_ret
    exact ⟨sd_, dr_⟩

end Go.Proofs.YticckanjfdcpaaaDoor.PSimplex
namespace Go.Proofs.YticckanjfdcpaaaDoor.PSimplex
open Go.RowKit Go.Proofs.YticckanjfdcpaaaDoorW.PrintWords Go.Proofs.YticckanjfdcpaaaDoorW.PrintLast Go.Proofs.YticckanjfdcpaaaDoorW.PrintMore
attribute [local go_sem] max2_int min2_int max_two min_two max_three min_three max_four min_four   -- for this text's walks alone
set_option linter.unusedVariables false
set_option linter.unusedSimpArgs false

/-! ### torusref07_Number: function 14 -/
def torusref07_Number.l0 : Nat → List Int → Int → Int → Option (Int × Int)
 |0, _, _, _ => none
 |k + 1, x0, x5, x6 => if x6 < (x0.length : Int) then (if 0 ≤ x6 then ((torusref07_Over.f k (rd x0 x6) (wrap64 (x6 + 1))).bind fun t272 => (torusref07_Number.l0 k x0 (wrap64 (x5 + t272)) (wrap64 (x6 + 1)))) else (none)) else (some (x5, 0))
def torusref07_Number.f (k : Nat) (l0 : List Int) : Option (Int × Int) := (torusref07_Check.f k l0).bind fun t270 => (if t270 = 0 then (torusref07_Number.l0 k l0 0 0) else (some (0, t270)))
theorem torusref07_Number.mono_l : ∀ k, (∀ y0 y1 y2, LeO (torusref07_Number.l0 k y0 y1 y2) (torusref07_Number.l0 (k + 1) y0 y1 y2))
 |0 => fun _ _ _ r h => by simp [torusref07_Number.l0] at h
 |k + 1 => by
  have ih0 := torusref07_Number.mono_l k
  ·intro y0 y1 y2
   unfold torusref07_Number.l0
   repeat' first
   |(with_reducible exact ih0 _ _ _)
   |(with_reducible exact torusref07_Check.mono _ _)
   |(with_reducible exact torusref07_Over.mono _ _ _)
   |(with_reducible exact LeO.refl _)
   |(with_reducible exact LeO.none _)
   |(with_reducible refine LeO.ite ?_ ?_)
   |(with_reducible refine LeO.bind ?_ (fun _ => ?_))
   |exact ih0 _ _ _
   |exact torusref07_Check.mono _ _
   |exact torusref07_Over.mono _ _ _
   |exact LeO.none _
   |refine LeO.ite ?_ ?_
   |refine LeO.bind ?_ (fun _ => ?_)
theorem torusref07_Number.mono : ∀ a0 k, LeO (torusref07_Number.f k a0) (torusref07_Number.f (k + 1) a0) := by
 intro a0 k
 have ih0 := torusref07_Number.mono_l k
 unfold torusref07_Number.f
 repeat' first
   |(with_reducible exact ih0 _ _ _)
   |(with_reducible exact torusref07_Check.mono _ _)
   |(with_reducible exact torusref07_Over.mono _ _ _)
   |(with_reducible exact LeO.refl _)
   |(with_reducible exact LeO.none _)
   |(with_reducible refine LeO.ite ?_ ?_)
   |(with_reducible refine LeO.bind ?_ (fun _ => ?_))
   |exact ih0 _ _ _
   |exact torusref07_Check.mono _ _
   |exact torusref07_Over.mono _ _ _
   |exact LeO.none _
   |refine LeO.ite ?_ ?_
   |refine LeO.bind ?_ (fun _ => ?_)
set_option maxHeartbeats 8000000 in
set_option maxRecDepth 100000 in
theorem torusref07_Number.calls (k : Nat) (A0 : Option Addr) (c0 : Nat) (l0 : List Int) (r1 : Int) (r2 : Int) (w : World) (hr0 : Kd.C (Kd.int .i64) w A0 l0.length l0) (hc0 : l0.length ≤ c0) (h : torusref07_Number.f k l0 = some (r1, r2)) :
  Calls Tryd.prog 14 #[.slice A0 l0.length c0] w fun e w' => e = .returned (.tuple #[.int .i64 r1, .int .i64 r2]) ∧ Drawn0 w w' := by
 have HR0 := Aside0.mk hr0
 have HC0 := Aside0.mk hc0
 clear hr0 hc0
 have H : ((torusref07_Check.f k l0).bind fun t270 => (if t270 = 0 then (torusref07_Number.l0 k l0 0 0) else (some (0, t270)))) = some (r1, r2) := h
 clear h
 replace H := Option.bind_eq_some_iff.mp H
 obtain ⟨t270, A20, H⟩ := H
 replace H : (if t270 = 0 then (torusref07_Number.l0 k l0 0 0) else (some (0, t270))) = some (r1, r2) := H
 have A2 := Aside0.mk A20
 clear A20
 by_cases c3 : t270 = 0
 ·rw [if_pos c3] at H
  have c3b0 : (t270 == 0) = true := beq_iff_eq.mpr c3
  have c3b1 : (t270 != 0) = false := bne_eq_false_iff_eq.mpr c3
  clear c3
  have H' := Aside0.mk H
  clear H
  go_enter Tryd.func14, Tryd.ntmps14
  go_wp2_with (first | ((with_reducible refine gate_callee (f := 28) rfl ?_); refine goesL_ (some 8) rfl rfl Tryd.func28 (by kernel_rfl) rfl #[.slice A0 l0.length c0] rfl ag_ ?_; (with_reducible refine (torusref07_Check.calls k _ _ l0 t270 _ ?side1 ?side2 A2.out).mono ?_); (case side1 => exact cs_ HR0.out); (case side2 => exact HC0.out); rintro e w' ⟨rfl, ⟨nd, rfl⟩⟩; refine ⟨_, rfl, ?_⟩))
  go_loopg [5, 6] k (fun kq v5 v6 w' => ∃ (x5_1 : Int) (x6_1 : Int), v5 = .int .i64 x5_1 ∧ v6 = .int .i64 x6_1 ∧ Aside0 (torusref07_Number.l0 kq l0 x5_1 x6_1 = some (r1, r2)) ∧ Aside0 (kq ≤ k) ∧ Drawn0 w w')
  case atStart => exact ⟨(0), (0), sd_, sd_, H', ⟨Nat.le_refl _⟩, dr_⟩
  case round =>
   clear H'
   try clear c1
   try clear c2
   try clear p2
   try clear c3
   try clear c3b0
   try clear c3b1
   obtain ⟨x5_1, x6_1, rfl, rfl, HA, HK1, ⟨m1, rfl⟩⟩ := hrel
   cases gk with
   |zero => exact absurd HA.out (by simp [torusref07_Number.l0])
   |succ k1 =>
    have H := HA.out
    clear HA
    simp only [torusref07_Number.l0] at H
    by_cases c4 : x6_1 < (l0.length : Int)
    ·rw [if_pos c4] at H
     have c4b0 : decide (x6_1 < (l0.length : Int)) = true := decide_eq_true c4
     clear c4
     by_cases c5 : 0 ≤ x6_1
     ·rw [if_pos c5] at H
      have c5b0 : decide (0 ≤ x6_1) = true := decide_eq_true c5
      clear c5
      replace H := Option.bind_eq_some_iff.mp H
      obtain ⟨t272, A60, H⟩ := H
      replace H : (torusref07_Number.l0 k1 l0 (wrap64 (x5_1 + t272)) (wrap64 (x6_1 + 1))) = some (r1, r2) := H
      have A6 := Aside0.mk A60
      clear A60
      have H' := Aside0.mk H
      clear H
      have p271 : 0 ≤ (x6_1 : Int) := of_decide_eq_true as_
      have q271 : x6_1 < (l0.length : Int) := of_decide_eq_true as_
      obtain ⟨ad271, e271, hx271_0⟩ := Kd.at_int HR0.out x6_1 p271 q271
      cases e271
      replace p271 := eq_true p271
      replace q271 := eq_true q271
      go_wp2_with (first | ((with_reducible refine gate_callee (f := 39) rfl ?_); refine goesL_ (some 25) rfl rfl Tryd.func39 (by kernel_rfl) rfl #[.int .i64 (rd l0 x6_1), .int .i64 (wrap64 (x6_1 + 1))] rfl ag_ ?_; (with_reducible refine (torusref07_Over.calls k1 (rd l0 x6_1) (wrap64 (x6_1 + 1)) t272 _ A6.out).mono ?_); rintro e w' ⟨rfl, ⟨nd, rfl⟩⟩; refine ⟨_, rfl, ?_⟩))
      go_roundg k1
      case measure => have := HK1.out; omega
      case rel => exact ⟨(wrap64 (x5_1 + t272)), (wrap64 (x6_1 + 1)), sd_, sd_, H', ⟨by have := HK1.out; omega⟩, dr_⟩
     ·rw [if_neg c5] at H
      exact absurd H (by simp)
    ·rw [if_neg c4] at H
     have c4b0 : decide (x6_1 < (l0.length : Int)) = false := decide_eq_false c4
     clear c4
     simp only [Option.some.injEq, Prod.mk.injEq] at H
     obtain ⟨rfl, rfl⟩ := H
     go_wp2
     go_ret2
     exact ⟨sd_, dr_⟩
 ·rw [if_neg c3] at H
  have c3b0 : (t270 == 0) = false := beq_eq_false_iff_ne.mpr c3
  have c3b1 : (t270 != 0) = true := bne_iff_ne.mpr c3
  simp only [Option.some.injEq, Prod.mk.injEq] at H
  obtain ⟨rfl, rfl⟩ := H
  go_enter Tryd.func14, Tryd.ntmps14
  go_wp2_with (first | ((with_reducible refine gate_callee (f := 28) rfl ?_); refine goesL_ (some 8) rfl rfl Tryd.func28 (by kernel_rfl) rfl #[.slice A0 l0.length c0] rfl ag_ ?_; (with_reducible refine (torusref07_Check.calls k _ _ l0 t270 _ ?side1 ?side2 A2.out).mono ?_); (case side1 => exact cs_ HR0.out); (case side2 => exact HC0.out); rintro e w' ⟨rfl, ⟨nd, rfl⟩⟩; refine ⟨_, rfl, ?_⟩))
  go_ret2
  exact ⟨sd_, dr_⟩

end Go.Proofs.YticckanjfdcpaaaDoor.PSimplex
namespace Go.Proofs.YticckanjfdcpaaaDoor.PSimplex
open Go.RowKit Go.Proofs.YticckanjfdcpaaaDoorW.PrintWords Go.Proofs.YticckanjfdcpaaaDoorW.PrintLast Go.Proofs.YticckanjfdcpaaaDoorW.PrintMore
attribute [local go_sem] max2_int min2_int max_two min_two max_three min_three max_four min_four   -- for this text's walks alone
set_option linter.unusedVariables false
set_option linter.unusedSimpArgs false

/-! ### torusref07_Numbered: function 16 -/
mutual
def torusref07_Numbered.j0 : Nat → Int → Int → Bool → Option (List Int × Int)
 |0, _, _, _ => none
 |k + 1, x0, x1, x14 => if x14 = true then (some (([] : List Int), 1)) else (if x1 < 0 then (torusref07_Numbered.j1 k x0 x1 true) else ((torusref07_Over.f k 64 (wrap64 (x0 + 1))).bind fun t273 => (torusref07_Numbered.j1 k x0 x1 (decide (x1 ≥ t273)))))
def torusref07_Numbered.j1 : Nat → Int → Int → Bool → Option (List Int × Int)
 |0, _, _, _ => none
 |k + 1, x0, x1, x23 => if x23 = true then (some (([] : List Int), 4)) else (if 0 ≤ (wrap64 (x0 + 1)) then (if (wrap64 (x0 + 1) : Int).toNat ≤ 35184372088832 then (torusref07_Numbered.l0 k x1 (List.replicate (wrap64 (x0 + 1) : Int).toNat 0) x0) else (none)) else (none))
def torusref07_Numbered.l0 : Nat → Int → List Int → Int → Option (List Int × Int)
 |0, _, _, _ => none
 |k + 1, x1, x6, x7 => if x7 ≥ 0 then (torusref07_Numbered.l1 k x1 x6 x7 x7) else (some (x6, 0))
def torusref07_Numbered.l1 : Nat → Int → List Int → Int → Int → Option (List Int × Int)
 |0, _, _, _, _ => none
 |k + 1, x1, x6, x7, x8 => (torusref07_Over.f k (wrap64 (x8 + 1)) (wrap64 (x7 + 1))).bind fun t277 => (if t277 ≤ x1 then (torusref07_Numbered.l1 k x1 x6 x7 (wrap64 (x8 + 1))) else (if 0 ≤ x7 then (if x7 < (x6.length : Int) then ((torusref07_Over.f k x8 (wrap64 (x7 + 1))).bind fun t279 => (torusref07_Numbered.l0 k (wrap64 (x1 - t279)) (x6.set (x7 : Int).toNat x8) (wrap64 (x7 - 1)))) else (none)) else (none)))
end
def torusref07_Numbered.f (k : Nat) (a0 : Int) (a1 : Int) : Option (List Int × Int) := if a0 < 0 then (torusref07_Numbered.j0 k a0 a1 true) else (torusref07_Numbered.j0 k a0 a1 (decide (a0 > 4)))
theorem torusref07_Numbered.mono_l : ∀ k, (∀ y0 y1 y2, LeO (torusref07_Numbered.j0 k y0 y1 y2) (torusref07_Numbered.j0 (k + 1) y0 y1 y2)) ∧ (∀ y0 y1 y2, LeO (torusref07_Numbered.j1 k y0 y1 y2) (torusref07_Numbered.j1 (k + 1) y0 y1 y2)) ∧ (∀ y0 y1 y2, LeO (torusref07_Numbered.l0 k y0 y1 y2) (torusref07_Numbered.l0 (k + 1) y0 y1 y2)) ∧ (∀ y0 y1 y2 y3, LeO (torusref07_Numbered.l1 k y0 y1 y2 y3) (torusref07_Numbered.l1 (k + 1) y0 y1 y2 y3))
 |0 => ⟨fun _ _ _ r h => by simp [torusref07_Numbered.j0] at h, fun _ _ _ r h => by simp [torusref07_Numbered.j1] at h, fun _ _ _ r h => by simp [torusref07_Numbered.l0] at h, fun _ _ _ _ r h => by simp [torusref07_Numbered.l1] at h⟩
 |k + 1 => by
  obtain ⟨ih0, ih1, ih2, ih3⟩ := torusref07_Numbered.mono_l k
  refine ⟨?_, ?_, ?_, ?_⟩
  ·intro y0 y1 y2
   unfold torusref07_Numbered.j0
   repeat' first
   |(with_reducible exact ih0 _ _ _)
   |(with_reducible exact ih1 _ _ _)
   |(with_reducible exact ih2 _ _ _)
   |(with_reducible exact ih3 _ _ _ _)
   |(with_reducible exact torusref07_Over.mono _ _ _)
   |(with_reducible exact LeO.refl _)
   |(with_reducible exact LeO.none _)
   |(with_reducible refine LeO.ite ?_ ?_)
   |(with_reducible refine LeO.bind ?_ (fun _ => ?_))
   |exact ih0 _ _ _
   |exact ih1 _ _ _
   |exact ih2 _ _ _
   |exact ih3 _ _ _ _
   |exact torusref07_Over.mono _ _ _
   |exact LeO.none _
   |refine LeO.ite ?_ ?_
   |refine LeO.bind ?_ (fun _ => ?_)
  ·intro y0 y1 y2
   unfold torusref07_Numbered.j1
   repeat' first
   |(with_reducible exact ih0 _ _ _)
   |(with_reducible exact ih1 _ _ _)
   |(with_reducible exact ih2 _ _ _)
   |(with_reducible exact ih3 _ _ _ _)
   |(with_reducible exact torusref07_Over.mono _ _ _)
   |(with_reducible exact LeO.refl _)
   |(with_reducible exact LeO.none _)
   |(with_reducible refine LeO.ite ?_ ?_)
   |(with_reducible refine LeO.bind ?_ (fun _ => ?_))
   |exact ih0 _ _ _
   |exact ih1 _ _ _
   |exact ih2 _ _ _
   |exact ih3 _ _ _ _
   |exact torusref07_Over.mono _ _ _
   |exact LeO.none _
   |refine LeO.ite ?_ ?_
   |refine LeO.bind ?_ (fun _ => ?_)
  ·intro y0 y1 y2
   unfold torusref07_Numbered.l0
   repeat' first
   |(with_reducible exact ih0 _ _ _)
   |(with_reducible exact ih1 _ _ _)
   |(with_reducible exact ih2 _ _ _)
   |(with_reducible exact ih3 _ _ _ _)
   |(with_reducible exact torusref07_Over.mono _ _ _)
   |(with_reducible exact LeO.refl _)
   |(with_reducible exact LeO.none _)
   |(with_reducible refine LeO.ite ?_ ?_)
   |(with_reducible refine LeO.bind ?_ (fun _ => ?_))
   |exact ih0 _ _ _
   |exact ih1 _ _ _
   |exact ih2 _ _ _
   |exact ih3 _ _ _ _
   |exact torusref07_Over.mono _ _ _
   |exact LeO.none _
   |refine LeO.ite ?_ ?_
   |refine LeO.bind ?_ (fun _ => ?_)
  ·intro y0 y1 y2 y3
   unfold torusref07_Numbered.l1
   repeat' first
   |(with_reducible exact ih0 _ _ _)
   |(with_reducible exact ih1 _ _ _)
   |(with_reducible exact ih2 _ _ _)
   |(with_reducible exact ih3 _ _ _ _)
   |(with_reducible exact torusref07_Over.mono _ _ _)
   |(with_reducible exact LeO.refl _)
   |(with_reducible exact LeO.none _)
   |(with_reducible refine LeO.ite ?_ ?_)
   |(with_reducible refine LeO.bind ?_ (fun _ => ?_))
   |exact ih0 _ _ _
   |exact ih1 _ _ _
   |exact ih2 _ _ _
   |exact ih3 _ _ _ _
   |exact torusref07_Over.mono _ _ _
   |exact LeO.none _
   |refine LeO.ite ?_ ?_
   |refine LeO.bind ?_ (fun _ => ?_)
theorem torusref07_Numbered.mono : ∀ a0 a1 k, LeO (torusref07_Numbered.f k a0 a1) (torusref07_Numbered.f (k + 1) a0 a1) := by
 intro a0 a1 k
 obtain ⟨ih0, ih1, ih2, ih3⟩ := torusref07_Numbered.mono_l k
 unfold torusref07_Numbered.f
 repeat' first
   |(with_reducible exact ih0 _ _ _)
   |(with_reducible exact ih1 _ _ _)
   |(with_reducible exact ih2 _ _ _)
   |(with_reducible exact ih3 _ _ _ _)
   |(with_reducible exact torusref07_Over.mono _ _ _)
   |(with_reducible exact LeO.refl _)
   |(with_reducible exact LeO.none _)
   |(with_reducible refine LeO.ite ?_ ?_)
   |(with_reducible refine LeO.bind ?_ (fun _ => ?_))
   |exact ih0 _ _ _
   |exact ih1 _ _ _
   |exact ih2 _ _ _
   |exact ih3 _ _ _ _
   |exact torusref07_Over.mono _ _ _
   |exact LeO.none _
   |refine LeO.ite ?_ ?_
   |refine LeO.bind ?_ (fun _ => ?_)
set_option maxHeartbeats 8000000 in
set_option maxRecDepth 100000 in
theorem torusref07_Numbered.calls (k : Nat) (a0 : Int) (a1 : Int) (r1 : List Int) (r2 : Int) (w : World) (h : torusref07_Numbered.f k a0 a1 = some (r1, r2)) :
  Calls Tryd.prog 16 #[.int .i64 a0, .int .i64 a1] w fun e w' => ∃ v0_ : Value, e = .returned (.tuple #[v0_, .int .i64 r2]) ∧ Kd.R (Kd.int .i64) 3 w' w.heap.size (fun _ => True) v0_ r1 ∧ Below w.heap.size w w' := by
 have HB := Aside0.mk (Below.refl w.heap.size w)
 have H : (if a0 < 0 then (torusref07_Numbered.j0 k a0 a1 true) else (torusref07_Numbered.j0 k a0 a1 (decide (a0 > 4)))) = some (r1, r2) := h
 clear h
 have HC3 := Aside0.mk H
 clear H
 go_enter Tryd.func16, Tryd.ntmps16
 go_upto_region 1 with (fail)
 go_cut [14] (fun v14 wc => ∃ (kq : Nat) (x14_2 : Bool), v14 = .bool x14_2 ∧ Aside0 (torusref07_Numbered.j0 kq a0 a1 x14_2 = some (r1, r2)) ∧ Aside0 (kq ≤ k) ∧ Aside0 (Below w.heap.size w wc))
 case first =>
  have H := HC3.out
  clear HC3
  by_cases c4 : a0 < 0
  ·rw [if_pos c4] at H
   have c4b0 : decide (a0 < 0) = true := decide_eq_true c4
   clear c4
   (first | rw [c4b0] | (simp only [i64_w, i32_w]; rw [c4b0]) | skip)
   have H' := Aside0.mk H
   clear H
   go_wp2
   go_meet
   case rel => exact ⟨_, (true), sd_, H', ⟨by first | omega | exact Nat.le_refl _⟩, ⟨bw_⟩⟩
  ·rw [if_neg c4] at H
   have c4b0 : decide (a0 < 0) = false := decide_eq_false c4
   clear c4
   (first | rw [c4b0] | (simp only [i64_w, i32_w]; rw [c4b0]) | skip)
   have H' := Aside0.mk H
   clear H
   go_wp2
   go_meet
   case rel => exact ⟨_, (decide (a0 > 4)), sd_, H', ⟨by first | omega | exact Nat.le_refl _⟩, ⟨bw_⟩⟩
 case rest =>
  clear HC3
  try clear c1
  try clear p2
  try clear c4
  try clear c4b0
  obtain ⟨kq, x14_2, rfl, HA, HJ2, HB⟩ := hcut
  cases kq with
  |zero => exact absurd HA.out (by simp [torusref07_Numbered.j0])
  |succ kj2 =>
   have H := HA.out
   clear HA
   simp only [torusref07_Numbered.j0] at H
   by_cases c5 : x14_2 = true
   ·subst c5
    have H1 : (some (([] : List Int), 1)) = some (r1, r2) := by rw [if_pos rfl] at H; exact H
    clear H
    have H := H1
    clear H1
    simp only [Option.some.injEq, Prod.mk.injEq] at H
    obtain ⟨rfl, rfl⟩ := H
    go_wp2
    go_ret2
    exact ⟨_, by first | rfl | (simp [errW_none, errW_some] <;> rfl) | (simp [*, errW_none, errW_some] <;> rfl), by first | exact Kd.R_nil _ _ _ _ _ | exact Kd.N_nil _ _ _ _ _ | exact Kd.V_nil _ _ _ _ _ | exact Kd.Q_nil _ _ _ _ _ | exact Kd.S_nil _ _ _ _ _, bw_⟩
   ·replace c5 := Bool.eq_false_iff.mpr c5
    subst c5
    have H1 : (if a1 < 0 then (torusref07_Numbered.j1 kj2 a0 a1 true) else ((torusref07_Over.f kj2 64 (wrap64 (a0 + 1))).bind fun t273 => (torusref07_Numbered.j1 kj2 a0 a1 (decide (a1 ≥ t273))))) = some (r1, r2) := by rw [if_neg (show ¬ (false = true) by decide)] at H; exact H
    clear H
    have H := H1
    clear H1
    have HC6 := Aside0.mk H
    clear H
    go_upto_region 3 with (fail)
    go_cut [23] (fun v23 wc => ∃ (kq : Nat) (x23_5 : Bool), v23 = .bool x23_5 ∧ Aside0 (torusref07_Numbered.j1 kq a0 a1 x23_5 = some (r1, r2)) ∧ Aside0 (kq ≤ kj2) ∧ Aside0 (Below w.heap.size w wc))
    case first =>
     have H := HC6.out
     clear HC6
     by_cases c7 : a1 < 0
     ·rw [if_pos c7] at H
      have c7b0 : decide (a1 < 0) = true := decide_eq_true c7
      clear c7
      (first | rw [c7b0] | (simp only [i64_w, i32_w]; rw [c7b0]) | skip)
      have H' := Aside0.mk H
      clear H
      go_wp2
      go_meet
      case rel => exact ⟨_, (true), sd_, H', ⟨by have := HJ2.out; first | omega | exact Nat.le_refl _⟩, ⟨bw_⟩⟩
     ·rw [if_neg c7] at H
      have c7b0 : decide (a1 < 0) = false := decide_eq_false c7
      clear c7
      (first | rw [c7b0] | (simp only [i64_w, i32_w]; rw [c7b0]) | skip)
      replace H := Option.bind_eq_some_iff.mp H
      obtain ⟨t273, A80, H⟩ := H
      replace H : (torusref07_Numbered.j1 kj2 a0 a1 (decide (a1 ≥ t273))) = some (r1, r2) := H
      have A8 := Aside0.mk A80
      clear A80
      have H' := Aside0.mk H
      clear H
      go_wp2_with (first | (go_at_call 39; (with_reducible refine (torusref07_Over.calls kj2 64 (wrap64 (a0 + 1)) t273 _ A8.out).mono ?_); rintro e w' ⟨rfl, ⟨nd, rfl⟩⟩))
      go_meet
      case rel => exact ⟨_, (decide (a1 ≥ t273)), sd_, H', ⟨by have := HJ2.out; first | omega | exact Nat.le_refl _⟩, ⟨bw_⟩⟩
    case rest =>
     clear HC6
     try clear c1
     try clear p2
     try clear c4
     try clear c4b0
     try clear c5
     try clear p6
     try clear c7
     try clear c7b0
     try clear p2
     obtain ⟨kq, x23_5, rfl, HA, HJ5, HB⟩ := hcut
     cases kq with
     |zero => exact absurd HA.out (by simp [torusref07_Numbered.j1])
     |succ kj5 =>
      have H := HA.out
      clear HA
      simp only [torusref07_Numbered.j1] at H
      by_cases c9 : x23_5 = true
      ·subst c9
       have H1 : (some (([] : List Int), 4)) = some (r1, r2) := by rw [if_pos rfl] at H; exact H
       clear H
       have H := H1
       clear H1
       simp only [Option.some.injEq, Prod.mk.injEq] at H
       obtain ⟨rfl, rfl⟩ := H
       go_wp2
       go_ret2
       exact ⟨_, by first | rfl | (simp [errW_none, errW_some] <;> rfl) | (simp [*, errW_none, errW_some] <;> rfl), by first | exact Kd.R_nil _ _ _ _ _ | exact Kd.N_nil _ _ _ _ _ | exact Kd.V_nil _ _ _ _ _ | exact Kd.Q_nil _ _ _ _ _ | exact Kd.S_nil _ _ _ _ _, bw_⟩
      ·replace c9 := Bool.eq_false_iff.mpr c9
       subst c9
       have H1 : (if 0 ≤ (wrap64 (a0 + 1)) then (if (wrap64 (a0 + 1) : Int).toNat ≤ 35184372088832 then (torusref07_Numbered.l0 kj5 a1 (List.replicate (wrap64 (a0 + 1) : Int).toNat 0) a0) else (none)) else (none)) = some (r1, r2) := by rw [if_neg (show ¬ (false = true) by decide)] at H; exact H
       clear H
       have H := H1
       clear H1
       obtain ⟨ji10, hji10⟩ : ∃ j_ : Int, (wrap64 (a0 + 1)) = j_ := ⟨_, rfl⟩
       replace H : (if 0 ≤ (ji10) then (if (ji10 : Int).toNat ≤ 35184372088832 then (torusref07_Numbered.l0 kj5 a1 (List.replicate (ji10 : Int).toNat 0) a0) else (none)) else (none)) = some (r1, r2) := by first | (rw [hji10] at H; exact H) | (simp only [hji10] at H ⊢; exact H)
       have hji10w : (IntKind.i64.wrap (a0 + 1)) = ji10 := (i64_w _).trans hji10
       by_cases c11 : 0 ≤ (ji10)
       ·rw [if_pos c11] at H
        have c11b0 := eq_true c11
        have c11b1 : decide (0 ≤ (ji10)) = true := decide_eq_true c11
        clear c11
        by_cases c12 : (ji10 : Int).toNat ≤ 35184372088832
        ·rw [if_pos c12] at H
         have c12b0 := eq_true c12
         have c12b1 : decide ((ji10 : Int).toNat ≤ 35184372088832) = true := decide_eq_true c12
         clear c12
         obtain ⟨y274, hy274⟩ : ∃ y_ : List Int, y_ = (List.replicate (ji10 : Int).toNat 0) := ⟨_, rfl⟩
         replace H : (torusref07_Numbered.l0 kj5 a1 y274 a0) = some (r1, r2) := by first | (rw [hy274]; with_reducible exact H) | (have H2_ := (Option.bind_some _ _).symm.trans H; rw [hy274]; with_reducible exact H2_) | (have H2_ := (Option.bind_some _ _).symm.trans H; with_reducible exact H2_) | with_reducible exact H | (rw [hy274]; exact H) | exact H
         have Ny274 := Aside0.mk hy274
         clear hy274
         have H' := Aside0.mk H
         clear H
         go_wp2_with (first | ((with_reducible refine gate_dst (N := 26) rfl ?_); refine Kd.R_make (Kd.int .i64) _ 3 rfl (N := 26) rfl 22 _ _ rfl ji10 rfl rfl Tryd.underlying22 (.int .i64 0) 8 info3 rfl (by decide) (by omega) 0 (ok := fun _ => True) (okp := fun _ => True) rfl (fun _ hk => hk) trivial (of_decide_eq_true as_) (Nat.le_trans (Nat.mul_le_mul_right _ (of_decide_eq_true as_ : ji10.toNat ≤ 35184372088832)) (by omega)) (Below.refl _ _) (Nat.le_refl _) ?_; intro v275 w13 ho14 hb hg_ hnew_; clear hg_ hnew_; (first | rw [← Ny274.out] at ho14 | (simp only [Int.reduceToNat] at ho14; rw [← Ny274.out] at ho14)); have n0_ := Aside0.mk (Kd.R_lower ho14 (below_size bw_)); have n1_ := Aside0.mk (below_step bw_ hb); clear HB; have HO276 := n0_; have HB := n1_; clear n0_ n1_; clear hb ho14))
         go_loopg [1, 7] kj5 (fun kq v1 v7 w' => ∃ (x1_3 : Int) (x6_3 : List Int) (x7_3 : Int), v1 = .int .i64 x1_3 ∧ v7 = .int .i64 x7_3 ∧ Aside0 (torusref07_Numbered.l0 kq x1_3 x6_3 x7_3 = some (r1, r2)) ∧ Aside0 (kq ≤ kj5) ∧ Aside0 (Kd.R (Kd.int .i64) 3 w' w.heap.size (fun _ => True) v275 x6_3) ∧ Aside0 (Below w.heap.size w w'))
         case atStart => exact ⟨(a1), (y274), (a0), sd_, sd_, H', ⟨Nat.le_refl _⟩, ⟨rRa_ HO276.out⟩, ⟨bw_⟩⟩
         case round =>
          clear H'
          try clear c1
          try clear p2
          try clear c4
          try clear c4b0
          try clear c5
          try clear p6
          try clear c7
          try clear c7b0
          try clear c9
          try clear c11
          try clear c11b0
          try clear c11b1
          try clear c12
          try clear c12b0
          try clear c12b1
          try clear p2
          try clear p6
          obtain ⟨x1_3, x6_3, x7_3, rfl, rfl, HA, HK3, HO_6, HB⟩ := hrel
          cases gk with
          |zero => exact absurd HA.out (by simp [torusref07_Numbered.l0])
          |succ k3 =>
           have H := HA.out
           clear HA
           simp only [torusref07_Numbered.l0] at H
           by_cases c15 : x7_3 ≥ 0
           ·rw [if_pos c15] at H
            have c15b0 : decide (0 ≤ x7_3) = true := decide_eq_true c15
            clear c15
            have H' := Aside0.mk H
            clear H
            go_wp2
            go_loopg [8] k3 (fun kq v8 w' => ∃ (x8_4 : Int), v8 = .int .i64 x8_4 ∧ Aside0 (torusref07_Numbered.l1 kq x1_3 x6_3 x7_3 x8_4 = some (r1, r2)) ∧ Aside0 (kq ≤ k3) ∧ Aside0 (Kd.R (Kd.int .i64) 3 w' w.heap.size (fun _ => True) v275 x6_3) ∧ Aside0 (Below w.heap.size w w'))
            case atStart => exact ⟨(x7_3), sd_, H', ⟨Nat.le_refl _⟩, ⟨rRa_ HO_6.out⟩, ⟨bw_⟩⟩
            case round =>
             clear H'
             try clear c1
             try clear p2
             try clear c4
             try clear c4b0
             try clear c5
             try clear p6
             try clear c7
             try clear c7b0
             try clear c9
             try clear c11
             try clear c11b0
             try clear c11b1
             try clear c12
             try clear c12b0
             try clear c12b1
             try clear c15
             try clear c15b0
             try clear p2
             try clear p6
             obtain ⟨x8_4, rfl, HA, HK4, HO_6, HB⟩ := hrel
             cases gk with
             |zero => exact absurd HA.out (by simp [torusref07_Numbered.l1])
             |succ k4 =>
              have H := HA.out
              clear HA
              simp only [torusref07_Numbered.l1] at H
              replace H := Option.bind_eq_some_iff.mp H
              obtain ⟨t277, A160, H⟩ := H
              replace H : (if t277 ≤ x1_3 then (torusref07_Numbered.l1 k4 x1_3 x6_3 x7_3 (wrap64 (x8_4 + 1))) else (if 0 ≤ x7_3 then (if x7_3 < (x6_3.length : Int) then ((torusref07_Over.f k4 x8_4 (wrap64 (x7_3 + 1))).bind fun t279 => (torusref07_Numbered.l0 k4 (wrap64 (x1_3 - t279)) (x6_3.set (x7_3 : Int).toNat x8_4) (wrap64 (x7_3 - 1)))) else (none)) else (none))) = some (r1, r2) := H
              have A16 := Aside0.mk A160
              clear A160
              by_cases c17 : t277 ≤ x1_3
              ·rw [if_pos c17] at H
               have c17b0 : decide (t277 ≤ x1_3) = true := decide_eq_true c17
               clear c17
               have H' := Aside0.mk H
               clear H
               go_wp2_with (first | ((with_reducible refine gate_callee (f := 39) rfl ?_); refine goesL_ (some 37) rfl rfl Tryd.func39 (by kernel_rfl) rfl #[.int .i64 (wrap64 (x8_4 + 1)), .int .i64 (wrap64 (x7_3 + 1))] rfl ag_ ?_; (with_reducible refine (torusref07_Over.calls k4 (wrap64 (x8_4 + 1)) (wrap64 (x7_3 + 1)) t277 _ A16.out).mono ?_); rintro e w' ⟨rfl, ⟨nd, rfl⟩⟩; refine ⟨_, rfl, ?_⟩))
               go_roundg k4
               case measure => have := HJ2.out; have := HJ5.out; have := HK3.out; have := HK4.out; omega
               case rel => exact ⟨(wrap64 (x8_4 + 1)), sd_, H', ⟨by have := HJ2.out; have := HJ5.out; have := HK3.out; have := HK4.out; omega⟩, ⟨rRa_ HO_6.out⟩, ⟨bw_⟩⟩
              ·rw [if_neg c17] at H
               have c17b0 : decide (t277 ≤ x1_3) = false := decide_eq_false c17
               clear c17
               by_cases c18 : 0 ≤ x7_3
               ·rw [if_pos c18] at H
                have c18b0 : decide (0 ≤ x7_3) = true := decide_eq_true c18
                clear c18
                by_cases c19 : x7_3 < (x6_3.length : Int)
                ·rw [if_pos c19] at H
                 have c19b0 : decide (x7_3 < (x6_3.length : Int)) = true := decide_eq_true c19
                 clear c19
                 obtain ⟨y278, hy278⟩ : ∃ y_ : List Int, y_ = (x6_3.set (x7_3 : Int).toNat x8_4) := ⟨_, rfl⟩
                 replace H : ((torusref07_Over.f k4 x8_4 (wrap64 (x7_3 + 1))).bind fun t279 => (torusref07_Numbered.l0 k4 (wrap64 (x1_3 - t279)) y278 (wrap64 (x7_3 - 1)))) = some (r1, r2) := by first | (rw [hy278]; with_reducible exact H) | (have H2_ := (Option.bind_some _ _).symm.trans H; rw [hy278]; with_reducible exact H2_) | (have H2_ := (Option.bind_some _ _).symm.trans H; with_reducible exact H2_) | with_reducible exact H | (rw [hy278]; exact H) | exact H
                 have Ny278 := Aside0.mk hy278
                 clear hy278
                 replace H := Option.bind_eq_some_iff.mp H
                 obtain ⟨t279, A210, H⟩ := H
                 replace H : (torusref07_Numbered.l0 k4 (wrap64 (x1_3 - t279)) y278 (wrap64 (x7_3 - 1))) = some (r1, r2) := H
                 have A21 := Aside0.mk A210
                 clear A210
                 have H' := Aside0.mk H
                 clear H
                 go_wp2_with (first | ((with_reducible refine gate_callee (f := 39) rfl ?_); refine goesL_ (some 37) rfl rfl Tryd.func39 (by kernel_rfl) rfl #[.int .i64 (wrap64 (x8_4 + 1)), .int .i64 (wrap64 (x7_3 + 1))] rfl ag_ ?_; (with_reducible refine (torusref07_Over.calls k4 (wrap64 (x8_4 + 1)) (wrap64 (x7_3 + 1)) t277 _ A16.out).mono ?_); rintro e w' ⟨rfl, ⟨nd, rfl⟩⟩; refine ⟨_, rfl, ?_⟩; (try (rw [drewN_self wr]; generalize hq_ : World.drewN wr _ = wr; have n0_ : Aside0 (Kd.R (Kd.int .i64) 3 wr w.heap.size (fun _ => True) v275 x6_3) := ⟨by rw [← hq_]; exact (rRa_ HO_6.out)⟩; have n1_ : Aside0 (Below w.heap.size w wr) := ⟨by rw [← hq_]; exact bw_⟩; clear HO_6 HB hq_; have HO_6 := n0_; have HB := n1_; clear n0_ n1_)); have p20 : 0 ≤ (x7_3 : Int) := of_decide_eq_true as_; have q20 : (x7_3 : Int) < ((x6_3.length : Int) : Int) := of_decide_eq_true as_; obtain ⟨go20, co20, eo20, gb20, gl20, cl20, HG20⟩ := Kd.R_form HO_6.out (by omega); (first | cases eo20 | (injection eo20 with ea_ en_ ec_; (first | subst ea_ | (injection ea_ with ea_; subst ea_)); subst ec_; clear en_)); have GB20 := Aside0.mk gb20; have GG20 := Aside0.mk HG20; clear gb20 gl20 HG20; obtain ⟨hx20_0, hf20_0⟩ := Kd.R_celln 0 HO_6.out (x7_3 : Int) p20 q20; replace p20 := eq_true p20; replace q20 := eq_true q20; obtain ⟨hy22_, hz22_⟩ := Kd.R_celln 0 HO_6.out (x7_3 : Int) (of_decide_eq_true as_) (of_decide_eq_true as_); have HP22 := Kd.R_putg HO_6.out (x7_3 : Int) x8_4) | ((with_reducible refine gate_store (t := 3) (p := 45) rfl ?_); refine store_event (t := 3) (p := 45) (v := ?vo_w23) (w1 := (wr.setCell ⟨go20, (x7_3 : Int).toNat, none⟩ (.int .i64 x8_4))) ?hg ?ho ?hn ?hr ?_; (case ho => rfl); (case hg => rfl); (case hn => rfl); (case hr => first | (go_simp; done) | (go_simp; rfl)); intro w23 hw; have hg : wr.grownBy w23 (some go20) := (by rw [hw]; exact HP22.2); have hp_ : Kd.R (Kd.int .i64) 3 w23 w.heap.size (fun _ => True) (.slice (some ⟨go20, 0, none⟩) x6_3.length co20) y278 := (by rw [hw, Ny278.out]; exact HP22.1); clear HP22; have n0_ := Aside0.mk (hp_); have n1_ := Aside0.mk ((by rw [hw]; exact below_set (HB.out) GB20.out : Below w.heap.size w w23)); clear HO_6; clear HB; have HO_6 := n0_; have HB := n1_; clear n0_ n1_; clear hg hw hp_) | ((with_reducible refine gate_callee (f := 39) rfl ?_); refine goesL_ (some 50) rfl rfl Tryd.func39 (by kernel_rfl) rfl #[.int .i64 x8_4, .int .i64 (wrap64 (x7_3 + 1))] rfl ag_ ?_; (with_reducible refine (torusref07_Over.calls k4 x8_4 (wrap64 (x7_3 + 1)) t279 _ A21.out).mono ?_); rintro e w' ⟨rfl, ⟨nd, rfl⟩⟩; refine ⟨_, rfl, ?_⟩))
                 go_roundg k4
                 case measure => have := HJ2.out; have := HJ5.out; have := HK3.out; have := HK4.out; omega
                 case rel => exact ⟨(wrap64 (x1_3 - t279)), (y278), (wrap64 (x7_3 - 1)), sd_, sd_, H', ⟨by have := HJ2.out; have := HJ5.out; have := HK3.out; have := HK4.out; omega⟩, ⟨rRa_ HO_6.out⟩, ⟨bw_⟩⟩
                ·rw [if_neg c19] at H
                 exact absurd H (by simp)
               ·rw [if_neg c18] at H
                exact absurd H (by simp)
           ·rw [if_neg c15] at H
            have c15b0 : decide (0 ≤ x7_3) = false := decide_eq_false c15
            clear c15
            simp only [Option.some.injEq, Prod.mk.injEq] at H
            obtain ⟨rfl, rfl⟩ := H
            go_wp2
            go_ret2
            exact ⟨_, by first | rfl | (simp [errW_none, errW_some] <;> rfl) | (simp only [← hji10]; first | rfl | (simp [errW_none, errW_some] <;> rfl)) | (simp [*, errW_none, errW_some] <;> rfl), rRa_ HO_6.out, bw_⟩
        ·rw [if_neg c12] at H
         exact absurd H (by simp)
       ·rw [if_neg c11] at H
        exact absurd H (by simp)

end Go.Proofs.YticckanjfdcpaaaDoor.PSimplex
namespace Go.Proofs.YticckanjfdcpaaaDoor.PSimplex
open Go.RowKit Go.Proofs.YticckanjfdcpaaaDoorW.PrintWords Go.Proofs.YticckanjfdcpaaaDoorW.PrintLast Go.Proofs.YticckanjfdcpaaaDoorW.PrintMore
set_option linter.unusedVariables false
set_option linter.unusedSimpArgs false
set_option maxRecDepth 100000

/-- A binomial coefficient. -/
def bin (n k : Nat) : Int := (simplex_over.f (n : Int) (k : Int)).getD 0
theorem bin_tab : ∀ n : Nat, n < 65 → ∀ k : Nat, k < 6 → simplex_over.f (n : Int) (k : Int) = some (bin n k) ∧ torusref07_Over.f 10 (n : Int) (k : Int) = some (bin n k) ∧ 0 ≤ bin n k ∧ bin n k ≤ 8000000 := by decide +kernel
theorem bin_pascal : ∀ n : Nat, n < 64 → ∀ k : Nat, k < 5 → bin (n + 1) (k + 1) = bin n k + bin n (k + 1) := by decide +kernel
theorem bin_low : ∀ n : Nat, n < 65 → ∀ k : Nat, k < 6 → n < k → bin n k = 0 := by decide +kernel
theorem over_at (a b : Int) (n k : Nat) (ha : a = (n : Int)) (hb : b = (k : Int)) (hn : n < 65) (hk : k < 6) : simplex_over.f a b = some (bin n k) := by rw [ha, hb]; exact (bin_tab n hn k hk).1
theorem rover_at (a b : Int) (n k : Nat) (ha : a = (n : Int)) (hb : b = (k : Int)) (hn : n < 65) (hk : k < 6) : Ev (fun q => torusref07_Over.f q a b) (bin n k) := by rw [ha, hb]; exact Ev.of (torusref07_Over.mono _ _) (bin_tab n hn k hk).2.1
theorem bin_mono : ∀ (d n k : Nat), n + d < 65 → k < 6 → bin n k ≤ bin (n + d) k
  | 0, n, k, h, hk => by simp
  | d + 1, n, k, h, hk => by
    have h1 := bin_mono d n k (by omega) hk
    cases k with
    | zero =>
      have e1 := bin_zero_ (n + d) (by omega)
      have e2 := bin_zero_ (n + (d + 1)) (by omega)
      omega
    | succ k =>
      have h2 := bin_pascal (n + d) (by omega) k (by omega)
      have h3 := (bin_tab (n + d) (by omega) k (by omega)).2.2.1
      rw [show n + (d + 1) = n + d + 1 by omega]
      omega
where bin_zero_ : ∀ n : Nat, n < 65 → bin n 0 = 1 := by decide +kernel

theorem bad_rd (l : List Int) (hb : l.any bad = false) (i : Nat) (hi : i < l.length) : 0 ≤ rd l (i : Int) ∧ rd l (i : Int) < 64 := by
  have h1 : bad (rd l (i : Int)) = false := by
    rw [List.any_eq_false] at hb
    have := hb (rd l (i : Int)) (by simp [rd, hi])
    simpa using this
  simp [bad] at h1
  omega
/-- The number of a list, from the i-th place on. -/
def num : List Int → Nat → Int
  | [], _ => 0
  | v :: t, i => bin v.toNat (i + 1) + num t (i + 1)
theorem num_drop (l : List Int) (i : Nat) (hi : i < l.length) : num (l.drop i) i = bin (rd l (i : Int)).toNat (i + 1) + num (l.drop (i + 1)) (i + 1) := by
  rw [drop_cons l i hi]
  rfl
theorem num_bd (l : List Int) (hl : l.length ≤ 5) (hb : l.any bad = false) : ∀ (m i : Nat), m = l.length - i → 0 ≤ num (l.drop i) i ∧ num (l.drop i) i ≤ 8000000 * m
  | 0, i, hm => by
    rw [List.drop_of_length_le (by omega)]
    simp [num]
  | m + 1, i, hm => by
    have ih := num_bd l hl hb m (i + 1) (by omega)
    have hr := bad_rd l hb i (by omega)
    have ht := (bin_tab (rd l (i : Int)).toNat (by omega) (i + 1) (by omega)).2.2
    rw [num_drop l i (by omega)]
    omega
theorem snum_l (l : List Int) (hl : l.length ≤ 5) (hb : l.any bad = false) : ∀ (m i : Nat) (acc : Int), m = l.length - i → i ≤ l.length → 0 ≤ acc → acc ≤ 8000000 * i →
    Ev (fun k => simplex_Number.l0 k acc l (l.length : Int) (i : Int)) (acc + num (l.drop i) i, 0)
  | 0, i, acc, hm, hi, h0, h1 => by
    rw [List.drop_of_length_le (by omega)]
    refine ev_succ ?_
    simp only [simplex_Number.l0, if_neg (show ¬ ((i : Int) < (l.length : Int)) by omega), num, Int.add_zero]
    exact Ev.now _
  | m + 1, i, acc, hm, hi, h0, h1 => by
    have hr := bad_rd l hb i (by omega)
    have ht := (bin_tab (rd l (i : Int)).toNat (by omega) (i + 1) (by omega)).2.2
    have ih := snum_l l hl hb m (i + 1) (acc + bin (rd l (i : Int)).toNat (i + 1)) (by omega) (by omega) (by omega) (by omega)
    refine ev_succ ?_
    simp only [simplex_Number.l0, if_pos (show ((i : Int) < (l.length : Int)) by omega), if_pos (show (0 : Int) ≤ (i : Int) by omega), wrap_nat i (by omega), over_at _ _ (rd l (i : Int)).toNat (i + 1) (show rd l (i : Int) = _ by omega) rfl (by omega) (by omega), Option.bind_some,
      wrap_id (show -9223372036854775808 ≤ acc + bin (rd l (i : Int)).toNat (i + 1) by omega) (by omega)]
    rw [num_drop l i (by omega), ← Int.add_assoc]
    exact ih
theorem rnum_l (l : List Int) (hl : l.length ≤ 5) (hb : l.any bad = false) : ∀ (m i : Nat) (acc : Int), m = l.length - i → i ≤ l.length → 0 ≤ acc → acc ≤ 8000000 * i →
    Ev (fun k => torusref07_Number.l0 k l acc (i : Int)) (acc + num (l.drop i) i, 0)
  | 0, i, acc, hm, hi, h0, h1 => by
    rw [List.drop_of_length_le (by omega)]
    refine ev_succ ?_
    simp only [torusref07_Number.l0, if_neg (show ¬ ((i : Int) < (l.length : Int)) by omega), num, Int.add_zero]
    exact Ev.now _
  | m + 1, i, acc, hm, hi, h0, h1 => by
    have hr := bad_rd l hb i (by omega)
    have ht := (bin_tab (rd l (i : Int)).toNat (by omega) (i + 1) (by omega)).2.2
    have ih := rnum_l l hl hb m (i + 1) (acc + bin (rd l (i : Int)).toNat (i + 1)) (by omega) (by omega) (by omega) (by omega)
    refine ev_succ ?_
    simp only [torusref07_Number.l0, if_pos (show ((i : Int) < (l.length : Int)) by omega), if_pos (show (0 : Int) ≤ (i : Int) by omega), wrap_nat i (by omega)]
    refine (ev_bind (rover_at _ _ (rd l (i : Int)).toNat (i + 1) (show rd l (i : Int) = _ by omega) rfl (by omega) (by omega))).mpr ?_
    simp only [wrap_id (show -9223372036854775808 ≤ acc + bin (rd l (i : Int)).toNat (i + 1) by omega) (by omega)]
    rw [num_drop l i (by omega), ← Int.add_assoc]
    exact ih
/-- What "Number" answers. -/
def nu (l : List Int) : Int × Int := if ck l = 0 then (num l 0, 0) else (0, ck l)
theorem snum_ev (l : List Int) : Ev (fun k => simplex_Number.f k l) (nu l) := by
  unfold simplex_Number.f nu
  refine (ev_bind (scheck_ev l)).mpr ?_
  by_cases c : ck l = 0
  · have h := ck_ok c
    simp only [if_pos c]
    have := snum_l l h.2.1 h.2.2.1 l.length 0 0 (by omega) (by omega) (by omega) (by omega)
    simpa using this
  · simp only [if_neg c]
    exact Ev.now _
theorem rnum_ev (l : List Int) : Ev (fun k => torusref07_Number.f k l) (nu l) := by
  unfold torusref07_Number.f nu
  refine (ev_bind (rcheck_ev l)).mpr ?_
  by_cases c : ck l = 0
  · have h := ck_ok c
    simp only [if_pos c]
    have := rnum_l l h.2.1 h.2.2.1 l.length 0 0 (by omega) (by omega) (by omega) (by omega)
    simpa using this
  · simp only [if_neg c]
    exact Ev.now _

/-! ### Numbered -/
/-- The greatest v below n with C(v, k) at most x, or 0. -/
def topF (x : Int) (k : Nat) : Nat → Nat
  | 0 => 0
  | n + 1 => if bin n k ≤ x then n else topF x k n
theorem topF_lt (x : Int) (k : Nat) : ∀ n, 0 < n → topF x k n < n
  | n + 1, _ => by
    unfold topF
    split
    · omega
    · cases n with
      | zero => simp [topF]
      | succ n => have := topF_lt x k (n + 1) (by omega); omega
theorem topF_le (x : Int) (k : Nat) (h0 : 0 ≤ x) (hk : 0 < k) (hk6 : k < 6) : ∀ n, n < 65 → bin (topF x k n) k ≤ x
  | 0, _ => by
    have := bin_low 0 (by omega) k hk6 hk
    simp only [topF]
    omega
  | n + 1, h => by
    unfold topF
    split
    · assumption
    · exact topF_le x k h0 hk hk6 n (by omega)
theorem topF_gt (x : Int) (k : Nat) : ∀ n v, topF x k n < v → v < n → x < bin v k
  | 0, v, _, h => by omega
  | n + 1, v, h, h2 => by
    unfold topF at h
    split at h
    · omega
    · by_cases e : v = n
      · subst e; omega
      · exact topF_gt x k n v h (by omega)
/-- If C(m, k) is greater than x, the search below m finds the same. -/
theorem topF_cut (x : Int) (k : Nat) (hk6 : k < 6) (m : Nat) : ∀ d, m + d < 65 → x < bin m k → topF x k (m + d) = topF x k m
  | 0, _, _ => rfl
  | d + 1, h, hx => by
    have h1 := bin_mono d m k (by omega) hk6
    rw [show m + (d + 1) = m + d + 1 by omega, topF, if_neg (by omega)]
    exact topF_cut x k hk6 m d (by omega) hx
/-- The list that is found, from the place i - 1 down. -/
def run : Nat → Int → List Int → List Int
  | 0, _, out => out
  | i + 1, x, out => run i (x - bin (topF x (i + 1) 64) (i + 1)) (out.set i (topF x (i + 1) 64 : Nat))
theorem nb_down (x : Int) (out : List Int) (i : Nat) (hi : i < 5) (hx : 0 ≤ x) (hxm : x ≤ 8000000) (r : List Int × Int) (hlen : i < out.length)
    (h : Ev (fun k => simplex_Numbered.l0 k (x - bin (topF x (i + 1) 64) (i + 1)) (out.set i (topF x (i + 1) 64 : Nat)) ((topF x (i + 1) 64 : Nat) : Int) ((i : Int) - 1)) r) :
    ∀ v : Nat, v < 64 → topF x (i + 1) 64 ≤ v → Ev (fun k => simplex_Numbered.l1 k x out (v : Int) (i : Int)) r := by
  intro v
  induction v with
  | zero =>
    intro hv hle
    have e0 : topF x (i + 1) 64 = 0 := by omega
    have hb := bin_low 0 (by omega) (i + 1) (by omega) (by omega)
    rw [e0] at h
    refine ev_succ ?_
    simp only [simplex_Numbered.l1, wrap_nat i (by omega), over_at ((0 : Nat) : Int) _ 0 (i + 1) rfl rfl (by omega) (by omega), Option.bind_some, hb, if_neg (show ¬ ((0 : Int) > x) by omega), if_pos (show (0 : Int) ≤ (i : Int) by omega), if_pos (show (i : Int) < (out.length : Int) by omega)]
    rw [wrap_id (show -9223372036854775808 ≤ (i : Int) - 1 by omega) (by omega)]
    have hx2 : x - bin 0 (i + 1) = x - 0 := by rw [hb]
    rw [hx2] at h
    rw [wrap_id (show -9223372036854775808 ≤ x - 0 by omega) (by omega)]
    simpa using h
  | succ v ih =>
    intro hv hle
    have hvt := (bin_tab (v + 1) (by omega) (i + 1) (by omega)).2.2
    refine ev_succ ?_
    simp only [simplex_Numbered.l1, wrap_nat i (by omega), over_at ((v + 1 : Nat) : Int) _ (v + 1) (i + 1) rfl rfl (by omega) (by omega), Option.bind_some]
    by_cases c : bin (v + 1) (i + 1) > x
    · have hne : topF x (i + 1) 64 ≠ v + 1 := by
        intro e
        have := topF_le x (i + 1) hx (by omega) (by omega) 64 (by omega)
        rw [e] at this
        omega
      simp only [if_pos c, wrap_id (show -9223372036854775808 ≤ ((v + 1 : Nat) : Int) - 1 by omega) (show ((v + 1 : Nat) : Int) - 1 ≤ 9223372036854775807 by omega)]
      have := ih (by omega) (by omega)
      rw [show ((v + 1 : Nat) : Int) - 1 = (v : Int) by omega]
      exact this
    · have he : topF x (i + 1) 64 = v + 1 := by
        by_cases e : topF x (i + 1) 64 < v + 1
        · have := topF_gt x (i + 1) 64 (v + 1) e (by omega)
          omega
        · omega
      rw [he] at h
      simp only [if_neg c, if_pos (show (0 : Int) ≤ (i : Int) by omega), if_pos (show (i : Int) < (out.length : Int) by omega)]
      rw [wrap_id (show -9223372036854775808 ≤ (i : Int) - 1 by omega) (by omega)]
      rw [wrap_id (show -9223372036854775808 ≤ x - bin (v + 1) (i + 1) by omega) (by omega)]
      simpa using h
theorem top_low (x : Int) (i : Nat) (hi : i < 5) (hx : 0 ≤ x) : i ≤ topF x (i + 1) 64 := by
  by_cases c : topF x (i + 1) 64 < i
  · have h1 := topF_gt x (i + 1) 64 i c (by omega)
    have h2 := bin_low i (by omega) (i + 1) (by omega) (by omega)
    omega
  · omega
theorem top_next (x : Int) (i : Nat) (hi : i < 5) (hx : 0 ≤ x) (hm : x < bin 64 (i + 1)) : x < bin (topF x (i + 1) 64 + 1) (i + 1) := by
  have hl := topF_lt x (i + 1) 64 (by omega)
  by_cases c : topF x (i + 1) 64 + 1 = 64
  · rw [c]; exact hm
  · exact topF_gt x (i + 1) 64 _ (by omega) (by omega)
theorem nb_up (x : Int) (out : List Int) (i : Nat) (hi : i < 5) (hx : 0 ≤ x) (hxm : x < bin 64 (i + 1)) (r : List Int × Int) (hlen : i < out.length)
    (h : Ev (fun k => torusref07_Numbered.l0 k (x - bin (topF x (i + 1) 64) (i + 1)) (out.set i (topF x (i + 1) 64 : Nat)) ((i : Int) - 1)) r) :
    ∀ (d v : Nat), v + d = topF x (i + 1) 64 → Ev (fun k => torusref07_Numbered.l1 k x out (i : Int) (v : Int)) r := by
  have hl := topF_lt x (i + 1) 64 (by omega)
  have hn := top_next x i hi hx hxm
  have hle := topF_le x (i + 1) hx (by omega) (by omega) 64 (by omega)
  have h64 := (bin_tab 64 (by omega) (i + 1) (by omega)).2.2
  intro d
  induction d with
  | zero =>
    intro v hv
    have hvt := (bin_tab v (by omega) (i + 1) (by omega)).2.2
    rw [← hv] at hn h hle
    simp only [Nat.add_zero] at hn h hle
    refine ev_succ ?_
    simp only [torusref07_Numbered.l1, wrap_nat i (by omega), wrap_nat v (by omega)]
    refine (ev_bind (rover_at _ _ (v + 1) (i + 1) rfl rfl (by omega) (by omega))).mpr ?_
    simp only [if_neg (show ¬ (bin (v + 1) (i + 1) ≤ x) by omega), if_pos (show (0 : Int) ≤ (i : Int) by omega), if_pos (show (i : Int) < (out.length : Int) by omega)]
    refine (ev_bind (rover_at _ _ v (i + 1) rfl rfl (by omega) (by omega))).mpr ?_
    simp only [wrap_id (show -9223372036854775808 ≤ (i : Int) - 1 by omega) (show (i : Int) - 1 ≤ 9223372036854775807 by omega), wrap_id (show -9223372036854775808 ≤ x - bin v (i + 1) by omega) (show x - bin v (i + 1) ≤ 9223372036854775807 by omega)]
    simpa using h
  | succ d ih =>
    intro v hv
    have hb := bin_mono d (v + 1) (i + 1) (by omega) (by omega)
    rw [show v + 1 + d = topF x (i + 1) 64 by omega] at hb
    refine ev_succ ?_
    simp only [torusref07_Numbered.l1, wrap_nat i (by omega), wrap_nat v (by omega)]
    refine (ev_bind (rover_at _ _ (v + 1) (i + 1) rfl rfl (by omega) (by omega))).mpr ?_
    simp only [if_pos (show (bin (v + 1) (i + 1) ≤ x) by omega)]
    exact ih (v + 1) (by omega)
theorem bin64_le (vp k : Nat) (h : vp ≤ 64) (hk : k < 6) : bin vp k ≤ bin 64 k := by
  have := bin_mono (64 - vp) vp k (by omega) hk
  rwa [show vp + (64 - vp) = 64 by omega] at this
theorem step_bd (x : Int) (i : Nat) (hi : i < 5) (hx : 0 ≤ x) (hxm : x < bin 64 (i + 1)) : 0 ≤ x - bin (topF x (i + 1) 64) (i + 1) ∧ x - bin (topF x (i + 1) 64) (i + 1) < bin (topF x (i + 1) 64) i := by
  have hl := topF_lt x (i + 1) 64 (by omega)
  have hn := top_next x i hi hx hxm
  have hle := topF_le x (i + 1) hx (by omega) (by omega) 64 (by omega)
  have hp := bin_pascal (topF x (i + 1) 64) (by omega) i (by omega)
  omega
theorem snb_run : ∀ (i : Nat) (x : Int) (out : List Int) (vp : Nat), i ≤ 5 → 0 ≤ x → (0 < i → x < bin vp i) → vp ≤ 64 → i ≤ out.length → Ev (fun k => simplex_Numbered.l0 k x out (vp : Int) ((i : Int) - 1)) (run i x out, 0)
  | 0, x, out, vp, _, _, _, _, _ => by
    refine ev_succ ?_
    simp only [simplex_Numbered.l0, if_neg (show ¬ (((0 : Nat) : Int) - 1 ≥ 0) by omega)]
    exact Ev.now _
  | i + 1, x, out, vp, hi, hx, hb, hv, hlen => by
    have hb := hb (by omega)
    have h64 := bin64_le vp (i + 1) hv (by omega)
    have hm := (bin_tab 64 (by omega) (i + 1) (by omega)).2.2
    have hs := step_bd x i (by omega) hx (by omega)
    have hl := topF_lt x (i + 1) 64 (by omega)
    have hle := topF_le x (i + 1) hx (by omega) (by omega) 64 (by omega)
    have hvp : topF x (i + 1) 64 < vp := by
      by_cases c : topF x (i + 1) 64 < vp
      · exact c
      · have := bin_mono (topF x (i + 1) 64 - vp) vp (i + 1) (by omega) (by omega)
        rw [show vp + (topF x (i + 1) 64 - vp) = topF x (i + 1) 64 by omega] at this
        omega
    have ih := snb_run i (x - bin (topF x (i + 1) 64) (i + 1)) (out.set i (topF x (i + 1) 64 : Nat)) (topF x (i + 1) 64) (by omega) hs.1 (fun _ => hs.2) (by omega) (by simp; omega)
    have hd := nb_down x out i (by omega) hx (by omega) _ (by omega) ih (vp - 1) (by omega) (by omega)
    refine ev_succ ?_
    rw [show ((i + 1 : Nat) : Int) - 1 = (i : Int) by omega]
    simp only [simplex_Numbered.l0, if_pos (show (i : Int) ≥ 0 by omega), wrap_id (show -9223372036854775808 ≤ (vp : Int) - 1 by omega) (show (vp : Int) - 1 ≤ 9223372036854775807 by omega)]
    rw [show ((vp - 1 : Nat) : Int) = (vp : Int) - 1 by omega] at hd
    exact hd
theorem rnb_run : ∀ (i : Nat) (x : Int) (out : List Int), i ≤ 5 → 0 ≤ x → (0 < i → x < bin 64 i) → i ≤ out.length → Ev (fun k => torusref07_Numbered.l0 k x out ((i : Int) - 1)) (run i x out, 0)
  | 0, x, out, _, _, _, _ => by
    refine ev_succ ?_
    simp only [torusref07_Numbered.l0, if_neg (show ¬ (((0 : Nat) : Int) - 1 ≥ 0) by omega)]
    exact Ev.now _
  | i + 1, x, out, hi, hx, hb, hlen => by
    have hb := hb (by omega)
    have hs := step_bd x i (by omega) hx hb
    have hl := topF_lt x (i + 1) 64 (by omega)
    have hlo := top_low x i (by omega) hx
    have h64 := bin64_le (topF x (i + 1) 64) i (by omega) (by omega)
    have ih := rnb_run i (x - bin (topF x (i + 1) 64) (i + 1)) (out.set i (topF x (i + 1) 64 : Nat)) (by omega) hs.1 (fun _ => by omega) (by simp; omega)
    have hd := nb_up x out i (by omega) hx hb _ (by omega) ih (topF x (i + 1) 64 - i) i (by omega)
    refine ev_succ ?_
    rw [show ((i + 1 : Nat) : Int) - 1 = (i : Int) by omega]
    simp only [torusref07_Numbered.l0, if_pos (show (i : Int) ≥ 0 by omega)]
    exact hd
/-- What "Numbered" answers. -/
def nb (d x : Int) : List Int × Int := if d < 0 ∨ d > 4 then ([], 1) else if x < 0 ∨ x ≥ bin 64 (d.toNat + 1) then ([], 4) else (run (d.toNat + 1) x (List.replicate (d.toNat + 1) 0), 0)
theorem snb_ev (d x : Int) : Ev (fun k => simplex_Numbered.f k d x) (nb d x) := by
  unfold simplex_Numbered.f nb
  by_cases c1 : d < 0
  · simp only [if_pos c1, if_pos (show d < 0 ∨ d > 4 from .inl c1)]
    refine ev_succ ?_
    simp only [simplex_Numbered.j0, if_true]
    exact Ev.now _
  · by_cases c2 : d > 4
    · simp only [if_neg c1, if_pos (show d < 0 ∨ d > 4 from .inr c2), decide_eq_true c2]
      refine ev_succ ?_
      simp only [simplex_Numbered.j0, if_true]
      exact Ev.now _
    · simp only [if_neg c1, if_neg (show ¬ (d < 0 ∨ d > 4) by omega), decide_eq_false c2]
      obtain ⟨i, rfl⟩ := Int.eq_ofNat_of_zero_le (show 0 ≤ d by omega)
      have hm := (bin_tab 64 (by omega) (i + 1) (by omega)).2.2
      refine ev_succ ?_
      simp only [simplex_Numbered.j0, Bool.false_eq_true, if_false, Int.toNat_natCast]
      by_cases c3 : x < 0
      · simp only [if_pos c3, if_pos (show x < 0 ∨ x ≥ bin 64 (i + 1) from .inl c3)]
        refine ev_succ ?_
        simp only [simplex_Numbered.j1, if_true]
        exact Ev.now _
      · simp only [if_neg c3, wrap_nat i (by omega), over_at 64 _ 64 (i + 1) rfl rfl (by omega) (by omega), Option.bind_some]
        refine ev_succ ?_
        by_cases c4 : x ≥ bin 64 (i + 1)
        · simp only [simplex_Numbered.j1, decide_eq_true c4, if_true, if_pos (show x < 0 ∨ x ≥ bin 64 (i + 1) from .inr c4)]
          exact Ev.now _
        · simp only [simplex_Numbered.j1, decide_eq_false c4, Bool.false_eq_true, if_false, if_neg (show ¬ (x < 0 ∨ x ≥ bin 64 (i + 1)) by omega), wrap_nat i (by omega), if_pos (show (0 : Int) ≤ ((i + 1 : Nat) : Int) by omega), Int.toNat_natCast, if_pos (show i + 1 ≤ 35184372088832 by omega)]
          have := snb_run (i + 1) x (List.replicate (i + 1) 0) 64 (by omega) (by omega) (fun _ => by omega) (by omega) (by simp)
          rw [show ((i + 1 : Nat) : Int) - 1 = (i : Int) by omega] at this
          exact this
theorem rnb_ev (d x : Int) : Ev (fun k => torusref07_Numbered.f k d x) (nb d x) := by
  unfold torusref07_Numbered.f nb
  by_cases c1 : d < 0
  · simp only [if_pos c1, if_pos (show d < 0 ∨ d > 4 from .inl c1)]
    refine ev_succ ?_
    simp only [torusref07_Numbered.j0, if_true]
    exact Ev.now _
  · by_cases c2 : d > 4
    · simp only [if_neg c1, if_pos (show d < 0 ∨ d > 4 from .inr c2), decide_eq_true c2]
      refine ev_succ ?_
      simp only [torusref07_Numbered.j0, if_true]
      exact Ev.now _
    · simp only [if_neg c1, if_neg (show ¬ (d < 0 ∨ d > 4) by omega), decide_eq_false c2]
      obtain ⟨i, rfl⟩ := Int.eq_ofNat_of_zero_le (show 0 ≤ d by omega)
      have hm := (bin_tab 64 (by omega) (i + 1) (by omega)).2.2
      refine ev_succ ?_
      simp only [torusref07_Numbered.j0, Bool.false_eq_true, if_false, Int.toNat_natCast]
      by_cases c3 : x < 0
      · simp only [if_pos c3, if_pos (show x < 0 ∨ x ≥ bin 64 (i + 1) from .inl c3)]
        refine ev_succ ?_
        simp only [torusref07_Numbered.j1, if_true]
        exact Ev.now _
      · simp only [if_neg c3, wrap_nat i (by omega)]
        refine (ev_bind (rover_at 64 _ 64 (i + 1) rfl rfl (by omega) (by omega))).mpr ?_
        refine ev_succ ?_
        by_cases c4 : x ≥ bin 64 (i + 1)
        · simp only [torusref07_Numbered.j1, decide_eq_true c4, if_true, if_pos (show x < 0 ∨ x ≥ bin 64 (i + 1) from .inr c4)]
          exact Ev.now _
        · simp only [torusref07_Numbered.j1, decide_eq_false c4, Bool.false_eq_true, if_false, if_neg (show ¬ (x < 0 ∨ x ≥ bin 64 (i + 1)) by omega), wrap_nat i (by omega), if_pos (show (0 : Int) ≤ ((i + 1 : Nat) : Int) by omega), Int.toNat_natCast, if_pos (show i + 1 ≤ 35184372088832 by omega)]
          have := rnb_run (i + 1) x (List.replicate (i + 1) 0) (by omega) (by omega) (fun _ => by omega) (by simp)
          rw [show ((i + 1 : Nat) : Int) - 1 = (i : Int) by omega] at this
          exact this
theorem run_len : ∀ (i : Nat) (x : Int) (out : List Int), (run i x out).length = out.length
  | 0, _, _ => rfl
  | i + 1, x, out => by rw [run, run_len]; simp
theorem nb_len (d x : Int) : (nb d x).1.length ≤ 5 := by
  unfold nb
  split
  · simp
  · split
    · simp
    · rename_i h _
      rw [run_len]
      simp
      omega
end Go.Proofs.YticckanjfdcpaaaDoor.PSimplex
namespace Go.Proofs.YticckanjfdcpaaaDoor.PSimplex
open Go.RowKit Go.Proofs.YticckanjfdcpaaaDoorW.PrintWords Go.Proofs.YticckanjfdcpaaaDoorW.PrintLast Go.Proofs.YticckanjfdcpaaaDoorW.PrintMore
attribute [local go_sem] max2_int min2_int max_two min_two max_three min_three max_four min_four   -- for this text's walks alone
set_option linter.unusedVariables false
set_option linter.unusedSimpArgs false

/-! ### torusref07_Sort: function 19 -/
def torusref07_Sort.l0 : Nat → List Int → Int → Option (List Int × Int × Int)
 |0, _, _ => none
 |k + 1, x0, x5 => if x5 < (x0.length : Int) then (if 0 ≤ x5 then (if (rd x0 x5) < 0 then (some (([] : List Int), 0, 1)) else (if (rd x0 x5) ≥ 64 then (some (([] : List Int), 0, 1)) else (torusref07_Sort.l0 k x0 (wrap64 (x5 + 1))))) else (none)) else ((torusref07_Sorted.f k x0).bind fun bt309 => ((torusref07_Check.f k bt309.1).bind fun t313 => (if t313 = 0 then (some (bt309.1, wrap64 (1 - (wrap64 (2 * bt309.2))), 0)) else (some (([] : List Int), 0, 5)))))
def torusref07_Sort.f (k : Nat) (l0 : List Int) : Option (List Int × Int × Int) := if (l0.length : Int) = 0 then (some (([] : List Int), 0, 1)) else (if (l0.length : Int) > 5 then (some (([] : List Int), 0, 3)) else (torusref07_Sort.l0 k l0 0))
theorem torusref07_Sort.mono_l : ∀ k, (∀ y0 y1, LeO (torusref07_Sort.l0 k y0 y1) (torusref07_Sort.l0 (k + 1) y0 y1))
 |0 => fun _ _ r h => by simp [torusref07_Sort.l0] at h
 |k + 1 => by
  have ih0 := torusref07_Sort.mono_l k
  ·intro y0 y1
   unfold torusref07_Sort.l0
   repeat' first
   |(with_reducible exact ih0 _ _)
   |(with_reducible exact torusref07_Check.mono _ _)
   |(with_reducible exact torusref07_Sorted.mono _ _)
   |(with_reducible exact LeO.refl _)
   |(with_reducible exact LeO.none _)
   |(with_reducible refine LeO.ite ?_ ?_)
   |(with_reducible refine LeO.bind ?_ (fun _ => ?_))
   |exact ih0 _ _
   |exact torusref07_Check.mono _ _
   |exact torusref07_Sorted.mono _ _
   |exact LeO.none _
   |refine LeO.ite ?_ ?_
   |refine LeO.bind ?_ (fun _ => ?_)
theorem torusref07_Sort.mono : ∀ a0 k, LeO (torusref07_Sort.f k a0) (torusref07_Sort.f (k + 1) a0) := by
 intro a0 k
 have ih0 := torusref07_Sort.mono_l k
 unfold torusref07_Sort.f
 repeat' first
   |(with_reducible exact ih0 _ _)
   |(with_reducible exact torusref07_Check.mono _ _)
   |(with_reducible exact torusref07_Sorted.mono _ _)
   |(with_reducible exact LeO.refl _)
   |(with_reducible exact LeO.none _)
   |(with_reducible refine LeO.ite ?_ ?_)
   |(with_reducible refine LeO.bind ?_ (fun _ => ?_))
   |exact ih0 _ _
   |exact torusref07_Check.mono _ _
   |exact torusref07_Sorted.mono _ _
   |exact LeO.none _
   |refine LeO.ite ?_ ?_
   |refine LeO.bind ?_ (fun _ => ?_)
set_option maxHeartbeats 8000000 in
set_option maxRecDepth 100000 in
theorem torusref07_Sort.calls (k : Nat) (A0 : Option Addr) (c0 : Nat) (l0 : List Int) (r1 : List Int) (r2 : Int) (r3 : Int) (w : World) (hr0 : Kd.C (Kd.int .i64) w A0 l0.length l0) (hc0 : l0.length ≤ c0) (h : torusref07_Sort.f k l0 = some (r1, r2, r3)) :
  Calls Tryd.prog 19 #[.slice A0 l0.length c0] w fun e w' => ∃ v0_ : Value, e = .returned (.tuple #[v0_, .int .i64 r2, .int .i64 r3]) ∧ Kd.R (Kd.int .i64) 3 w' w.heap.size (fun _ => True) v0_ r1 ∧ Below w.heap.size w w' := by
 have HR0 := Aside0.mk hr0
 have HC0 := Aside0.mk hc0
 clear hr0 hc0
 have HB := Aside0.mk (Below.refl w.heap.size w)
 have H : (if (l0.length : Int) = 0 then (some (([] : List Int), 0, 1)) else (if (l0.length : Int) > 5 then (some (([] : List Int), 0, 3)) else (torusref07_Sort.l0 k l0 0))) = some (r1, r2, r3) := h
 clear h
 by_cases c2 : (l0.length : Int) = 0
 ·rw [if_pos c2] at H
  have c2b0 : ((l0.length : Int) == 0) = true := beq_iff_eq.mpr c2
  have c2b1 : ((l0.length : Int) != 0) = false := bne_eq_false_iff_eq.mpr c2
  clear c2
  simp only [Option.some.injEq, Prod.mk.injEq] at H
  obtain ⟨rfl, rfl, rfl⟩ := H
  go_enter Tryd.func19, Tryd.ntmps19
  go_wp2
  go_ret3
  exact ⟨_, by first | rfl | (simp [errW_none, errW_some] <;> rfl) | (simp [*, errW_none, errW_some] <;> rfl), by first | exact Kd.R_nil _ _ _ _ _ | exact Kd.N_nil _ _ _ _ _ | exact Kd.V_nil _ _ _ _ _ | exact Kd.Q_nil _ _ _ _ _ | exact Kd.S_nil _ _ _ _ _, bw_⟩
 ·rw [if_neg c2] at H
  have c2b0 : ((l0.length : Int) == 0) = false := beq_eq_false_iff_ne.mpr c2
  have c2b1 : ((l0.length : Int) != 0) = true := bne_iff_ne.mpr c2
  have c2b2 : ¬ (l0 = []) := fun h_ => c2 (by rw [h_]; rfl)
  by_cases c3 : (l0.length : Int) > 5
  ·rw [if_pos c3] at H
   have c3b0 : decide (5 < (l0.length : Int)) = true := decide_eq_true c3
   have c3b1 : decide (5 < l0.length) = true := decide_eq_true (by omega)
   clear c3
   simp only [Option.some.injEq, Prod.mk.injEq] at H
   obtain ⟨rfl, rfl, rfl⟩ := H
   go_enter Tryd.func19, Tryd.ntmps19
   go_wp2
   go_ret3
   exact ⟨_, by first | rfl | (simp [errW_none, errW_some] <;> rfl) | (simp [*, errW_none, errW_some] <;> rfl), by first | exact Kd.R_nil _ _ _ _ _ | exact Kd.N_nil _ _ _ _ _ | exact Kd.V_nil _ _ _ _ _ | exact Kd.Q_nil _ _ _ _ _ | exact Kd.S_nil _ _ _ _ _, bw_⟩
  ·rw [if_neg c3] at H
   have c3b0 : decide (5 < (l0.length : Int)) = false := decide_eq_false c3
   have c3b1 : decide (5 < l0.length) = false := decide_eq_false (by omega)
   clear c3
   have H' := Aside0.mk H
   clear H
   go_enter Tryd.func19, Tryd.ntmps19
   go_wp2
   go_loopg [5] k (fun kq v5 w' => ∃ (x5_1 : Int), v5 = .int .i64 x5_1 ∧ Aside0 (torusref07_Sort.l0 kq l0 x5_1 = some (r1, r2, r3)) ∧ Aside0 (kq ≤ k) ∧ Aside0 (Below w.heap.size w w'))
   case atStart => exact ⟨(0), sd_, H', ⟨Nat.le_refl _⟩, ⟨bw_⟩⟩
   case round =>
    clear H'
    try clear c1
    try clear c2
    try clear c2b0
    try clear c2b1
    try clear c2b2
    try clear p2
    try clear c3
    try clear c3b0
    try clear c3b1
    obtain ⟨x5_1, rfl, HA, HK1, HB⟩ := hrel
    cases gk with
    |zero => exact absurd HA.out (by simp [torusref07_Sort.l0])
    |succ k1 =>
     have H := HA.out
     clear HA
     simp only [torusref07_Sort.l0] at H
     by_cases c4 : x5_1 < (l0.length : Int)
     ·rw [if_pos c4] at H
      have c4b0 : decide (x5_1 < (l0.length : Int)) = true := decide_eq_true c4
      clear c4
      by_cases c5 : 0 ≤ x5_1
      ·rw [if_pos c5] at H
       have c5b0 : decide (0 ≤ x5_1) = true := decide_eq_true c5
       clear c5
       by_cases c6 : (rd l0 x5_1) < 0
       ·rw [if_pos c6] at H
        have c6b0 : decide ((rd l0 x5_1) < 0) = true := decide_eq_true c6
        clear c6
        simp only [Option.some.injEq, Prod.mk.injEq] at H
        obtain ⟨rfl, rfl, rfl⟩ := H
        have p307 : 0 ≤ (x5_1 : Int) := of_decide_eq_true as_
        have q307 : x5_1 < (l0.length : Int) := of_decide_eq_true as_
        obtain ⟨ad307, e307, hx307_0⟩ := Kd.at_int HR0.out x5_1 p307 q307
        cases e307
        replace hx307_0 := (HB.out.cell (World.block_lt_of_cell? w _ hx307_0)).trans hx307_0
        replace p307 := eq_true p307
        replace q307 := eq_true q307
        go_wp2
        go_ret3
        exact ⟨_, by first | rfl | (simp [errW_none, errW_some] <;> rfl) | (simp [*, errW_none, errW_some] <;> rfl), by first | exact Kd.R_nil _ _ _ _ _ | exact Kd.N_nil _ _ _ _ _ | exact Kd.V_nil _ _ _ _ _ | exact Kd.Q_nil _ _ _ _ _ | exact Kd.S_nil _ _ _ _ _, bw_⟩
       ·rw [if_neg c6] at H
        have c6b0 : decide ((rd l0 x5_1) < 0) = false := decide_eq_false c6
        clear c6
        by_cases c7 : (rd l0 x5_1) ≥ 64
        ·rw [if_pos c7] at H
         have c7b0 : decide (64 ≤ (rd l0 x5_1)) = true := decide_eq_true c7
         clear c7
         simp only [Option.some.injEq, Prod.mk.injEq] at H
         obtain ⟨rfl, rfl, rfl⟩ := H
         have p307 : 0 ≤ (x5_1 : Int) := of_decide_eq_true as_
         have q307 : x5_1 < (l0.length : Int) := of_decide_eq_true as_
         obtain ⟨ad307, e307, hx307_0⟩ := Kd.at_int HR0.out x5_1 p307 q307
         cases e307
         replace hx307_0 := (HB.out.cell (World.block_lt_of_cell? w _ hx307_0)).trans hx307_0
         replace p307 := eq_true p307
         replace q307 := eq_true q307
         have p308 : 0 ≤ (x5_1 : Int) := of_decide_eq_true as_
         have q308 : x5_1 < (l0.length : Int) := of_decide_eq_true as_
         obtain ⟨ad308, e308, hx308_0⟩ := Kd.at_int HR0.out x5_1 p308 q308
         obtain rfl : ad307 = ad308 := (by injection e308)
         replace hx308_0 := (HB.out.cell (World.block_lt_of_cell? w _ hx308_0)).trans hx308_0
         replace p308 := eq_true p308
         replace q308 := eq_true q308
         go_wp2
         go_ret3
         exact ⟨_, by first | rfl | (simp [errW_none, errW_some] <;> rfl) | (simp [*, errW_none, errW_some] <;> rfl), by first | exact Kd.R_nil _ _ _ _ _ | exact Kd.N_nil _ _ _ _ _ | exact Kd.V_nil _ _ _ _ _ | exact Kd.Q_nil _ _ _ _ _ | exact Kd.S_nil _ _ _ _ _, bw_⟩
        ·rw [if_neg c7] at H
         have c7b0 : decide (64 ≤ (rd l0 x5_1)) = false := decide_eq_false c7
         clear c7
         have H' := Aside0.mk H
         clear H
         have p307 : 0 ≤ (x5_1 : Int) := of_decide_eq_true as_
         have q307 : x5_1 < (l0.length : Int) := of_decide_eq_true as_
         obtain ⟨ad307, e307, hx307_0⟩ := Kd.at_int HR0.out x5_1 p307 q307
         cases e307
         replace hx307_0 := (HB.out.cell (World.block_lt_of_cell? w _ hx307_0)).trans hx307_0
         replace p307 := eq_true p307
         replace q307 := eq_true q307
         have p308 : 0 ≤ (x5_1 : Int) := of_decide_eq_true as_
         have q308 : x5_1 < (l0.length : Int) := of_decide_eq_true as_
         obtain ⟨ad308, e308, hx308_0⟩ := Kd.at_int HR0.out x5_1 p308 q308
         obtain rfl : ad307 = ad308 := (by injection e308)
         replace hx308_0 := (HB.out.cell (World.block_lt_of_cell? w _ hx308_0)).trans hx308_0
         replace p308 := eq_true p308
         replace q308 := eq_true q308
         go_wp2
         go_roundg k1
         case measure => have := HK1.out; omega
         case rel => exact ⟨(wrap64 (x5_1 + 1)), sd_, H', ⟨by have := HK1.out; omega⟩, ⟨bw_⟩⟩
      ·rw [if_neg c5] at H
       exact absurd H (by simp)
     ·rw [if_neg c4] at H
      have c4b0 : decide (x5_1 < (l0.length : Int)) = false := decide_eq_false c4
      clear c4
      replace H := Option.bind_eq_some_iff.mp H
      obtain ⟨⟨t309, t310⟩, A80, H⟩ := H
      replace H : ((torusref07_Check.f k1 t309).bind fun t313 => (if t313 = 0 then (some (t309, wrap64 (1 - (wrap64 (2 * t310))), 0)) else (some (([] : List Int), 0, 5)))) = some (r1, r2, r3) := H
      have A8 := Aside0.mk A80
      clear A80
      replace H := Option.bind_eq_some_iff.mp H
      obtain ⟨t313, A90, H⟩ := H
      replace H : (if t313 = 0 then (some (t309, wrap64 (1 - (wrap64 (2 * t310))), 0)) else (some (([] : List Int), 0, 5))) = some (r1, r2, r3) := H
      have A9 := Aside0.mk A90
      clear A90
      by_cases c10 : t313 = 0
      ·rw [if_pos c10] at H
       have c10b0 : (t313 == 0) = true := beq_iff_eq.mpr c10
       have c10b1 : (t313 != 0) = false := bne_eq_false_iff_eq.mpr c10
       clear c10
       simp only [Option.some.injEq, Prod.mk.injEq] at H
       obtain ⟨rfl, rfl, rfl⟩ := H
       go_wp2_with (first | ((with_reducible refine gate_callee (f := 43) rfl ?_); refine goesL_ (some 34) rfl rfl Tryd.func43 (by kernel_rfl) rfl #[.slice A0 l0.length c0] rfl ag_ ?_; (with_reducible refine (torusref07_Sorted.calls k1 _ _ l0 t309 t310 _ ?side1 ?side2 A8.out).mono ?_); (case side1 => exact cs_ (Kd.C_below HR0.out HB.out)); (case side2 => exact HC0.out); rintro e w11 ⟨v311, rfl, ho0, hb⟩; refine ⟨_, rfl, ?_⟩; have n0_ := Aside0.mk (Kd.R_lower ho0 (below_size bw_)); have n1_ := Aside0.mk (below_step bw_ hb); clear HB; have HO312 := n0_; have HB := n1_; clear n0_ n1_; (try clear hb); (try clear hb2); (try clear hk); (try clear hi); (try clear ho0); obtain ⟨Ao12, co12, eo12⟩ := Kd.R_slice HO312.out; subst eo12) | ((with_reducible refine gate_callee (f := 28) rfl ?_); refine goesL_ (some 38) rfl rfl Tryd.func28 (by kernel_rfl) rfl #[.slice Ao12 t309.length co12] rfl ag_ ?_; (with_reducible refine (torusref07_Check.calls k1 _ _ t309 t313 _ ?side1 ?side2 A9.out).mono ?_); (case side1 => repeat (first | exact (Kd.R_reads' HO312.out).2.2 | (with_reducible refine Kd.C_alloc ?_ _) | (with_reducible refine Kd.C_drewN ?_ _) | (with_reducible refine Kd.C_drew ?_))); (case side2 => exact (Kd.R_reads' HO312.out).2.1); rintro e w' ⟨rfl, ⟨nd, rfl⟩⟩; refine ⟨_, rfl, ?_⟩))
       go_ret3
       exact ⟨_, by first | rfl | (simp [errW_none, errW_some] <;> rfl) | (simp [*, errW_none, errW_some] <;> rfl), rRa_ HO312.out, bw_⟩
      ·rw [if_neg c10] at H
       have c10b0 : (t313 == 0) = false := beq_eq_false_iff_ne.mpr c10
       have c10b1 : (t313 != 0) = true := bne_iff_ne.mpr c10
       simp only [Option.some.injEq, Prod.mk.injEq] at H
       obtain ⟨rfl, rfl, rfl⟩ := H
       go_wp2_with (first | ((with_reducible refine gate_callee (f := 43) rfl ?_); refine goesL_ (some 34) rfl rfl Tryd.func43 (by kernel_rfl) rfl #[.slice A0 l0.length c0] rfl ag_ ?_; (with_reducible refine (torusref07_Sorted.calls k1 _ _ l0 t309 t310 _ ?side1 ?side2 A8.out).mono ?_); (case side1 => exact cs_ (Kd.C_below HR0.out HB.out)); (case side2 => exact HC0.out); rintro e w13 ⟨v311, rfl, ho0, hb⟩; refine ⟨_, rfl, ?_⟩; have n0_ := Aside0.mk (Kd.R_lower ho0 (below_size bw_)); have n1_ := Aside0.mk (below_step bw_ hb); clear HB; have HO312 := n0_; have HB := n1_; clear n0_ n1_; (try clear hb); (try clear hb2); (try clear hk); (try clear hi); (try clear ho0); obtain ⟨Ao14, co14, eo14⟩ := Kd.R_slice HO312.out; subst eo14) | ((with_reducible refine gate_callee (f := 28) rfl ?_); refine goesL_ (some 38) rfl rfl Tryd.func28 (by kernel_rfl) rfl #[.slice Ao14 t309.length co14] rfl ag_ ?_; (with_reducible refine (torusref07_Check.calls k1 _ _ t309 t313 _ ?side1 ?side2 A9.out).mono ?_); (case side1 => repeat (first | exact (Kd.R_reads' HO312.out).2.2 | (with_reducible refine Kd.C_alloc ?_ _) | (with_reducible refine Kd.C_drewN ?_ _) | (with_reducible refine Kd.C_drew ?_))); (case side2 => exact (Kd.R_reads' HO312.out).2.1); rintro e w' ⟨rfl, ⟨nd, rfl⟩⟩; refine ⟨_, rfl, ?_⟩))
       go_ret3
       exact ⟨_, by first | rfl | (simp [errW_none, errW_some] <;> rfl) | (simp [*, errW_none, errW_some] <;> rfl), by first | exact Kd.R_nil _ _ _ _ _ | exact Kd.N_nil _ _ _ _ _ | exact Kd.V_nil _ _ _ _ _ | exact Kd.Q_nil _ _ _ _ _ | exact Kd.S_nil _ _ _ _ _, bw_⟩

end Go.Proofs.YticckanjfdcpaaaDoor.PSimplex
namespace Go.Proofs.YticckanjfdcpaaaDoor.PSimplex
open Go.RowKit Go.Proofs.YticckanjfdcpaaaDoorW.PrintWords Go.Proofs.YticckanjfdcpaaaDoorW.PrintLast Go.Proofs.YticckanjfdcpaaaDoorW.PrintMore
set_option linter.unusedVariables false
set_option linter.unusedSimpArgs false

/-- An element is moved down a list that is told from its end on. -/
def insR : List Int → Int → List Int
  | [], x => [x]
  | a :: R, x => if x < a then a :: insR R x else x :: a :: R
def insN : List Int → Int → Nat
  | [], _ => 0
  | a :: R, x => if x < a then insN R x + 1 else 0
def srt : List Int → List Int → List Int
  | R, [] => R.reverse
  | R, x :: B => srt (insR R x) B
def swp : List Int → List Int → Nat
  | _, [] => 0
  | R, x :: B => insN R x + swp (insR R x) B
theorem insR_len : ∀ R x, (insR R x).length = R.length + 1
  | [], x => rfl
  | a :: R, x => by
    unfold insR
    split
    · simp [insR_len R x]
    · simp
theorem rd_mid (L : List Int) (x : Int) (B : List Int) : rd (L ++ x :: B) (L.length : Int) = x := by simp [rd]
theorem set_mid (L : List Int) (x y : Int) (B : List Int) : (L ++ x :: B).set L.length y = L ++ y :: B := by
  rw [List.set_append_right _ _ (Nat.le_refl _)]
  simp
theorem less_at (a b : Int) : cmp_Less_int.f a b = some (decide (a < b)) := by simp [cmp_Less_int.f, cmp_isNaN_int.f]
theorem two_set (R : List Int) (a x : Int) (B : List Int) : ((R.reverse ++ a :: x :: B).set (R.length + 1) a).set R.length x = R.reverse ++ x :: a :: B := by
  have h1 := set_mid (R.reverse ++ [a]) x a B
  have h2 := set_mid R.reverse a x (a :: B)
  simp only [List.append_assoc, List.singleton_append, List.length_append, List.length_reverse, List.length_cons, List.length_nil] at h1 h2
  simp only [Nat.zero_add] at h1
  rw [h1, h2]
theorem two_set' (R : List Int) (a x : Int) (B : List Int) : ((R.reverse ++ a :: x :: B).set R.length x).set (R.length + 1) a = R.reverse ++ x :: a :: B := by
  have h1 := set_mid (R.reverse ++ [x]) x a B
  have h2 := set_mid R.reverse a x (x :: B)
  simp only [List.append_assoc, List.singleton_append, List.length_append, List.length_reverse, List.length_cons, List.length_nil] at h1 h2
  simp only [Nat.zero_add] at h1
  rw [h2, h1]
theorem rd_lo (R : List Int) (a x : Int) (B : List Int) : rd (R.reverse ++ a :: x :: B) (R.length : Int) = a := by
  have := rd_mid R.reverse a (x :: B)
  simpa using this
theorem rd_hi (R : List Int) (a x : Int) (B : List Int) : rd (R.reverse ++ a :: x :: B) ((R.length + 1 : Nat) : Int) = x := by
  have := rd_mid (R.reverse ++ [a]) x B
  simpa using this

theorem ins_l1 (n i : Int) (r : List Int) : ∀ (R : List Int) (x : Int) (B : List Int), R.length + B.length ≤ 100000 → Ev (fun k => slices_insertionSortOrdered_int.l0 k ((insR R x).reverse ++ B) 0 n (wrap64 (i + 1))) r →
    Ev (fun k => slices_insertionSortOrdered_int.l1 k (R.reverse ++ x :: B) 0 n i (R.length : Int)) r
  | [], x, B, hl, h => by
    refine ev_succ ?_
    simp only [slices_insertionSortOrdered_int.l1, List.length_nil, if_neg (show ¬ (((0 : Nat) : Int) > 0) by omega)]
    simpa [insR] using h
  | a :: R, x, B, hl, h => by
    have e : ((a :: R).reverse ++ x :: B) = R.reverse ++ a :: x :: B := by simp
    have hlen : ((R.reverse ++ a :: x :: B).length : Int) = (R.length : Int) + 2 + (B.length : Int) := by simp; omega
    have hw : wrap64 (((R.length + 1 : Nat) : Int) - 1) = (R.length : Int) := by rw [wrap_id (by simp at hl; omega) (by simp at hl; omega)]; omega
    refine ev_succ ?_
    rw [e]
    simp only [slices_insertionSortOrdered_int.l1, List.length_cons, if_pos (show ((R.length + 1 : Nat) : Int) > 0 by omega), if_pos (show (0 : Int) ≤ ((R.length + 1 : Nat) : Int) by omega), hw, hlen, if_pos (show ((R.length + 1 : Nat) : Int) < (R.length : Int) + 2 + (B.length : Int) by omega),
      if_pos (show (0 : Int) ≤ (R.length : Int) by omega), if_pos (show (R.length : Int) < (R.length : Int) + 2 + (B.length : Int) by omega), rd_lo, rd_hi, less_at, Option.bind_some]
    by_cases c : x < a
    · simp only [decide_eq_true c, if_true, Int.toNat_natCast, two_set]
      refine ins_l1 n i r R x (a :: B) (by simp at hl ⊢; omega) ?_
      simpa [insR, c] using h
    · simp only [decide_eq_false c, Bool.false_eq_true, if_false]
      simpa [insR, c] using h
theorem ins_l0 : ∀ (B R : List Int), R.length + B.length ≤ 100000 → Ev (fun k => slices_insertionSortOrdered_int.l0 k (R.reverse ++ B) 0 ((R.length + B.length : Nat) : Int) (R.length : Int)) (srt R B)
  | [], R, hl => by
    refine ev_succ ?_
    simp only [slices_insertionSortOrdered_int.l0, List.length_nil, Nat.add_zero, if_neg (show ¬ ((R.length : Int) < (R.length : Int)) by omega), List.append_nil, srt]
    exact Ev.now _
  | x :: B, R, hl => by
    have ih := ins_l0 B (insR R x) (by rw [insR_len]; simp at hl; omega)
    rw [insR_len] at ih
    have hw : wrap64 ((R.length : Int) + 1) = ((R.length + 1 : Nat) : Int) := wrap_nat _ (by simp at hl; omega)
    refine ev_succ ?_
    simp only [slices_insertionSortOrdered_int.l0, List.length_cons, if_pos (show (R.length : Int) < ((R.length + (B.length + 1) : Nat) : Int) by omega), srt]
    refine ins_l1 _ _ _ R x B (by simp at hl; omega) ?_
    rw [hw, show R.length + (B.length + 1) = R.length + 1 + B.length by omega]
    exact ih
theorem ins_ev (l : List Int) (hl : l.length ≤ 100000) : Ev (fun k => slices_insertionSortOrdered_int.f k l 0 (l.length : Int)) (srt [] l) := by
  cases l with
  | nil =>
    refine Ev.of (slices_insertionSortOrdered_int.mono _ _ _) (k := 1) ?_
    decide +kernel
  | cons x B =>
    have := ins_l0 B [x] (by simp at hl ⊢; omega)
    unfold slices_insertionSortOrdered_int.f
    have hw : wrap64 (0 + 1) = 1 := by decide +kernel
    rw [hw]
    simpa [srt, insR, Nat.add_comm] using this
theorem sort42_ev (l : List Int) (hl : l.length ≤ 12) : Ev (fun k => api_Simplex_int_42.f k l) (srt [] l) := by
  unfold api_Simplex_int_42.f
  simp only [if_pos (show (l.length : Int) ≤ 12 by omega)]
  exact ins_ev l (by omega)

theorem rins_l1 (i : Int) (r : List Int × Int) : ∀ (R : List Int) (x : Int) (B : List Int) (p : Nat), R.length + B.length ≤ 100000 → Ev (fun k => torusref07_Sorted.l0 k ((insR R x).reverse ++ B) (((p + insN R x) % 2 : Nat) : Int) (wrap64 (i + 1))) r →
    Ev (fun k => torusref07_Sorted.l1 k (R.reverse ++ x :: B) ((p % 2 : Nat) : Int) i (R.length : Int)) r
  | [], x, B, p, hl, h => by
    refine ev_succ ?_
    simp only [torusref07_Sorted.l1, List.length_nil, if_neg (show ¬ (((0 : Nat) : Int) > 0) by omega)]
    simpa [insR, insN] using h
  | a :: R, x, B, p, hl, h => by
    have e : ((a :: R).reverse ++ x :: B) = R.reverse ++ a :: x :: B := by simp
    have hlen : ((R.reverse ++ a :: x :: B).length : Int) = (R.length : Int) + 2 + (B.length : Int) := by simp; omega
    have hw : wrap64 (((R.length + 1 : Nat) : Int) - 1) = (R.length : Int) := by rw [wrap_id (by simp at hl; omega) (by simp at hl; omega)]; omega
    have hp : wrap64 (1 - ((p % 2 : Nat) : Int)) = (((p + 1) % 2 : Nat) : Int) := by rw [wrap_id (by omega) (by omega)]; omega
    refine ev_succ ?_
    rw [e]
    simp only [torusref07_Sorted.l1, List.length_cons, if_pos (show ((R.length + 1 : Nat) : Int) > 0 by omega), if_pos (show (0 : Int) ≤ ((R.length + 1 : Nat) : Int) by omega), hw, hlen, if_pos (show ((R.length + 1 : Nat) : Int) < (R.length : Int) + 2 + (B.length : Int) by omega),
      if_pos (show (0 : Int) ≤ (R.length : Int) by omega), if_pos (show (R.length : Int) < (R.length : Int) + 2 + (B.length : Int) by omega), rd_lo, rd_hi]
    by_cases c : x < a
    · simp only [if_pos (show a > x from c), Int.toNat_natCast, two_set', hp]
      refine rins_l1 i r R x (a :: B) (p + 1) (by simp at hl ⊢; omega) ?_
      have e2 : p + 1 + insN R x = p + (insN R x + 1) := by omega
      rw [e2]
      simpa [insR, insN, c] using h
    · simp only [if_neg (show ¬ (a > x) from c)]
      simpa [insR, insN, c] using h
theorem rins_l0 : ∀ (B R : List Int) (p : Nat), R.length + B.length ≤ 100000 → Ev (fun k => torusref07_Sorted.l0 k (R.reverse ++ B) ((p % 2 : Nat) : Int) (R.length : Int)) (srt R B, (((p + swp R B) % 2 : Nat) : Int))
  | [], R, p, hl => by
    refine ev_succ ?_
    simp only [torusref07_Sorted.l0, List.append_nil, List.length_reverse, if_neg (show ¬ ((R.length : Int) < (R.length : Int)) by omega), srt, swp, Nat.add_zero]
    exact Ev.now _
  | x :: B, R, p, hl => by
    have ih := rins_l0 B (insR R x) (p + insN R x) (by rw [insR_len]; simp at hl; omega)
    rw [insR_len] at ih
    have hw : wrap64 ((R.length : Int) + 1) = ((R.length + 1 : Nat) : Int) := wrap_nat _ (by simp at hl; omega)
    have hlen : ((R.reverse ++ x :: B).length : Int) = (R.length : Int) + 1 + (B.length : Int) := by simp; omega
    refine ev_succ ?_
    simp only [torusref07_Sorted.l0, hlen, if_pos (show (R.length : Int) < (R.length : Int) + 1 + (B.length : Int) by omega), srt, swp]
    refine rins_l1 _ _ R x B p (by simp at hl; omega) ?_
    rw [hw, ← Nat.add_assoc]
    exact ih
theorem rsorted_ev (l : List Int) (hl : l.length ≤ 100000) : Ev (fun k => torusref07_Sorted.f k l) (srt [] l, ((swp [] l % 2 : Nat) : Int)) := by
  unfold torusref07_Sorted.f
  simp only [Option.bind_some, List.nil_append, List.length_nil, if_pos (show 0 + l.length < 17592186044416 by omega)]
  have := rins_l0 l [] 0 (by simpa using hl)
  simpa using this

/-! ### The sign -/
def sg (n : Nat) : Int := if n % 2 = 0 then 1 else -1
theorem sg_neg (n : Nat) : wrap64 (-(sg n)) = sg (n + 1) := by
  unfold sg
  by_cases c : n % 2 = 0
  · rw [if_pos c, if_neg (by omega)]; decide +kernel
  · rw [if_neg c, if_pos (by omega)]; decide +kernel
def cnt (P : List Int) (x : Int) : Nat := P.countP (fun a => decide (x < a))
def invs : List Int → List Int → Nat
  | _, [] => 0
  | R, x :: B => cnt R x + invs (x :: R) B
theorem cnt_cons (a : Int) (P : List Int) (x : Int) : cnt (a :: P) x = cnt P x + if x < a then 1 else 0 := by simp [cnt, List.countP_cons]
theorem cnt_rev (P : List Int) (x : Int) : cnt P.reverse x = cnt P x := by simp [cnt]
theorem sgn_l1 (l s : List Int) (len : Int) (x : Int) (r : List Int × Int × Int) : ∀ (P2 P1 B : List Int) (n : Nat), l = (P1 ++ P2) ++ x :: B → l.length ≤ 100000 →
    Ev (fun k => simplex_Sort.l0 k l s (sg (n + cnt P2 x)) len (wrap64 (((P1 ++ P2).length : Int) + 1))) r →
    Ev (fun k => simplex_Sort.l1 k l s (sg n) ((P1 ++ P2).length : Int) len ((P1 ++ P2).length : Int) ((P1 ++ P2).length : Int) (P1.length : Int)) r
  | [], P1, B, n, hl, hlen, h => by
    refine ev_succ ?_
    simp only [simplex_Sort.l1, List.append_nil, if_neg (show ¬ ((P1.length : Int) < (P1.length : Int)) by omega)]
    simpa [cnt] using h
  | a :: P2, P1, B, n, hl, hlen, h => by
    have e1 : P1 ++ a :: P2 = (P1 ++ [a]) ++ P2 := by simp
    have hx : rd l ((P1 ++ a :: P2).length : Int) = x := by rw [hl]; exact rd_mid _ _ _
    have ha : rd l (P1.length : Int) = a := by
      rw [hl, List.append_assoc]
      exact rd_mid P1 a (P2 ++ x :: B)
    have hl2 : (l.length : Int) = ((P1 ++ a :: P2).length : Int) + 1 + (B.length : Int) := by rw [hl]; simp; omega
    have hl3 : ((P1 ++ a :: P2).length : Int) = (P1.length : Int) + 1 + (P2.length : Int) := by simp; omega
    have hw : wrap64 ((P1.length : Int) + 1) = ((P1 ++ [a]).length : Int) := by rw [wrap_nat _ (by omega)]; simp
    refine ev_succ ?_
    simp only [simplex_Sort.l1, if_pos (show (P1.length : Int) < ((P1 ++ a :: P2).length : Int) by omega), if_pos (show (0 : Int) ≤ (P1.length : Int) by omega), if_pos (show (P1.length : Int) < (l.length : Int) by omega),
      if_pos (show (0 : Int) ≤ ((P1 ++ a :: P2).length : Int) by omega), if_pos (show ((P1 ++ a :: P2).length : Int) < (l.length : Int) by omega), hx, ha, hw]
    by_cases c : a > x
    · simp only [if_pos c, sg_neg]
      have := sgn_l1 l s len x r P2 (P1 ++ [a]) B (n + 1) (by rw [hl, e1]) hlen (by
        rw [← e1, show n + 1 + cnt P2 x = n + cnt (a :: P2) x by rw [cnt_cons, if_pos c]; omega]
        exact h)
      rw [← e1] at this
      exact this
    · simp only [if_neg c]
      have := sgn_l1 l s len x r P2 (P1 ++ [a]) B n (by rw [hl, e1]) hlen (by
        rw [← e1, show n + cnt P2 x = n + cnt (a :: P2) x by rw [cnt_cons, if_neg c]; omega]
        exact h)
      rw [← e1] at this
      exact this
/-- What "Sort" answers once the vertices are right. -/
def sorted3 (l : List Int) : List Int × Int × Int := if ck (srt [] l) = 0 then (srt [] l, sg (invs [] l), 0) else ([], 0, 5)
theorem sgn_l0 (l s : List Int) (hs : s.length ≤ 12) (hlen : l.length ≤ 100000) : ∀ (B P : List Int) (n : Nat), l = P ++ B →
    Ev (fun k => simplex_Sort.l0 k l s (sg n) (l.length : Int) (P.length : Int)) (if ck (srt [] s) = 0 then (srt [] s, sg (n + invs P.reverse B), 0) else ([], 0, 5))
  | [], P, n, hl => by
    have e : l.length = P.length := by rw [hl]; simp
    refine ev_succ ?_
    simp only [simplex_Sort.l0, e, if_neg (show ¬ ((P.length : Int) < (P.length : Int)) by omega), invs, Nat.add_zero]
    refine (ev_bind (sort42_ev s hs)).mpr ?_
    refine (ev_bind (scheck_ev _)).mpr ?_
    by_cases c : ck (srt [] s) = 0
    · simp only [if_pos c]; exact Ev.now _
    · simp only [if_neg c]; exact Ev.now _
  | x :: B, P, n, hl => by
    have e : (l.length : Int) = (P.length : Int) + 1 + (B.length : Int) := by rw [hl]; simp; omega
    have ih := sgn_l0 l s hs hlen B (P ++ [x]) (n + cnt P x) (by rw [hl]; simp)
    refine ev_succ ?_
    simp only [simplex_Sort.l0, if_pos (show (P.length : Int) < (l.length : Int) by omega)]
    have := sgn_l1 l s (l.length : Int) x _ P [] B n (by rw [hl]; simp) hlen (by
      have hw : wrap64 (((([] : List Int) ++ P).length : Int) + 1) = ((P ++ [x]).length : Int) := by rw [List.nil_append, wrap_nat _ (by omega)]; simp
      rw [hw]
      exact ih)
    have e2 : n + cnt P x + invs (P ++ [x]).reverse B = n + invs P.reverse (x :: B) := by
      simp only [invs, cnt_rev, List.reverse_append, List.reverse_cons, List.reverse_nil, List.nil_append, List.singleton_append]
      omega
    rw [e2] at this
    simpa using this
/-- What "Sort" answers. -/
def so (l : List Int) : List Int × Int × Int := if l.length = 0 then ([], 0, 1) else if l.length > 5 then ([], 0, 3) else if l.any bad = true then ([], 0, 1) else sorted3 l
theorem ssort_ev (l : List Int) : Ev (fun k => simplex_Sort.f k l) (so l) := by
  unfold simplex_Sort.f so
  refine (ev_bind (svert_ev l)).mpr ?_
  by_cases c : l.length = 0
  · simp only [if_pos c]; exact Ev.now _
  · by_cases c' : l.length > 5
    · simp only [if_neg c, if_pos c']; exact Ev.now _
    · simp only [if_neg c, if_neg c']
      cases hb : l.any bad with
      | true => exact Ev.now _
      | false =>
        simp only [Bool.false_eq_true, if_false, if_true, api_Simplex_int_41.f, if_pos (show l.length < 17592186044416 by omega), Option.bind_some]
        have := sgn_l0 l l (by omega) (by omega) l [] 0 rfl
        simpa [sg, sorted3] using this

/-! ### The exchanges are the inversions -/
def desc : List Int → Prop
  | [] => True
  | a :: R => (∀ b ∈ R, b ≤ a) ∧ desc R
theorem insR_mem : ∀ R x b, b ∈ insR R x → b = x ∨ b ∈ R
  | [], x, b, h => by simp [insR] at h; exact .inl h
  | a :: R, x, b, h => by
    unfold insR at h
    split at h
    · rcases List.mem_cons.1 h with h | h
      · exact .inr (by simp [h])
      · rcases insR_mem R x b h with h | h
        · exact .inl h
        · exact .inr (by simp [h])
    · rcases List.mem_cons.1 h with h | h
      · exact .inl h
      · exact .inr h
theorem insR_desc : ∀ R x, desc R → desc (insR R x)
  | [], x, _ => by simp [insR, desc]
  | a :: R, x, h => by
    unfold insR
    by_cases c : x < a
    · rw [if_pos c]
      refine ⟨fun b hb => ?_, insR_desc R x h.2⟩
      rcases insR_mem R x b hb with h1 | h1
      · omega
      · exact h.1 b h1
    · rw [if_neg c]
      refine ⟨fun b hb => ?_, h⟩
      rcases List.mem_cons.1 hb with h1 | h1
      · omega
      · have := h.1 b h1; omega
theorem insR_cnt : ∀ R x y, cnt (insR R x) y = cnt (x :: R) y
  | [], x, y => rfl
  | a :: R, x, y => by
    unfold insR
    split
    · rw [cnt_cons, insR_cnt R x y, cnt_cons, cnt_cons, cnt_cons]; omega
    · rfl
theorem insN_cnt : ∀ R x, desc R → insN R x = cnt R x
  | [], x, _ => rfl
  | a :: R, x, h => by
    unfold insN
    rw [cnt_cons]
    by_cases c : x < a
    · rw [if_pos c, if_pos c, insN_cnt R x h.2]
    · rw [if_neg c, if_neg c]
      have : cnt R x = 0 := by
        unfold cnt
        rw [List.countP_eq_zero]
        intro b hb
        have := h.1 b hb
        simp
        omega
      omega
theorem swp_invs : ∀ (B S R : List Int), desc S → (∀ y, cnt S y = cnt R y) → swp S B = invs R B
  | [], S, R, _, _ => rfl
  | x :: B, S, R, hd, hc => by
    simp only [swp, invs]
    rw [insN_cnt S x hd, hc x, swp_invs B (insR S x) (x :: R) (insR_desc S x hd) (fun y => by rw [insR_cnt, cnt_cons, cnt_cons, hc y])]
theorem rsort_l0 (l : List Int) (hl : l.length ≤ 5) : ∀ (m i : Nat), m = l.length - i → i ≤ l.length → Ev (fun k => torusref07_Sort.l0 k l (i : Int)) (if (l.drop i).any bad = true then ([], 0, 1) else sorted3 l)
  | 0, i, hm, hi => by
    rw [List.drop_of_length_le (by omega)]
    refine ev_succ ?_
    simp only [torusref07_Sort.l0, if_neg (show ¬ ((i : Int) < (l.length : Int)) by omega), List.any_nil, Bool.false_eq_true, if_false]
    refine (ev_bind (rsorted_ev l (by omega))).mpr ?_
    refine (ev_bind (rcheck_ev _)).mpr ?_
    unfold sorted3
    by_cases c : ck (srt [] l) = 0
    · simp only [if_pos c, swp_invs l [] [] trivial (fun _ => rfl)]
      have e : wrap64 (1 - wrap64 (2 * ((invs [] l % 2 : Nat) : Int))) = sg (invs [] l) := by
        rw [wrap_id (a := 2 * ((invs [] l % 2 : Nat) : Int)) (by omega) (by omega), wrap_id (by omega) (by omega)]
        unfold sg
        split <;> omega
      rw [e]
      exact Ev.now _
    · simp only [if_neg c]
      exact Ev.now _
  | m + 1, i, hm, hi => by
    have ih := rsort_l0 l hl m (i + 1) (by omega) (by omega)
    rw [drop_cons l i (by omega)]
    refine ev_succ ?_
    simp only [torusref07_Sort.l0, if_pos (show ((i : Int) < (l.length : Int)) by omega), if_pos (show (0 : Int) ≤ (i : Int) by omega), wrap_nat i (by omega), List.any_cons]
    by_cases c : rd l (i : Int) < 0
    · have hb : bad (rd l (i : Int)) = true := by simp [bad, c]
      simp only [if_pos c, hb, Bool.true_or, if_true]
      exact Ev.now _
    · by_cases c' : rd l (i : Int) ≥ 64
      · have hb : bad (rd l (i : Int)) = true := by simp [bad, c']
        simp only [if_neg c, if_pos c', hb, Bool.true_or, if_true]
        exact Ev.now _
      · have hb : bad (rd l (i : Int)) = false := by simp [bad]; omega
        simp only [if_neg c, if_neg c', hb, Bool.false_or]
        exact ih
theorem rsort_ev (l : List Int) : Ev (fun k => torusref07_Sort.f k l) (so l) := by
  unfold torusref07_Sort.f so
  by_cases c : l.length = 0
  · simp only [if_pos c, if_pos (show (l.length : Int) = 0 by omega)]
    exact Ev.now _
  · by_cases c' : l.length > 5
    · simp only [if_neg c, if_pos c', if_neg (show ¬ ((l.length : Int) = 0) by omega), if_pos (show (l.length : Int) > 5 by omega)]
      exact Ev.now _
    · simp only [if_neg c, if_neg c', if_neg (show ¬ ((l.length : Int) = 0) by omega), if_neg (show ¬ ((l.length : Int) > 5) by omega)]
      simpa using rsort_l0 l (by omega) l.length 0 (by omega) (by omega)
theorem srt_len : ∀ (B R : List Int), (srt R B).length = R.length + B.length
  | [], R => by simp [srt]
  | x :: B, R => by rw [srt, srt_len B, insR_len]; simp; omega
theorem so_len (l : List Int) : (so l).1.length ≤ 5 := by
  unfold so sorted3
  split
  · simp
  · split
    · simp
    · split
      · simp
      · split
        · simp [srt_len]; omega
        · simp
end Go.Proofs.YticckanjfdcpaaaDoor.PSimplex
namespace Go.Proofs.YticckanjfdcpaaaDoor.PSimplex
open Go.RowKit Go.Proofs.YticckanjfdcpaaaDoorW.PrintWords Go.Proofs.YticckanjfdcpaaaDoorW.PrintLast Go.Proofs.YticckanjfdcpaaaDoorW.PrintMore
attribute [local go_sem] max2_int min2_int max_two min_two max_three min_three max_four min_four   -- for this text's walks alone
set_option linter.unusedVariables false
set_option linter.unusedSimpArgs false

theorem has_cl (k : Nat) (g : Nat) (A1 : Option Addr) (c1 : Nat) (l1 : List Int) (a0 : Int) (b : Bool) (w : World) (hr : Kd.C (Kd.int .i64) w A1 l1.length l1) (hc : l1.length ≤ c1)
    (hp : w.cell? ⟨g, 0, none⟩ = some (.slice A1 l1.length c1)) (h : api_Simplex_int_49.f k l1 a0 = some b) :
    Calls Tryd.prog 48 #[.int .i64 a0, .pointer (some ⟨g, 0, none⟩)] w fun e w' => e = .returned (.bool (!b)) ∧ Drawn0 w w' := by
  go_enter Tryd.func48, Tryd.ntmps48
  go_wp2_with (first | ((with_reducible refine gate_callee (f := 49) rfl ?_); refine goesL_ (some 6) rfl rfl Tryd.func49 (by kernel_rfl) rfl #[.slice A1 l1.length c1, .int .i64 a0] rfl (by (try simp only [List.map_toArray, List.map_cons, List.map_nil]); first | done | rfl) ?_; (with_reducible refine (api_Simplex_int_49.calls k _ _ l1 a0 b _ ?side1 ?side2 h).mono ?_); (case side1 => exact hr); (case side2 => exact hc); rintro e w' ⟨rfl, ⟨nd, rfl⟩⟩; refine ⟨_, rfl, ?_⟩))
  go_ret
  exact ⟨by first | rfl | (simp; done) | (simp [*]; done), by repeat (first | exact Drawn0.refl _ | apply Drawn0.step)⟩

def has_ix.l0 : Nat → List Int → List Int → Int → Int → Option (Int)
  | 0, _, _, _, _ => none
  | k + 1, x0, x1, x7, x8 => if x8 < x7 then (if 0 ≤ x8 then (if x8 < (x0.length : Int) then ((api_Simplex_int_49.f k x1 (rd x0 x8)).bind fun t => (if t = true then (has_ix.l0 k x0 x1 x7 (wrap64 (x8 + 1))) else (some x8))) else (none)) else (none)) else (some (-1))
theorem has_ix.mono_l : ∀ k, (∀ y0 y1 y2 y3, LeO (has_ix.l0 k y0 y1 y2 y3) (has_ix.l0 (k + 1) y0 y1 y2 y3))
  | 0 => fun _ _ _ _ r h => by simp [has_ix.l0] at h
  | k + 1 => by
    have ih0 := has_ix.mono_l k
    intro y0 y1 y2 y3
    unfold has_ix.l0
    repeat' first
      | (with_reducible exact ih0 _ _ _ _)
      | (with_reducible exact api_Simplex_int_49.mono _ _ _)
      | (with_reducible exact LeO.refl _)
      | (with_reducible exact LeO.none _)
      | (with_reducible refine LeO.ite ?_ ?_)
      | (with_reducible refine LeO.bind ?_ (fun _ => ?_))
set_option maxHeartbeats 8000000 in
set_option maxRecDepth 100000 in
theorem has_ix.calls (k : Nat) (g : Nat) (A0 : Option Addr) (c0 : Nat) (l0 : List Int) (A1 : Option Addr) (c1 : Nat) (l1 : List Int) (r : Int) (w : World) (hr0 : Kd.C (Kd.int .i64) w A0 l0.length l0) (hc0 : l0.length ≤ c0)
    (hr1 : Kd.C (Kd.int .i64) w A1 l1.length l1) (hc1 : l1.length ≤ c1) (hp : w.cell? ⟨g, 0, none⟩ = some (.slice A1 l1.length c1)) (h : has_ix.l0 k l0 l1 (l0.length : Int) 0 = some r) :
    Calls Tryd.prog 63 #[.slice A0 l0.length c0, .func (.func 48) #[] #[.pointer (some ⟨g, 0, none⟩)]] w fun e w' => e = .returned (.int .i64 r) ∧ Drawn0 w w' := by
  have HR0 := Aside0.mk hr0
  have HR1 := Aside0.mk hr1
  have HP := Aside0.mk hp
  have H' := Aside0.mk h
  clear h hr0 hr1 hp
  go_enter Tryd.func63, Tryd.ntmps63
  go_wp2
  go_loopg [8] k (fun kq v8 w' => ∃ (x8_1 : Int), v8 = .int .i64 x8_1 ∧ Aside0 (has_ix.l0 kq l0 l1 (l0.length : Int) x8_1 = some r) ∧ Aside0 (kq ≤ k) ∧ Drawn0 w w')
  case atStart => exact ⟨(0), (by first | rfl | (simp; done) | (simp [*]; done)), H', ⟨Nat.le_refl _⟩, by repeat (first | exact Drawn0.refl _ | apply Drawn0.step)⟩
  case round =>
    clear H'
    obtain ⟨x8_1, rfl, HA, HK1, ⟨m1, rfl⟩⟩ := hrel
    cases gk with
    | zero => exact absurd HA.out (by simp [has_ix.l0])
    | succ k1 =>
      have H := HA.out
      clear HA
      simp only [has_ix.l0] at H
      by_cases c3 : x8_1 < (l0.length : Int)
      · rw [if_pos c3] at H
        have c3b0 : decide (x8_1 < (l0.length : Int)) = true := decide_eq_true c3
        by_cases c4 : 0 ≤ x8_1
        · rw [if_pos c4, if_pos c3] at H
          obtain ⟨ad244, e244, hx244_0⟩ := Kd.at_int HR0.out x8_1 c4 c3
          cases e244
          have p244 := eq_true c4
          have q244 := eq_true c3
          obtain ⟨t, ht, H⟩ := Option.bind_eq_some_iff.mp H
          replace H : (if t = true then (has_ix.l0 k1 l0 l1 (l0.length : Int) (wrap64 (x8_1 + 1))) else (some x8_1)) = some r := H
          cases t with
          | false =>
            obtain rfl := Option.some.inj H
            go_wp2_with (first | ((with_reducible refine gate_valcall (x := .tmp 11) rfl ?_); refine goesV_ (some 16) rfl rfl (f := 48) (cap := #[.pointer (some ⟨g, 0, none⟩)]) Tryd.func48 (by kernel_rfl) rfl #[.int .i64 (rd l0 x8_1)] rfl rfl (by (try simp only [List.map_toArray, List.map_cons, List.map_nil]); first | done | rfl) ?_; (refine (has_cl k1 g A1 c1 l1 (rd l0 x8_1) false _ ?side1 hc1 ?side2 ht).mono ?_); (case side1 => repeat (first | exact HR1.out | (with_reducible refine Kd.C_alloc ?_ _) | (with_reducible refine Kd.C_drewN ?_ _) | (with_reducible refine Kd.C_drew ?_))); (case side2 => exact HP.out); rintro e w' ⟨rfl, ⟨nd, rfl⟩⟩; refine ⟨_, rfl, ?_⟩))
            go_ret
            exact ⟨by first | rfl | (simp; done) | (simp [*]; done), by repeat (first | exact Drawn0.refl _ | apply Drawn0.step)⟩
          | true =>
            have H' := Aside0.mk H
            clear H
            go_wp2_with (first | ((with_reducible refine gate_valcall (x := .tmp 11) rfl ?_); refine goesV_ (some 16) rfl rfl (f := 48) (cap := #[.pointer (some ⟨g, 0, none⟩)]) Tryd.func48 (by kernel_rfl) rfl #[.int .i64 (rd l0 x8_1)] rfl rfl (by (try simp only [List.map_toArray, List.map_cons, List.map_nil]); first | done | rfl) ?_; (refine (has_cl k1 g A1 c1 l1 (rd l0 x8_1) true _ ?side1 hc1 ?side2 ht).mono ?_); (case side1 => repeat (first | exact HR1.out | (with_reducible refine Kd.C_alloc ?_ _) | (with_reducible refine Kd.C_drewN ?_ _) | (with_reducible refine Kd.C_drew ?_))); (case side2 => exact HP.out); rintro e w' ⟨rfl, ⟨nd, rfl⟩⟩; refine ⟨_, rfl, ?_⟩))
            go_roundg k1
            case measure => have := HK1.out; omega
            case rel => exact ⟨(wrap64 (x8_1 + 1)), (by first | rfl | (simp; done) | (simp [*]; done)), H', ⟨by have := HK1.out; omega⟩, by repeat (first | exact Drawn0.refl _ | apply Drawn0.step)⟩
        · rw [if_neg c4] at H
          exact absurd H (by simp)
      · rw [if_neg c3] at H
        have c3b0 : decide (x8_1 < (l0.length : Int)) = false := decide_eq_false c3
        obtain rfl := Option.some.inj H
        go_wp2
        go_ret
        exact ⟨by first | rfl | (simp; done) | (simp [*]; done), by repeat (first | exact Drawn0.refl _ | apply Drawn0.step)⟩

def simplex_Has.f (k : Nat) (l0 : List Int) (l1 : List Int) : Option Bool := (has_ix.l0 k l1 l0 (l1.length : Int) 0).bind fun t => some (!(decide (t ≥ 0)))
theorem simplex_Has.mono : ∀ a0 a1 k, LeO (simplex_Has.f k a0 a1) (simplex_Has.f (k + 1) a0 a1) := by
  intro a0 a1 k
  have ih0 := has_ix.mono_l k
  unfold simplex_Has.f
  repeat' first
      | (with_reducible exact ih0 _ _ _ _)
      | (with_reducible exact LeO.refl _)
      | (with_reducible refine LeO.bind ?_ (fun _ => ?_))
theorem has_any (k : Nat) (g : Nat) (A0 : Option Addr) (c0 : Nat) (l0 : List Int) (A1 : Option Addr) (c1 : Nat) (l1 : List Int) (r : Int) (w : World) (hr0 : Kd.C (Kd.int .i64) w A0 l0.length l0) (hc0 : l0.length ≤ c0)
    (hr1 : Kd.C (Kd.int .i64) w A1 l1.length l1) (hc1 : l1.length ≤ c1) (hp : w.cell? ⟨g, 0, none⟩ = some (.slice A1 l1.length c1)) (h : has_ix.l0 k l0 l1 (l0.length : Int) 0 = some r) :
    Calls Tryd.prog 47 #[.slice A0 l0.length c0, .func (.func 48) #[] #[.pointer (some ⟨g, 0, none⟩)]] w fun e w' => e = .returned (.bool (decide (r ≥ 0))) ∧ Drawn0 w w' := by
  go_enter Tryd.func47, Tryd.ntmps47
  go_wp2_with (first | ((with_reducible refine gate_callee (f := 63) rfl ?_); refine goesL_ (some 7) rfl rfl Tryd.func63 (by kernel_rfl) rfl #[.slice A0 l0.length c0, .func (.func 48) #[] #[.pointer (some ⟨g, 0, none⟩)]] rfl (by (try simp only [List.map_toArray, List.map_cons, List.map_nil]); first | done | rfl) ?_; (with_reducible refine (has_ix.calls k g _ _ l0 _ _ l1 r _ hr0 hc0 hr1 hc1 hp h).mono ?_); rintro e w' ⟨rfl, ⟨nd, rfl⟩⟩; refine ⟨_, rfl, ?_⟩))
  go_ret
  exact ⟨by first | rfl | (simp; done) | (simp [*]; done), by repeat (first | exact Drawn0.refl _ | apply Drawn0.step)⟩
theorem simplex_Has.calls (k : Nat) (A0 : Option Addr) (c0 : Nat) (l0 : List Int) (A1 : Option Addr) (c1 : Nat) (l1 : List Int) (r : Bool) (w : World) (hr0 : Kd.C (Kd.int .i64) w A0 l0.length l0) (hc0 : l0.length ≤ c0) (hr1 : Kd.C (Kd.int .i64) w A1 l1.length l1) (hc1 : l1.length ≤ c1) (h : simplex_Has.f k l0 l1 = some r) :
    Calls Tryd.prog 23 #[.slice A0 l0.length c0, .slice A1 l1.length c1] w fun e w' => e = .returned (.bool r) ∧ Below w.heap.size w w' := by
  have hmf : ∀ (fn : Fn) (first cap : Array Value) (w : World), (Instr.makeFunc fn first cap).run Tryd.prog w = .ok (.func fn first cap) w := fun _ _ _ _ => rfl
  unfold simplex_Has.f at h
  obtain ⟨t, ht, h⟩ := Option.bind_eq_some_iff.mp h
  obtain rfl := Option.some.inj h
  go_enter Tryd.func23, Tryd.ntmps23
  go_wp2_with (first | ((with_reducible refine gate_callee (f := 47) rfl ?_); refine goesL_ (some 7) rfl rfl Tryd.func47 (by kernel_rfl) rfl #[.slice A1 l1.length c1, .func (.func 48) #[] #[.pointer (some ⟨w.heap.size, 0, none⟩)]] rfl (by (try simp only [List.map_toArray, List.map_cons, List.map_nil]); first | done | rfl) ?_; (with_reducible refine (has_any k w.heap.size A1 c1 l1 A0 c0 l0 t _ ?side1 hc1 ?side2 hc0 ?side3 ht).mono ?_); (case side1 => repeat (first | exact hr1 | (with_reducible refine Kd.C_alloc ?_ _) | (with_reducible refine Kd.C_drewN ?_ _) | (with_reducible refine Kd.C_drew ?_))); (case side2 => repeat (first | exact hr0 | (with_reducible refine Kd.C_alloc ?_ _) | (with_reducible refine Kd.C_drewN ?_ _) | (with_reducible refine Kd.C_drew ?_))); (case side3 => exact blk_cell (blk_new _ _) 0); rintro e w' ⟨rfl, ⟨nd, rfl⟩⟩; refine ⟨_, rfl, ?_⟩))
  go_ret
  exact ⟨by first | rfl | (simp; done) | (simp [*]; done), by repeat (first | (with_reducible first | exact Below.refl _ _ | apply below_alloc | apply pw_below_drewN | apply below_drew1) | exact Below.refl _ _)⟩
end Go.Proofs.YticckanjfdcpaaaDoor.PSimplex
namespace Go.Proofs.YticckanjfdcpaaaDoor.PSimplex
open Go.RowKit Go.Proofs.YticckanjfdcpaaaDoorW.PrintWords Go.Proofs.YticckanjfdcpaaaDoorW.PrintLast Go.Proofs.YticckanjfdcpaaaDoorW.PrintMore
attribute [local go_sem] max2_int min2_int max_two min_two max_three min_three max_four min_four   -- for this text's walks alone
set_option linter.unusedVariables false
set_option linter.unusedSimpArgs false

/-! ### torusref07_Has: function 26 -/
def torusref07_Has.l0 : Nat → List Int → List Int → Int → Option (Bool)
 |0, _, _, _ => none
 |k + 1, x0, x1, x5 => if x5 < (x1.length : Int) then (if 0 ≤ x5 then ((torusref07_In.f k x0 (rd x1 x5)).bind fun t409 => (if t409 = true then (torusref07_Has.l0 k x0 x1 (wrap64 (x5 + 1))) else (some false))) else (none)) else (some true)
def torusref07_Has.f (k : Nat) (l0 : List Int) (l1 : List Int) : Option (Bool) := torusref07_Has.l0 k l0 l1 0
theorem torusref07_Has.mono_l : ∀ k, (∀ y0 y1 y2, LeO (torusref07_Has.l0 k y0 y1 y2) (torusref07_Has.l0 (k + 1) y0 y1 y2))
 |0 => fun _ _ _ r h => by simp [torusref07_Has.l0] at h
 |k + 1 => by
  have ih0 := torusref07_Has.mono_l k
  ·intro y0 y1 y2
   unfold torusref07_Has.l0
   repeat' first
   |(with_reducible exact ih0 _ _ _)
   |(with_reducible exact torusref07_In.mono _ _ _)
   |(with_reducible exact LeO.refl _)
   |(with_reducible exact LeO.none _)
   |(with_reducible refine LeO.ite ?_ ?_)
   |(with_reducible refine LeO.bind ?_ (fun _ => ?_))
   |exact ih0 _ _ _
   |exact torusref07_In.mono _ _ _
   |exact LeO.none _
   |refine LeO.ite ?_ ?_
   |refine LeO.bind ?_ (fun _ => ?_)
theorem torusref07_Has.mono : ∀ a0 a1 k, LeO (torusref07_Has.f k a0 a1) (torusref07_Has.f (k + 1) a0 a1) := by
 intro a0 a1 k
 have ih0 := torusref07_Has.mono_l k
 unfold torusref07_Has.f
 repeat' first
   |(with_reducible exact ih0 _ _ _)
   |(with_reducible exact torusref07_In.mono _ _ _)
   |(with_reducible exact LeO.refl _)
   |(with_reducible exact LeO.none _)
   |(with_reducible refine LeO.ite ?_ ?_)
   |(with_reducible refine LeO.bind ?_ (fun _ => ?_))
   |exact ih0 _ _ _
   |exact torusref07_In.mono _ _ _
   |exact LeO.none _
   |refine LeO.ite ?_ ?_
   |refine LeO.bind ?_ (fun _ => ?_)
set_option maxHeartbeats 8000000 in
set_option maxRecDepth 100000 in
theorem torusref07_Has.calls (k : Nat) (A0 : Option Addr) (c0 : Nat) (l0 : List Int) (A1 : Option Addr) (c1 : Nat) (l1 : List Int) (r : Bool) (w : World) (hr0 : Kd.C (Kd.int .i64) w A0 l0.length l0) (hc0 : l0.length ≤ c0) (hr1 : Kd.C (Kd.int .i64) w A1 l1.length l1) (hc1 : l1.length ≤ c1) (h : torusref07_Has.f k l0 l1 = some r) :
  Calls Tryd.prog 26 #[.slice A0 l0.length c0, .slice A1 l1.length c1] w fun e w' => e = .returned (.bool r) ∧ Drawn0 w w' := by
 have HR0 := Aside0.mk hr0
 have HC0 := Aside0.mk hc0
 clear hr0 hc0
 have HR1 := Aside0.mk hr1
 have HC1 := Aside0.mk hc1
 clear hr1 hc1
 have H : (torusref07_Has.l0 k l0 l1 0) = some r := h
 clear h
 have H' := Aside0.mk H
 clear H
 go_enter Tryd.func26, Tryd.ntmps26
 go_wp2
 go_loopg [5] k (fun kq v5 w' => ∃ (x5_1 : Int), v5 = .int .i64 x5_1 ∧ Aside0 (torusref07_Has.l0 kq l0 l1 x5_1 = some r) ∧ Aside0 (kq ≤ k) ∧ Drawn0 w w')
 case atStart => exact ⟨(0), sd_, H', ⟨Nat.le_refl _⟩, dr_⟩
 case round =>
  clear H'
  try clear c1
  try clear c2
  try clear p2
  obtain ⟨x5_1, rfl, HA, HK1, ⟨m1, rfl⟩⟩ := hrel
  cases gk with
  |zero => exact absurd HA.out (by simp [torusref07_Has.l0])
  |succ k1 =>
   have H := HA.out
   clear HA
   simp only [torusref07_Has.l0] at H
   by_cases c3 : x5_1 < (l1.length : Int)
   ·rw [if_pos c3] at H
    have c3b0 : decide (x5_1 < (l1.length : Int)) = true := decide_eq_true c3
    clear c3
    by_cases c4 : 0 ≤ x5_1
    ·rw [if_pos c4] at H
     have c4b0 : decide (0 ≤ x5_1) = true := decide_eq_true c4
     clear c4
     replace H := Option.bind_eq_some_iff.mp H
     obtain ⟨t409, A50, H⟩ := H
     replace H : (if t409 = true then (torusref07_Has.l0 k1 l0 l1 (wrap64 (x5_1 + 1))) else (some false)) = some r := H
     have A5 := Aside0.mk A50
     clear A50
     by_cases c6 : t409 = true
     ·subst c6
      have H1 : (torusref07_Has.l0 k1 l0 l1 (wrap64 (x5_1 + 1))) = some r := by rw [if_pos rfl] at H; exact H
      clear H
      have H := H1
      clear H1
      have H' := Aside0.mk H
      clear H
      have p408 : 0 ≤ (x5_1 : Int) := of_decide_eq_true as_
      have q408 : x5_1 < (l1.length : Int) := of_decide_eq_true as_
      obtain ⟨ad408, e408, hx408_0⟩ := Kd.at_int HR1.out x5_1 p408 q408
      cases e408
      replace p408 := eq_true p408
      replace q408 := eq_true q408
      go_wp2_with (first | ((with_reducible refine gate_callee (f := 46) rfl ?_); refine goesL_ (some 17) rfl rfl Tryd.func46 (by kernel_rfl) rfl #[.slice A0 l0.length c0, .int .i64 (rd l1 x5_1)] rfl ag_ ?_; (with_reducible refine (torusref07_In.calls k1 _ _ l0 (rd l1 x5_1) true _ ?side1 ?side2 A5.out).mono ?_); (case side1 => exact cs_ HR0.out); (case side2 => exact HC0.out); rintro e w' ⟨rfl, ⟨nd, rfl⟩⟩; refine ⟨_, rfl, ?_⟩))
      go_roundg k1
      case measure => have := HK1.out; omega
      case rel => exact ⟨(wrap64 (x5_1 + 1)), sd_, H', ⟨by have := HK1.out; omega⟩, dr_⟩
     ·replace c6 := Bool.eq_false_iff.mpr c6
      subst c6
      have H1 : (some false) = some r := by rw [if_neg (show ¬ (false = true) by decide)] at H; exact H
      clear H
      have H := H1
      clear H1
      obtain rfl := Option.some.inj H
      have p408 : 0 ≤ (x5_1 : Int) := of_decide_eq_true as_
      have q408 : x5_1 < (l1.length : Int) := of_decide_eq_true as_
      obtain ⟨ad408, e408, hx408_0⟩ := Kd.at_int HR1.out x5_1 p408 q408
      cases e408
      replace p408 := eq_true p408
      replace q408 := eq_true q408
      go_wp2_with (first | ((with_reducible refine gate_callee (f := 46) rfl ?_); refine goesL_ (some 17) rfl rfl Tryd.func46 (by kernel_rfl) rfl #[.slice A0 l0.length c0, .int .i64 (rd l1 x5_1)] rfl ag_ ?_; (with_reducible refine (torusref07_In.calls k1 _ _ l0 (rd l1 x5_1) false _ ?side1 ?side2 A5.out).mono ?_); (case side1 => exact cs_ HR0.out); (case side2 => exact HC0.out); rintro e w' ⟨rfl, ⟨nd, rfl⟩⟩; refine ⟨_, rfl, ?_⟩))
      go_ret
      exact ⟨sd_, dr_⟩
    ·rw [if_neg c4] at H
     exact absurd H (by simp)
   ·rw [if_neg c3] at H
    have c3b0 : decide (x5_1 < (l1.length : Int)) = false := decide_eq_false c3
    clear c3
    obtain rfl := Option.some.inj H
    go_wp2
    go_ret
    exact ⟨sd_, dr_⟩

end Go.Proofs.YticckanjfdcpaaaDoor.PSimplex
namespace Go.Proofs.YticckanjfdcpaaaDoor.PSimplex
open Go.RowKit Go.Proofs.YticckanjfdcpaaaDoorW.PrintWords Go.Proofs.YticckanjfdcpaaaDoorW.PrintLast Go.Proofs.YticckanjfdcpaaaDoorW.PrintMore
attribute [local go_sem] max2_int min2_int max_two min_two max_three min_three max_four min_four   -- for this text's walks alone
set_option linter.unusedVariables false
set_option linter.unusedSimpArgs false

/-! ### torusref07_Meet: function 27 -/
def torusref07_Meet.l0 : Nat → List Int → List Int → List Int → Int → Option (List Int)
 |0, _, _, _, _ => none
 |k + 1, x0, x1, x5, x6 => if x6 < (x0.length : Int) then (if 0 ≤ x6 then ((torusref07_In.f k x1 (rd x0 x6)).bind fun t411 => (if t411 = true then (if x5.length < 17592186044416 then (torusref07_Meet.l0 k x0 x1 (x5 ++ [rd x0 x6]) (wrap64 (x6 + 1))) else (none)) else (torusref07_Meet.l0 k x0 x1 x5 (wrap64 (x6 + 1))))) else (none)) else (some x5)
def torusref07_Meet.f (k : Nat) (l0 : List Int) (l1 : List Int) : Option (List Int) := torusref07_Meet.l0 k l0 l1 ([] : List Int) 0
theorem torusref07_Meet.mono_l : ∀ k, (∀ y0 y1 y2 y3, LeO (torusref07_Meet.l0 k y0 y1 y2 y3) (torusref07_Meet.l0 (k + 1) y0 y1 y2 y3))
 |0 => fun _ _ _ _ r h => by simp [torusref07_Meet.l0] at h
 |k + 1 => by
  have ih0 := torusref07_Meet.mono_l k
  ·intro y0 y1 y2 y3
   unfold torusref07_Meet.l0
   repeat' first
   |(with_reducible exact ih0 _ _ _ _)
   |(with_reducible exact torusref07_In.mono _ _ _)
   |(with_reducible exact LeO.refl _)
   |(with_reducible exact LeO.none _)
   |(with_reducible refine LeO.ite ?_ ?_)
   |(with_reducible refine LeO.bind ?_ (fun _ => ?_))
   |exact ih0 _ _ _ _
   |exact torusref07_In.mono _ _ _
   |exact LeO.none _
   |refine LeO.ite ?_ ?_
   |refine LeO.bind ?_ (fun _ => ?_)
theorem torusref07_Meet.mono : ∀ a0 a1 k, LeO (torusref07_Meet.f k a0 a1) (torusref07_Meet.f (k + 1) a0 a1) := by
 intro a0 a1 k
 have ih0 := torusref07_Meet.mono_l k
 unfold torusref07_Meet.f
 repeat' first
   |(with_reducible exact ih0 _ _ _ _)
   |(with_reducible exact torusref07_In.mono _ _ _)
   |(with_reducible exact LeO.refl _)
   |(with_reducible exact LeO.none _)
   |(with_reducible refine LeO.ite ?_ ?_)
   |(with_reducible refine LeO.bind ?_ (fun _ => ?_))
   |exact ih0 _ _ _ _
   |exact torusref07_In.mono _ _ _
   |exact LeO.none _
   |refine LeO.ite ?_ ?_
   |refine LeO.bind ?_ (fun _ => ?_)
set_option maxHeartbeats 8000000 in
set_option maxRecDepth 100000 in
theorem torusref07_Meet.calls (k : Nat) (A0 : Option Addr) (c0 : Nat) (l0 : List Int) (A1 : Option Addr) (c1 : Nat) (l1 : List Int) (r : List Int) (w : World) (hr0 : Kd.C (Kd.int .i64) w A0 l0.length l0) (hc0 : l0.length ≤ c0) (hr1 : Kd.C (Kd.int .i64) w A1 l1.length l1) (hc1 : l1.length ≤ c1) (h : torusref07_Meet.f k l0 l1 = some r) :
  Calls Tryd.prog 27 #[.slice A0 l0.length c0, .slice A1 l1.length c1] w fun e w' => ∃ v0_ : Value, e = .returned (v0_) ∧ Kd.R (Kd.int .i64) 3 w' w.heap.size (fun _ => True) v0_ r ∧ Below w.heap.size w w' := by
 have HR0 := Aside0.mk hr0
 have HC0 := Aside0.mk hc0
 clear hr0 hc0
 have HR1 := Aside0.mk hr1
 have HC1 := Aside0.mk hc1
 clear hr1 hc1
 have HB := Aside0.mk (Below.refl w.heap.size w)
 have H : (torusref07_Meet.l0 k l0 l1 ([] : List Int) 0) = some r := h
 clear h
 have H' := Aside0.mk H
 clear H
 go_enter Tryd.func27, Tryd.ntmps27
 go_wp2
 go_loopg [5, 6] k (fun kq v5 v6 w' => ∃ (x5_1 : List Int) (x6_1 : Int), v6 = .int .i64 x6_1 ∧ Aside0 (torusref07_Meet.l0 kq l0 l1 x5_1 x6_1 = some r) ∧ Aside0 (kq ≤ k) ∧ Aside0 (Kd.R (Kd.int .i64) 3 w' w.heap.size (fun _ => True) v5 x5_1) ∧ Aside0 (Below w.heap.size w w'))
 case atStart => exact ⟨(([] : List Int)), (0), sd_, H', ⟨Nat.le_refl _⟩, ⟨by first | exact Kd.R_nil _ _ _ _ _ | exact Kd.N_nil _ _ _ _ _ | exact Kd.V_nil _ _ _ _ _ | exact Kd.Q_nil _ _ _ _ _ | exact Kd.S_nil _ _ _ _ _⟩, ⟨bw_⟩⟩
 case round =>
  clear H'
  try clear c1
  try clear c2
  try clear p2
  obtain ⟨x5_1, x6_1, rfl, HA, HK1, HO_5, HB⟩ := hrel
  cases gk with
  |zero => exact absurd HA.out (by simp [torusref07_Meet.l0])
  |succ k1 =>
   have H := HA.out
   clear HA
   simp only [torusref07_Meet.l0] at H
   by_cases c3 : x6_1 < (l0.length : Int)
   ·rw [if_pos c3] at H
    have c3b0 : decide (x6_1 < (l0.length : Int)) = true := decide_eq_true c3
    clear c3
    by_cases c4 : 0 ≤ x6_1
    ·rw [if_pos c4] at H
     have c4b0 : decide (0 ≤ x6_1) = true := decide_eq_true c4
     clear c4
     replace H := Option.bind_eq_some_iff.mp H
     obtain ⟨t411, A50, H⟩ := H
     replace H : (if t411 = true then (if x5_1.length < 17592186044416 then (torusref07_Meet.l0 k1 l0 l1 (x5_1 ++ [rd l0 x6_1]) (wrap64 (x6_1 + 1))) else (none)) else (torusref07_Meet.l0 k1 l0 l1 x5_1 (wrap64 (x6_1 + 1)))) = some r := H
     have A5 := Aside0.mk A50
     clear A50
     by_cases c6 : t411 = true
     ·subst c6
      have H1 : (if x5_1.length < 17592186044416 then (torusref07_Meet.l0 k1 l0 l1 (x5_1 ++ [rd l0 x6_1]) (wrap64 (x6_1 + 1))) else (none)) = some r := by rw [if_pos rfl] at H; exact H
      clear H
      have H := H1
      clear H1
      by_cases c7 : x5_1.length < 17592186044416
      ·rw [if_pos c7] at H
       have LMc7 := Aside0.mk c7
       clear c7
       obtain ⟨y413, hy413⟩ : ∃ y_ : List Int, y_ = (x5_1 ++ [rd l0 x6_1]) := ⟨_, rfl⟩
       replace H : (torusref07_Meet.l0 k1 l0 l1 y413 (wrap64 (x6_1 + 1))) = some r := by first | (rw [hy413]; with_reducible exact H) | (have H2_ := (Option.bind_some _ _).symm.trans H; rw [hy413]; with_reducible exact H2_) | (have H2_ := (Option.bind_some _ _).symm.trans H; with_reducible exact H2_) | with_reducible exact H | (rw [hy413]; exact H) | exact H
       have Ny413 := Aside0.mk hy413
       clear hy413
       have H' := Aside0.mk H
       clear H
       have p410 : 0 ≤ (x6_1 : Int) := of_decide_eq_true as_
       have q410 : x6_1 < (l0.length : Int) := of_decide_eq_true as_
       obtain ⟨ad410, e410, hx410_0⟩ := Kd.at_int HR0.out x6_1 p410 q410
       cases e410
       replace hx410_0 := (HB.out.cell (World.block_lt_of_cell? w _ hx410_0)).trans hx410_0
       replace p410 := eq_true p410
       replace q410 := eq_true q410
       go_wp2_with (first | ((with_reducible refine gate_callee (f := 46) rfl ?_); refine goesL_ (some 18) rfl rfl Tryd.func46 (by kernel_rfl) rfl #[.slice A1 l1.length c1, .int .i64 (rd l0 x6_1)] rfl ag_ ?_; (with_reducible refine (torusref07_In.calls k1 _ _ l1 (rd l0 x6_1) true _ ?side1 ?side2 A5.out).mono ?_); (case side1 => exact cs_ (Kd.C_below HR1.out HB.out)); (case side2 => exact HC1.out); rintro e w' ⟨rfl, ⟨nd, rfl⟩⟩; refine ⟨_, rfl, ?_⟩; have p412 : 0 ≤ (x6_1 : Int) := of_decide_eq_true as_; have q412 : x6_1 < (l0.length : Int) := of_decide_eq_true as_; obtain ⟨ad412, e412, hx412_0⟩ := Kd.at_int HR0.out x6_1 p412 q412; obtain rfl : ad410 = ad412 := (by injection e412); replace hx412_0 := (HB.out.cell (World.block_lt_of_cell? w _ hx412_0)).trans hx412_0; replace p412 := eq_true p412; replace q412 := eq_true q412) | ((with_reducible refine gate_builtin (b := .append) (xs := #[.tmp 19, .tmp 24]) rfl ?_); at_builtin; refine Kd.R_append (Kd.int .i64) (w0 := w) w.heap.size rfl (.tmp 19) (.tmp 24) 22 3 (.int .i64 0) 8 rfl Tryd.underlying22 info3 rfl (by decide) (by omega) u5 x5_1 (rd l0 x6_1) [.int .i64 (rd l0 x6_1)] (fun _ => True) (fun _ => False) rfl rfl ?aP (fun _ hk => hk.elim) ?aF ?aO ?aB ?aS ?aL ?_; (case aP => exact rfl); (case aB => exact bw_); (case aF => exact (fun _ _ => trivial)); (case aO => exact (rRa_ HO_5.out)); (case aS => exact (below_size bw_)); (case aL => have := LMc7.out; omega); intro v414 w8 ho hb hg hat; rw [← Ny413.out] at ho; have n0_ := Aside0.mk (hb); have n1_ := Aside0.mk (ho); clear HB; clear HO_5; have HB := n0_; have HO415 := n1_; clear n0_ n1_; clear ho hb hg hat))
       go_roundg k1
       case measure => have := HK1.out; omega
       case rel => exact ⟨(y413), (wrap64 (x6_1 + 1)), sd_, H', ⟨by have := HK1.out; omega⟩, ⟨rRa_ HO415.out⟩, ⟨bw_⟩⟩
      ·rw [if_neg c7] at H
       exact absurd H (by simp)
     ·replace c6 := Bool.eq_false_iff.mpr c6
      subst c6
      have H1 : (torusref07_Meet.l0 k1 l0 l1 x5_1 (wrap64 (x6_1 + 1))) = some r := by rw [if_neg (show ¬ (false = true) by decide)] at H; exact H
      clear H
      have H := H1
      clear H1
      have H' := Aside0.mk H
      clear H
      have p410 : 0 ≤ (x6_1 : Int) := of_decide_eq_true as_
      have q410 : x6_1 < (l0.length : Int) := of_decide_eq_true as_
      obtain ⟨ad410, e410, hx410_0⟩ := Kd.at_int HR0.out x6_1 p410 q410
      cases e410
      replace hx410_0 := (HB.out.cell (World.block_lt_of_cell? w _ hx410_0)).trans hx410_0
      replace p410 := eq_true p410
      replace q410 := eq_true q410
      go_wp2_with (first | ((with_reducible refine gate_callee (f := 46) rfl ?_); refine goesL_ (some 18) rfl rfl Tryd.func46 (by kernel_rfl) rfl #[.slice A1 l1.length c1, .int .i64 (rd l0 x6_1)] rfl ag_ ?_; (with_reducible refine (torusref07_In.calls k1 _ _ l1 (rd l0 x6_1) false _ ?side1 ?side2 A5.out).mono ?_); (case side1 => exact cs_ (Kd.C_below HR1.out HB.out)); (case side2 => exact HC1.out); rintro e w' ⟨rfl, ⟨nd, rfl⟩⟩; refine ⟨_, rfl, ?_⟩))
      go_roundg k1
      case measure => have := HK1.out; omega
      case rel => exact ⟨(x5_1), (wrap64 (x6_1 + 1)), sd_, H', ⟨by have := HK1.out; omega⟩, ⟨rRa_ HO_5.out⟩, ⟨bw_⟩⟩
    ·rw [if_neg c4] at H
     exact absurd H (by simp)
   ·rw [if_neg c3] at H
    have c3b0 : decide (x6_1 < (l0.length : Int)) = false := decide_eq_false c3
    clear c3
    obtain rfl := Option.some.inj H
    go_wp2
    go_ret
    exact ⟨_, by first | rfl | (simp [errW_none, errW_some] <;> rfl) | (simp [*, errW_none, errW_some] <;> rfl), rRa_ HO_5.out, bw_⟩

end Go.Proofs.YticckanjfdcpaaaDoor.PSimplex
