/- Go functions as plain Lean functions, each with a proof that the Go code computes just that, and facts on them; conditions: those that each theorem states. -/
import Derived.Test.YtfmcgammhfdfnaaGreatDoorQExpansions6
namespace Go.Proofs.YtfmcgammhfdfnaaGreatDoor.PRatio
open Go.RowKit Go.Proofs.YtfmcgammhfdfnaaGreatDoorW.PrintWords Go.Proofs.YtfmcgammhfdfnaaGreatDoorW.PrintLast Go.Proofs.YtfmcgammhfdfnaaGreatDoorW.PrintMore
attribute [local go_sem] max2_int min2_int max_two min_two max_three min_three max_four min_four
set_option linter.unusedVariables false
set_option linter.unusedSimpArgs false
mutual
def torusref02_Quotient.j0 : Nat → ByteArray → ByteArray → Int → Int → Bool → Option (ByteArray × ByteArray)
 |0, _, _, _, _, _ => none
 |k + 1, x0, x1, x6, x8, x37 => if x37 = true then (if x8 = 0 then (none) else (if (Int.tmod x6 x8) = 0 then (torusref02_Quotient.j1 k x8 (wrap64 (Int.tdiv x6 x8)) (Int.tmod x6 x8) false) else (torusref02_Quotient.j1 k x8 (wrap64 (Int.tdiv x6 x8)) (Int.tmod x6 x8) ((decide ((Int.tmod x6 x8) < 0)) != (decide (x8 < 0)))))) else ((torusref02_digits.f k x0).bind fun bt605 => ((torusref02_digits.f k x1).bind fun bt609 => ((some (([] : List Int) : List Int)).bind fun y613 => (if 0 ≤ (mx 0 (wrap64 ((bt605.2.length : Int) - (mx 0 (wrap64 ((bt609.2.length : Int) - 1)))))) then (if (mx 0 (wrap64 ((bt605.2.length : Int) - (mx 0 (wrap64 ((bt609.2.length : Int) - 1)))))) ≤ (bt605.2.length : Int) then ((some (bt605.2.drop ((mx 0 (wrap64 ((bt605.2.length : Int) - (mx 0 (wrap64 ((bt609.2.length : Int) - 1)))))) : Int).toNat : List Int)).bind fun y616 => (if y613.length + y616.length < 17592186044416 then ((torusref02_trim.f k (y613 ++ y616)).bind fun t624 => (torusref02_Quotient.l0 k x1 bt605.1 bt605.2 bt609.1 bt609.2 ([] : List Int) t624 (wrap64 ((mx 0 (wrap64 ((bt605.2.length : Int) - (mx 0 (wrap64 ((bt609.2.length : Int) - 1)))))) - 1)))) else (none))) else (none)) else (none)))))
def torusref02_Quotient.j1 : Nat → Int → Int → Int → Bool → Option (ByteArray × ByteArray)
 |0, _, _, _, _ => none
 |k + 1, x8, x10, x11, x52 => if x52 = true then ((torusref02_Number.f k (wrap64 (x10 - 1))).bind fun t601 => ((torusref02_Number.f k (wrap64 (x11 + x8))).bind fun t602 => (some (t601, t602)))) else ((torusref02_Number.f k x10).bind fun t603 => ((torusref02_Number.f k x11).bind fun t604 => (some (t603, t604))))
def torusref02_Quotient.l0 : Nat → ByteArray → Bool → List Int → Bool → List Int → List Int → List Int → Int → Option (ByteArray × ByteArray)
 |0, _, _, _, _, _, _, _, _ => none
 |k + 1, x1, x12, x13, x14, x15, x17, x18, x19 => if x19 ≥ 0 then (if 0 ≤ x19 then (if x19 < (x13.length : Int) then ((some (([rd x13 x19] : List Int) : List Int)).bind fun y628 => (if y628.length + x18.length < 17592186044416 then ((torusref02_trim.f k (y628 ++ x18)).bind fun t634 => (torusref02_Quotient.l1 k x1 x12 x13 x14 x15 x17 t634 x19 0)) else (none))) else (none)) else (none)) else (torusref02_Quotient.l2 k x1 x12 x14 x17 x18 0)
def torusref02_Quotient.l1 : Nat → ByteArray → Bool → List Int → Bool → List Int → List Int → List Int → Int → Int → Option (ByteArray × ByteArray)
 |0, _, _, _, _, _, _, _, _, _ => none
 |k + 1, x1, x12, x13, x14, x15, x17, x18, x19, x20 => (torusref02_size.f k x18 x15).bind fun t637 => (if t637 ≥ 0 then ((torusref02_difference.f k x18 x15).bind fun t638 => (torusref02_Quotient.l1 k x1 x12 x13 x14 x15 x17 t638 x19 (wrap64 (x20 + 1)))) else (if x17.length < 17592186044416 then (torusref02_Quotient.l0 k x1 x12 x13 x14 x15 (x17 ++ [x20]) x18 (wrap64 (x19 - 1))) else (none)))
def torusref02_Quotient.l2 : Nat → ByteArray → Bool → Bool → List Int → List Int → Int → Option (ByteArray × ByteArray)
 |0, _, _, _, _, _, _ => none
 |k + 1, x1, x12, x14, x17, x18, x21 => if x21 < (wrap64 ((x17.length : Int) / 2)) then (if 0 ≤ (wrap64 ((wrap64 ((x17.length : Int) - 1)) - x21)) then (if (wrap64 ((wrap64 ((x17.length : Int) - 1)) - x21)) < (x17.length : Int) then (if 0 ≤ x21 then (if x21 < (x17.length : Int) then (torusref02_Quotient.l2 k x1 x12 x14 ((x17.set (x21 : Int).toNat (rd x17 (wrap64 ((wrap64 ((x17.length : Int) - 1)) - x21)))).set ((wrap64 ((wrap64 ((x17.length : Int) - 1)) - x21)) : Int).toNat (rd x17 x21)) x18 (wrap64 (x21 + 1))) else (none)) else (none)) else (none)) else (none)) else ((torusref02_text.f k (x12 != x14) x17).bind fun t648 => ((torusref02_text.f k x12 x18).bind fun t649 => (if t649.toList = ([48] : List UInt8) then (torusref02_Quotient.j5 k x1 t648 t649 false) else (torusref02_Quotient.j5 k x1 t648 t649 (x12 != x14)))))
def torusref02_Quotient.j5 : Nat → ByteArray → ByteArray → ByteArray → Bool → Option (ByteArray × ByteArray)
 |0, _, _, _, _ => none
 |k + 1, x1, x22, x23, x156 => if x156 = true then ((torusref02_Minus.f k x22 (⟨#[49]⟩ : ByteArray)).bind fun t650 => ((torusref02_Plus.f k x23 x1).bind fun t651 => (some (t650, t651)))) else (some (x22, x23))
end
def torusref02_Quotient.f (k : Nat) (a0 : ByteArray) (a1 : ByteArray) : Option (ByteArray × ByteArray) := (torusref02_short.f k a0).bind fun bt597 => ((torusref02_short.f k a1).bind fun bt599 => (if bt597.2 = true then (torusref02_Quotient.j0 k a0 a1 bt597.1 bt599.1 bt599.2) else (torusref02_Quotient.j0 k a0 a1 bt597.1 bt599.1 false)))
def torusref02_Quotient.T4 : Bool × List (List Nat × List Nat) := (true, [([], []), ([], []), ([0, 1], [0, 1]), ([], []), ([], []), ([3, 4], [3, 4]), ([2, 0, 1, 2], [2]), ([5, 6, 0, 1, 2, 3, 4, 5, 6], [5])])
def torusref02_Quotient.B4 : List Nat := [0, 0, 3, 0, 0, 24, 7, 127]
theorem torusref02_Quotient.tab4 : rtab .any (opsOf Tryz.f159 4) = torusref02_Quotient.T4 := by kernel_rfl
theorem torusref02_Quotient.bits4 : waitsOk torusref02_Quotient.T4.2 torusref02_Quotient.B4 = true := by kernel_rfl
def torusref02_Quotient.T25 : Bool × List (List Nat × List Nat) := (true, [([], []), ([], []), ([], []), ([], []), ([3], [3]), ([4], [4]), ([], []), ([5, 6], [5, 6]), ([], []), ([], []), ([9], [9]), ([10], [10]), ([], []), ([11, 12], [11, 12]), ([8, 13], [8, 13]), ([14], [14]), ([], []), ([], []), ([16, 17], [16, 17]), ([18], [18]), ([0, 1, 0, 1, 8, 9, 10, 11, 12, 13, 14, 15, 19], [0, 1]), ([20, 15, 0, 1, 8, 9, 10, 11, 12, 13, 14, 15, 19], [15, 20]), ([2, 7, 0, 1, 2, 3, 4, 5, 6, 7, 8, 9, 10, 11, 12, 13, 14, 15, 16, 17, 18, 19, 20, 21], [2, 7]), ([22, 19, 21, 0, 1, 2, 3, 4, 5, 6, 7, 8, 9, 10, 11, 12, 13, 14, 15, 16, 17, 18, 19, 20, 21], [19, 22])])
def torusref02_Quotient.B25 : List Nat := [0, 0, 0, 0, 8, 24, 0, 120, 0, 0, 512, 1536, 0, 7680, 16128, 32512, 0, 0, 196608, 458752, 1048323, 2096899, 4194303, 8388607]
theorem torusref02_Quotient.tab25 : rtab .any (opsOf Tryz.f159 25) = torusref02_Quotient.T25 := by kernel_rfl
theorem torusref02_Quotient.bits25 : waitsOk torusref02_Quotient.T25.2 torusref02_Quotient.B25 = true := by kernel_rfl
set_option maxHeartbeats 8000000 in
set_option maxRecDepth 100000 in
theorem torusref02_Quotient.calls (k : Nat) (a0 : ByteArray) (a1 : ByteArray) (r1 : ByteArray) (r2 : ByteArray) (w : World) (h : torusref02_Quotient.f k a0 a1 = some (r1, r2)) :
  Calls Tryz.prog 159 #[.string a0, .string a1] w fun e w' => e = .returned (.tuple #[.string r1, .string r2]) ∧ Below w.heap.size w w' := by
 have HB := Aside0.mk (Below.refl w.heap.size w)
 have H : ((torusref02_short.f k a0).bind fun bt597 => ((torusref02_short.f k a1).bind fun bt599 => (if bt597.2 = true then (torusref02_Quotient.j0 k a0 a1 bt597.1 bt599.1 bt599.2) else (torusref02_Quotient.j0 k a0 a1 bt597.1 bt599.1 false)))) = some (r1, r2) := h
 clear h
 replace H := Option.bind_eq_some_iff.mp H
 obtain ⟨⟨t597, t598⟩, A30, H⟩ := H
 replace H : ((torusref02_short.f k a1).bind fun bt599 => (if t598 = true then (torusref02_Quotient.j0 k a0 a1 t597 bt599.1 bt599.2) else (torusref02_Quotient.j0 k a0 a1 t597 bt599.1 false))) = some (r1, r2) := H
 have A3 := Aside0.mk A30
 clear A30
 replace H := Option.bind_eq_some_iff.mp H
 obtain ⟨⟨t599, t600⟩, A40, H⟩ := H
 replace H : (if t598 = true then (torusref02_Quotient.j0 k a0 a1 t597 t599 t600) else (torusref02_Quotient.j0 k a0 a1 t597 t599 false)) = some (r1, r2) := H
 have A4 := Aside0.mk A40
 clear A40
 have HC5 := Aside0.mk H
 clear H
 go_enter Tryz.func159, Tryz.ntmps159
 go_upto_region 3 with (first | ((with_reducible refine gate_callee (f := 163) rfl ?_); refine goesL_ (some 26) rfl rfl Tryz.func163 (by kernel_rfl) rfl #[.string a0] rfl ag_ ?_; (with_reducible refine (torusref02_short.calls k a0 t597 t598 _ A3.out).mono ?_); rintro e w' ⟨rfl, ⟨nd, rfl⟩⟩; refine ⟨_, rfl, ?_⟩) | ((with_reducible refine gate_callee (f := 163) rfl ?_); refine goesL_ (some 31) rfl rfl Tryz.func163 (by kernel_rfl) rfl #[.string a1] rfl ag_ ?_; (with_reducible refine (torusref02_short.calls k a1 t599 t600 _ A4.out).mono ?_); rintro e w' ⟨rfl, ⟨nd, rfl⟩⟩; refine ⟨_, rfl, ?_⟩))
 (try simp only [Act.put, List.setIfInBounds_toArray, List.set_cons_zero, List.set_cons_succ])
 go_cut [37] (fun v37 wc => ∃ (kq : Nat) (x37_4 : Bool), v37 = .bool x37_4 ∧ Aside0 (torusref02_Quotient.j0 kq a0 a1 t597 t599 x37_4 = some (r1, r2)) ∧ Aside0 (kq ≤ k) ∧ Aside0 (Below w.heap.size w wc))
 case first =>
  have H := HC5.out
  clear HC5
  by_cases c6 : t598 = true
  ·subst c6
   rw [if_pos rfl] at H
   have H' := Aside0.mk H
   clear H
   go_wp2
   go_meet
   case rel => exact ⟨_, (t600), sd_, H', ⟨by first | omega | exact Nat.le_refl _⟩, ⟨bw_⟩⟩
  ·replace c6 := Bool.eq_false_iff.mpr c6
   subst c6
   rw [if_neg (show ¬ (false = true) by decide)] at H
   have H' := Aside0.mk H
   clear H
   go_wp2
   go_meet
   case rel => exact ⟨_, (false), sd_, H', ⟨by first | omega | exact Nat.le_refl _⟩, ⟨bw_⟩⟩
 case rest =>
  clear HC5
  try clear c1
  try clear p2
  try clear c6
  obtain ⟨kq, x37_4, rfl, HA, HJ4, HB⟩ := hcut
  cases kq with
  |zero => exact absurd HA.out (by simp [torusref02_Quotient.j0])
  |succ kj4 =>
   have H := HA.out
   clear HA
   simp only [torusref02_Quotient.j0] at H
   by_cases c7 : x37_4 = true
   ·subst c7
    rw [if_pos rfl] at H
    by_cases c8 : t599 = 0
    ·rw [if_pos c8] at H
     exact absurd H (by simp)
    ·rw [if_neg c8] at H
     have c8b0 : (t599 == 0) = false := beq_eq_false_iff_ne.mpr c8
     have c8b1 : (t599 != 0) = true := bne_iff_ne.mpr c8
     have HC9 := Aside0.mk H
     clear H
     try go_wp2
     have n0_ := Aside0.mk (below_drew1 HB.out)
     clear HB
     have HB := n0_
     clear n0_
     refine start_ (n := 8) (S := fun w' => True) (ds := []) #[false, false, false, false, false, false, false, false] (by kernel_rfl) rfl rfl trivial (fun hH => ?_); refine with_tabW torusref02_Quotient.tab4 torusref02_Quotient.bits4 (fun HT_ HW_ => ?_)
     generalize wc.drew = w10 at HB hH ⊢
     refine pq_ 0 (some 38) #[true, false, false, false, false, false, false, false] HT_.out ?_
     refine pq_ 1 (some 39) #[true, true, false, false, false, false, false, false] HT_.out ?_
     refine pq_ 2 (some 40) #[true, true, true, false, false, false, false, false] HT_.out ?_
     refine pq_ 3 (some 41) #[true, true, true, true, false, false, false, false] HT_.out ?_
     refine pq_ 4 (some 42) #[true, true, true, true, true, false, false, false] HT_.out ?_
     refine pq_ 5 (some 43) #[true, true, true, true, true, true, false, false] HT_.out ?_
     refine pq_ 6 (some 10) #[true, true, true, true, true, true, true, false] HT_.out ?_
     refine pq_ 7 (some 11) #[true, true, true, true, true, true, true, true] HT_.out ?_
     refine done_ (done_of HT_.out (by kernel_rfl)) ?_
     go_upto_region 5 with (fail)
     go_cut [52] (fun v52 wc => ∃ (kq : Nat) (x52_8 : Bool), v52 = .bool x52_8 ∧ Aside0 (torusref02_Quotient.j1 kq t599 (wrap64 (Int.tdiv t597 t599)) (Int.tmod t597 t599) x52_8 = some (r1, r2)) ∧ Aside0 (kq ≤ kj4) ∧ Aside0 (Below w.heap.size w wc))
     case first =>
      have H := HC9.out
      clear HC9
      by_cases c11 : (Int.tmod t597 t599) = 0
      ·rw [if_pos c11] at H
       have c11b0 : ((Int.tmod t597 t599) == 0) = true := beq_iff_eq.mpr c11
       have c11b1 : ((Int.tmod t597 t599) != 0) = false := bne_eq_false_iff_eq.mpr c11
       clear c11
       (first | rw [c11b0] | (simp only [i64_w, i32_w]; rw [c11b0]) | skip)
       have H' := Aside0.mk H
       clear H
       go_wp2
       go_meet
       case rel => exact ⟨_, (false), sd_, H', ⟨by have := HJ4.out; first | omega | exact Nat.le_refl _⟩, ⟨bw_⟩⟩
      ·rw [if_neg c11] at H
       have c11b0 : ((Int.tmod t597 t599) == 0) = false := beq_eq_false_iff_ne.mpr c11
       have c11b1 : ((Int.tmod t597 t599) != 0) = true := bne_iff_ne.mpr c11
       (first | rw [c11b0] | (simp only [i64_w, i32_w]; rw [c11b0]) | skip)
       have H' := Aside0.mk H
       clear H
       go_wp2
       go_meet
       case rel => exact ⟨_, (((decide ((Int.tmod t597 t599) < 0)) != (decide (t599 < 0)))), sd_, H', ⟨by have := HJ4.out; first | omega | exact Nat.le_refl _⟩, ⟨bw_⟩⟩
     case rest =>
      clear HC9
      try clear c1
      try clear p2
      try clear c6
      try clear p6
      try clear c7
      try clear c8
      try clear c8b0
      try clear c8b1
      try clear c11
      try clear c11b0
      try clear c11b1
      try clear p2
      obtain ⟨kq, x52_8, rfl, HA, HJ8, HB⟩ := hcut
      cases kq with
      |zero => exact absurd HA.out (by simp [torusref02_Quotient.j1])
      |succ kj8 =>
       have H := HA.out
       clear HA
       simp only [torusref02_Quotient.j1] at H
       by_cases c12 : x52_8 = true
       ·subst c12
        rw [if_pos rfl] at H
        replace H := Option.bind_eq_some_iff.mp H
        obtain ⟨t601, A130, H⟩ := H
        replace H : ((torusref02_Number.f kj8 (wrap64 ((Int.tmod t597 t599) + t599))).bind fun t602 => (some (t601, t602))) = some (r1, r2) := H
        have A13 := Aside0.mk A130
        clear A130
        replace H := Option.bind_eq_some_iff.mp H
        obtain ⟨t602, A140, H⟩ := H
        replace H : (some (t601, t602)) = some (r1, r2) := H
        have A14 := Aside0.mk A140
        clear A140
        simp only [Option.some.injEq, Prod.mk.injEq] at H
        obtain ⟨rfl, rfl⟩ := H
        go_wp2_with (first | ((with_reducible refine gate_callee (f := 109) rfl ?_); refine goesL_ (some 59) rfl rfl Tryz.func109 (by kernel_rfl) rfl #[.int .i64 (wrap64 ((wrap64 (Int.tdiv t597 t599)) - 1))] rfl ag_ ?_; (with_reducible refine (torusref02_Number.calls kj8 (wrap64 ((wrap64 (Int.tdiv t597 t599)) - 1)) t601 _ A13.out).mono ?_); rintro e w15 ⟨rfl, hb⟩; refine ⟨_, rfl, ?_⟩; have n0_ := Aside0.mk (below_step bw_ hb); clear HB; have HB := n0_; clear n0_; (try clear hb); (try clear hb2); (try clear hk); (try clear hi)) | ((with_reducible refine gate_callee (f := 109) rfl ?_); refine goesL_ (some 61) rfl rfl Tryz.func109 (by kernel_rfl) rfl #[.int .i64 (wrap64 ((Int.tmod t597 t599) + t599))] rfl ag_ ?_; (with_reducible refine (torusref02_Number.calls kj8 (wrap64 ((Int.tmod t597 t599) + t599)) t602 _ A14.out).mono ?_); rintro e w16 ⟨rfl, hb⟩; refine ⟨_, rfl, ?_⟩; have n0_ := Aside0.mk (below_step bw_ hb); clear HB; have HB := n0_; clear n0_; (try clear hb); (try clear hb2); (try clear hk); (try clear hi)))
        go_ret2
        exact ⟨by first | rfl | (simp [errW_none, errW_some] <;> rfl) | (simp [*, errW_none, errW_some] <;> rfl), bw_⟩
       ·replace c12 := Bool.eq_false_iff.mpr c12
        subst c12
        rw [if_neg (show ¬ (false = true) by decide)] at H
        replace H := Option.bind_eq_some_iff.mp H
        obtain ⟨t603, A170, H⟩ := H
        replace H : ((torusref02_Number.f kj8 (Int.tmod t597 t599)).bind fun t604 => (some (t603, t604))) = some (r1, r2) := H
        have A17 := Aside0.mk A170
        clear A170
        replace H := Option.bind_eq_some_iff.mp H
        obtain ⟨t604, A180, H⟩ := H
        replace H : (some (t603, t604)) = some (r1, r2) := H
        have A18 := Aside0.mk A180
        clear A180
        simp only [Option.some.injEq, Prod.mk.injEq] at H
        obtain ⟨rfl, rfl⟩ := H
        go_wp2_with (first | ((with_reducible refine gate_callee (f := 109) rfl ?_); refine goesL_ (some 59) rfl rfl Tryz.func109 (by kernel_rfl) rfl #[.int .i64 (wrap64 (Int.tdiv t597 t599))] rfl ag_ ?_; (with_reducible refine (torusref02_Number.calls kj8 (wrap64 (Int.tdiv t597 t599)) t603 _ A17.out).mono ?_); rintro e w19 ⟨rfl, hb⟩; refine ⟨_, rfl, ?_⟩; have n0_ := Aside0.mk (below_step bw_ hb); clear HB; have HB := n0_; clear n0_; (try clear hb); (try clear hb2); (try clear hk); (try clear hi)) | ((with_reducible refine gate_callee (f := 109) rfl ?_); refine goesL_ (some 61) rfl rfl Tryz.func109 (by kernel_rfl) rfl #[.int .i64 (Int.tmod t597 t599)] rfl ag_ ?_; (with_reducible refine (torusref02_Number.calls kj8 (Int.tmod t597 t599) t604 _ A18.out).mono ?_); rintro e w20 ⟨rfl, hb⟩; refine ⟨_, rfl, ?_⟩; have n0_ := Aside0.mk (below_step bw_ hb); clear HB; have HB := n0_; clear n0_; (try clear hb); (try clear hb2); (try clear hk); (try clear hi)))
        go_ret2
        exact ⟨by first | rfl | (simp [errW_none, errW_some] <;> rfl) | (simp [*, errW_none, errW_some] <;> rfl), bw_⟩
   ·replace c7 := Bool.eq_false_iff.mpr c7
    subst c7
    rw [if_neg (show ¬ (false = true) by decide)] at H
    replace H := Option.bind_eq_some_iff.mp H
    obtain ⟨⟨t605, t606⟩, A210, H⟩ := H
    replace H : ((torusref02_digits.f kj4 a1).bind fun bt609 => ((some (([] : List Int) : List Int)).bind fun y613 => (if 0 ≤ (mx 0 (wrap64 ((t606.length : Int) - (mx 0 (wrap64 ((bt609.2.length : Int) - 1)))))) then (if (mx 0 (wrap64 ((t606.length : Int) - (mx 0 (wrap64 ((bt609.2.length : Int) - 1)))))) ≤ (t606.length : Int) then ((some (t606.drop ((mx 0 (wrap64 ((t606.length : Int) - (mx 0 (wrap64 ((bt609.2.length : Int) - 1)))))) : Int).toNat : List Int)).bind fun y616 => (if y613.length + y616.length < 17592186044416 then ((torusref02_trim.f kj4 (y613 ++ y616)).bind fun t624 => (torusref02_Quotient.l0 kj4 a1 t605 t606 bt609.1 bt609.2 ([] : List Int) t624 (wrap64 ((mx 0 (wrap64 ((t606.length : Int) - (mx 0 (wrap64 ((bt609.2.length : Int) - 1)))))) - 1)))) else (none))) else (none)) else (none)))) = some (r1, r2) := H
    have A21 := Aside0.mk A210
    clear A210
    replace H := Option.bind_eq_some_iff.mp H
    obtain ⟨⟨t609, t610⟩, A220, H⟩ := H
    replace H : ((some (([] : List Int) : List Int)).bind fun y613 => (if 0 ≤ (mx 0 (wrap64 ((t606.length : Int) - (mx 0 (wrap64 ((t610.length : Int) - 1)))))) then (if (mx 0 (wrap64 ((t606.length : Int) - (mx 0 (wrap64 ((t610.length : Int) - 1)))))) ≤ (t606.length : Int) then ((some (t606.drop ((mx 0 (wrap64 ((t606.length : Int) - (mx 0 (wrap64 ((t610.length : Int) - 1)))))) : Int).toNat : List Int)).bind fun y616 => (if y613.length + y616.length < 17592186044416 then ((torusref02_trim.f kj4 (y613 ++ y616)).bind fun t624 => (torusref02_Quotient.l0 kj4 a1 t605 t606 t609 t610 ([] : List Int) t624 (wrap64 ((mx 0 (wrap64 ((t606.length : Int) - (mx 0 (wrap64 ((t610.length : Int) - 1)))))) - 1)))) else (none))) else (none)) else (none))) = some (r1, r2) := H
    have A22 := Aside0.mk A220
    clear A220
    obtain ⟨ji23, hji23⟩ : ∃ j_ : Int, (mx 0 (wrap64 ((t610.length : Int) - 1))) = j_ := ⟨_, rfl⟩
    replace H : ((some (([] : List Int) : List Int)).bind fun y613 => (if 0 ≤ (mx 0 (wrap64 ((t606.length : Int) - (ji23)))) then (if (mx 0 (wrap64 ((t606.length : Int) - (ji23)))) ≤ (t606.length : Int) then ((some (t606.drop ((mx 0 (wrap64 ((t606.length : Int) - (ji23)))) : Int).toNat : List Int)).bind fun y616 => (if y613.length + y616.length < 17592186044416 then ((torusref02_trim.f kj4 (y613 ++ y616)).bind fun t624 => (torusref02_Quotient.l0 kj4 a1 t605 t606 t609 t610 ([] : List Int) t624 (wrap64 ((mx 0 (wrap64 ((t606.length : Int) - (ji23)))) - 1)))) else (none))) else (none)) else (none))) = some (r1, r2) := by first | (rw [hji23] at H; exact H) | (simp only [hji23] at H ⊢; exact H)
    (try rw [hji23] at A21)
    (try rw [hji23] at A22)
    (try (have hji23l : 0 ≤ ji23 := by (rw [← hji23]; unfold mx; (repeat' split) <;> omega)))
    (try (have hji23m : 0 ≤ ji23 := by omega))
    have hji23_ : (if 0 < (wrap64 ((t610.length : Int) - 1)) then (wrap64 ((t610.length : Int) - 1)) else 0) = ji23 := hji23
    (try (have hji23n := hji23_; simp only [Int.ofNat_lt] at hji23n))
    obtain ⟨ji24, hji24⟩ : ∃ j_ : Int, (mx 0 (wrap64 ((t606.length : Int) - (ji23)))) = j_ := ⟨_, rfl⟩
    replace H : ((some (([] : List Int) : List Int)).bind fun y613 => (if 0 ≤ (ji24) then (if (ji24) ≤ (t606.length : Int) then ((some (t606.drop ((ji24) : Int).toNat : List Int)).bind fun y616 => (if y613.length + y616.length < 17592186044416 then ((torusref02_trim.f kj4 (y613 ++ y616)).bind fun t624 => (torusref02_Quotient.l0 kj4 a1 t605 t606 t609 t610 ([] : List Int) t624 (wrap64 ((ji24) - 1)))) else (none))) else (none)) else (none))) = some (r1, r2) := by first | (rw [hji24] at H; exact H) | (simp only [hji24] at H ⊢; exact H)
    (try rw [hji24] at A21)
    (try rw [hji24] at A22)
    have hji24_ : (if 0 < (wrap64 ((t606.length : Int) - (ji23))) then (wrap64 ((t606.length : Int) - (ji23))) else 0) = ji24 := hji24
    (try (have hji24n := hji24_; simp only [Int.ofNat_lt] at hji24n))
    obtain ⟨y613, hy613⟩ : ∃ y_ : List Int, y_ = (([] : List Int)) := ⟨_, rfl⟩
    replace H : (if 0 ≤ (ji24) then (if (ji24) ≤ (t606.length : Int) then ((some (t606.drop ((ji24) : Int).toNat : List Int)).bind fun y616 => (if y613.length + y616.length < 17592186044416 then ((torusref02_trim.f kj4 (y613 ++ y616)).bind fun t624 => (torusref02_Quotient.l0 kj4 a1 t605 t606 t609 t610 ([] : List Int) t624 (wrap64 ((ji24) - 1)))) else (none))) else (none)) else (none)) = some (r1, r2) := by first | (rw [hy613]; with_reducible exact H) | (have H2_ := (Option.bind_some _ _).symm.trans H; rw [hy613]; with_reducible exact H2_) | (have H2_ := (Option.bind_some _ _).symm.trans H; with_reducible exact H2_) | with_reducible exact H | (rw [hy613]; exact H) | exact H
    have Ny613 := Aside0.mk hy613
    clear hy613
    by_cases c25 : 0 ≤ (ji24)
    ·rw [if_pos c25] at H
     have c25b0 := eq_true c25
     have c25b1 : decide (0 ≤ (ji24)) = true := decide_eq_true c25
     clear c25
     by_cases c26 : (ji24) ≤ (t606.length : Int)
     ·rw [if_pos c26] at H
      have c26b0 := eq_true c26
      have c26b1 : decide ((ji24) ≤ (t606.length : Int)) = true := decide_eq_true c26
      clear c26
      obtain ⟨y616, hy616⟩ : ∃ y_ : List Int, y_ = (t606.drop ((ji24) : Int).toNat) := ⟨_, rfl⟩
      replace H : (if y613.length + y616.length < 17592186044416 then ((torusref02_trim.f kj4 (y613 ++ y616)).bind fun t624 => (torusref02_Quotient.l0 kj4 a1 t605 t606 t609 t610 ([] : List Int) t624 (wrap64 ((ji24) - 1)))) else (none)) = some (r1, r2) := by first | (rw [hy616]; with_reducible exact H) | (have H2_ := (Option.bind_some _ _).symm.trans H; rw [hy616]; with_reducible exact H2_) | (have H2_ := (Option.bind_some _ _).symm.trans H; with_reducible exact H2_) | with_reducible exact H | (rw [hy616]; exact H) | exact H
      have Ny616 := Aside0.mk hy616
      clear hy616
      by_cases c27 : y613.length + y616.length < 17592186044416
      ·rw [if_pos c27] at H
       have LMc27 := Aside0.mk c27
       clear c27
       obtain ⟨y621, hy621⟩ : ∃ y_ : List Int, y_ = (y613 ++ y616) := ⟨_, rfl⟩
       replace H : ((torusref02_trim.f kj4 y621).bind fun t624 => (torusref02_Quotient.l0 kj4 a1 t605 t606 t609 t610 ([] : List Int) t624 (wrap64 ((ji24) - 1)))) = some (r1, r2) := by first | (rw [hy621]; with_reducible exact H) | (have H2_ := (Option.bind_some _ _).symm.trans H; rw [hy621]; with_reducible exact H2_) | (have H2_ := (Option.bind_some _ _).symm.trans H; with_reducible exact H2_) | with_reducible exact H | (rw [hy621]; exact H) | exact H
       have Ny621 := Aside0.mk hy621
       clear hy621
       replace H := Option.bind_eq_some_iff.mp H
       obtain ⟨t624, A280, H⟩ := H
       replace H : (torusref02_Quotient.l0 kj4 a1 t605 t606 t609 t610 ([] : List Int) t624 (wrap64 ((ji24) - 1))) = some (r1, r2) := H
       have A28 := Aside0.mk A280
       clear A280
       have H' := Aside0.mk H
       clear H
       go_wp2_with (first | ((with_reducible refine gate_callee (f := 156) rfl ?_); refine goesL_ (some 64) rfl rfl Tryz.func156 (by kernel_rfl) rfl #[.string a0] rfl ag_ ?_; (with_reducible refine (torusref02_digits.calls kj4 a0 t605 t606 _ A21.out).mono ?_); rintro e w29 ⟨v607, rfl, ho0, hb⟩; refine ⟨_, rfl, ?_⟩; have n0_ := Aside0.mk (Kd.V_lower (Kd.V_mono (ok' := fun k_ => True) ho0 (fun k_ hk_ => trivial)) (below_size bw_)); have n1_ := Aside0.mk (below_step bw_ hb); clear HB; have HO608 := n0_; have HB := n1_; clear n0_ n1_; (try clear hb); (try clear hb2); (try clear hk); (try clear hi); (try clear ho0)) | ((with_reducible refine gate_callee (f := 156) rfl ?_); refine goesL_ (some 69) rfl rfl Tryz.func156 (by kernel_rfl) rfl #[.string a1] rfl ag_ ?_; (with_reducible refine (torusref02_digits.calls kj4 a1 t609 t610 _ A22.out).mono ?_); rintro e w30 ⟨v611, rfl, ho0, hb⟩; refine ⟨_, rfl, ?_⟩; have n0_ := Aside0.mk (Kd.V_below (rVa_ HO608.out) hb); have n1_ := Aside0.mk (Kd.V_lower (Kd.V_mono (ok' := fun k_ => True) ho0 (fun k_ hk_ => trivial)) (below_size bw_)); have n2_ := Aside0.mk (below_step bw_ hb); clear HO608; clear HB; have HO608 := n0_; have HO612 := n1_; have HB := n2_; clear n0_ n1_ n2_; (try clear hb); (try clear hb2); (try clear hk); (try clear hi); (try clear ho0); obtain ⟨Ao31, co31, eo31⟩ := Kd.V_slice HO608.out; subst eo31; obtain ⟨Ao32, co32, eo32⟩ := Kd.V_slice HO612.out; subst eo32) | ((with_reducible refine gate_dst (N := 80) rfl ?_); refine Kd.R_lit (Kd.int .i64) _ 3 ?hg (N := 80) ?hd (xs := ([] : List Int)) (inner := []) (ok := fun _ => True) (okp := fun _ => True) ?hr ?hp (fun _ hk => hk) trivial (Below.refl _ _) (Nat.le_refl _) (by simp) ?_; (case hd => rfl); (case hg => rfl); (case hr => first | (go_simp; done) | (go_simp; rfl)); (case hp => exact (Reps.none _ _)); intro v614 w33 ho34 hb hg_ hnew_; clear hg_ hnew_; (first | rw [← Ny613.out] at ho34 | (simp only [Int.reduceToNat] at ho34; rw [← Ny613.out] at ho34)); have n0_ := Aside0.mk (Kd.V_elder' (rVa_ HO608.out) (Kd.R_base ho34) hb); have n1_ := Aside0.mk (Kd.V_elder' (rVa_ HO612.out) (Kd.R_base ho34) hb); have n2_ := Aside0.mk (Kd.R_lower ho34 (below_size bw_)); have n3_ := Aside0.mk (below_step bw_ hb); clear HO608; clear HO612; clear HB; have HO608 := n0_; have HO612 := n1_; have HO615 := n2_; have HB := n3_; clear n0_ n1_ n2_ n3_; clear hb ho34; have q35 : ((ji24) : Int) ≤ ((t606.length : Int) : Int) := of_decide_eq_true as_; obtain ⟨i035, hi035, _, hsz35, _⟩ := info_parts info3; have hroom35 : t606.length ≤ co31 := (Kd.V_reads' HO608.out).2.1; have hC35 : Kd.F (Kd.int .i64) _ _ Ao31 t606.length t606 := (Kd.V_at (base := w.heap.size) HO608.out).2.2; have q035 : (0 : Int) ≤ ((ji24) : Int) := of_decide_eq_true as_; have hcut35 := cut_from (P := Tryz.prog) 146 3 .i64 Tryz.underlying146 hi035 1 hsz35 Ao31 t606.length co31 (ji24) q035 q35; have hr35 := Kd.F_cut (m := ((ji24) : Int).toNat) (c := co31) hC35 (by omega) hroom35; obtain ⟨A35, hA35⟩ : ∃ A1, A1 = (if co31 = ((ji24) : Int).toNat then Ao31 else (Ao31 : Option Addr).map (·.add (((ji24) : Int).toNat * 1))) := ⟨_, rfl⟩; obtain ⟨c35, hc35⟩ : ∃ c1, c1 = co31 - ((ji24) : Int).toNat := ⟨_, rfl⟩; have hy35 : y616.length = t606.length - ((ji24) : Int).toNat := (by rw [Ny616.out, List.length_drop] <;> omega); rw [show (t606).drop ((ji24) : Int).toNat = y616 from Ny616.out.symm] at hr35; replace hr35 : Kd.F (Kd.int .i64) _ _ A35 y616.length y616 := (by rw [hA35]; exact hr35); rw [← hy35, ← hA35, ← hc35] at hcut35; have HO620 := Aside0.mk (show Kd.V (Kd.int .i64) 3 _ w.heap.size _ (.slice A35 y616.length c35) y616 from Kd.V_mk (by rw [hy35, hc35]; exact Nat.sub_le_sub_right hroom35 _) hr35); have HC620 := Aside0.mk (show y616.length ≤ c35 from by rw [hy35, hc35]; exact Nat.sub_le_sub_right hroom35 _); clear hr35 hC35 hroom35 hi035 hsz35 hc35; have KY35 := Aside0.mk hy35; have KA35 := Aside0.mk hA35; clear hy35 hA35; replace q35 := eq_true q35) | ((with_reducible refine gate_builtin (b := .append) (xs := #[.tmp 80, .tmp 83]) rfl ?_); at_builtin; refine Kd.R_append_rows (Kd.int .i64) (w0 := w) w.heap.size rfl (.tmp 80) (.tmp 83) 146 3 (.int .i64 0) 8 rfl Tryz.underlying146 info3 rfl (by decide) (by omega) v614 y613 y616 _ _ _ (fun _ => True) (fun _ => False) rfl rfl ?aO ?aR (fun _ _ h => h) (fun _ h => h.elim) ?aF ?aB ?aS ?aL ?_; (case aR => repeat (first | exact (Kd.V_reads' HO620.out).2.2 | (with_reducible refine Kd.C_alloc ?_ _) | (with_reducible refine Kd.C_drewN ?_ _) | (with_reducible refine Kd.C_drew ?_))); (case aB => exact bw_); (case aF => exact (fun _ _ => trivial)); (case aO => exact (rRa_ HO615.out)); (case aS => exact (below_size bw_)); (case aL => have := LMc27.out; omega); intro v622 w36 ho hb hg hat; rw [← Ny621.out] at ho; have n0_ := Aside0.mk (Kd.V_afterv (ok := (fun _ => True)) (rVa_ HO608.out) hg hat); have n1_ := Aside0.mk (Kd.V_afterv (ok := (fun _ => True)) (rVa_ HO612.out) hg hat); have n2_ := Aside0.mk (Kd.V_afterv (ok := (fun _ => True)) (rVa_ HO620.out) hg hat); have n3_ := Aside0.mk (hb); have n4_ := Aside0.mk (ho); clear HO608; clear HO612; clear HO620; clear HB; clear HO615; have HO608 := n0_; have HO612 := n1_; have HO620 := n2_; have HB := n3_; have HO623 := n4_; clear n0_ n1_ n2_ n3_ n4_; clear ho hb hg hat; obtain ⟨Ao37, co37, eo37⟩ := Kd.R_slice HO623.out; subst eo37) | ((with_reducible refine gate_callee (f := 188) rfl ?_); refine goesL_ (some 85) rfl rfl Tryz.func188 (by kernel_rfl) rfl #[.slice Ao37 y621.length co37] rfl ag_ ?_; (with_reducible refine (torusref02_trim.calls kj4 (fun k_ => some k_ = (.slice Ao37 y621.length co37 : Value).ownBlock) _ _ y621 t624 _ ?side1 A28.out).mono ?_); (case side1 => exact Kd.R_V (Kd.R_tight rfl (HO623.out))); rintro e w38 ⟨v625, rfl, ho0, hb⟩; refine ⟨_, rfl, ?_⟩; have n0_ := Aside0.mk (Kd.V_below (rVa_ HO608.out) hb); have n1_ := Aside0.mk (Kd.V_below (rVa_ HO612.out) hb); have n2_ := Aside0.mk (Kd.V_below (rVa_ HO620.out) hb); have n3_ := Aside0.mk (Kd.R_below (rRa_ HO623.out) hb); have n4_ := Aside0.mk (Kd.V_lower (Kd.V_mono (ok' := fun k_ => True) ho0 (fun k_ hk_ => trivial)) (below_size bw_)); have n5_ := Aside0.mk (below_step bw_ hb); clear HO608; clear HO612; clear HO620; clear HO623; clear HB; have HO608 := n0_; have HO612 := n1_; have HO620 := n2_; have HO623 := n3_; have HO626 := n4_; have HB := n5_; clear n0_ n1_ n2_ n3_ n4_ n5_; (try clear hb); (try clear hb2); (try clear hk); (try clear hi); (try clear ho0)))
       go_loopg [17, 18, 19] kj4 (fun kq v17 v18 v19 w' => ∃ (x17_2 : List Int) (x18_2 : List Int) (x19_2 : Int), v19 = .int .i64 x19_2 ∧ Aside0 (torusref02_Quotient.l0 kq a1 t605 t606 t609 t610 x17_2 x18_2 x19_2 = some (r1, r2)) ∧ Aside0 (kq ≤ kj4) ∧ Aside0 (Kd.V (Kd.int .i64) 3 w' w.heap.size (fun k_ => some k_ ≠ (v17 : Value).ownBlock) (.slice Ao31 t606.length co31) t606) ∧ Aside0 (Kd.V (Kd.int .i64) 3 w' w.heap.size (fun k_ => some k_ ≠ (v17 : Value).ownBlock) (.slice Ao32 t610.length co32) t610) ∧ Aside0 (Kd.R (Kd.int .i64) 3 w' w.heap.size (fun _ => True) v17 x17_2) ∧ Aside0 (Kd.V (Kd.int .i64) 3 w' w.heap.size (fun k_ => some k_ ≠ (v17 : Value).ownBlock) v18 x18_2) ∧ Aside0 (Below w.heap.size w w'))
       case atStart => exact ⟨(([] : List Int)), (t624), (wrap64 ((ji24) - 1)), (by first | rfl | (simp; done) | (simp only [← hji24] <;> (first | rfl | simp)) | (simp [*]; done)), H', ⟨Nat.le_refl _⟩, ⟨by (with_reducible repeat (first | apply Kd.V_alloc | apply Kd.V_drewN | apply Kd.V_drew)); exact Kd.V_mono HO608.out (fun _ hk => (by simp [Value.ownBlock]))⟩, ⟨by (with_reducible repeat (first | apply Kd.V_alloc | apply Kd.V_drewN | apply Kd.V_drew)); exact Kd.V_mono HO612.out (fun _ hk => (by simp [Value.ownBlock]))⟩, ⟨by first | exact Kd.R_nil _ _ _ _ _ | exact Kd.N_nil _ _ _ _ _ | exact Kd.V_nil _ _ _ _ _ | exact Kd.Q_nil _ _ _ _ _ | exact Kd.S_nil _ _ _ _ _⟩, ⟨by (with_reducible repeat (first | apply Kd.V_alloc | apply Kd.V_drewN | apply Kd.V_drew)); exact Kd.V_mono HO626.out (fun _ hk => (by simp [Value.ownBlock]))⟩, ⟨bw_⟩⟩
       case round =>
        clear H'
        try clear c1
        try clear c2
        try clear p2
        try clear c3
        try clear q3
        try clear c6
        try clear p6
        try clear c7
        try clear c8
        try clear c8b0
        try clear c8b1
        try clear c10
        try clear c11
        try clear c11b0
        try clear c11b1
        try clear c12
        try clear c15
        try clear c16
        try clear c18
        try clear c25
        try clear c25b0
        try clear c25b1
        try clear c26
        try clear c26b0
        try clear c26b1
        try clear c27
        try clear c35
        try clear q35
        try clear p2
        try clear p6
        try clear q035
        try clear q35
        obtain ⟨x17_2, x18_2, x19_2, rfl, HA, HK2, HO_13, HO_15, HO_17, HO_18, HB⟩ := hrel
        cases gk with
        |zero => exact absurd HA.out (by simp [torusref02_Quotient.l0])
        |succ k2 =>
         have H := HA.out
         clear HA
         simp only [torusref02_Quotient.l0] at H
         by_cases c39 : x19_2 ≥ 0
         ·rw [if_pos c39] at H
          have c39b0 : decide (0 ≤ x19_2) = true := decide_eq_true c39
          clear c39
          by_cases c40 : 0 ≤ x19_2
          ·rw [if_pos c40] at H
           have c40b0 : decide (0 ≤ x19_2) = true := decide_eq_true c40
           clear c40
           by_cases c41 : x19_2 < (t606.length : Int)
           ·rw [if_pos c41] at H
            have c41b0 : decide (x19_2 < (t606.length : Int)) = true := decide_eq_true c41
            clear c41
            obtain ⟨y628, hy628⟩ : ∃ y_ : List Int, y_ = (([rd t606 x19_2] : List Int)) := ⟨_, rfl⟩
            replace H : (if y628.length + x18_2.length < 17592186044416 then ((torusref02_trim.f k2 (y628 ++ x18_2)).bind fun t634 => (torusref02_Quotient.l1 k2 a1 t605 t606 t609 t610 x17_2 t634 x19_2 0)) else (none)) = some (r1, r2) := by first | (rw [hy628]; with_reducible exact H) | (have H2_ := (Option.bind_some _ _).symm.trans H; rw [hy628]; with_reducible exact H2_) | (have H2_ := (Option.bind_some _ _).symm.trans H; with_reducible exact H2_) | with_reducible exact H | (rw [hy628]; exact H) | exact H
            have Ny628 := Aside0.mk hy628
            clear hy628
            by_cases c42 : y628.length + x18_2.length < 17592186044416
            ·rw [if_pos c42] at H
             have LMc42 := Aside0.mk c42
             clear c42
             obtain ⟨y631, hy631⟩ : ∃ y_ : List Int, y_ = (y628 ++ x18_2) := ⟨_, rfl⟩
             replace H : ((torusref02_trim.f k2 y631).bind fun t634 => (torusref02_Quotient.l1 k2 a1 t605 t606 t609 t610 x17_2 t634 x19_2 0)) = some (r1, r2) := by first | (rw [hy631]; with_reducible exact H) | (have H2_ := (Option.bind_some _ _).symm.trans H; rw [hy631]; with_reducible exact H2_) | (have H2_ := (Option.bind_some _ _).symm.trans H; with_reducible exact H2_) | with_reducible exact H | (rw [hy631]; exact H) | exact H
             have Ny631 := Aside0.mk hy631
             clear hy631
             replace H := Option.bind_eq_some_iff.mp H
             obtain ⟨t634, A430, H⟩ := H
             replace H : (torusref02_Quotient.l1 k2 a1 t605 t606 t609 t610 x17_2 t634 x19_2 0) = some (r1, r2) := H
             have A43 := Aside0.mk A430
             clear A430
             have H' := Aside0.mk H
             clear H
             have p627 : 0 ≤ (x19_2 : Int) := of_decide_eq_true as_
             have q627 : x19_2 < (t606.length : Int) := of_decide_eq_true as_
             obtain ⟨ad627, e627, hx627_0⟩ := Kd.at_int (Kd.V_reads' HO_13.out).2.2 x19_2 p627 q627
             cases e627
             replace p627 := eq_true p627
             replace q627 := eq_true q627
             go_wp2_with (first | ((with_reducible refine gate_dst (N := 96) rfl ?_); refine Kd.R_lit (Kd.int .i64) _ 3 ?hg (N := 96) ?hd (xs := ([rd t606 x19_2] : List Int)) (inner := [.int .i64 (rd t606 x19_2)]) (ok := fun _ => True) (okp := fun _ => True) ?hr ?hp (fun _ hk => hk) trivial (Below.refl _ _) (Nat.le_refl _) (by simp) ?_; (case hd => rfl); (case hg => rfl); (case hr => first | (go_simp; done) | (go_simp; rfl)); (case hp => exact (Reps.one (show Kd.M (Kd.int .i64) _ _ _ (rd t606 x19_2) [.int .i64 (rd t606 x19_2)] from rfl) (Reps.none _ _))); intro v629 w44 ho45 hb hg_ hnew_; clear hg_ hnew_; (first | rw [← Ny628.out] at ho45 | (simp only [Int.reduceToNat] at ho45; rw [← Ny628.out] at ho45)); have n0_ := Aside0.mk (Kd.V_elder' (rVa_ HO_13.out) (Kd.R_base ho45) hb); have n1_ := Aside0.mk (Kd.V_elder' (rVa_ HO_15.out) (Kd.R_base ho45) hb); have n2_ := Aside0.mk (Kd.R_elder' (rRa_ HO_17.out) (Kd.R_base ho45) hb); have n3_ := Aside0.mk (Kd.V_elder' (rVa_ HO_18.out) (Kd.R_base ho45) hb); have n4_ := Aside0.mk (Kd.R_lower (Kd.R_new' ho45 (Kd.R_lt (rRa_ HO_17.out))) (below_size bw_)); have n5_ := Aside0.mk (below_step bw_ hb); clear HO_13; clear HO_15; clear HO_17; clear HO_18; clear HB; have HO_13 := n0_; have HO_15 := n1_; have HO_17 := n2_; have HO_18 := n3_; have HO630 := n4_; have HB := n5_; clear n0_ n1_ n2_ n3_ n4_ n5_; clear hb ho45; obtain ⟨Ao47, co47, eo47⟩ := Kd.V_slice HO_18.out; subst eo47) | ((with_reducible refine gate_builtin (b := .append) (xs := #[.tmp 96, .tmp 97]) rfl ?_); at_builtin; refine Kd.R_append_rows (Kd.int .i64) (w0 := w) w.heap.size rfl (.tmp 96) (.tmp 97) 146 3 (.int .i64 0) 8 rfl Tryz.underlying146 info3 rfl (by decide) (by omega) v629 y628 x18_2 _ _ _ (fun k_ => some k_ ≠ (u17 : Value).ownBlock) (fun _ => False) rfl rfl ?aO ?aR (fun _ _ h => h) (fun _ h => h.elim) ?aF ?aB ?aS ?aL ?_; (case aR => repeat (first | exact (Kd.V_reads' HO_18.out).2.2 | (with_reducible refine Kd.C_alloc ?_ _) | (with_reducible refine Kd.C_drewN ?_ _) | (with_reducible refine Kd.C_drew ?_))); (case aB => exact bw_); (case aF => exact (fun k_ hk => Kd.fresh' (Kd.R_lt (rRa_ HO_17.out)) k_ hk)); (case aO => exact (by (with_reducible repeat (first | apply Kd.R_alloc | apply Kd.R_drewN | apply Kd.R_drew)); exact Kd.R_mono HO630.out (fun _ hk => hk.2))); (case aS => exact (below_size bw_)); (case aL => have := LMc42.out; omega); intro v632 w46 ho hb hg hat; rw [← Ny631.out] at ho; have n0_ := Aside0.mk (Kd.V_afterv (ok := (fun k_ => some k_ ≠ (u17 : Value).ownBlock)) (rVa_ HO_13.out) hg hat); have n1_ := Aside0.mk (Kd.V_afterv (ok := (fun k_ => some k_ ≠ (u17 : Value).ownBlock)) (rVa_ HO_15.out) hg hat); have n2_ := Aside0.mk (Kd.R_after (ok := (fun _ => True)) (rRa_ HO_17.out) hg hat); have n3_ := Aside0.mk (Kd.V_afterv (ok := (fun k_ => some k_ ≠ (u17 : Value).ownBlock)) (rVa_ HO_18.out) hg hat); have n4_ := Aside0.mk (hb); have n5_ := Aside0.mk (ho); clear HO_13; clear HO_15; clear HO_17; clear HO_18; clear HB; clear HO630; have HO_13 := n0_; have HO_15 := n1_; have HO_17 := n2_; have HO_18 := n3_; have HB := n4_; have HO633 := n5_; clear n0_ n1_ n2_ n3_ n4_ n5_; clear ho hb hg hat; obtain ⟨Ao48, co48, eo48⟩ := Kd.R_slice HO633.out; subst eo48) | ((with_reducible refine gate_callee (f := 188) rfl ?_); refine goesL_ (some 99) rfl rfl Tryz.func188 (by kernel_rfl) rfl #[.slice Ao48 y631.length co48] rfl ag_ ?_; (with_reducible refine (torusref02_trim.calls k2 (fun k_ => some k_ = (.slice Ao48 y631.length co48 : Value).ownBlock) _ _ y631 t634 _ ?side1 A43.out).mono ?_); (case side1 => exact Kd.R_V (Kd.R_tight rfl (HO633.out))); rintro e w49 ⟨v635, rfl, ho0, hb⟩; refine ⟨_, rfl, ?_⟩; have n0_ := Aside0.mk (Kd.V_below (rVa_ HO_13.out) hb); have n1_ := Aside0.mk (Kd.V_below (rVa_ HO_15.out) hb); have n2_ := Aside0.mk (Kd.R_below (rRa_ HO_17.out) hb); have n3_ := Aside0.mk (Kd.V_below (rVa_ HO_18.out) hb); have n4_ := Aside0.mk (Kd.R_below (rRa_ HO633.out) hb); have n5_ := Aside0.mk (Kd.V_lower (Kd.V_mono (ok' := fun k_ => some k_ ≠ (u17 : Value).ownBlock) ho0 (fun k_ hk_ => Or.elim hk_ (fun hs_ => ((HO633.out).1 k_ hs_.symm)) (fun hn_ => (Kd.fresh' (Kd.R_lt (rRa_ HO_17.out)) k_ hn_)))) (below_size bw_)); have n6_ := Aside0.mk (below_step bw_ hb); clear HO_13; clear HO_15; clear HO_17; clear HO_18; clear HO633; clear HB; have HO_13 := n0_; have HO_15 := n1_; have HO_17 := n2_; have HO_18 := n3_; have HO633 := n4_; have HO636 := n5_; have HB := n6_; clear n0_ n1_ n2_ n3_ n4_ n5_ n6_; (try clear hb); (try clear hb2); (try clear hk); (try clear hi); (try clear ho0)))
             go_loopg [18, 20] k2 (fun kq v18 v20 w' => ∃ (x18_3 : List Int) (x20_3 : Int), v20 = .int .i64 x20_3 ∧ Aside0 (torusref02_Quotient.l1 kq a1 t605 t606 t609 t610 x17_2 x18_3 x19_2 x20_3 = some (r1, r2)) ∧ Aside0 (kq ≤ k2) ∧ Aside0 (Kd.V (Kd.int .i64) 3 w' w.heap.size (fun k_ => some k_ ≠ (u17 : Value).ownBlock) (.slice (some ad627) t606.length co31) t606) ∧ Aside0 (Kd.V (Kd.int .i64) 3 w' w.heap.size (fun k_ => some k_ ≠ (u17 : Value).ownBlock) (.slice Ao32 t610.length co32) t610) ∧ Aside0 (Kd.R (Kd.int .i64) 3 w' w.heap.size (fun _ => True) u17 x17_2) ∧ Aside0 (Kd.V (Kd.int .i64) 3 w' w.heap.size (fun k_ => some k_ ≠ (u17 : Value).ownBlock) v18 x18_3) ∧ Aside0 (Below w.heap.size w w'))
             case atStart => exact ⟨(t634), (0), sd_, H', ⟨Nat.le_refl _⟩, ⟨by (with_reducible repeat (first | apply Kd.V_alloc | apply Kd.V_drewN | apply Kd.V_drew)); exact Kd.V_mono HO_13.out (fun _ hk => hk.1)⟩, ⟨by (with_reducible repeat (first | apply Kd.V_alloc | apply Kd.V_drewN | apply Kd.V_drew)); exact Kd.V_mono HO_15.out (fun _ hk => hk.1)⟩, ⟨by (with_reducible repeat (first | apply Kd.R_alloc | apply Kd.R_drewN | apply Kd.R_drew)); exact Kd.R_mono HO_17.out (fun _ hk => trivial)⟩, ⟨rVa_ HO636.out⟩, ⟨bw_⟩⟩
             case round =>
              clear H'
              try clear c1
              try clear c2
              try clear p2
              try clear c3
              try clear q3
              try clear c4
              try clear c6
              try clear p6
              try clear q6
              try clear hx6
              try clear c7
              try clear c8
              try clear c8b0
              try clear c8b1
              try clear c10
              try clear c11
              try clear c11b0
              try clear c11b1
              try clear c12
              try clear c15
              try clear c16
              try clear c18
              try clear c25
              try clear c25b0
              try clear c25b1
              try clear c26
              try clear c26b0
              try clear c26b1
              try clear c27
              try clear c35
              try clear q35
              try clear c39
              try clear c39b0
              try clear c40
              try clear c40b0
              try clear c41
              try clear c41b0
              try clear c42
              try clear hx627_0
              try clear p2
              try clear p6
              try clear p627
              try clear q035
              try clear q3
              try clear q35
              try clear q627
              obtain ⟨x18_3, x20_3, rfl, HA, HK3, HO_13, HO_15, HO_17, HO_18, HB⟩ := hrel
              cases gk with
              |zero => exact absurd HA.out (by simp [torusref02_Quotient.l1])
              |succ k3 =>
               have H := HA.out
               clear HA
               simp only [torusref02_Quotient.l1] at H
               replace H := Option.bind_eq_some_iff.mp H
               obtain ⟨t637, A500, H⟩ := H
               replace H : (if t637 ≥ 0 then ((torusref02_difference.f k3 x18_3 t610).bind fun t638 => (torusref02_Quotient.l1 k3 a1 t605 t606 t609 t610 x17_2 t638 x19_2 (wrap64 (x20_3 + 1)))) else (if x17_2.length < 17592186044416 then (torusref02_Quotient.l0 k3 a1 t605 t606 t609 t610 (x17_2 ++ [x20_3]) x18_3 (wrap64 (x19_2 - 1))) else (none))) = some (r1, r2) := H
               have A50 := Aside0.mk A500
               clear A500
               by_cases c51 : t637 ≥ 0
               ·rw [if_pos c51] at H
                have c51b0 : decide (0 ≤ t637) = true := decide_eq_true c51
                clear c51
                replace H := Option.bind_eq_some_iff.mp H
                obtain ⟨t638, A520, H⟩ := H
                replace H : (torusref02_Quotient.l1 k3 a1 t605 t606 t609 t610 x17_2 t638 x19_2 (wrap64 (x20_3 + 1))) = some (r1, r2) := H
                have A52 := Aside0.mk A520
                clear A520
                have H' := Aside0.mk H
                clear H
                obtain ⟨Ao53, co53, eo53⟩ := Kd.V_slice HO_18.out
                subst eo53
                go_wp2_with (first | ((with_reducible refine gate_callee (f := 165) rfl ?_); refine goesL_ (some 102) rfl rfl Tryz.func165 (by kernel_rfl) rfl #[.slice Ao53 x18_3.length co53, .slice Ao32 t610.length co32] rfl ag_ ?_; (with_reducible refine (torusref02_size.calls k3 _ _ x18_3 _ _ t610 t637 _ ?side1 ?side2 ?side3 ?side4 A50.out).mono ?_); (case side1 => repeat (first | exact (Kd.V_reads' HO_18.out).2.2 | (with_reducible refine Kd.C_alloc ?_ _) | (with_reducible refine Kd.C_drewN ?_ _) | (with_reducible refine Kd.C_drew ?_))); (case side2 => exact (Kd.V_reads' HO_18.out).2.1); (case side3 => repeat (first | exact (Kd.V_reads' HO_15.out).2.2 | (with_reducible refine Kd.C_alloc ?_ _) | (with_reducible refine Kd.C_drewN ?_ _) | (with_reducible refine Kd.C_drew ?_))); (case side4 => exact (Kd.V_reads' HO_15.out).2.1); rintro e w' ⟨rfl, ⟨nd, rfl⟩⟩; refine ⟨_, rfl, ?_⟩) | ((with_reducible refine gate_callee (f := 166) rfl ?_); refine goesL_ (some 106) rfl rfl Tryz.func166 (by kernel_rfl) rfl #[.slice Ao53 x18_3.length co53, .slice Ao32 t610.length co32] rfl ag_ ?_; (with_reducible refine (torusref02_difference.calls k3 _ _ x18_3 _ _ t610 t638 _ ?side1 ?side2 ?side3 ?side4 A52.out).mono ?_); (case side1 => repeat (first | exact (Kd.V_reads' HO_18.out).2.2 | (with_reducible refine Kd.C_alloc ?_ _) | (with_reducible refine Kd.C_drewN ?_ _) | (with_reducible refine Kd.C_drew ?_))); (case side2 => exact (Kd.V_reads' HO_18.out).2.1); (case side3 => repeat (first | exact (Kd.V_reads' HO_15.out).2.2 | (with_reducible refine Kd.C_alloc ?_ _) | (with_reducible refine Kd.C_drewN ?_ _) | (with_reducible refine Kd.C_drew ?_))); (case side4 => exact (Kd.V_reads' HO_15.out).2.1); rintro e w54 ⟨v639, rfl, ho0, hb⟩; refine ⟨_, rfl, ?_⟩; have n0_ := Aside0.mk (Kd.V_below (rVa_ HO_13.out) hb); have n1_ := Aside0.mk (Kd.V_below (rVa_ HO_15.out) hb); have n2_ := Aside0.mk (Kd.R_below (rRa_ HO_17.out) hb); have n3_ := Aside0.mk (Kd.V_below (rVa_ HO_18.out) hb); have n4_ := Aside0.mk (Kd.V_lower (Kd.V_mono (ok' := fun k_ => some k_ ≠ (u17 : Value).ownBlock) ho0 (fun k_ hk_ => (Kd.fresh' (Kd.R_lt (rRa_ HO_17.out)) k_ hk_))) (below_size bw_)); have n5_ := Aside0.mk (below_step bw_ hb); clear HO_13; clear HO_15; clear HO_17; clear HO_18; clear HB; have HO_13 := n0_; have HO_15 := n1_; have HO_17 := n2_; have HO_18 := n3_; have HO640 := n4_; have HB := n5_; clear n0_ n1_ n2_ n3_ n4_ n5_; (try clear hb); (try clear hb2); (try clear hk); (try clear hi); (try clear ho0)))
                go_roundg k3
                case measure => have := HJ4.out; have := HK2.out; have := HK3.out; omega
                case rel => exact ⟨(t638), (wrap64 (x20_3 + 1)), sd_, H', ⟨by have := HJ4.out; have := HK2.out; have := HK3.out; omega⟩, ⟨rVa_ HO_13.out⟩, ⟨rVa_ HO_15.out⟩, ⟨rRa_ HO_17.out⟩, ⟨rVa_ HO640.out⟩, ⟨bw_⟩⟩
               ·rw [if_neg c51] at H
                have c51b0 : decide (0 ≤ t637) = false := decide_eq_false c51
                clear c51
                by_cases c55 : x17_2.length < 17592186044416
                ·rw [if_pos c55] at H
                 have LMc55 := Aside0.mk c55
                 clear c55
                 obtain ⟨y641, hy641⟩ : ∃ y_ : List Int, y_ = (x17_2 ++ [x20_3]) := ⟨_, rfl⟩
                 replace H : (torusref02_Quotient.l0 k3 a1 t605 t606 t609 t610 y641 x18_3 (wrap64 (x19_2 - 1))) = some (r1, r2) := by first | (rw [hy641]; with_reducible exact H) | (have H2_ := (Option.bind_some _ _).symm.trans H; rw [hy641]; with_reducible exact H2_) | (have H2_ := (Option.bind_some _ _).symm.trans H; with_reducible exact H2_) | with_reducible exact H | (rw [hy641]; exact H) | exact H
                 have Ny641 := Aside0.mk hy641
                 clear hy641
                 have H' := Aside0.mk H
                 clear H
                 obtain ⟨Ao56, co56, eo56⟩ := Kd.V_slice HO_18.out
                 subst eo56
                 go_wp2_with (first | ((with_reducible refine gate_callee (f := 165) rfl ?_); refine goesL_ (some 102) rfl rfl Tryz.func165 (by kernel_rfl) rfl #[.slice Ao56 x18_3.length co56, .slice Ao32 t610.length co32] rfl ag_ ?_; (with_reducible refine (torusref02_size.calls k3 _ _ x18_3 _ _ t610 t637 _ ?side1 ?side2 ?side3 ?side4 A50.out).mono ?_); (case side1 => repeat (first | exact (Kd.V_reads' HO_18.out).2.2 | (with_reducible refine Kd.C_alloc ?_ _) | (with_reducible refine Kd.C_drewN ?_ _) | (with_reducible refine Kd.C_drew ?_))); (case side2 => exact (Kd.V_reads' HO_18.out).2.1); (case side3 => repeat (first | exact (Kd.V_reads' HO_15.out).2.2 | (with_reducible refine Kd.C_alloc ?_ _) | (with_reducible refine Kd.C_drewN ?_ _) | (with_reducible refine Kd.C_drew ?_))); (case side4 => exact (Kd.V_reads' HO_15.out).2.1); rintro e w' ⟨rfl, ⟨nd, rfl⟩⟩; refine ⟨_, rfl, ?_⟩) | ((with_reducible refine gate_builtin (b := .append) (xs := #[.tmp 109, .tmp 111]) rfl ?_); at_builtin; refine Kd.R_append (Kd.int .i64) (w0 := w) w.heap.size rfl (.tmp 109) (.tmp 111) 146 3 (.int .i64 0) 8 rfl Tryz.underlying146 info3 rfl (by decide) (by omega) u17 x17_2 x20_3 [.int .i64 x20_3] (fun _ => True) (fun _ => False) rfl rfl ?aP (fun _ hk => hk.elim) ?aF ?aO ?aB ?aS ?aL ?_; (case aP => exact rfl); (case aB => exact bw_); (case aF => exact (fun _ _ => trivial)); (case aO => exact (rRa_ HO_17.out)); (case aS => exact (below_size bw_)); (case aL => have := LMc55.out; omega); intro v642 w57 ho hb hg hat; rw [← Ny641.out] at ho; have n0_ := Aside0.mk (Kd.V_afterv (ok := (fun _ => True)) (by (with_reducible repeat (first | apply Kd.V_alloc | apply Kd.V_drewN | apply Kd.V_drew)); exact Kd.V_mono HO_13.out (fun _ hk => ⟨trivial, hk⟩)) hg hat); have n1_ := Aside0.mk (Kd.V_afterv (ok := (fun _ => True)) (by (with_reducible repeat (first | apply Kd.V_alloc | apply Kd.V_drewN | apply Kd.V_drew)); exact Kd.V_mono HO_15.out (fun _ hk => ⟨trivial, hk⟩)) hg hat); have n2_ := Aside0.mk (Kd.V_afterv (ok := (fun _ => True)) (by (with_reducible repeat (first | apply Kd.V_alloc | apply Kd.V_drewN | apply Kd.V_drew)); exact Kd.V_mono HO_18.out (fun _ hk => ⟨trivial, hk⟩)) hg hat); have n3_ := Aside0.mk (hb); have n4_ := Aside0.mk (ho); clear HO_13; clear HO_15; clear HO_18; clear HB; clear HO_17; have HO_13 := n0_; have HO_15 := n1_; have HO_18 := n2_; have HB := n3_; have HO643 := n4_; clear n0_ n1_ n2_ n3_ n4_; clear ho hb hg hat))
                 go_roundg k3
                 case measure => have := HJ4.out; have := HK2.out; have := HK3.out; omega
                 case rel => exact ⟨(y641), (x18_3), (wrap64 (x19_2 - 1)), sd_, H', ⟨by have := HJ4.out; have := HK2.out; have := HK3.out; omega⟩, ⟨by (with_reducible repeat (first | apply Kd.V_alloc | apply Kd.V_drewN | apply Kd.V_drew)); exact Kd.V_mono HO_13.out (fun _ hk => hk.2)⟩, ⟨by (with_reducible repeat (first | apply Kd.V_alloc | apply Kd.V_drewN | apply Kd.V_drew)); exact Kd.V_mono HO_15.out (fun _ hk => hk.2)⟩, ⟨rRa_ HO643.out⟩, ⟨by (with_reducible repeat (first | apply Kd.V_alloc | apply Kd.V_drewN | apply Kd.V_drew)); exact Kd.V_mono HO_18.out (fun _ hk => hk.2)⟩, ⟨bw_⟩⟩
                ·rw [if_neg c55] at H
                 exact absurd H (by simp)
            ·rw [if_neg c42] at H
             exact absurd H (by simp)
           ·rw [if_neg c41] at H
            exact absurd H (by simp)
          ·rw [if_neg c40] at H
           exact absurd H (by simp)
         ·rw [if_neg c39] at H
          have c39b0 : decide (0 ≤ x19_2) = false := decide_eq_false c39
          clear c39
          have H' := Aside0.mk H
          clear H
          go_wp2
          go_loopg [21] k2 (fun kq v21 w' => ∃ (x17_3 : List Int) (x21_3 : Int), v21 = .int .i64 x21_3 ∧ Aside0 (torusref02_Quotient.l2 kq a1 t605 t609 x17_3 x18_2 x21_3 = some (r1, r2)) ∧ Aside0 (kq ≤ k2) ∧ Aside0 (Kd.R (Kd.int .i64) 3 w' w.heap.size (fun _ => True) u17 x17_3) ∧ Aside0 (Kd.V (Kd.int .i64) 3 w' w.heap.size (fun k_ => some k_ ≠ (u17 : Value).ownBlock) u18 x18_2) ∧ Aside0 (Below w.heap.size w w'))
          case atStart => exact ⟨(x17_2), (0), sd_, H', ⟨Nat.le_refl _⟩, ⟨rRa_ HO_17.out⟩, ⟨rVa_ HO_18.out⟩, ⟨bw_⟩⟩
          case round =>
           clear H'
           try clear c1
           try clear c2
           try clear p2
           try clear c3
           try clear q3
           try clear c4
           try clear c5
           try clear c6
           try clear p6
           try clear q6
           try clear hx6
           try clear c7
           try clear c8
           try clear c8b0
           try clear c8b1
           try clear c10
           try clear c11
           try clear c11b0
           try clear c11b1
           try clear c12
           try clear c15
           try clear c16
           try clear c18
           try clear c25
           try clear c25b0
           try clear c25b1
           try clear c26
           try clear c26b0
           try clear c26b1
           try clear c27
           try clear c35
           try clear q35
           try clear c39
           try clear c39b0
           try clear c40
           try clear c40b0
           try clear c41
           try clear c41b0
           try clear c42
           try clear c51
           try clear c51b0
           try clear c55
           try clear hx627_0
           try clear p2
           try clear p6
           try clear p627
           try clear q035
           try clear q3
           try clear q35
           try clear q6
           try clear q627
           obtain ⟨x17_3, x21_3, rfl, HA, HK3, HO_17, HO_18, HB⟩ := hrel
           cases gk with
           |zero => exact absurd HA.out (by simp [torusref02_Quotient.l2])
           |succ k3 =>
            have H := HA.out
            clear HA
            simp only [torusref02_Quotient.l2] at H
            by_cases c58 : x21_3 < (wrap64 ((x17_3.length : Int) / 2))
            ·rw [if_pos c58] at H
             have c58b0 : decide (x21_3 < (wrap64 ((x17_3.length : Int) / 2))) = true := decide_eq_true c58
             clear c58
             obtain ⟨ji59, hji59⟩ : ∃ j_ : Int, (wrap64 ((wrap64 ((x17_3.length : Int) - 1)) - x21_3)) = j_ := ⟨_, rfl⟩
             replace H : (if 0 ≤ (ji59) then (if (ji59) < (x17_3.length : Int) then (if 0 ≤ x21_3 then (if x21_3 < (x17_3.length : Int) then (torusref02_Quotient.l2 k3 a1 t605 t609 ((x17_3.set (x21_3 : Int).toNat (rd x17_3 (ji59))).set ((ji59) : Int).toNat (rd x17_3 x21_3)) x18_2 (wrap64 (x21_3 + 1))) else (none)) else (none)) else (none)) else (none)) = some (r1, r2) := by first | (rw [hji59] at H; exact H) | (simp only [hji59] at H ⊢; exact H)
             have hji59w : (IntKind.i64.wrap ((wrap64 ((x17_3.length : Int) - 1)) - x21_3)) = ji59 := (i64_w _).trans hji59
             by_cases c60 : 0 ≤ (ji59)
             ·rw [if_pos c60] at H
              have c60b0 : decide (0 ≤ (ji59)) = true := decide_eq_true c60
              clear c60
              by_cases c61 : (ji59) < (x17_3.length : Int)
              ·rw [if_pos c61] at H
               have c61b0 : decide ((ji59) < (x17_3.length : Int)) = true := decide_eq_true c61
               clear c61
               by_cases c62 : 0 ≤ x21_3
               ·rw [if_pos c62] at H
                have c62b0 : decide (0 ≤ x21_3) = true := decide_eq_true c62
                clear c62
                by_cases c63 : x21_3 < (x17_3.length : Int)
                ·rw [if_pos c63] at H
                 have c63b0 : decide (x21_3 < (x17_3.length : Int)) = true := decide_eq_true c63
                 clear c63
                 obtain ⟨y646, hy646⟩ : ∃ y_ : List Int, y_ = (x17_3.set (x21_3 : Int).toNat (rd x17_3 (ji59))) := ⟨_, rfl⟩
                 replace H : (torusref02_Quotient.l2 k3 a1 t605 t609 (y646.set ((ji59) : Int).toNat (rd x17_3 x21_3)) x18_2 (wrap64 (x21_3 + 1))) = some (r1, r2) := by first | (rw [hy646]; with_reducible exact H) | (have H2_ := (Option.bind_some _ _).symm.trans H; rw [hy646]; with_reducible exact H2_) | (have H2_ := (Option.bind_some _ _).symm.trans H; with_reducible exact H2_) | with_reducible exact H | (rw [hy646]; exact H) | exact H
                 have Ny646 := Aside0.mk hy646
                 clear hy646
                 obtain ⟨y647, hy647⟩ : ∃ y_ : List Int, y_ = (y646.set ((ji59) : Int).toNat (rd x17_3 x21_3)) := ⟨_, rfl⟩
                 replace H : (torusref02_Quotient.l2 k3 a1 t605 t609 y647 x18_2 (wrap64 (x21_3 + 1))) = some (r1, r2) := by first | (rw [hy647]; with_reducible exact H) | (have H2_ := (Option.bind_some _ _).symm.trans H; rw [hy647]; with_reducible exact H2_) | (have H2_ := (Option.bind_some _ _).symm.trans H; with_reducible exact H2_) | with_reducible exact H | (rw [hy647]; exact H) | exact H
                 have Ny647 := Aside0.mk hy647
                 clear hy647
                 have H' := Aside0.mk H
                 clear H
                 obtain ⟨Ao66, co66, eo66⟩ := Kd.R_slice HO_17.out
                 subst eo66
                 try go_wp2
                 have n0_ := Aside0.mk (Kd.R_drew HO_17.out)
                 have n1_ := Aside0.mk (Kd.V_drew HO_18.out)
                 have n2_ := Aside0.mk (below_drew1 HB.out)
                 clear HO_17
                 clear HO_18
                 clear HB
                 have HO_17 := n0_
                 have HO_18 := n1_
                 have HB := n2_
                 clear n0_ n1_ n2_
                 have p644 : 0 ≤ ((ji59) : Int) := of_decide_eq_true as_
                 have q644 : (ji59) < (x17_3.length : Int) := of_decide_eq_true as_
                 obtain ⟨ad644, e644, hx644_0⟩ := Kd.at_int (Kd.R_reads' HO_17.out).2.2 (ji59) p644 q644
                 cases e644
                 replace p644 := eq_true p644
                 replace q644 := eq_true q644
                 have p645 : 0 ≤ (x21_3 : Int) := of_decide_eq_true as_
                 have q645 : x21_3 < (x17_3.length : Int) := of_decide_eq_true as_
                 obtain ⟨ad645, e645, hx645_0⟩ := Kd.at_int (Kd.R_reads' HO_17.out).2.2 x21_3 p645 q645
                 obtain rfl : ad644 = ad645 := (by injection e645)
                 replace p645 := eq_true p645
                 replace q645 := eq_true q645
                 have p64 : 0 ≤ (x21_3 : Int) := of_decide_eq_true as_
                 have q64 : (x21_3 : Int) < ((x17_3.length : Int) : Int) := of_decide_eq_true as_
                 obtain ⟨go64, co64, eo64, gb64, gl64, cl64, HG64⟩ := Kd.R_form HO_17.out (by omega)
                 (first | cases eo64 | (injection eo64 with ea_ en_ ec_; (first | subst ea_ | (injection ea_ with ea_; subst ea_)); subst ec_; clear en_))
                 have GB64 := Aside0.mk gb64
                 have GG64 := Aside0.mk HG64
                 clear gb64 gl64 HG64
                 (first | simp only [add_plain] at hx644_0 | skip)
                 (first | simp only [add_plain] at hx645_0 | skip)
                 obtain ⟨hx64_0, hf64_0⟩ := Kd.R_celln 0 HO_17.out (x21_3 : Int) p64 q64
                 replace p64 := eq_true p64
                 replace q64 := eq_true q64
                 have HP68 := Kd.R_putn HO_17.out (x21_3 : Int) (rd x17_3 (ji59))
                 rw [← Ny646.out] at HP68
                 have HQ68 := Aside0.mk HP68
                 clear HP68
                 have p65 : 0 ≤ ((ji59) : Int) := of_decide_eq_true as_
                 have q65 : ((ji59) : Int) < ((x17_3.length : Int) : Int) := of_decide_eq_true as_
                 obtain ⟨hx65_0, hf65_0⟩ := Kd.R_celln 0 HQ68.out ((ji59) : Int) p65 q65
                 replace p65 := eq_true p65
                 replace q65 := eq_true q65
                 have HP69 := Kd.R_putn HQ68.out ((ji59) : Int) (rd x17_3 x21_3)
                 rw [← Ny647.out] at HP69
                 have HQ69 := Aside0.mk HP69
                 clear HP69
                 refine start_ (n := 24) (S := fun w' => w'.cell? ⟨go64, ((ji59)).toNat, none⟩ = some (.int .i64 (rd x17_3 (ji59))) ∧ w'.cell? ⟨go64, (x21_3).toNat, none⟩ = some (.int .i64 (rd x17_3 x21_3))) (ds := [21, 23]) #[false, false, false, false, false, false, false, false, false, false, false, false, false, false, false, false, false, false, false, false, false, false, false, false] (by kernel_rfl) rfl rfl ⟨hx644_0, hx645_0⟩ (fun hH => ?_); refine with_tabW torusref02_Quotient.tab25 torusref02_Quotient.bits25 (fun HT_ HW_ => ?_)
                 generalize wr.drew = w67 at HO_17 HO_18 HB GG64 HQ68 HQ69 hf64_0 hf65_0 hx644_0 hx645_0 hx64_0 hx65_0 hH ⊢
                 refine pq_ 0 (some 120) #[true, false, false, false, false, false, false, false, false, false, false, false, false, false, false, false, false, false, false, false, false, false, false, false] HT_.out ?_
                 refine pq_ 1 (some 121) #[true, true, false, false, false, false, false, false, false, false, false, false, false, false, false, false, false, false, false, false, false, false, false, false] HT_.out ?_
                 refine pq_ 2 (some 122) #[true, true, true, false, false, false, false, false, false, false, false, false, false, false, false, false, false, false, false, false, false, false, false, false] HT_.out ?_
                 refine pq_ 3 (some 123) #[true, true, true, true, false, false, false, false, false, false, false, false, false, false, false, false, false, false, false, false, false, false, false, false] HT_.out ?_
                 refine pq_ 4 (some 124) #[true, true, true, true, true, false, false, false, false, false, false, false, false, false, false, false, false, false, false, false, false, false, false, false] HT_.out ?_
                 refine pq_ 5 (some 125) #[true, true, true, true, true, true, false, false, false, false, false, false, false, false, false, false, false, false, false, false, false, false, false, false] HT_.out ?_
                 refine pq_ 6 (some 126) #[true, true, true, true, true, true, true, false, false, false, false, false, false, false, false, false, false, false, false, false, false, false, false, false] HT_.out ?_
                 refine pq_ 7 (some 127) #[true, true, true, true, true, true, true, true, false, false, false, false, false, false, false, false, false, false, false, false, false, false, false, false] HT_.out ?_
                 refine pq_ 8 (some 128) #[true, true, true, true, true, true, true, true, true, false, false, false, false, false, false, false, false, false, false, false, false, false, false, false] HT_.out ?_
                 refine pq_ 9 (some 129) #[true, true, true, true, true, true, true, true, true, true, false, false, false, false, false, false, false, false, false, false, false, false, false, false] HT_.out ?_
                 refine pq_ 10 (some 130) #[true, true, true, true, true, true, true, true, true, true, true, false, false, false, false, false, false, false, false, false, false, false, false, false] HT_.out ?_
                 refine pq_ 11 (some 131) #[true, true, true, true, true, true, true, true, true, true, true, true, false, false, false, false, false, false, false, false, false, false, false, false] HT_.out ?_
                 refine pq_ 12 (some 132) #[true, true, true, true, true, true, true, true, true, true, true, true, true, false, false, false, false, false, false, false, false, false, false, false] HT_.out ?_
                 refine pq_ 13 (some 133) #[true, true, true, true, true, true, true, true, true, true, true, true, true, true, false, false, false, false, false, false, false, false, false, false] HT_.out ?_
                 refine pq_ 14 (some 134) #[true, true, true, true, true, true, true, true, true, true, true, true, true, true, true, false, false, false, false, false, false, false, false, false] HT_.out ?_
                 refine pq_ 16 (some 136) #[true, true, true, true, true, true, true, true, true, true, true, true, true, true, true, false, true, false, false, false, false, false, false, false] HT_.out ?_
                 refine pq_ 17 (some 137) #[true, true, true, true, true, true, true, true, true, true, true, true, true, true, true, false, true, true, false, false, false, false, false, false] HT_.out ?_
                 refine pq_ 18 (some 138) #[true, true, true, true, true, true, true, true, true, true, true, true, true, true, true, false, true, true, true, false, false, false, false, false] HT_.out ?_
                 refine take_ (i := 15) (N := some 135) (v := ?_) (a' := ?_) #[true, true, true, true, true, true, true, true, true, true, true, true, true, true, true, true, true, true, true, false, false, false, false, false] rfl rfl (take_ofW HT_.out HW_.out (by kernel_rfl)) (fun _ _ _ h => h) (Or.inl ⟨by rfl, ?_⟩) hH ?_ ?_
                 rotate_left
                 ·rintro w' ⟨s0, s1⟩
                  go_simp
                  with_reducible rfl
                 rotate_left
                 ·simp only [Act.put, List.setIfInBounds_toArray, List.set_cons_zero, List.set_cons_succ, i64_w, i32_w]
                  rfl
                 refine take_ (i := 19) (N := some 139) (v := ?_) (a' := ?_) #[true, true, true, true, true, true, true, true, true, true, true, true, true, true, true, true, true, true, true, true, false, false, false, false] rfl rfl (take_ofW HT_.out HW_.out (by kernel_rfl)) (fun _ _ _ h => h) (Or.inl ⟨by rfl, ?_⟩) hH ?_ ?_
                 rotate_left
                 ·rintro w' ⟨s0, s1⟩
                  go_simp
                  with_reducible rfl
                 rotate_left
                 ·simp only [Act.put, List.setIfInBounds_toArray, List.set_cons_zero, List.set_cons_succ, i64_w, i32_w]
                  rfl
                 refine pq_ 20 (some 140) #[true, true, true, true, true, true, true, true, true, true, true, true, true, true, true, true, true, true, true, true, true, false, false, false] HT_.out ?_
                 refine last_ (i := 21) (N := none) #[true, true, true, true, true, true, true, true, true, true, true, true, true, true, true, true, true, true, true, true, true, true, false, false] rfl rfl (one_of HT_.out (by kernel_rfl)) (by decide) (fun K hK => ?_)
                 refine skip_ (w1 := ?_) (by rfl) rfl ?_ ?_
                 rotate_left
                 ·go_simp
                  rfl
                 refine hK.out _ _ ?_
                 clear hK K
                 refine pq_ 22 (some 141) #[true, true, true, true, true, true, true, true, true, true, true, true, true, true, true, true, true, true, true, true, true, true, true, false] HT_.out ?_
                 refine last_ (i := 23) (N := none) #[true, true, true, true, true, true, true, true, true, true, true, true, true, true, true, true, true, true, true, true, true, true, true, true] rfl rfl (one_of HT_.out (by kernel_rfl)) (by decide) (fun K hK => ?_)
                 refine skip_ (w1 := ?_) (by rfl) rfl ?_ ?_
                 rotate_left
                 ·go_simp
                  rfl
                 refine hK.out _ _ ?_
                 clear hK K
                 refine done_ (done_of HT_.out (by kernel_rfl)) ?_
                 try go_wp2
                 go_roundg k3
                 case measure => have := HJ4.out; have := HK2.out; have := HK3.out; omega
                 case rel => exact ⟨(y647), (wrap64 (x21_3 + 1)), sd_, H', ⟨by have := HJ4.out; have := HK2.out; have := HK3.out; omega⟩, ⟨rRa_ HQ69.out⟩, ⟨by (with_reducible repeat (first | apply Kd.V_alloc | apply Kd.V_drewN | apply Kd.V_drew)); exact Kd.V_mono (Kd.V_far (p := ⟨go64, ((ji59) : Int).toNat, none⟩) (Kd.V_far (p := ⟨go64, (x21_3 : Int).toNat, none⟩) (Kd.V_mono HO_18.out (fun k_ hk => (⟨hk, fun e_ => hk (by rw [e_]; rfl)⟩ : _ ∧ k_ ≠ go64))) (fun _ hk => hk.2) (.int .i64 (rd x17_3 (ji59)))) (fun _ hk => hk.2) (.int .i64 (rd x17_3 x21_3))) (fun _ hk => hk.1)⟩, ⟨by repeat (first | (with_reducible first | exact HB.out | apply below_alloc | apply pw_below_drewN | apply below_drew1 | refine below_set ?_ GB64.out | refine below_set ?_ GB64.out) | exact HB.out)⟩⟩
                ·rw [if_neg c63] at H
                 exact absurd H (by simp)
               ·rw [if_neg c62] at H
                exact absurd H (by simp)
              ·rw [if_neg c61] at H
               exact absurd H (by simp)
             ·rw [if_neg c60] at H
              exact absurd H (by simp)
            ·rw [if_neg c58] at H
             have c58b0 : decide (x21_3 < (wrap64 ((x17_3.length : Int) / 2))) = false := decide_eq_false c58
             clear c58
             replace H := Option.bind_eq_some_iff.mp H
             obtain ⟨t648, A700, H⟩ := H
             replace H : ((torusref02_text.f k3 t605 x18_2).bind fun t649 => (if t649.toList = ([48] : List UInt8) then (torusref02_Quotient.j5 k3 a1 t648 t649 false) else (torusref02_Quotient.j5 k3 a1 t648 t649 (t605 != t609)))) = some (r1, r2) := H
             have A70 := Aside0.mk A700
             clear A700
             replace H := Option.bind_eq_some_iff.mp H
             obtain ⟨t649, A710, H⟩ := H
             replace H : (if t649.toList = ([48] : List UInt8) then (torusref02_Quotient.j5 k3 a1 t648 t649 false) else (torusref02_Quotient.j5 k3 a1 t648 t649 (t605 != t609))) = some (r1, r2) := H
             have A71 := Aside0.mk A710
             clear A710
             have HC72 := Aside0.mk H
             clear H
             obtain ⟨Ao73, co73, eo73⟩ := Kd.R_slice HO_17.out
             subst eo73
             go_upto_region 27 with (first | ((with_reducible refine gate_callee (f := 157) rfl ?_); refine goesL_ (some 146) rfl rfl Tryz.func157 (by kernel_rfl) rfl #[.bool (t605 != t609), .slice Ao73 x17_3.length co73] rfl ag_ ?_; (with_reducible refine (torusref02_text.calls k3 (t605 != t609) _ _ x17_3 t648 _ ?side1 ?side2 A70.out).mono ?_); (case side1 => repeat (first | exact (Kd.R_reads' HO_17.out).2.2 | (with_reducible refine Kd.C_alloc ?_ _) | (with_reducible refine Kd.C_drewN ?_ _) | (with_reducible refine Kd.C_drew ?_))); (case side2 => exact (Kd.R_reads' HO_17.out).2.1); rintro e w74 ⟨rfl, hb⟩; refine ⟨_, rfl, ?_⟩; have n0_ := Aside0.mk (Kd.R_below (rRa_ HO_17.out) hb); have n1_ := Aside0.mk (Kd.V_below (rVa_ HO_18.out) hb); have n2_ := Aside0.mk (below_step bw_ hb); clear HO_17; clear HO_18; clear HB; have HO_17 := n0_; have HO_18 := n1_; have HB := n2_; clear n0_ n1_ n2_; (try clear hb); (try clear hb2); (try clear hk); (try clear hi); obtain ⟨Ao75, co75, eo75⟩ := Kd.V_slice HO_18.out; subst eo75) | ((with_reducible refine gate_callee (f := 157) rfl ?_); refine goesL_ (some 149) rfl rfl Tryz.func157 (by kernel_rfl) rfl #[.bool t605, .slice Ao75 x18_2.length co75] rfl ag_ ?_; (with_reducible refine (torusref02_text.calls k3 t605 _ _ x18_2 t649 _ ?side1 ?side2 A71.out).mono ?_); (case side1 => repeat (first | exact (Kd.V_reads' HO_18.out).2.2 | (with_reducible refine Kd.C_alloc ?_ _) | (with_reducible refine Kd.C_drewN ?_ _) | (with_reducible refine Kd.C_drew ?_))); (case side2 => exact (Kd.V_reads' HO_18.out).2.1); rintro e w76 ⟨rfl, hb⟩; refine ⟨_, rfl, ?_⟩; have n0_ := Aside0.mk (Kd.R_below (rRa_ HO_17.out) hb); have n1_ := Aside0.mk (Kd.V_below (rVa_ HO_18.out) hb); have n2_ := Aside0.mk (below_step bw_ hb); clear HO_17; clear HO_18; clear HB; have HO_17 := n0_; have HO_18 := n1_; have HB := n2_; clear n0_ n1_ n2_; (try clear hb); (try clear hb2); (try clear hk); (try clear hi)))
             (try simp only [Act.put, List.setIfInBounds_toArray, List.set_cons_zero, List.set_cons_succ])
             go_cut [156] (fun v156 wc => ∃ (kq : Nat) (x156_71 : Bool), v156 = .bool x156_71 ∧ Aside0 (torusref02_Quotient.j5 kq a1 t648 t649 x156_71 = some (r1, r2)) ∧ Aside0 (kq ≤ k3) ∧ Aside0 (Below w.heap.size w wc))
             case first =>
              have H := HC72.out
              clear HC72
              by_cases c77 : t649.toList = ([48] : List UInt8)
              ·rw [if_pos c77] at H
               have c77b0 : (t649.toList == ([48] : List UInt8)) = true := beq_iff_eq.mpr c77
               have c77b1 : (t649.toList != ([48] : List UInt8)) = false := bne_eq_false_iff_eq.mpr c77
               clear c77
               (first | rw [c77b0] | (simp only [i64_w, i32_w]; rw [c77b0]) | skip)
               have H' := Aside0.mk H
               clear H
               go_wp2
               go_meet
               case rel => exact ⟨_, (false), sd_, H', ⟨by have := HJ4.out; have := HK2.out; have := HK3.out; first | omega | exact Nat.le_refl _⟩, ⟨bw_⟩⟩
              ·rw [if_neg c77] at H
               have c77b0 : (t649.toList == ([48] : List UInt8)) = false := beq_eq_false_iff_ne.mpr c77
               have c77b1 : (t649.toList != ([48] : List UInt8)) = true := bne_iff_ne.mpr c77
               (first | rw [c77b0] | (simp only [i64_w, i32_w]; rw [c77b0]) | skip)
               have H' := Aside0.mk H
               clear H
               go_wp2
               go_meet
               case rel => exact ⟨_, ((t605 != t609)), sd_, H', ⟨by have := HJ4.out; have := HK2.out; have := HK3.out; first | omega | exact Nat.le_refl _⟩, ⟨bw_⟩⟩
             case rest =>
              clear HC72
              try clear c1
              try clear c2
              try clear p2
              try clear c3
              try clear q3
              try clear c4
              try clear c5
              try clear c6
              try clear p6
              try clear q6
              try clear hx6
              try clear hf6
              try clear c7
              try clear c8
              try clear c8b0
              try clear c8b1
              try clear c10
              try clear c11
              try clear c11b0
              try clear c11b1
              try clear c12
              try clear c15
              try clear c16
              try clear c18
              try clear c25
              try clear c25b0
              try clear c25b1
              try clear c26
              try clear c26b0
              try clear c26b1
              try clear c27
              try clear c35
              try clear q35
              try clear c39
              try clear c39b0
              try clear c40
              try clear c40b0
              try clear c41
              try clear c41b0
              try clear c42
              try clear c51
              try clear c51b0
              try clear c55
              try clear c58
              try clear c58b0
              try clear c60
              try clear c60b0
              try clear c61
              try clear c61b0
              try clear c62
              try clear c62b0
              try clear p62
              try clear q62
              try clear hx62
              try clear c63
              try clear c63b0
              try clear p64
              try clear q64
              try clear hx64
              try clear hf64
              try clear p65
              try clear q65
              try clear hx65
              try clear hf65
              try clear c77
              try clear c77b0
              try clear c77b1
              try clear hx627_0
              try clear hx644_0
              try clear hx645_0
              try clear hx64_0
              try clear hx65_0
              try clear p2
              try clear p6
              try clear p627
              try clear p64
              try clear p644
              try clear p645
              try clear p65
              try clear q035
              try clear q3
              try clear q35
              try clear q6
              try clear q627
              try clear q64
              try clear q644
              try clear q645
              try clear q65
              obtain ⟨kq, x156_71, rfl, HA, HJ71, HB⟩ := hcut
              cases kq with
              |zero => exact absurd HA.out (by simp [torusref02_Quotient.j5])
              |succ kj71 =>
               have H := HA.out
               clear HA
               simp only [torusref02_Quotient.j5] at H
               by_cases c78 : x156_71 = true
               ·subst c78
                rw [if_pos rfl] at H
                replace H := Option.bind_eq_some_iff.mp H
                obtain ⟨t650, A790, H⟩ := H
                replace H : ((torusref02_Plus.f kj71 t649 a1).bind fun t651 => (some (t650, t651))) = some (r1, r2) := H
                have A79 := Aside0.mk A790
                clear A790
                replace H := Option.bind_eq_some_iff.mp H
                obtain ⟨t651, A800, H⟩ := H
                replace H : (some (t650, t651)) = some (r1, r2) := H
                have A80 := Aside0.mk A800
                clear A800
                simp only [Option.some.injEq, Prod.mk.injEq] at H
                obtain ⟨rfl, rfl⟩ := H
                go_wp2_with (first | ((with_reducible refine gate_callee (f := 189) rfl ?_); refine goesL_ (some 158) rfl rfl Tryz.func189 (by kernel_rfl) rfl #[.string t648, .string (⟨#[49]⟩ : ByteArray)] rfl ag_ ?_; (with_reducible refine (torusref02_Minus.calls kj71 t648 (⟨#[49]⟩ : ByteArray) t650 _ A79.out).mono ?_); rintro e w81 ⟨rfl, hb⟩; refine ⟨_, rfl, ?_⟩; have n0_ := Aside0.mk (below_step bw_ hb); clear HB; have HB := n0_; clear n0_; (try clear hb); (try clear hb2); (try clear hk); (try clear hi)) | ((with_reducible refine gate_callee (f := 108) rfl ?_); refine goesL_ (some 161) rfl rfl Tryz.func108 (by kernel_rfl) rfl #[.string t649, .string a1] rfl ag_ ?_; (with_reducible refine (torusref02_Plus.calls kj71 t649 a1 t651 _ A80.out).mono ?_); rintro e w82 ⟨rfl, hb⟩; refine ⟨_, rfl, ?_⟩; have n0_ := Aside0.mk (below_step bw_ hb); clear HB; have HB := n0_; clear n0_; (try clear hb); (try clear hb2); (try clear hk); (try clear hi)))
                go_ret2
                exact ⟨by first | rfl | (simp [errW_none, errW_some] <;> rfl) | (simp only [← hji23, ← hji24]; first | rfl | (simp [errW_none, errW_some] <;> rfl)) | (simp [*, errW_none, errW_some] <;> rfl), bw_⟩
               ·replace c78 := Bool.eq_false_iff.mpr c78
                subst c78
                rw [if_neg (show ¬ (false = true) by decide)] at H
                simp only [Option.some.injEq, Prod.mk.injEq] at H
                obtain ⟨rfl, rfl⟩ := H
                go_wp2
                go_ret2
                exact ⟨by first | rfl | (simp [errW_none, errW_some] <;> rfl) | (simp only [← hji23, ← hji24]; first | rfl | (simp [errW_none, errW_some] <;> rfl)) | (simp [*, errW_none, errW_some] <;> rfl), bw_⟩
      ·rw [if_neg c27] at H
       exact absurd H (by simp)
     ·rw [if_neg c26] at H
      exact absurd H (by simp)
    ·rw [if_neg c25] at H
     exact absurd H (by simp)
attribute [local go_sem] max2_int min2_int max_two min_two max_three min_three max_four min_four
set_option linter.unusedVariables false
set_option linter.unusedSimpArgs false
def torusref02_Divisor.l0 : Nat → ByteArray → ByteArray → Option (ByteArray)
 |0, _, _ => none
 |k + 1, x5, x6 => if x6.toList = ([48] : List UInt8) then (some x5) else ((torusref02_Quotient.f k x5 x6).bind fun bt654 => (torusref02_Divisor.l0 k x6 bt654.2))
def torusref02_Divisor.f (k : Nat) (a0 : ByteArray) (a1 : ByteArray) : Option (ByteArray) := (torusref02_Positive.f k a0).bind fun t652 => ((torusref02_Positive.f k a1).bind fun t653 => (torusref02_Divisor.l0 k t652 t653))
set_option maxHeartbeats 8000000 in
set_option maxRecDepth 100000 in
theorem torusref02_Divisor.calls (k : Nat) (a0 : ByteArray) (a1 : ByteArray) (r : ByteArray) (w : World) (h : torusref02_Divisor.f k a0 a1 = some r) :
  Calls Tryz.prog 158 #[.string a0, .string a1] w fun e w' => e = .returned (.string r) ∧ Below w.heap.size w w' := by
 have HB := Aside0.mk (Below.refl w.heap.size w)
 have H : ((torusref02_Positive.f k a0).bind fun t652 => ((torusref02_Positive.f k a1).bind fun t653 => (torusref02_Divisor.l0 k t652 t653))) = some r := h
 clear h
 replace H := Option.bind_eq_some_iff.mp H
 obtain ⟨t652, A30, H⟩ := H
 have A3 := Aside0.mk A30
 clear A30
 replace H := Option.bind_eq_some_iff.mp H
 obtain ⟨t653, A40, H⟩ := H
 have A4 := Aside0.mk A40
 clear A40
 have H' := Aside0.mk H
 clear H
 go_enter Tryz.func158, Tryz.ntmps158
 go_wp2_with (first | ((with_reducible refine gate_callee (f := 98) rfl ?_); refine goesL_ (some 10) rfl rfl Tryz.func98 (by kernel_rfl) rfl #[.string a0] rfl ag_ ?_; (with_reducible refine (torusref02_Positive.calls k a0 t652 _ A3.out).mono ?_); rintro e w5 ⟨rfl, hb⟩; refine ⟨_, rfl, ?_⟩; have n0_ := Aside0.mk (below_step bw_ hb); clear HB; have HB := n0_; clear n0_; (try clear hb); (try clear hb2); (try clear hk); (try clear hi)) | ((with_reducible refine gate_callee (f := 98) rfl ?_); refine goesL_ (some 12) rfl rfl Tryz.func98 (by kernel_rfl) rfl #[.string a1] rfl ag_ ?_; (with_reducible refine (torusref02_Positive.calls k a1 t653 _ A4.out).mono ?_); rintro e w6 ⟨rfl, hb⟩; refine ⟨_, rfl, ?_⟩; have n0_ := Aside0.mk (below_step bw_ hb); clear HB; have HB := n0_; clear n0_; (try clear hb); (try clear hb2); (try clear hk); (try clear hi)))
 go_loopg [5, 6] k (fun kq v5 v6 w' => ∃ (x5_1 : ByteArray) (x6_1 : ByteArray), v5 = .string x5_1 ∧ v6 = .string x6_1 ∧ Aside0 (torusref02_Divisor.l0 kq x5_1 x6_1 = some r) ∧ Aside0 (kq ≤ k) ∧ Aside0 (Below w.heap.size w w'))
 case atStart => exact ⟨(t652), (t653), sd_, sd_, H', ⟨Nat.le_refl _⟩, ⟨bw_⟩⟩
 case round =>
  clear H'
  try clear c1
  try clear p2
  obtain ⟨x5_1, x6_1, rfl, rfl, HA, HK1, HB⟩ := hrel
  cases gk with
  |zero => exact absurd HA.out (by simp [torusref02_Divisor.l0])
  |succ k1 =>
   have H := HA.out
   clear HA
   simp only [torusref02_Divisor.l0] at H
   by_cases c7 : x6_1.toList = ([48] : List UInt8)
   ·rw [if_pos c7] at H
    have c7b0 : (x6_1.toList == ([48] : List UInt8)) = true := beq_iff_eq.mpr c7
    have c7b1 : (x6_1.toList != ([48] : List UInt8)) = false := bne_eq_false_iff_eq.mpr c7
    clear c7
    obtain rfl := Option.some.inj H
    go_wp2
    go_ret
    exact ⟨by first | rfl | (simp [errW_none, errW_some] <;> rfl) | (simp [*, errW_none, errW_some] <;> rfl), bw_⟩
   ·rw [if_neg c7] at H
    have c7b0 : (x6_1.toList == ([48] : List UInt8)) = false := beq_eq_false_iff_ne.mpr c7
    have c7b1 : (x6_1.toList != ([48] : List UInt8)) = true := bne_iff_ne.mpr c7
    replace H := Option.bind_eq_some_iff.mp H
    obtain ⟨⟨t654, t655⟩, A80, H⟩ := H
    dsimp only at H
    have A8 := Aside0.mk A80
    clear A80
    have H' := Aside0.mk H
    clear H
    go_wp2_with (first | ((with_reducible refine gate_callee (f := 159) rfl ?_); refine goesL_ (some 18) rfl rfl Tryz.func159 (by kernel_rfl) rfl #[.string x5_1, .string x6_1] rfl ag_ ?_; (with_reducible refine (torusref02_Quotient.calls k1 x5_1 x6_1 t654 t655 _ A8.out).mono ?_); rintro e w9 ⟨rfl, hb⟩; refine ⟨_, rfl, ?_⟩; have n0_ := Aside0.mk (below_step bw_ hb); clear HB; have HB := n0_; clear n0_; (try clear hb); (try clear hb2); (try clear hk); (try clear hi)))
    go_roundg k1
    case measure => have := HK1.out; omega
    case rel => exact ⟨(x6_1), (t655), sd_, sd_, H', ⟨by have := HK1.out; omega⟩, ⟨bw_⟩⟩
def turned (l : List Int) (i : Nat) : List Int := (l.reverse.take i) ++ (l.drop i).take (l.length - 2 * i) ++ l.reverse.drop (l.length - i)
theorem turned_zero (l : List Int) : turned l 0 = l := by
 unfold turned
 simp
theorem turned_len (l : List Int) (i : Nat) (h : 2 * i ≤ l.length) : (turned l i).length = l.length := by
 unfold turned
 simp
 omega
theorem turned_get (l : List Int) (i j : Nat) (h : 2 * i ≤ l.length) (hj : j < l.length) : (turned l i)[j]? = if j < i ∨ l.length - i ≤ j then l.reverse[j]? else l[j]? := by
 unfold turned
 rw [List.append_assoc, List.getElem?_append]
 simp only [List.length_take, List.length_reverse]
 rw [Nat.min_eq_left (by omega)]
 by_cases h1 : j < i
 ·rw [if_pos h1, if_pos (.inl h1), List.getElem?_take, if_pos h1]
 ·rw [if_neg h1, List.getElem?_append, List.length_take, List.length_drop, Nat.min_eq_left (by omega)]
  by_cases h2 : j - i < l.length - 2 * i
  ·rw [if_pos h2, if_neg (by omega), List.getElem?_take, if_pos h2, List.getElem?_drop, show i + (j - i) = j by omega]
  ·rw [if_neg h2, if_pos (by omega), List.getElem?_drop]
   congr 1
   omega
theorem rd_get {l : List Int} {i : Nat} (h : i < l.length) : l[i]? = some (rd l (i : Int)) := by
 simp [rd, h]
theorem turned_next (l : List Int) (i : Nat) (h : 2 * (i + 1) ≤ l.length) : ((turned l i).set i (rd (turned l i) ((l.length - 1 - i : Nat) : Int))).set (l.length - 1 - i) (rd (turned l i) (i : Int)) = turned l (i + 1) := by
 have hl := turned_len l i (by omega)
 have e1 : rd (turned l i) (i : Int) = rd l (i : Int) := by
  have h1 := turned_get l i i (by omega) (by omega)
  rw [if_neg (by omega), rd_get (by omega), rd_get (by omega)] at h1
  exact Option.some.inj h1
 have e2 : rd (turned l i) ((l.length - 1 - i : Nat) : Int) = rd l ((l.length - 1 - i : Nat) : Int) := by
  have h1 := turned_get l i (l.length - 1 - i) (by omega) (by omega)
  rw [if_neg (by omega), rd_get (by omega), rd_get (by omega)] at h1
  exact Option.some.inj h1
 rw [e1, e2]
 refine List.ext_getElem? fun j => ?_
 by_cases hj : j < l.length
 ·rw [turned_get l (i + 1) j h hj, List.getElem?_set, List.getElem?_set, List.length_set, hl]
  by_cases h1 : l.length - 1 - i = j
  ·rw [if_pos h1, if_pos (by omega), if_pos (by omega), List.getElem?_reverse hj, rd_get (by omega), show l.length - 1 - j = i by omega]
  ·rw [if_neg h1]
   by_cases h2 : i = j
   ·rw [if_pos h2, if_pos (by omega), if_pos (by omega), List.getElem?_reverse hj, rd_get (by omega), ← h2]
   ·rw [if_neg h2, turned_get l i j (by omega) hj]
    by_cases h3 : j < i ∨ l.length - i ≤ j
    ·rw [if_pos h3, if_pos (by omega)]
    ·rw [if_neg h3, if_neg (by omega)]
 ·rw [List.getElem?_eq_none (by rw [List.length_set, List.length_set, hl]; omega), List.getElem?_eq_none (by rw [turned_len l _ h]; omega)]
theorem turned_end (l : List Int) (i : Nat) (h : l.length / 2 = i) : turned l i = l.reverse := by
 refine List.ext_getElem? fun j => ?_
 by_cases hj : j < l.length
 ·rw [turned_get l i j (by omega) hj]
  by_cases h3 : j < i ∨ l.length - i ≤ j
  ·rw [if_pos h3]
  ·rw [if_neg h3, List.getElem?_reverse hj]
   congr 1
   omega
 ·rw [List.getElem?_eq_none (by rw [turned_len l _ (by omega)]; omega), List.getElem?_eq_none (by rw [List.length_reverse]; omega)]
theorem fdm {a b q r : Int} (h : a = b * q + r) (hb : b ≠ 0) (h1 : 0 < b → 0 ≤ r ∧ r < b) (h2 : b < 0 → b < r ∧ r ≤ 0) : a.fdiv b = q ∧ a.fmod b = r := by
 have e : a.fdiv b = q := by
  rw [h]
  have h3 := Int.fmod_add_mul_fdiv a b
  rcases (by omega : 0 < b ∨ b < 0) with hb | hb
  ·rw [Int.fdiv_eq_ediv_of_nonneg _ (by omega), Int.add_comm, Int.add_mul_ediv_left _ _ (by omega), Int.ediv_eq_zero_of_lt (h1 hb).1 (h1 hb).2]
   omega
  ·have h4 := h2 hb
   have e2 : (b * q + r).fdiv b = (-(b * q + r)).fdiv (-b) := by rw [Int.neg_fdiv_neg]
   rw [e2, Int.fdiv_eq_ediv_of_nonneg _ (by omega), show -(b * q + r) = -r + (-b) * q by rw [Int.neg_mul]; omega, Int.add_mul_ediv_left _ _ (by omega), Int.ediv_eq_zero_of_lt (by omega) (by omega)]
   omega
 refine ⟨e, ?_⟩
 have h3 := Int.fmod_add_mul_fdiv a b
 rw [e] at h3
 omega
theorem fd_abs {x y q r : Int} (hy : y ≠ 0) (h : (x.natAbs : Int) = y.natAbs * q + r) (h0 : 0 ≤ r) (h1 : r < y.natAbs) :
  (if (decide (x < 0) != decide (y < 0)) = true ∧ r ≠ 0 then x.fdiv y = -q - 1 ∧ x.fmod y = sgnd (decide (x < 0)) r + y else x.fdiv y = sgnd (decide (x < 0) != decide (y < 0)) q ∧ x.fmod y = sgnd (decide (x < 0)) r) := by
 by_cases hx : x < 0 <;> by_cases hs : y < 0 <;> simp only [hx, hs, decide_true, decide_false, bne_self_eq_false, Bool.false_eq_true, false_and, if_false, Bool.true_bne, Bool.not_false, Bool.false_bne, true_and, sgnd_true, sgnd_false]
 ·refine fdm ?_ hy (fun _ => by omega) (fun _ => by omega)
  have e : (y.natAbs : Int) = -y := by omega
  rw [e, Int.neg_mul] at h
  omega
 ·have e : (y.natAbs : Int) = y := by omega
  rw [e] at h
  split
  ·refine fdm ?_ hy (fun _ => by omega) (fun _ => by omega)
   rw [Int.mul_sub, Int.mul_neg]
   omega
  ·refine fdm ?_ hy (fun _ => by omega) (fun _ => by omega)
   rw [Int.mul_neg]
   omega
 ·have e : (y.natAbs : Int) = -y := by omega
  rw [e, Int.neg_mul] at h
  split
  ·refine fdm ?_ hy (fun _ => by omega) (fun _ => by omega)
   rw [Int.mul_sub, Int.mul_neg]
   omega
  ·refine fdm ?_ hy (fun _ => by omega) (fun _ => by omega)
   rw [Int.mul_neg]
   omega
 ·refine fdm ?_ hy (fun _ => by omega) (fun _ => by omega)
  have e : (y.natAbs : Int) = y := by omega
  rw [e] at h
  omega
theorem sz_small {z : Int} (h : z.natAbs < 10000000000000000000) : Sz z := sz_of (by have := nd_int64 (y := z.natAbs) h; omega)
theorem quo_l1 {x1 : ByteArray} {s1 s2 : Bool} {x y qs : List Int} {i : Int} {R : ByteArray × ByteArray} (hy : Ten.Can y) (hy0 : y ≠ []) (hym : y.length ≤ 1000000000) (hq : qs.length < 1000000001) : ∀ (m : Nat) (r : List Int) (c : Int), Ten.Can r → r.length ≤ 1000000001 → 0 ≤ c → c + m ≤ 100 → Ten.val r < Ten.val y * (m + 1) →
  (∀ r' c', Ten.Can r' → r'.length ≤ y.length → c ≤ c' → Ten.val r = Ten.val y * (c' - c) + Ten.val r' → Ten.val r' < Ten.val y → Ev (fun k => torusref02_Quotient.l0 k x1 s1 x s2 y (qs ++ [c']) r' (wrap64 (i - 1))) R) →
  Ev (fun k => torusref02_Quotient.l1 k x1 s1 x s2 y qs r i c) R
 |m, r, c, hr, hrm, hc, hcm, hlt, hk => by
  refine ev_succ ?_
  simp only [torusref02_Quotient.l1]
  have hn := Ten.val_nonneg r hr.1
  have hp := Ten.can_pos y hy hy0
  refine (ev_bind (rsize_ev hr hy (by omega))).2 ?_
  by_cases h : Ten.val y ≤ Ten.val r
  ·simp only [show ((Ten.val r - Ten.val y).sign ≥ 0) from Int.sign_nonneg_iff.2 (by omega), if_true]
   obtain ⟨d, h1, h2, h3, h4⟩ := difference_ev hr.1 hy.1 (by omega) (can_len_le hr hy h) h
   refine (ev_bind h1).2 ?_
   rw [wrap_id (by omega) (by omega)]
   obtain ⟨m, rfl⟩ : ∃ q, m = q + 1 := ⟨m - 1, by
    rcases Nat.eq_zero_or_pos m with rfl | h
    ·simp at hlt; omega
    ·omega⟩
   rw [show ((m + 1 : Nat) : Int) + 1 = (m + 1 : Int) + 1 by omega, Int.mul_add _ ((m : Int) + 1)] at hlt
   refine quo_l1 hy hy0 hym hq m d (c + 1) h2 (by omega) (by omega) (by omega) (by rw [h4]; omega) fun r' c' g1 g2 g3 g4 g5 => hk r' c' g1 g2 (by omega) ?_ g5
   rw [h4] at g4
   rw [show c' - c = (c' - (c + 1)) + 1 by omega, Int.mul_add]
   omega
  ·simp only [show ¬ ((Ten.val r - Ten.val y).sign ≥ 0) from fun h2 => by have := Int.sign_nonneg_iff.1 h2; omega, if_false]
   rw [show (fun k => if qs.length < 17592186044416 then torusref02_Quotient.l0 k x1 s1 x s2 y (qs ++ [c]) r (wrap64 (i - 1)) else none) = fun k => torusref02_Quotient.l0 k x1 s1 x s2 y (qs ++ [c]) r (wrap64 (i - 1)) from funext fun k => by rw [if_pos (by omega)]]
   exact hk r c hr (by
    refine Nat.le_of_not_lt fun hl => ?_
    have := Ten.can_len_lt hy hr hl
    omega) (by omega) (by rw [Int.sub_self, Int.mul_zero]; omega) (by omega)
 termination_by m => m
theorem quo_l2 {x1 : ByteArray} {s1 s2 : Bool} {l r : List Int} {R : ByteArray × ByteArray} (hm : l.length ≤ 2000000000)
  (hk : Ev (fun k => (torusref02_text.f k (s1 != s2) l.reverse).bind fun t648 => ((torusref02_text.f k s1 r).bind fun t649 => (if t649.toList = ([48] : List UInt8) then (torusref02_Quotient.j5 k x1 t648 t649 false) else (torusref02_Quotient.j5 k x1 t648 t649 (s1 != s2))))) R) :
  ∀ (m i : Nat), i + m = l.length / 2 → Ev (fun k => torusref02_Quotient.l2 k x1 s1 s2 (turned l i) r (i : Int)) R
 |0, i, h => by
  refine ev_succ ?_
  have hl := turned_len l i (by omega)
  simp only [torusref02_Quotient.l2, hl]
  rw [wrap_id (a := (l.length : Int) / 2) (by omega) (by omega)]
  simp only [show ¬ (i : Int) < (l.length : Int) / 2 by omega, if_false]
  rw [turned_end l i (by omega)]
  exact hk
 |m + 1, i, h => by
  refine ev_succ ?_
  have hl := turned_len l i (by omega)
  simp only [torusref02_Quotient.l2, hl]
  rw [wrap_id (a := (l.length : Int) / 2) (by omega) (by omega), wrap_id (a := (l.length : Int) - 1) (by omega) (by omega), wrap_id (a := (l.length : Int) - 1 - i) (by omega) (by omega), wrap_id (a := (i : Int) + 1) (by omega) (by omega)]
  have e : (l.length : Int) - 1 - i = ((l.length - 1 - i : Nat) : Int) := by omega
  have e2 : (i : Int) + 1 = ((i + 1 : Nat) : Int) := by omega
  have p1 : (i : Int) < (l.length : Int) / 2 := by omega
  have p2 : (0 : Int) ≤ ((l.length - 1 - i : Nat) : Int) := by omega
  have p3 : ((l.length - 1 - i : Nat) : Int) < (l.length : Int) := by omega
  have p4 : (0 : Int) ≤ (i : Int) := by omega
  have p5 : (i : Int) < (l.length : Int) := by omega
  rw [e, e2]
  simp only [p1, p2, p3, p4, p5, if_true, Int.toNat_natCast]
  rw [turned_next l i (by omega)]
  exact quo_l2 hm hk m (i + 1) (by omega)
theorem quo_l0 {x1 : ByteArray} {s1 s2 : Bool} {x y : List Int} {R : ByteArray × ByteArray} (hx : Ten.Can x) (hxm : x.length ≤ 1000000000) (hy : Ten.Can y) (hy0 : y ≠ []) (hym : y.length ≤ 1000000000)
  (hk : ∀ q r, Ten.Lim q → q.length ≤ x.length → Ten.Can r → r.length ≤ y.length → Ten.val x = Ten.val y * Ten.val q.reverse + Ten.val r → Ten.val r < Ten.val y →
   Ev (fun k => torusref02_Quotient.l2 k x1 s1 s2 q r 0) R) : ∀ (i : Nat) (q r : List Int), i + q.length ≤ x.length → Ten.Lim q → Ten.Can r → r.length ≤ y.length → Ten.val (x.drop i) = Ten.val y * Ten.val q.reverse + Ten.val r → Ten.val r < Ten.val y →
   Ev (fun k => torusref02_Quotient.l0 k x1 s1 x s2 y q r ((i : Int) - 1)) R
 |0, q, r, hi, hq, hr, hrl, he, hlt => by
  refine ev_succ ?_
  simp only [torusref02_Quotient.l0]
  simp only [show ¬ (((0 : Nat) : Int) - 1 ≥ 0) by omega, if_false]
  exact hk q r hq (by omega) hr hrl he hlt
 |i + 1, q, r, hi, hq, hr, hrl, he, hlt => by
  refine ev_succ ?_
  have e : (((i + 1 : Nat) : Int) - 1) = (i : Int) := by omega
  have p1 : ((i : Int) ≥ 0) := by omega
  have p2 : (0 : Int) ≤ (i : Int) := by omega
  have p3 : (i : Int) < (x.length : Int) := by omega
  simp only [torusref02_Quotient.l0, e, p1, p2, p3, if_true, Option.bind_some, List.length_singleton]
  have hd := hx.1.rd i (by omega)
  have hvx : Ten.val (x.drop i) = rd x (i : Int) + 10 * Ten.val (x.drop (i + 1)) := by rw [drop_cons x i (by omega), Ten.val]
  have hn := Ten.val_nonneg r hr.1
  have hp := Ten.can_pos y hy hy0
  rw [show (fun k => if 1 + r.length < 17592186044416 then (torusref02_trim.f k ([rd x (i : Int)] ++ r)).bind fun t634 => torusref02_Quotient.l1 k x1 s1 x s2 y q t634 (i : Int) 0 else none) = fun k => (torusref02_trim.f k ([rd x (i : Int)] ++ r)).bind fun t634 => torusref02_Quotient.l1 k x1 s1 x s2 y q t634 (i : Int) 0 from funext fun k => by rw [if_pos (by omega)]]
  have hl2 : Ten.Lim ([rd x (i : Int)] ++ r) := (Ten.Lim.cons hd.1 hd.2 Ten.Lim.nil).append hr.1
  refine (ev_bind (rtrim_ev _ (by rw [List.length_append, List.length_singleton]; omega))).2 ?_
  have htl := Ten.tr_len ([rd x (i : Int)] ++ r)
  rw [List.length_append, List.length_singleton] at htl
  have htv : Ten.val (Ten.tr ([rd x (i : Int)] ++ r)) = rd x (i : Int) + 10 * Ten.val r := by rw [Ten.tr_val]; rfl
  refine quo_l1 hy hy0 hym (by omega) 9 _ 0 (Ten.tr_can _ hl2) (by omega) (by omega) (by omega) (by rw [htv]; omega) fun r' c' g1 g2 g3 g4 g5 => ?_
  rw [wrap_id (by omega) (by omega)]
  rw [htv, Int.sub_zero] at g4
  have hn' := Ten.val_nonneg r' g1.1
  have c9 : c' ≤ 9 := by
   refine Int.le_of_not_gt fun h => ?_
   have := Int.mul_le_mul_of_nonneg_left (show (10 : Int) ≤ c' by omega) (show 0 ≤ Ten.val y by omega)
   omega
  refine quo_l0 hx hxm hy hy0 hym hk i (q ++ [c']) r' (by rw [List.length_append, List.length_singleton]; omega) (hq.append (Ten.Lim.cons (by omega) (by omega) Ten.Lim.nil)) g1 g2 ?_ g5
  rw [List.reverse_append, List.reverse_singleton, List.singleton_append, Ten.val, hvx, he]
  grind
theorem bl_iff (s t : ByteArray) : s.toList = t.toList ↔ s = t := by
 rw [ByteArray.toList_eq, ByteArray.toList_eq]
 refine ⟨fun h => ?_, fun h => by rw [h]⟩
 cases s
 cases t
 simp at h
 rw [h]
theorem TX_zero : TX 0 = ⟨#[48]⟩ := rfl
theorem TX_one : TX 1 = ⟨#[49]⟩ := (int?_TX (s := ⟨#[49]⟩) (by decide)).symm
theorem toList48 (q : Int) : (TX q).toList = ([48] : List UInt8) ↔ q = 0 := by
 have h : ([48] : List UInt8) = (TX 0).toList := by rw [TX_zero, ByteArray.toList_eq]
 rw [h, bl_iff]
 exact ⟨TX_inj, fun e => by rw [e]⟩
theorem toList49 (q : Int) : (TX q).toList = ([49] : List UInt8) ↔ q = 1 := by
 have h : ([49] : List UInt8) = (TX 1).toList := by rw [TX_one, ByteArray.toList_eq]
 rw [h, bl_iff]
 exact ⟨TX_inj, fun e => by rw [e]⟩
theorem nd_val {l : List Int} (h : Ten.Lim l) : nd (Ten.val l).natAbs ≤ l.length := by
 have h1 := Ten.val_lt l h
 have h2 := Ten.val_nonneg l h
 refine (nd_le _ _).2 ?_
 have e : ((10 ^ l.length : Nat) : Int) = 10 ^ l.length := by rw [Int.natCast_pow]; rfl
 rw [← e] at h1
 omega
theorem sgnd_abs (b : Bool) (v : Int) : (sgnd b v).natAbs = v.natAbs := by
 unfold sgnd
 split <;> omega
theorem sz_digits {b : Bool} {l : List Int} (h : Ten.Lim l) (hl : l.length ≤ 999999999) : Sz (sgnd b (Ten.val l)) := sz_of (by rw [sgnd_abs]; have := nd_val h; omega)
theorem quo_j1 {y q r : Int} {b : Bool} (h1 : q.natAbs < 1000000000) (h2 : r.natAbs < 1000000000) (h3 : y.natAbs < 1000000000) :
  Ev (fun k => torusref02_Quotient.j1 k y q r b) (if b = true then (TX (q - 1), TX (r + y)) else (TX q, TX r)) := by
 refine ev_succ ?_
 simp only [torusref02_Quotient.j1]
 cases b with
 |true =>
  simp only [if_true]
  rw [wrap_id (by omega) (by omega), wrap_id (by omega) (by omega)]
  refine (ev_bind (Number_ev (by omega) (by omega))).2 ((ev_bind (Number_ev (by omega) (by omega))).2 (Ev.now _))
 |false =>
  simp only [Bool.false_eq_true, if_false]
  refine (ev_bind (Number_ev (by omega) (by omega))).2 ((ev_bind (Number_ev (by omega) (by omega))).2 (Ev.now _))
theorem quo_small {a b : ByteArray} {x y : Int} (hx : x.natAbs < 1000000000) (hy : y.natAbs < 1000000000) (hy0 : y ≠ 0) : Ev (fun k => torusref02_Quotient.j0 k a b x y true) (TX (x.fdiv y), TX (x.fmod y)) := by
 refine ev_succ ?_
 simp only [torusref02_Quotient.j0, if_true, hy0, if_false]
 have e1 := Int.tmod_add_mul_tdiv x y
 have e2 : (Int.tmod x y).natAbs = x.natAbs % y.natAbs := Int.natAbs_tmod x y
 have e3 : (Int.tdiv x y).natAbs = x.natAbs / y.natAbs := Int.natAbs_tdiv x y
 have e4 : x.natAbs % y.natAbs < y.natAbs := Nat.mod_lt _ (by omega)
 have e5 : x.natAbs / y.natAbs ≤ x.natAbs := Nat.div_le_self _ _
 generalize Int.tmod x y = r at *
 generalize Int.tdiv x y = q at *
 rw [wrap_id (by omega) (by omega)]
 by_cases h0 : r = 0
 ·simp only [h0, if_true]
  have := quo_j1 (y := y) (q := q) (r := 0) (b := false) (by omega) (by omega) hy
  rw [if_neg (by decide)] at this
  have f := fdm (a := x) (b := y) (q := q) (r := 0) (by omega) hy0 (fun _ => by omega) (fun _ => by omega)
  rw [f.1, f.2]
  exact this
 ·simp only [h0, if_false]
  have := quo_j1 (y := y) (q := q) (r := r) (b := (decide (r < 0)) != (decide (y < 0))) (by omega) (by omega) hy
  by_cases hs : ((decide (r < 0)) != (decide (y < 0))) = true
  ·rw [if_pos hs] at this
   have f := fdm (a := x) (b := y) (q := q - 1) (r := r + y) (by rw [Int.mul_sub]; omega) hy0 (fun h => by
    have : ¬ y < 0 := by omega
    simp only [this, decide_false] at hs
    have : r < 0 := by simpa using hs
    omega) (fun h => by
    simp only [h, decide_true] at hs
    have : ¬ r < 0 := by simpa using hs
    omega)
   rw [f.1, f.2]
   exact this
  ·rw [if_neg hs] at this
   have f := fdm (a := x) (b := y) (q := q) (r := r) (by omega) hy0 (fun h => by
    have : ¬ y < 0 := by omega
    simp only [this, decide_false] at hs
    have : ¬ r < 0 := by simpa using hs
    omega) (fun h => by
    simp only [h, decide_true] at hs
    have : r < 0 := by simpa using hs
    omega)
   rw [f.1, f.2]
   exact this
theorem quo_big {x y : Int} (hx : Sz x) (hy : Sz y) (hx9 : nd x.natAbs ≤ 999999990) (hy9 : nd y.natAbs ≤ 999999990) (hy0 : y ≠ 0) {u v : Int} : Ev (fun k => torusref02_Quotient.j0 k (TX x) (TX y) u v false) (TX (x.fdiv y), TX (x.fmod y)) := by
 refine ev_succ ?_
 simp only [torusref02_Quotient.j0, Bool.false_eq_true, if_false]
 refine (ev_bind (digits_TX hx)).2 ((ev_bind (digits_TX hy)).2 ?_)
 obtain ⟨X, hX⟩ : ∃ X, Ten.dg x.natAbs = X := ⟨_, rfl⟩
 obtain ⟨Y, hY⟩ : ∃ Y, Ten.dg y.natAbs = Y := ⟨_, rfl⟩
 have cX := Ten.dg_can x.natAbs
 have cY := Ten.dg_can y.natAbs
 have vX := val_dg10 x
 have vY := val_dg10 y
 have yn : Ten.dg y.natAbs ≠ [] := dg_ne (by omega)
 unfold nd at hx9 hy9
 rw [hX] at cX vX hx9 ⊢
 rw [hY] at cY vY hy9 yn ⊢
 clear hX hY
 have ly : 0 < Y.length := List.length_pos_iff.2 yn
 obtain ⟨S, hS⟩ : ∃ S : Nat, X.length - (Y.length - 1) = S := ⟨_, rfl⟩
 have m1 : mx 0 (wrap64 ((Y.length : Int) - 1)) = ((Y.length - 1 : Nat) : Int) := by
  rw [wrap_id (by omega) (by omega)]
  unfold mx
  split <;> omega
 have m2 : mx 0 (wrap64 ((X.length : Int) - ((Y.length - 1 : Nat) : Int))) = (S : Int) := by
  rw [wrap_id (by omega) (by omega)]
  unfold mx
  split <;> omega
 simp only [Option.bind_some, m1, m2, List.nil_append, List.length_nil, Int.toNat_natCast]
 have p1 : (0 : Int) ≤ (S : Int) := by omega
 have p2 : (S : Int) ≤ (X.length : Int) := by omega
 have p3 : 0 + (X.drop S).length < 17592186044416 := by rw [List.length_drop]; omega
 simp only [p1, p2, p3, if_true]
 refine (ev_bind (rtrim_ev _ (by rw [List.length_drop]; omega))).2 ?_
 rw [wrap_id (by omega) (by omega)]
 have tl := Ten.tr_len (X.drop S)
 rw [List.length_drop] at tl
 refine quo_l0 cX (by omega) cY yn (by omega) ?_ S [] (Ten.tr (X.drop S)) (by simp; omega) Ten.Lim.nil (Ten.tr_can _ (cX.1.drop S)) (by omega) (by rw [Ten.tr_val]; simp [Ten.val]) ?_
 ·intro q r hq hql hr hrl he hlt
  have hn := Ten.val_nonneg r hr.1
  have := quo_l2 (x1 := TX y) (s1 := decide (x < 0)) (s2 := decide (y < 0)) (l := q) (r := r) (R := (TX (x.fdiv y), TX (x.fmod y))) (by omega) ?_ (q.length / 2) 0 (by omega)
  ·rw [turned_zero] at this
   exact this
  have hqr : Ten.Lim q.reverse := Ten.Lim.reverse hq
  refine (ev_bind (text_ev _ hqr (by rw [List.length_reverse]; omega))).2 ((ev_bind (text_ev _ hr.1 (by omega))).2 ?_)
  rw [vX, vY] at he
  rw [vY] at hlt
  have F := fd_abs hy0 he hn hlt
  have z0 : sgnd (decide (x < 0)) (Ten.val r) = 0 ↔ Ten.val r = 0 := by
   have := sgnd_abs (decide (x < 0)) (Ten.val r)
   omega
  simp only [toList48, z0]
  have s1 : Sz (sgnd (decide (x < 0) != decide (y < 0)) (Ten.val q.reverse)) := sz_digits hqr (by rw [List.length_reverse]; omega)
  have s2 : Sz (sgnd (decide (x < 0)) (Ten.val r)) := sz_digits hr.1 (by omega)
  by_cases hr0 : Ten.val r = 0
  ·rw [if_neg (fun h => h.2 hr0)] at F
   simp only [hr0, if_true]
   refine ev_succ ?_
   simp only [torusref02_Quotient.j5, Bool.false_eq_true, if_false]
   rw [F.1, F.2, hr0]
   exact Ev.now _
  ·simp only [hr0, if_false]
   refine ev_succ ?_
   by_cases hs : (decide (x < 0) != decide (y < 0)) = true
   ·rw [if_pos ⟨hs, hr0⟩] at F
    simp only [torusref02_Quotient.j5, hs, if_true]
    rw [hs] at s1
    rw [sgnd_true] at s1 ⊢
    rw [← TX_one]
    refine (ev_bind (Minus_ev s1 (sz_small (by decide)) (sz_small (by decide)))).2 ((ev_bind (Plus_ev s2 hy)).2 ?_)
    rw [F.1, F.2]
    exact Ev.now _
   ·rw [if_neg (fun h => hs h.1)] at F
    have hs' : (decide (x < 0) != decide (y < 0)) = false := by simpa using hs
    rw [hs'] at F
    simp only [torusref02_Quotient.j5, hs', Bool.false_eq_true, if_false]
    rw [F.1, F.2]
    exact Ev.now _
 ·rw [Ten.tr_val]
  have h1 := Ten.val_lt _ (cX.1.drop S)
  have h2 := Ten.can_low Y cY yn
  have h3 : (10 : Int) ^ (X.drop S).length ≤ 10 ^ (Y.length - 1) := Ten.pow_mono (by rw [List.length_drop]; omega)
  omega
theorem Quotient_ev {x y : Int} (hx : Sz x) (hy : Sz y) (hx9 : nd x.natAbs ≤ 999999990) (hy9 : nd y.natAbs ≤ 999999990) (hy0 : y ≠ 0) : Ev (fun k => torusref02_Quotient.f k (TX x) (TX y)) (TX (x.fdiv y), TX (x.fmod y)) := by
 unfold torusref02_Quotient.f
 refine (ev_bind (Short_ev hx)).2 ((ev_bind (Short_ev hy)).2 ?_)
 by_cases c1 : x.natAbs < 1000000000
 ·have e1 : shortN x = (x, true) := if_pos c1
  simp only [e1, if_true]
  by_cases c2 : y.natAbs < 1000000000
  ·have e2 : shortN y = (y, true) := if_pos c2
   simp only [e2]
   exact quo_small c1 c2 hy0
  ·have e2 : shortN y = (0, false) := if_neg c2
   simp only [e2]
   exact quo_big hx hy hx9 hy9 hy0
 ·have e1 : shortN x = (0, false) := if_neg c1
  simp only [e1, Bool.false_eq_true, if_false]
  exact quo_big hx hy hx9 hy9 hy0
theorem Divisor_l0 : ∀ (y x : Nat), nd x ≤ 999999990 → nd y ≤ 999999990 → Ev (fun k => torusref02_Divisor.l0 k (TX (x : Int)) (TX (y : Int))) (TX (Nat.gcd x y : Nat)) := by
 intro y
 induction y using Nat.strongRecOn with
 |ind y ih =>
  intro x hx hy
  refine ev_succ ?_
  simp only [torusref02_Divisor.l0, toList48]
  by_cases h0 : y = 0
  ·subst h0
   simp only [show ((0 : Nat) : Int) = 0 from rfl, if_true, Nat.gcd_zero_right]
   exact Ev.now _
  ·simp only [show ¬ ((y : Nat) : Int) = 0 by omega, if_false]
   refine (ev_bind (Quotient_ev (sz_of (by rw [Int.natAbs_natCast]; omega)) (sz_of (by rw [Int.natAbs_natCast]; omega)) (by rw [Int.natAbs_natCast]; exact hx) (by rw [Int.natAbs_natCast]; exact hy) (by omega))).2 ?_
   have e : (x : Int).fmod (y : Int) = ((x % y : Nat) : Int) := by rw [Int.fmod_eq_emod_of_nonneg _ (by omega)]; omega
   have hm := Nat.mod_lt x (show y > 0 by omega)
   simp only [e]
   have hnd : nd (x % y) ≤ 999999990 := by
    have h1 := (nd_le (nd y) y).1 (Nat.le_refl _)
    have h2 := (nd_le (nd y) (x % y)).2 (by omega)
    omega
   have := ih (x % y) hm y hy hnd
   rw [show Nat.gcd x y = Nat.gcd y (x % y) by rw [Nat.gcd_comm x y, Nat.gcd_rec y x, Nat.gcd_comm]]
   exact this
theorem Divisor_ev {x y : Int} (hx : Sz x) (hy : Sz y) (hx9 : nd x.natAbs ≤ 999999990) (hy9 : nd y.natAbs ≤ 999999990) : Ev (fun k => torusref02_Divisor.f k (TX x) (TX y)) (TX (Int.gcd x y : Nat)) := by
 unfold torusref02_Divisor.f
 refine (ev_bind (Positive_ev hx)).2 ((ev_bind (Positive_ev hy)).2 ?_)
 exact Divisor_l0 y.natAbs x.natAbs hx9 hy9
attribute [local go_sem] max2_int min2_int max_two min_two max_three min_three max_four min_four
set_option linter.unusedVariables false
set_option linter.unusedSimpArgs false
def torusref03_Reduced.j0 : Nat → ByteArray → ByteArray → Option (ByteArray)
 |0, _, _ => none
 |k + 1, x0, x1 => (torusref02_Divisor.f k x0 x1).bind fun t659 => (if t659.toList = ([49] : List UInt8) then (if x1.toList = ([49] : List UInt8) then (some x0) else (if x0.size + 1 ≤ 9223372036854775807 then (if (x0 ++ (⟨#[47]⟩ : ByteArray)).size + x1.size ≤ 9223372036854775807 then (some ((x0 ++ (⟨#[47]⟩ : ByteArray)) ++ x1)) else (none)) else (none))) else ((torusref02_Quotient.f k x0 t659).bind fun bt660 => ((torusref02_Quotient.f k x1 t659).bind fun bt662 => (if bt662.1.toList = ([49] : List UInt8) then (some bt660.1) else (if bt660.1.size + 1 ≤ 9223372036854775807 then (if (bt660.1 ++ (⟨#[47]⟩ : ByteArray)).size + bt662.1.size ≤ 9223372036854775807 then (some ((bt660.1 ++ (⟨#[47]⟩ : ByteArray)) ++ bt662.1)) else (none)) else (none))))))
def torusref03_Reduced.f (k : Nat) (a0 : ByteArray) (a1 : ByteArray) : Option (ByteArray) := (torusref02_Compare.f k a1 (⟨#[48]⟩ : ByteArray)).bind fun t656 => (if t656 < 0 then ((torusref02_Opposite.f k a0).bind fun t657 => ((torusref02_Opposite.f k a1).bind fun t658 => (torusref03_Reduced.j0 k t657 t658))) else (torusref03_Reduced.j0 k a0 a1))
set_option maxHeartbeats 8000000 in
set_option maxRecDepth 100000 in
theorem torusref03_Reduced.calls (k : Nat) (a0 : ByteArray) (a1 : ByteArray) (r : ByteArray) (w : World) (h : torusref03_Reduced.f k a0 a1 = some r) :
  Calls Tryz.prog 93 #[.string a0, .string a1] w fun e w' => e = .returned (.string r) ∧ Below w.heap.size w w' := by
 have HB := Aside0.mk (Below.refl w.heap.size w)
 have H : ((torusref02_Compare.f k a1 (⟨#[48]⟩ : ByteArray)).bind fun t656 => (if t656 < 0 then ((torusref02_Opposite.f k a0).bind fun t657 => ((torusref02_Opposite.f k a1).bind fun t658 => (torusref03_Reduced.j0 k t657 t658))) else (torusref03_Reduced.j0 k a0 a1))) = some r := h
 clear h
 replace H := Option.bind_eq_some_iff.mp H
 obtain ⟨t656, A30, H⟩ := H
 have A3 := Aside0.mk A30
 clear A30
 have HC4 := Aside0.mk H
 clear H
 go_enter Tryz.func93, Tryz.ntmps93
 go_upto_if 8 with (first | ((with_reducible refine gate_callee (f := 128) rfl ?_); refine goesL_ (some 7) rfl rfl Tryz.func128 (by kernel_rfl) rfl #[.string a1, .string (⟨#[48]⟩ : ByteArray)] rfl ag_ ?_; (with_reducible refine (torusref02_Compare.calls k a1 (⟨#[48]⟩ : ByteArray) t656 _ A3.out).mono ?_); rintro e w5 ⟨rfl, hb⟩; refine ⟨_, rfl, ?_⟩; have n0_ := Aside0.mk (below_step bw_ hb); clear HB; have HB := n0_; clear n0_; (try clear hb); (try clear hb2); (try clear hk); (try clear hi)))
 (try simp only [Act.put, List.setIfInBounds_toArray, List.set_cons_zero, List.set_cons_succ])
 go_cut [0, 1] (fun v0 v1 wc => ∃ (kq : Nat) (x0_3 : ByteArray) (x1_3 : ByteArray), v0 = .string x0_3 ∧ v1 = .string x1_3 ∧ Aside0 (torusref03_Reduced.j0 kq x0_3 x1_3 = some r) ∧ Aside0 (kq ≤ k) ∧ Aside0 (Below w.heap.size w wc))
 case first =>
  have H := HC4.out
  clear HC4
  by_cases c6 : t656 < 0
  ·rw [if_pos c6] at H
   have c6b0 : decide (t656 < 0) = true := decide_eq_true c6
   clear c6
   (first | rw [c6b0] | (simp only [i64_w, i32_w]; rw [c6b0]) | skip)
   replace H := Option.bind_eq_some_iff.mp H
   obtain ⟨t657, A70, H⟩ := H
   have A7 := Aside0.mk A70
   clear A70
   replace H := Option.bind_eq_some_iff.mp H
   obtain ⟨t658, A80, H⟩ := H
   have A8 := Aside0.mk A80
   clear A80
   have H' := Aside0.mk H
   clear H
   go_wp2_with (first | ((with_reducible refine gate_callee (f := 91) rfl ?_); refine goesL_ (some 10) rfl rfl Tryz.func91 (by kernel_rfl) rfl #[.string a0] rfl ag_ ?_; (with_reducible refine (torusref02_Opposite.calls k a0 t657 _ A7.out).mono ?_); rintro e w9 ⟨rfl, hb⟩; refine ⟨_, rfl, ?_⟩; have n0_ := Aside0.mk (below_step bw_ hb); clear HB; have HB := n0_; clear n0_; (try clear hb); (try clear hb2); (try clear hk); (try clear hi)) | ((with_reducible refine gate_callee (f := 91) rfl ?_); refine goesL_ (some 12) rfl rfl Tryz.func91 (by kernel_rfl) rfl #[.string a1] rfl ag_ ?_; (with_reducible refine (torusref02_Opposite.calls k a1 t658 _ A8.out).mono ?_); rintro e w10 ⟨rfl, hb⟩; refine ⟨_, rfl, ?_⟩; have n0_ := Aside0.mk (below_step bw_ hb); clear HB; have HB := n0_; clear n0_; (try clear hb); (try clear hb2); (try clear hk); (try clear hi)))
   go_meet
   case rel => exact ⟨_, (t657), (t658), sd_, sd_, H', ⟨by first | omega | exact Nat.le_refl _⟩, ⟨bw_⟩⟩
  ·rw [if_neg c6] at H
   have c6b0 : decide (t656 < 0) = false := decide_eq_false c6
   clear c6
   (first | rw [c6b0] | (simp only [i64_w, i32_w]; rw [c6b0]) | skip)
   have H' := Aside0.mk H
   clear H
   go_wp2
   go_meet
   case rel => exact ⟨_, (a0), (a1), sd_, sd_, H', ⟨by first | omega | exact Nat.le_refl _⟩, ⟨bw_⟩⟩
 case rest =>
  clear HC4
  try clear c1
  try clear p2
  try clear c6
  try clear c6b0
  try clear c9
  obtain ⟨kq, x0_3, x1_3, rfl, rfl, HA, HJ3, HB⟩ := hcut
  cases kq with
  |zero => exact absurd HA.out (by simp [torusref03_Reduced.j0])
  |succ kj3 =>
   have H := HA.out
   clear HA
   simp only [torusref03_Reduced.j0] at H
   replace H := Option.bind_eq_some_iff.mp H
   obtain ⟨t659, A110, H⟩ := H
   have A11 := Aside0.mk A110
   clear A110
   by_cases c12 : t659.toList = ([49] : List UInt8)
   ·rw [if_pos c12] at H
    have c12b0 : (t659.toList == ([49] : List UInt8)) = true := beq_iff_eq.mpr c12
    have c12b1 : (t659.toList != ([49] : List UInt8)) = false := bne_eq_false_iff_eq.mpr c12
    clear c12
    by_cases c13 : x1_3.toList = ([49] : List UInt8)
    ·rw [if_pos c13] at H
     have c13b0 : (x1_3.toList == ([49] : List UInt8)) = true := beq_iff_eq.mpr c13
     have c13b1 : (x1_3.toList != ([49] : List UInt8)) = false := bne_eq_false_iff_eq.mpr c13
     clear c13
     obtain rfl := Option.some.inj H
     go_wp2_with (first | ((with_reducible refine gate_callee (f := 158) rfl ?_); refine goesL_ (some 15) rfl rfl Tryz.func158 (by kernel_rfl) rfl #[.string x0_3, .string x1_3] rfl ag_ ?_; (with_reducible refine (torusref02_Divisor.calls kj3 x0_3 x1_3 t659 _ A11.out).mono ?_); rintro e w14 ⟨rfl, hb⟩; refine ⟨_, rfl, ?_⟩; have n0_ := Aside0.mk (below_step bw_ hb); clear HB; have HB := n0_; clear n0_; (try clear hb); (try clear hb2); (try clear hk); (try clear hi)))
     go_ret
     exact ⟨by first | rfl | (simp [errW_none, errW_some] <;> rfl) | (simp [*, errW_none, errW_some] <;> rfl), bw_⟩
    ·rw [if_neg c13] at H
     have c13b0 : (x1_3.toList == ([49] : List UInt8)) = false := beq_eq_false_iff_ne.mpr c13
     have c13b1 : (x1_3.toList != ([49] : List UInt8)) = true := bne_iff_ne.mpr c13
     by_cases c15 : x0_3.size + 1 ≤ 9223372036854775807
     ·rw [if_pos c15] at H
      have c15b0 := eq_true c15
      have c15b1 : decide (x0_3.size + 1 ≤ 9223372036854775807) = true := decide_eq_true c15
      try have c15b2 : (9223372036854775807 < x0_3.size + 1) = False := eq_false (Nat.not_lt.2 c15)
      by_cases c16 : (x0_3 ++ (⟨#[47]⟩ : ByteArray)).size + x1_3.size ≤ 9223372036854775807
      ·rw [if_pos c16] at H
       have c16b0 := eq_true c16
       have c16b1 : decide ((x0_3 ++ (⟨#[47]⟩ : ByteArray)).size + x1_3.size ≤ 9223372036854775807) = true := decide_eq_true c16
       try have c16b2 : (9223372036854775807 < (x0_3 ++ (⟨#[47]⟩ : ByteArray)).size + x1_3.size) = False := eq_false (Nat.not_lt.2 c16)
       obtain rfl := Option.some.inj H
       go_wp2_with (first | ((with_reducible refine gate_callee (f := 158) rfl ?_); refine goesL_ (some 15) rfl rfl Tryz.func158 (by kernel_rfl) rfl #[.string x0_3, .string x1_3] rfl ag_ ?_; (with_reducible refine (torusref02_Divisor.calls kj3 x0_3 x1_3 t659 _ A11.out).mono ?_); rintro e w17 ⟨rfl, hb⟩; refine ⟨_, rfl, ?_⟩; have n0_ := Aside0.mk (below_step bw_ hb); clear HB; have HB := n0_; clear n0_; (try clear hb); (try clear hb2); (try clear hk); (try clear hi)))
       go_ret
       exact ⟨by first | rfl | (simp [errW_none, errW_some] <;> rfl) | (simp [*, errW_none, errW_some] <;> rfl), bw_⟩
      ·rw [if_neg c16] at H
       exact absurd H (by simp)
     ·rw [if_neg c15] at H
      exact absurd H (by simp)
   ·rw [if_neg c12] at H
    have c12b0 : (t659.toList == ([49] : List UInt8)) = false := beq_eq_false_iff_ne.mpr c12
    have c12b1 : (t659.toList != ([49] : List UInt8)) = true := bne_iff_ne.mpr c12
    replace H := Option.bind_eq_some_iff.mp H
    obtain ⟨⟨t660, t661⟩, A180, H⟩ := H
    dsimp only at H
    have A18 := Aside0.mk A180
    clear A180
    replace H := Option.bind_eq_some_iff.mp H
    obtain ⟨⟨t662, t663⟩, A190, H⟩ := H
    dsimp only at H
    have A19 := Aside0.mk A190
    clear A190
    by_cases c20 : t662.toList = ([49] : List UInt8)
    ·rw [if_pos c20] at H
     have c20b0 : (t662.toList == ([49] : List UInt8)) = true := beq_iff_eq.mpr c20
     have c20b1 : (t662.toList != ([49] : List UInt8)) = false := bne_eq_false_iff_eq.mpr c20
     clear c20
     obtain rfl := Option.some.inj H
     go_wp2_with (first | ((with_reducible refine gate_callee (f := 158) rfl ?_); refine goesL_ (some 15) rfl rfl Tryz.func158 (by kernel_rfl) rfl #[.string x0_3, .string x1_3] rfl ag_ ?_; (with_reducible refine (torusref02_Divisor.calls kj3 x0_3 x1_3 t659 _ A11.out).mono ?_); rintro e w21 ⟨rfl, hb⟩; refine ⟨_, rfl, ?_⟩; have n0_ := Aside0.mk (below_step bw_ hb); clear HB; have HB := n0_; clear n0_; (try clear hb); (try clear hb2); (try clear hk); (try clear hi)) | ((with_reducible refine gate_callee (f := 159) rfl ?_); refine goesL_ (some 21) rfl rfl Tryz.func159 (by kernel_rfl) rfl #[.string x0_3, .string t659] rfl ag_ ?_; (with_reducible refine (torusref02_Quotient.calls kj3 x0_3 t659 t660 t661 _ A18.out).mono ?_); rintro e w22 ⟨rfl, hb⟩; refine ⟨_, rfl, ?_⟩; have n0_ := Aside0.mk (below_step bw_ hb); clear HB; have HB := n0_; clear n0_; (try clear hb); (try clear hb2); (try clear hk); (try clear hi)) | ((with_reducible refine gate_callee (f := 159) rfl ?_); refine goesL_ (some 27) rfl rfl Tryz.func159 (by kernel_rfl) rfl #[.string x1_3, .string t659] rfl ag_ ?_; (with_reducible refine (torusref02_Quotient.calls kj3 x1_3 t659 t662 t663 _ A19.out).mono ?_); rintro e w23 ⟨rfl, hb⟩; refine ⟨_, rfl, ?_⟩; have n0_ := Aside0.mk (below_step bw_ hb); clear HB; have HB := n0_; clear n0_; (try clear hb); (try clear hb2); (try clear hk); (try clear hi)))
     go_ret
     exact ⟨by first | rfl | (simp [errW_none, errW_some] <;> rfl) | (simp [*, errW_none, errW_some] <;> rfl), bw_⟩
    ·rw [if_neg c20] at H
     have c20b0 : (t662.toList == ([49] : List UInt8)) = false := beq_eq_false_iff_ne.mpr c20
     have c20b1 : (t662.toList != ([49] : List UInt8)) = true := bne_iff_ne.mpr c20
     by_cases c24 : t660.size + 1 ≤ 9223372036854775807
     ·rw [if_pos c24] at H
      have c24b0 := eq_true c24
      have c24b1 : decide (t660.size + 1 ≤ 9223372036854775807) = true := decide_eq_true c24
      try have c24b2 : (9223372036854775807 < t660.size + 1) = False := eq_false (Nat.not_lt.2 c24)
      by_cases c25 : (t660 ++ (⟨#[47]⟩ : ByteArray)).size + t662.size ≤ 9223372036854775807
      ·rw [if_pos c25] at H
       have c25b0 := eq_true c25
       have c25b1 : decide ((t660 ++ (⟨#[47]⟩ : ByteArray)).size + t662.size ≤ 9223372036854775807) = true := decide_eq_true c25
       try have c25b2 : (9223372036854775807 < (t660 ++ (⟨#[47]⟩ : ByteArray)).size + t662.size) = False := eq_false (Nat.not_lt.2 c25)
       obtain rfl := Option.some.inj H
       go_wp2_with (first | ((with_reducible refine gate_callee (f := 158) rfl ?_); refine goesL_ (some 15) rfl rfl Tryz.func158 (by kernel_rfl) rfl #[.string x0_3, .string x1_3] rfl ag_ ?_; (with_reducible refine (torusref02_Divisor.calls kj3 x0_3 x1_3 t659 _ A11.out).mono ?_); rintro e w26 ⟨rfl, hb⟩; refine ⟨_, rfl, ?_⟩; have n0_ := Aside0.mk (below_step bw_ hb); clear HB; have HB := n0_; clear n0_; (try clear hb); (try clear hb2); (try clear hk); (try clear hi)) | ((with_reducible refine gate_callee (f := 159) rfl ?_); refine goesL_ (some 21) rfl rfl Tryz.func159 (by kernel_rfl) rfl #[.string x0_3, .string t659] rfl ag_ ?_; (with_reducible refine (torusref02_Quotient.calls kj3 x0_3 t659 t660 t661 _ A18.out).mono ?_); rintro e w27 ⟨rfl, hb⟩; refine ⟨_, rfl, ?_⟩; have n0_ := Aside0.mk (below_step bw_ hb); clear HB; have HB := n0_; clear n0_; (try clear hb); (try clear hb2); (try clear hk); (try clear hi)) | ((with_reducible refine gate_callee (f := 159) rfl ?_); refine goesL_ (some 27) rfl rfl Tryz.func159 (by kernel_rfl) rfl #[.string x1_3, .string t659] rfl ag_ ?_; (with_reducible refine (torusref02_Quotient.calls kj3 x1_3 t659 t662 t663 _ A19.out).mono ?_); rintro e w28 ⟨rfl, hb⟩; refine ⟨_, rfl, ?_⟩; have n0_ := Aside0.mk (below_step bw_ hb); clear HB; have HB := n0_; clear n0_; (try clear hb); (try clear hb2); (try clear hk); (try clear hi)))
       go_ret
       exact ⟨by first | rfl | (simp [errW_none, errW_some] <;> rfl) | (simp [*, errW_none, errW_some] <;> rfl), bw_⟩
      ·rw [if_neg c25] at H
       exact absurd H (by simp)
     ·rw [if_neg c24] at H
      exact absurd H (by simp)
attribute [local go_sem] max2_int min2_int max_two min_two max_three min_three max_four min_four
set_option linter.unusedVariables false
set_option linter.unusedSimpArgs false
mutual
def torusref02_Fit.l0 : Nat → ByteArray → Int → List Int → Int → Option (ByteArray)
 |0, _, _, _, _ => none
 |k + 1, x0, x1, x5, x6 => if x6 < (x0.size : Int) then (torusref02_Fit.j1 k x0 x1 x5 x6 (decide ((x5.length : Int) < x1))) else (torusref02_Fit.j1 k x0 x1 x5 x6 false)
def torusref02_Fit.j1 : Nat → ByteArray → Int → List Int → Int → Bool → Option (ByteArray)
 |0, _, _, _, _, _ => none
 |k + 1, x0, x1, x5, x6, x16 => if x16 = true then (if 0 ≤ x6 then (if x6 < (x0.size : Int) then (if (bt x0 x6) ≥ 48 then (if (bt x0 x6) ≤ 57 then (if x5.length < 17592186044416 then (torusref02_Fit.l0 k x0 x1 (x5 ++ [wrap64 ((wrap64 (bt x0 x6)) - 48)]) (wrap64 (x6 + 1))) else (none)) else (torusref02_Fit.l0 k x0 x1 x5 (wrap64 (x6 + 1)))) else (torusref02_Fit.l0 k x0 x1 x5 (wrap64 (x6 + 1)))) else (none)) else (none)) else (if (x0.size : Int) > 0 then (if 0 < (x0.size : Int) then ((torusref02_text.f k ((bt x0 0) == 45) x5).bind fun t1075 => (some t1075)) else (none)) else ((torusref02_text.f k false x5).bind fun t1076 => (some t1076)))
end
def torusref02_Fit.f (k : Nat) (a0 : ByteArray) (a1 : Int) : Option (ByteArray) := torusref02_Fit.l0 k a0 a1 ([] : List Int) 0
set_option maxHeartbeats 8000000 in
set_option maxRecDepth 100000 in
theorem torusref02_Fit.calls (k : Nat) (a0 : ByteArray) (a1 : Int) (r : ByteArray) (w : World) (h : torusref02_Fit.f k a0 a1 = some r) :
  Calls Tryz.prog 99 #[.string a0, .int .i64 a1] w fun e w' => e = .returned (.string r) ∧ Below w.heap.size w w' := by
 have HB := Aside0.mk (Below.refl w.heap.size w)
 have H : (torusref02_Fit.l0 k a0 a1 ([] : List Int) 0) = some r := h
 clear h
 have H' := Aside0.mk H
 clear H
 go_enter Tryz.func99, Tryz.ntmps99
 go_wp2
 go_loopg [5, 6] k (fun kq v5 v6 w' => ∃ (x5_1 : List Int) (x6_1 : Int), v6 = .int .i64 x6_1 ∧ Aside0 (torusref02_Fit.l0 kq a0 a1 x5_1 x6_1 = some r) ∧ Aside0 (kq ≤ k) ∧ Aside0 (Kd.R (Kd.int .i64) 3 w' w.heap.size (fun _ => True) v5 x5_1) ∧ Aside0 (Below w.heap.size w w'))
 case atStart => exact ⟨(([] : List Int)), (0), sd_, H', ⟨Nat.le_refl _⟩, ⟨by first | exact Kd.R_nil _ _ _ _ _ | exact Kd.N_nil _ _ _ _ _ | exact Kd.V_nil _ _ _ _ _ | exact Kd.Q_nil _ _ _ _ _ | exact Kd.S_nil _ _ _ _ _⟩, ⟨bw_⟩⟩
 case round =>
  clear H'
  try clear p2
  obtain ⟨x5_1, x6_1, rfl, HA, HK1, HO_5, HB⟩ := hrel
  cases gk with
  |zero => exact absurd HA.out (by simp [torusref02_Fit.l0])
  |succ k1 =>
   have H := HA.out
   clear HA
   simp only [torusref02_Fit.l0] at H
   have HC3 := Aside0.mk H
   clear H
   go_upto_region 3 with (fail)
   go_cut [16] (fun v16 wc => ∃ (kq : Nat) (x16_2 : Bool), v16 = .bool x16_2 ∧ Aside0 (torusref02_Fit.j1 kq a0 a1 x5_1 x6_1 x16_2 = some r) ∧ Aside0 (kq ≤ k1) ∧ Aside0 (Kd.R (Kd.int .i64) 3 wc w.heap.size (fun _ => True) u5 x5_1) ∧ Aside0 (Below w.heap.size w wc))
   case first =>
    have H := HC3.out
    clear HC3
    by_cases c4 : x6_1 < (a0.size : Int)
    ·rw [if_pos c4] at H
     have c4b0 : decide (x6_1 < (a0.size : Int)) = true := decide_eq_true c4
     clear c4
     (first | rw [c4b0] | (simp only [i64_w, i32_w]; rw [c4b0]) | skip)
     have H' := Aside0.mk H
     clear H
     obtain ⟨Ao5, co5, eo5⟩ := Kd.R_slice HO_5.out
     subst eo5
     go_wp2
     go_meet
     case rel => exact ⟨_, (decide ((x5_1.length : Int) < a1)), sd_, H', ⟨by have := HK1.out; first | omega | exact Nat.le_refl _⟩, ⟨rRa_ HO_5.out⟩, ⟨bw_⟩⟩
    ·rw [if_neg c4] at H
     have c4b0 : decide (x6_1 < (a0.size : Int)) = false := decide_eq_false c4
     clear c4
     (first | rw [c4b0] | (simp only [i64_w, i32_w]; rw [c4b0]) | skip)
     have H' := Aside0.mk H
     clear H
     go_wp2
     go_meet
     case rel => exact ⟨_, (false), sd_, H', ⟨by have := HK1.out; first | omega | exact Nat.le_refl _⟩, ⟨rRa_ HO_5.out⟩, ⟨bw_⟩⟩
   case rest =>
    clear HC3
    try clear p2
    try clear c4
    try clear c4b0
    try clear p2
    obtain ⟨kq, x16_2, rfl, HA, HJ2, HO_5, HB⟩ := hcut
    cases kq with
    |zero => exact absurd HA.out (by simp [torusref02_Fit.j1])
    |succ kj2 =>
     have H := HA.out
     clear HA
     simp only [torusref02_Fit.j1] at H
     by_cases c6 : x16_2 = true
     ·subst c6
      rw [if_pos rfl] at H
      by_cases c7 : 0 ≤ x6_1
      ·rw [if_pos c7] at H
       have c7b0 : decide (0 ≤ x6_1) = true := decide_eq_true c7
       clear c7
       by_cases c8 : x6_1 < (a0.size : Int)
       ·rw [if_pos c8] at H
        have c8b0 : decide (x6_1 < (a0.size : Int)) = true := decide_eq_true c8
        clear c8
        by_cases c10 : (bt a0 x6_1) ≥ 48
        ·rw [if_pos c10] at H
         have c10b0 : decide (48 ≤ (bt a0 x6_1)) = true := decide_eq_true c10
         clear c10
         by_cases c12 : (bt a0 x6_1) ≤ 57
         ·rw [if_pos c12] at H
          have c12b0 : decide ((bt a0 x6_1) ≤ 57) = true := decide_eq_true c12
          clear c12
          by_cases c14 : x5_1.length < 17592186044416
          ·rw [if_pos c14] at H
           have LMc14 := Aside0.mk c14
           clear c14
           obtain ⟨y1072, hy1072⟩ : ∃ y_ : List Int, y_ = (x5_1 ++ [wrap64 ((wrap64 (bt a0 x6_1)) - 48)]) := ⟨_, rfl⟩
           replace H : (torusref02_Fit.l0 kj2 a0 a1 y1072 (wrap64 (x6_1 + 1))) = some r := by first | (rw [hy1072]; with_reducible exact H) | (have H2_ := (Option.bind_some _ _).symm.trans H; rw [hy1072]; with_reducible exact H2_) | (have H2_ := (Option.bind_some _ _).symm.trans H; with_reducible exact H2_) | with_reducible exact H | (rw [hy1072]; exact H) | exact H
           have Ny1072 := Aside0.mk hy1072
           clear hy1072
           have H' := Aside0.mk H
           clear H
           have p9 : 0 ≤ (x6_1 : Int) := of_decide_eq_true as_
           have q9 : x6_1 < (a0.size : Int) := of_decide_eq_true as_
           have hx9 := bt_at a0 x6_1
           replace p9 := eq_true p9
           replace q9 := eq_true q9
           have p11 : 0 ≤ (x6_1 : Int) := of_decide_eq_true as_
           have q11 : x6_1 < (a0.size : Int) := of_decide_eq_true as_
           have hx11 := bt_at a0 x6_1
           replace p11 := eq_true p11
           replace q11 := eq_true q11
           have p13 : 0 ≤ (x6_1 : Int) := of_decide_eq_true as_
           have q13 : x6_1 < (a0.size : Int) := of_decide_eq_true as_
           have hx13 := bt_at a0 x6_1
           replace p13 := eq_true p13
           replace q13 := eq_true q13
           go_wp2_with (first | ((with_reducible refine gate_builtin (b := .append) (xs := #[.tmp 29, .tmp 35]) rfl ?_); (try (refine gate_guard (by rfl) ?_; dsimp only)); at_builtin; refine Kd.R_append (Kd.int .i64) (w0 := w) w.heap.size rfl (.tmp 29) (.tmp 35) 146 3 (.int .i64 0) 8 rfl Tryz.underlying146 info3 rfl (by decide) (by omega) u5 x5_1 (wrap64 ((wrap64 (bt a0 x6_1)) - 48)) [.int .i64 (wrap64 ((wrap64 (bt a0 x6_1)) - 48))] (fun _ => True) (fun _ => False) rfl rfl ?aP (fun _ hk => hk.elim) ?aF ?aO ?aB ?aS ?aL ?_; (case aP => exact rfl); (case aB => exact bw_); (case aF => exact (fun _ _ => trivial)); (case aO => exact (rRa_ HO_5.out)); (case aS => exact (below_size bw_)); (case aL => have := LMc14.out; omega); intro v1073 w15 ho hb hg hat; rw [← Ny1072.out] at ho; have n0_ := Aside0.mk (hb); have n1_ := Aside0.mk (ho); clear HB; clear HO_5; have HB := n0_; have HO1074 := n1_; clear n0_ n1_; clear ho hb hg hat))
           go_roundg kj2
           case measure => have := HK1.out; have := HJ2.out; omega
           case rel => exact ⟨(y1072), (wrap64 (x6_1 + 1)), sd_, H', ⟨by have := HK1.out; have := HJ2.out; omega⟩, ⟨rRa_ HO1074.out⟩, ⟨bw_⟩⟩
          ·rw [if_neg c14] at H
           exact absurd H (by simp)
         ·rw [if_neg c12] at H
          have c12b0 : decide ((bt a0 x6_1) ≤ 57) = false := decide_eq_false c12
          clear c12
          have H' := Aside0.mk H
          clear H
          have p9 : 0 ≤ (x6_1 : Int) := of_decide_eq_true as_
          have q9 : x6_1 < (a0.size : Int) := of_decide_eq_true as_
          have hx9 := bt_at a0 x6_1
          replace p9 := eq_true p9
          replace q9 := eq_true q9
          have p11 : 0 ≤ (x6_1 : Int) := of_decide_eq_true as_
          have q11 : x6_1 < (a0.size : Int) := of_decide_eq_true as_
          have hx11 := bt_at a0 x6_1
          replace p11 := eq_true p11
          replace q11 := eq_true q11
          go_wp2
          go_roundg kj2
          case measure => have := HK1.out; have := HJ2.out; omega
          case rel => exact ⟨(x5_1), (wrap64 (x6_1 + 1)), sd_, H', ⟨by have := HK1.out; have := HJ2.out; omega⟩, ⟨rRa_ HO_5.out⟩, ⟨bw_⟩⟩
        ·rw [if_neg c10] at H
         have c10b0 : decide (48 ≤ (bt a0 x6_1)) = false := decide_eq_false c10
         clear c10
         have H' := Aside0.mk H
         clear H
         have p9 : 0 ≤ (x6_1 : Int) := of_decide_eq_true as_
         have q9 : x6_1 < (a0.size : Int) := of_decide_eq_true as_
         have hx9 := bt_at a0 x6_1
         replace p9 := eq_true p9
         replace q9 := eq_true q9
         go_wp2
         go_roundg kj2
         case measure => have := HK1.out; have := HJ2.out; omega
         case rel => exact ⟨(x5_1), (wrap64 (x6_1 + 1)), sd_, H', ⟨by have := HK1.out; have := HJ2.out; omega⟩, ⟨rRa_ HO_5.out⟩, ⟨bw_⟩⟩
       ·rw [if_neg c8] at H
        exact absurd H (by simp)
      ·rw [if_neg c7] at H
       exact absurd H (by simp)
     ·replace c6 := Bool.eq_false_iff.mpr c6
      subst c6
      rw [if_neg (show ¬ (false = true) by decide)] at H
      by_cases c16 : (a0.size : Int) > 0
      ·rw [if_pos c16] at H
       have c16b0 : decide (0 < (a0.size : Int)) = true := decide_eq_true c16
       have c16b1 : decide (0 < a0.size) = true := decide_eq_true (by omega)
       clear c16
       by_cases c17 : 0 < (a0.size : Int)
       ·rw [if_pos c17] at H
        have c17b0 : decide (0 < (a0.size : Int)) = true := decide_eq_true c17
        have c17b1 : decide (0 < a0.size) = true := decide_eq_true (by omega)
        clear c17
        replace H := Option.bind_eq_some_iff.mp H
        obtain ⟨t1075, A190, H⟩ := H
        have A19 := Aside0.mk A190
        clear A190
        obtain rfl := Option.some.inj H
        have p18 : 0 ≤ (0 : Int) := (by omega)
        have q18 : 0 < a0.size := (by have : (0 : Int) < (a0.size : Int) := of_decide_eq_true as_; omega)
        have hx18 : ∀ h : 0 < a0.size, ((a0[0]'h).toNat : Int) = bt a0 0 := bt_at a0 0
        clear p18
        have qi18 : (0 < (a0.size : Int)) = True := eq_true (of_decide_eq_true as_)
        replace q18 := eq_true q18
        obtain ⟨Ao20, co20, eo20⟩ := Kd.R_slice HO_5.out
        subst eo20
        go_wp2_with (first | ((with_reducible refine gate_callee (f := 157) rfl ?_); refine goesL_ (some 46) rfl rfl Tryz.func157 (by kernel_rfl) rfl #[.bool ((bt a0 0) == 45), .slice Ao20 x5_1.length co20] rfl ag_ ?_; (with_reducible refine (torusref02_text.calls kj2 ((bt a0 0) == 45) _ _ x5_1 t1075 _ ?side1 ?side2 A19.out).mono ?_); (case side1 => repeat (first | exact (Kd.R_reads' HO_5.out).2.2 | (with_reducible refine Kd.C_alloc ?_ _) | (with_reducible refine Kd.C_drewN ?_ _) | (with_reducible refine Kd.C_drew ?_))); (case side2 => exact (Kd.R_reads' HO_5.out).2.1); rintro e w21 ⟨rfl, hb⟩; refine ⟨_, rfl, ?_⟩; have n0_ := Aside0.mk (Kd.R_below (rRa_ HO_5.out) hb); have n1_ := Aside0.mk (below_step bw_ hb); clear HO_5; clear HB; have HO_5 := n0_; have HB := n1_; clear n0_ n1_; (try clear hb); (try clear hb2); (try clear hk); (try clear hi)))
        go_ret
        exact ⟨by first | rfl | (simp [errW_none, errW_some] <;> rfl) | (simp [*, errW_none, errW_some] <;> rfl), bw_⟩
       ·rw [if_neg c17] at H
        exact absurd H (by simp)
      ·rw [if_neg c16] at H
       have c16b0 : decide (0 < (a0.size : Int)) = false := decide_eq_false c16
       have c16b1 : decide (0 < a0.size) = false := decide_eq_false (by omega)
       clear c16
       replace H := Option.bind_eq_some_iff.mp H
       obtain ⟨t1076, A220, H⟩ := H
       have A22 := Aside0.mk A220
       clear A220
       obtain rfl := Option.some.inj H
       obtain ⟨Ao23, co23, eo23⟩ := Kd.R_slice HO_5.out
       subst eo23
       go_wp2_with (first | ((with_reducible refine gate_callee (f := 157) rfl ?_); refine goesL_ (some 46) rfl rfl Tryz.func157 (by kernel_rfl) rfl #[.bool false, .slice Ao23 x5_1.length co23] rfl ag_ ?_; (with_reducible refine (torusref02_text.calls kj2 false _ _ x5_1 t1076 _ ?side1 ?side2 A22.out).mono ?_); (case side1 => repeat (first | exact (Kd.R_reads' HO_5.out).2.2 | (with_reducible refine Kd.C_alloc ?_ _) | (with_reducible refine Kd.C_drewN ?_ _) | (with_reducible refine Kd.C_drew ?_))); (case side2 => exact (Kd.R_reads' HO_5.out).2.1); rintro e w24 ⟨rfl, hb⟩; refine ⟨_, rfl, ?_⟩; have n0_ := Aside0.mk (Kd.R_below (rRa_ HO_5.out) hb); have n1_ := Aside0.mk (below_step bw_ hb); clear HO_5; clear HB; have HO_5 := n0_; have HB := n1_; clear n0_ n1_; (try clear hb); (try clear hb2); (try clear hk); (try clear hi)))
       go_ret
       exact ⟨by first | rfl | (simp [errW_none, errW_some] <;> rfl) | (simp [*, errW_none, errW_some] <;> rfl), bw_⟩
attribute [local go_sem] max2_int min2_int max_two min_two max_three min_three max_four min_four
set_option linter.unusedVariables false
set_option linter.unusedSimpArgs false
def torusref03_Fit.f (k : Nat) (a0 : ByteArray) (a1 : ByteArray) (a2 : Int) : Option (ByteArray) := (torusref02_Fit.f k a1 a2).bind fun t1077 => ((torusref02_Positive.f k t1077).bind fun t1078 => (if t1078.toList = ([48] : List UInt8) then ((torusref02_Fit.f k a0 a2).bind fun t1079 => ((torusref03_Reduced.f k t1079 (⟨#[49]⟩ : ByteArray)).bind fun t1080 => (some t1080))) else ((torusref02_Fit.f k a0 a2).bind fun t1081 => ((torusref03_Reduced.f k t1081 t1078).bind fun t1082 => (some t1082)))))
set_option maxHeartbeats 8000000 in
set_option maxRecDepth 100000 in
theorem torusref03_Fit.calls (k : Nat) (a0 : ByteArray) (a1 : ByteArray) (a2 : Int) (r : ByteArray) (w : World) (h : torusref03_Fit.f k a0 a1 a2 = some r) :
  Calls Tryz.prog 18 #[.string a0, .string a1, .int .i64 a2] w fun e w' => e = .returned (.string r) ∧ Below w.heap.size w w' := by
 have HB := Aside0.mk (Below.refl w.heap.size w)
 have H : ((torusref02_Fit.f k a1 a2).bind fun t1077 => ((torusref02_Positive.f k t1077).bind fun t1078 => (if t1078.toList = ([48] : List UInt8) then ((torusref02_Fit.f k a0 a2).bind fun t1079 => ((torusref03_Reduced.f k t1079 (⟨#[49]⟩ : ByteArray)).bind fun t1080 => (some t1080))) else ((torusref02_Fit.f k a0 a2).bind fun t1081 => ((torusref03_Reduced.f k t1081 t1078).bind fun t1082 => (some t1082)))))) = some r := h
 clear h
 replace H := Option.bind_eq_some_iff.mp H
 obtain ⟨t1077, A40, H⟩ := H
 have A4 := Aside0.mk A40
 clear A40
 replace H := Option.bind_eq_some_iff.mp H
 obtain ⟨t1078, A50, H⟩ := H
 have A5 := Aside0.mk A50
 clear A50
 by_cases c6 : t1078.toList = ([48] : List UInt8)
 ·rw [if_pos c6] at H
  have c6b0 : (t1078.toList == ([48] : List UInt8)) = true := beq_iff_eq.mpr c6
  have c6b1 : (t1078.toList != ([48] : List UInt8)) = false := bne_eq_false_iff_eq.mpr c6
  clear c6
  replace H := Option.bind_eq_some_iff.mp H
  obtain ⟨t1079, A70, H⟩ := H
  have A7 := Aside0.mk A70
  clear A70
  replace H := Option.bind_eq_some_iff.mp H
  obtain ⟨t1080, A80, H⟩ := H
  have A8 := Aside0.mk A80
  clear A80
  obtain rfl := Option.some.inj H
  go_enter Tryz.func18, Tryz.ntmps18
  go_wp2_with (first | ((with_reducible refine gate_callee (f := 99) rfl ?_); refine goesL_ (some 10) rfl rfl Tryz.func99 (by kernel_rfl) rfl #[.string a1, .int .i64 a2] rfl ag_ ?_; (with_reducible refine (torusref02_Fit.calls k a1 a2 t1077 _ A4.out).mono ?_); rintro e w9 ⟨rfl, hb⟩; refine ⟨_, rfl, ?_⟩; have n0_ := Aside0.mk (below_step bw_ hb); clear HB; have HB := n0_; clear n0_; (try clear hb); (try clear hb2); (try clear hk); (try clear hi)) | ((with_reducible refine gate_callee (f := 98) rfl ?_); refine goesL_ (some 11) rfl rfl Tryz.func98 (by kernel_rfl) rfl #[.string t1077] rfl ag_ ?_; (with_reducible refine (torusref02_Positive.calls k t1077 t1078 _ A5.out).mono ?_); rintro e w10 ⟨rfl, hb⟩; refine ⟨_, rfl, ?_⟩; have n0_ := Aside0.mk (below_step bw_ hb); clear HB; have HB := n0_; clear n0_; (try clear hb); (try clear hb2); (try clear hk); (try clear hi)) | ((with_reducible refine gate_callee (f := 99) rfl ?_); refine goesL_ (some 16) rfl rfl Tryz.func99 (by kernel_rfl) rfl #[.string a0, .int .i64 a2] rfl ag_ ?_; (with_reducible refine (torusref02_Fit.calls k a0 a2 t1079 _ A7.out).mono ?_); rintro e w11 ⟨rfl, hb⟩; refine ⟨_, rfl, ?_⟩; have n0_ := Aside0.mk (below_step bw_ hb); clear HB; have HB := n0_; clear n0_; (try clear hb); (try clear hb2); (try clear hk); (try clear hi)) | ((with_reducible refine gate_callee (f := 93) rfl ?_); refine goesL_ (some 18) rfl rfl Tryz.func93 (by kernel_rfl) rfl #[.string t1079, .string (⟨#[49]⟩ : ByteArray)] rfl ag_ ?_; (with_reducible refine (torusref03_Reduced.calls k t1079 (⟨#[49]⟩ : ByteArray) t1080 _ A8.out).mono ?_); rintro e w12 ⟨rfl, hb⟩; refine ⟨_, rfl, ?_⟩; have n0_ := Aside0.mk (below_step bw_ hb); clear HB; have HB := n0_; clear n0_; (try clear hb); (try clear hb2); (try clear hk); (try clear hi)))
  go_ret
  exact ⟨by first | rfl | (simp [errW_none, errW_some] <;> rfl) | (simp [*, errW_none, errW_some] <;> rfl), bw_⟩
 ·rw [if_neg c6] at H
  have c6b0 : (t1078.toList == ([48] : List UInt8)) = false := beq_eq_false_iff_ne.mpr c6
  have c6b1 : (t1078.toList != ([48] : List UInt8)) = true := bne_iff_ne.mpr c6
  replace H := Option.bind_eq_some_iff.mp H
  obtain ⟨t1081, A130, H⟩ := H
  have A13 := Aside0.mk A130
  clear A130
  replace H := Option.bind_eq_some_iff.mp H
  obtain ⟨t1082, A140, H⟩ := H
  have A14 := Aside0.mk A140
  clear A140
  obtain rfl := Option.some.inj H
  go_enter Tryz.func18, Tryz.ntmps18
  go_wp2_with (first | ((with_reducible refine gate_callee (f := 99) rfl ?_); refine goesL_ (some 10) rfl rfl Tryz.func99 (by kernel_rfl) rfl #[.string a1, .int .i64 a2] rfl ag_ ?_; (with_reducible refine (torusref02_Fit.calls k a1 a2 t1077 _ A4.out).mono ?_); rintro e w15 ⟨rfl, hb⟩; refine ⟨_, rfl, ?_⟩; have n0_ := Aside0.mk (below_step bw_ hb); clear HB; have HB := n0_; clear n0_; (try clear hb); (try clear hb2); (try clear hk); (try clear hi)) | ((with_reducible refine gate_callee (f := 98) rfl ?_); refine goesL_ (some 11) rfl rfl Tryz.func98 (by kernel_rfl) rfl #[.string t1077] rfl ag_ ?_; (with_reducible refine (torusref02_Positive.calls k t1077 t1078 _ A5.out).mono ?_); rintro e w16 ⟨rfl, hb⟩; refine ⟨_, rfl, ?_⟩; have n0_ := Aside0.mk (below_step bw_ hb); clear HB; have HB := n0_; clear n0_; (try clear hb); (try clear hb2); (try clear hk); (try clear hi)) | ((with_reducible refine gate_callee (f := 99) rfl ?_); refine goesL_ (some 16) rfl rfl Tryz.func99 (by kernel_rfl) rfl #[.string a0, .int .i64 a2] rfl ag_ ?_; (with_reducible refine (torusref02_Fit.calls k a0 a2 t1081 _ A13.out).mono ?_); rintro e w17 ⟨rfl, hb⟩; refine ⟨_, rfl, ?_⟩; have n0_ := Aside0.mk (below_step bw_ hb); clear HB; have HB := n0_; clear n0_; (try clear hb); (try clear hb2); (try clear hk); (try clear hi)) | ((with_reducible refine gate_callee (f := 93) rfl ?_); refine goesL_ (some 18) rfl rfl Tryz.func93 (by kernel_rfl) rfl #[.string t1081, .string t1078] rfl ag_ ?_; (with_reducible refine (torusref03_Reduced.calls k t1081 t1078 t1082 _ A14.out).mono ?_); rintro e w18 ⟨rfl, hb⟩; refine ⟨_, rfl, ?_⟩; have n0_ := Aside0.mk (below_step bw_ hb); clear HB; have HB := n0_; clear n0_; (try clear hb); (try clear hb2); (try clear hk); (try clear hi)))
  go_ret
  exact ⟨by first | rfl | (simp [errW_none, errW_some] <;> rfl) | (simp [*, errW_none, errW_some] <;> rfl), bw_⟩
theorem RT_one {q : Rat} (h : q.den = 1) : RT q = TX q.num := by
 unfold RT rtx
 rw [if_pos h]
 rfl
theorem RT_frac {q : Rat} (h : q.den ≠ 1) : RT q = (TX q.num ++ ⟨#[47]⟩) ++ TX q.den := by
 refine bytesOf_inj ?_
 rw [bytesOf_RT, bytesOf_append, bytesOf_append, bytesOf_TX, bytesOf_TX]
 unfold rtx
 rw [if_neg h]
 have e : bytesOf ⟨#[47]⟩ = [47] := rfl
 rw [e, List.append_assoc]
 rfl
def Sd (z : Int) : Prop := nd z.natAbs ≤ 999999990
theorem Sd.sz {z : Int} (h : Sd z) : Sz z := sz_of (by unfold Sd at h; omega)
theorem Sd.mono {z w : Int} (h : Sd z) (hw : w.natAbs ≤ z.natAbs) : Sd w := by
 unfold Sd at h ⊢
 have h1 := (nd_le (nd z.natAbs) z.natAbs).1 (Nat.le_refl _)
 have h2 := (nd_le (nd z.natAbs) w.natAbs).2 (by omega)
 omega
theorem Sd.neg {z : Int} (h : Sd z) : Sd (-z) := h.mono (by omega)
theorem reduced_tail {n d : Int} (hn : Sd n) (hd : Sd d) (hd0 : 0 < d) {a b : Int} (ha : a = (Rat.divInt n d).num) (hb : b = ((Rat.divInt n d).den : Int)) (la : Sd a) (lb : Sd b) :
  (if (TX b).toList = ([49] : List UInt8) then (some (TX a)) else (if (TX a).size + 1 ≤ 9223372036854775807 then (if (TX a ++ (⟨#[47]⟩ : ByteArray)).size + (TX b).size ≤ 9223372036854775807 then (some ((TX a ++ (⟨#[47]⟩ : ByteArray)) ++ TX b)) else (none)) else (none))) = some (RT (Rat.divInt n d)) := by
 have s1 : (TX a).size ≤ 1000000000 := la.sz
 have s2 : (TX b).size ≤ 1000000000 := lb.sz
 by_cases h1 : b = 1
 ·rw [if_pos ((toList49 b).2 h1), RT_one (by omega), ha]
 ·have s3 : (TX a ++ (⟨#[47]⟩ : ByteArray)).size = (TX a).size + 1 := by rw [ByteArray.size_append]; rfl
  rw [if_neg (fun h => h1 ((toList49 b).1 h)), if_pos (by omega), if_pos (by omega), RT_frac (by omega), ha, hb]
theorem reduced_pos {n d : Int} (hn : Sd n) (hd : Sd d) (hd0 : 0 < d) : Ev (fun k => torusref03_Reduced.j0 k (TX n) (TX d)) (RT (Rat.divInt n d)) := by
 refine ev_succ ?_
 simp only [torusref03_Reduced.j0]
 refine (ev_bind (Divisor_ev hn.sz hd.sz hn hd)).2 ?_
 have ho := over_rat (n := n) hd0
 have hg : 0 < Int.gcd n d := Int.gcd_pos_of_ne_zero_right _ (by omega)
 simp only [toList49]
 by_cases h1 : ((Int.gcd n d : Nat) : Int) = 1
 ·simp only [h1, if_true]
  rw [h1, Int.fdiv_one, Int.fdiv_one] at ho
  have := reduced_tail hn hd hd0 ho.1 ho.2 hn hd
  simp only [toList49] at this
  rw [this]
  exact Ev.now _
 ·simp only [h1, if_false]
  have hgd : Int.gcd n d ≤ d.natAbs := Nat.le_of_dvd (by omega) (Int.gcd_dvd_natAbs_right n d)
  have lg : Sd ((Int.gcd n d : Nat) : Int) := hd.mono (by rw [Int.natAbs_natCast]; exact hgd)
  refine (ev_bind (Quotient_ev hn.sz lg.sz hn lg (by omega))).2 ((ev_bind (Quotient_ev hd.sz lg.sz hd lg (by omega))).2 ?_)
  have ab : ∀ z : Int, (z.fdiv ((Int.gcd n d : Nat) : Int)).natAbs ≤ z.natAbs := fun z => by
   rw [Int.fdiv_eq_ediv_of_nonneg _ (by omega)]
   exact Int.natAbs_ediv_le_natAbs _ _
  have := reduced_tail hn hd hd0 ho.1 ho.2 (hn.mono (ab n)) (hd.mono (ab d))
  simp only [toList49] at this ⊢
  rw [this]
  exact Ev.now _
theorem Reduced_ev {n d : Int} (hn : Sd n) (hd : Sd d) (hd0 : d ≠ 0) : Ev (fun k => torusref03_Reduced.f k (TX n) (TX d)) (RT (Rat.divInt n d)) := by
 unfold torusref03_Reduced.f
 rw [← TX_zero]
 refine (ev_bind (Compare_ev hd.sz (sz_small (by decide)))).2 ?_
 rw [Int.sub_zero]
 by_cases h : d < 0
 ·simp only [show d.sign < 0 from Int.sign_neg_iff.2 h, if_true]
  refine (ev_bind (Opposite_ev hn.sz)).2 ((ev_bind (Opposite_ev hd.sz)).2 ?_)
  have := reduced_pos hn.neg hd.neg (by omega)
  rwa [Rat.neg_divInt_neg] at this
 ·simp only [show ¬ d.sign < 0 from fun h2 => h (Int.sign_neg_iff.1 h2), if_false]
  exact reduced_pos hn hd (by omega)
theorem fit_l0 {s : ByteArray} {m : Nat} (hs : s.size ≤ 9223372036854775807) (hm : m ≤ 1000) : ∀ (j i : Nat) (d : List Int), i + j = s.size → Ten.Lim d → d.length ≤ m → ∃ z : Int, z.natAbs < 10 ^ m ∧ Ev (fun k => torusref02_Fit.l0 k s (m : Int) d (i : Int)) (TX z) := by
 have fin : ∀ (i : Nat) (d : List Int), Ten.Lim d → d.length ≤ m → ∃ z : Int, z.natAbs < 10 ^ m ∧ Ev (fun k => torusref02_Fit.j1 k s (m : Int) d (i : Int) false) (TX z) := fun i d hl hd => by
  have hz : ∀ b, (sgnd b (Ten.val d)).natAbs < 10 ^ m := fun b => by
   rw [sgnd_abs]
   exact (nd_le m _).1 (Nat.le_trans (nd_val hl) hd)
  by_cases h0 : s.size = 0
  ·refine ⟨_, hz false, ev_succ ?_⟩
   simp only [torusref02_Fit.j1, Bool.false_eq_true, if_false, show ¬ ((s.size : Int) > 0) by omega]
   exact ev_some (text_ev false hl (by omega))
  ·refine ⟨_, hz (bt s 0 == 45), ev_succ ?_⟩
   simp only [torusref02_Fit.j1, Bool.false_eq_true, if_false, show ((s.size : Int) > 0) by omega, show (0 < (s.size : Int)) by omega, if_true]
   exact ev_some (text_ev _ hl (by omega))
 intro j
 induction j with
 |zero =>
  intro i d hi hl hd
  obtain ⟨z, hz, he⟩ := fin i d hl hd
  refine ⟨z, hz, ev_succ ?_⟩
  simp only [torusref02_Fit.l0, show ¬ ((i : Int) < (s.size : Int)) by omega, if_false]
  exact he
 |succ j ih =>
  intro i d hi hl hd
  by_cases hdm : d.length < m
  ·have e1 : wrap64 ((i : Int) + 1) = ((i + 1 : Nat) : Int) := by rw [wrap_id (by omega) (by omega)]; omega
   have p1 : ((i : Int) < (s.size : Int)) := by omega
   have p2 : (0 : Int) ≤ (i : Int) := by omega
   have p3 : decide ((d.length : Int) < (m : Int)) = true := decide_eq_true (by omega)
   by_cases hc : 48 ≤ bt s i ∧ bt s i ≤ 57
   ·obtain ⟨z, hz, he⟩ := ih (i + 1) (d ++ [bt s i - 48]) (by omega) (hl.append (Ten.Lim.cons (by omega) (by omega) Ten.Lim.nil)) (by rw [List.length_append, List.length_singleton]; omega)
    refine ⟨z, hz, ev_succ (ev_succ ?_)⟩
    have e2 : wrap64 (wrap64 (bt s i) - 48) = bt s i - 48 := by rw [wrap_id (a := bt s i) (by omega) (by omega), wrap_id (by omega) (by omega)]
    simp only [torusref02_Fit.l0, torusref02_Fit.j1, p1, p2, p3, e1, e2, if_true, show bt s i ≥ 48 from hc.1, hc.2, show d.length < 17592186044416 by omega]
    exact he
   ·obtain ⟨z, hz, he⟩ := ih (i + 1) d (by omega) hl hd
    refine ⟨z, hz, ev_succ (ev_succ ?_)⟩
    by_cases h1 : bt s i ≥ 48
    ·simp only [torusref02_Fit.l0, torusref02_Fit.j1, p1, p2, p3, e1, if_true, h1, show ¬ bt s i ≤ 57 from fun h => hc ⟨h1, h⟩, if_false]
     exact he
    ·simp only [torusref02_Fit.l0, torusref02_Fit.j1, p1, p2, p3, e1, if_true, h1, if_false]
     exact he
  ·obtain ⟨z, hz, he⟩ := fin i d hl hd
   refine ⟨z, hz, ev_succ ?_⟩
   simp only [torusref02_Fit.l0, show ((i : Int) < (s.size : Int)) by omega, if_true, show decide ((d.length : Int) < (m : Int)) = false from decide_eq_false (by omega)]
   exact he
theorem Fit02_ev {s : ByteArray} {m : Nat} (hs : s.size ≤ 9223372036854775807) (hm : m ≤ 1000) : ∃ z : Int, z.natAbs < 10 ^ m ∧ Ev (fun k => torusref02_Fit.f k s (m : Int)) (TX z) := fit_l0 hs hm s.size 0 [] (by omega) Ten.Lim.nil (by simp)
theorem Fit03_ev {s t : ByteArray} {m : Nat} (hs : s.size ≤ 9223372036854775807) (ht : t.size ≤ 9223372036854775807) (h1 : 1 ≤ m) (hm : m ≤ 1000) : ∃ q : Rat, Lq q m ∧ Ev (fun k => torusref03_Fit.f k s t (m : Int)) (RT q) := by
 obtain ⟨n, hn, en⟩ := Fit02_ev hs hm
 obtain ⟨d, hd, ed⟩ := Fit02_ev ht hm
 have sn : Sd n := by have := (nd_le m _).2 hn; unfold Sd; omega
 have sd : Sd d := by have := (nd_le m _).2 hd; unfold Sd; omega
 have sd' : Sd (d.natAbs : Int) := sd.mono (by omega)
 have o1 : 1 < 10 ^ m := Nat.one_lt_pow (by omega) (by decide)
 by_cases h0 : d = 0
 ·refine ⟨Rat.divInt n 1, lq_div hn o1 h1, ?_⟩
  unfold torusref03_Fit.f
  refine (ev_bind ed).2 ((ev_bind (Positive_ev sd.sz)).2 ?_)
  simp only [toList48, show (d.natAbs : Int) = 0 by omega, if_true]
  refine (ev_bind en).2 ?_
  rw [← TX_one]
  exact ev_some (Reduced_ev sn (Sd.mono (z := d.natAbs + 1) (by unfold Sd; have := (nd_le 1 1).2 (by decide); rw [show ((d.natAbs : Int) + 1).natAbs = 1 by omega]; omega) (by omega)) (by decide))
 ·refine ⟨Rat.divInt n d.natAbs, lq_div hn (by rw [Int.natAbs_natCast]; exact hd) h1, ?_⟩
  unfold torusref03_Fit.f
  refine (ev_bind ed).2 ((ev_bind (Positive_ev sd.sz)).2 ?_)
  simp only [toList48, show ¬ (d.natAbs : Int) = 0 by omega, if_false]
  refine (ev_bind en).2 ?_
  exact ev_some (Reduced_ev sn sd' (by omega))
theorem fit_calls (W : World) {s t : ByteArray} {m : Nat} (hs : s.size ≤ 9223372036854775807) (ht : t.size ≤ 9223372036854775807) (h1 : 1 ≤ m) (hm : m ≤ 1000) : ∃ q : Rat, Lq q m ∧ ∀ W : World, Calls Tryz.prog 18 #[.string s, .string t, .int .i64 (m : Int)] W fun e w' => Below W.heap.size W w' ∧ e = .returned (.string (RT q)) := by
 obtain ⟨q, hq, he⟩ := Fit03_ev hs ht h1 hm
 obtain ⟨k, hk⟩ := he.rounds
 refine ⟨q, hq, fun W => (torusref03_Fit.calls k s t m (RT q) W hk).mono ?_⟩
 rintro e w' ⟨rfl, hb⟩
 exact ⟨hb, rfl⟩
theorem rt_size {q : Rat} (h : lgq q = false) : (RT q).size ≤ 9000000000000 := by
 have h1 : nd q.num.natAbs ≤ 1000 := by
  unfold lgq at h
  have := (Bool.or_eq_false_iff.1 h).1
  unfold Lg at this
  have := of_decide_eq_false this
  omega
 have h2 : nd q.den ≤ 1000 := by
  unfold lgq at h
  have := (Bool.or_eq_false_iff.1 h).2
  unfold Lg at this
  have := of_decide_eq_false this
  rw [Int.natAbs_natCast] at this
  omega
 have l1 := rtx_len_ q.num
 have l2 := rtx_len_ (q.den : Int)
 rw [Int.natAbs_natCast] at l2
 rw [← bytesOf_size, bytesOf_RT]
 unfold rtx
 split
 ·omega
 ·rw [List.length_append, List.length_cons]
  omega
section
variable {x y z : Rat} {a b : Nat}
end
section
variable {x y z : Rat}
end
attribute [local go_sem] max2_int min2_int max_two min_two max_three min_three max_four min_four
set_option linter.unusedVariables false
set_option linter.unusedSimpArgs false
attribute [local go_sem] max2_int min2_int max_two min_two max_three min_three max_four min_four
set_option linter.unusedVariables false
set_option linter.unusedSimpArgs false
attribute [local go_sem] max2_int min2_int max_two min_two max_three min_three max_four min_four
set_option linter.unusedVariables false
set_option linter.unusedSimpArgs false
attribute [local go_sem] max2_int min2_int max_two min_two max_three min_three max_four min_four
set_option linter.unusedVariables false
set_option linter.unusedSimpArgs false
attribute [local go_sem] max2_int min2_int max_two min_two max_three min_three max_four min_four
set_option linter.unusedVariables false
set_option linter.unusedSimpArgs false
section
variable {s1 s2 : Bool} {x y : List Int} {R : ByteArray} {B : Int}
end
section
variable {x y : Rat}
end
theorem iv_TX {z : Int} (h : Lg z = false) : iv (TX z) = some z := by
 unfold iv
 rw [bytesOf_TX, int?_tx, Option.bind_some, if_neg (by rw [h]; decide)]
theorem lgq_parts {q : Rat} (h : lgq q = false) : Lg q.num = false ∧ Lg (q.den : Int) = false := Bool.or_eq_false_iff.1 h
theorem tx_size9 {z : Int} (h : Lg z = false) : (TX z).size ≤ 9000000000000 := by
 have h1 : nd z.natAbs ≤ 1000 := by
  have := of_decide_eq_false h
  omega
 have := rtx_len_ z
 rw [TX_size]
 omega
section
variable {x y : Rat}
end
theorem cf_mem {n d : Int} (hd : 0 ≤ d) : ∀ c ∈ cf n d, c.natAbs ≤ max n.natAbs d.natAbs := by
 refine cf_rec (P := fun n d => ∀ c ∈ cf n d, c.natAbs ≤ max n.natAbs d.natAbs) ?_ ?_ (d.natAbs + 1) n d hd (by omega)
 ·intro n c hc
  rw [cf_zero] at hc
  cases hc
 ·intro n d h ih c hc
  rw [cf_step h] at hc
  rcases List.mem_cons.1 hc with rfl | hc
  ·have := Int.natAbs_ediv_le_natAbs n d
   omega
  ·have h1 := ih c hc
   have h2 := emod_less (n := n) h
   omega
theorem Lg_nd (z : Int) : Lg z = false ↔ nd z.natAbs ≤ 1000 := by
 unfold Lg
 rw [decide_eq_false_iff_not]
 omega
theorem nd_mono {a b k : Nat} (h : a ≤ b) (hb : nd b ≤ k) : nd a ≤ k := (nd_le k a).2 (Nat.lt_of_le_of_lt h ((nd_le k b).1 hb))
theorem cf_mem_lg {q : Rat} (h : lgq q = false) : ∀ c ∈ cf q.num q.den, Lg c = false := fun c hc => by
 have h1 := cf_mem (Int.natCast_nonneg _) c hc
 have h2 := lgq_parts h
 rw [Lg_nd] at h2 ⊢
 rw [Lg_nd] at h2
 rcases Nat.le_total q.num.natAbs (q.den : Int).natAbs with h3 | h3
 ·exact nd_mono (Nat.le_trans h1 (Nat.max_le.2 ⟨h3, Nat.le_refl _⟩)) h2.2
 ·exact nd_mono (Nat.le_trans h1 (Nat.max_le.2 ⟨Nat.le_refl _, h3⟩)) h2.1
theorem cf_facts {q : Rat} : ∀ i c, 0 < i → (cf q.num q.den)[i]? = some c → 0 < c ∧ (i + 1 = (cf q.num q.den).length → c ≠ 1) := by
 intro i c hi hc
 have h0 : (0 : Int) < q.den := Int.ofNat_lt.2 q.den_pos
 have hm := emod_less (n := q.num) h0
 rw [cf_step h0] at hc ⊢
 obtain ⟨j, rfl⟩ : ∃ j, i = j + 1 := ⟨i - 1, by omega⟩
 have := cf_tail hm.1 hm.2 j c (by simpa using hc)
 exact ⟨this.1, fun hl => this.2 (by simpa using hl)⟩
theorem ivz_TX {z : Int} (h : Lg z = false) : ivz (TX z) = z := by unfold ivz; rw [iv_TX h]; rfl
theorem cf_map {q : Rat} (h : lgq q = false) : ((cf q.num q.den).map TX).map ivz = cf q.num q.den := by
 rw [List.map_map]
 conv => rhs; rw [← List.map_id (cf q.num q.den)]
 exact List.map_congr_left fun c hc => ivz_TX (cf_mem_lg h c hc)
theorem col_cf {q : Rat} (h : lgq q = false) : colS ((cf q.num q.den).map TX) = (RT q, 0) := by
 have h0 : (0 : Int) < q.den := Int.ofNat_lt.2 q.den_pos
 unfold colS
 rw [if_neg ?_, cf_map h, (cv_div h0).2, Rat.num_divInt_den, res_ok h]
 rintro (e | e)
 ·rw [cf_step h0] at e
  cases e
 ·rw [colAll_all] at e
  ·cases e
  ·intro j s hj
   rw [List.getElem?_map] at hj
   obtain ⟨c, hc, rfl⟩ := Option.map_eq_some_iff.1 hj
   have hl := cf_mem_lg h c (List.mem_of_getElem? hc)
   unfold colOk
   rw [iv_TX hl]
   by_cases hj0 : 0 + j = 0
   ·simp [hj0]
   ·have := (cf_facts j c (by omega) hc).1
    simp [this]
theorem one_text {z : Int} (h : z ≠ 1) : ((TX z).toList == [49]) = false := beq_eq_false_iff_ne.2 fun e => h (by
 have h1 : bytesOf (TX z) = [49] := by rw [ByteArray.toList_eq] at e; unfold bytesOf; rw [e]; rfl
 have h2 := int?_tx z
 rw [← bytesOf_TX, h1] at h2
 exact (Option.some.inj (h2.symm.trans (by decide))))
theorem exps_calls {A0 A1 : ByteArray} (hA0 : A0.size ≤ 9223372036854775807) (hA1 : A1.size ≤ 9223372036854775807) (W : World) :
  Calls Tryz.prog 7 #[.agg #[.string A0, .string A1]] W fun e w' => Below W.heap.size W w' ∧ e = .returned (.bool true) := by
 obtain ⟨q, hq, cq⟩ := fit_calls W hA0 hA1 (m := 60) (by decide) (by decide)
 have hl := hq.lg (by decide)
 have h0 : (0 : Int) < q.den := Int.ofNat_lt.2 q.den_pos
 have hlen : ((cf q.num q.den).map TX).length ≤ 1000000 := by rw [List.length_map]; have := cf_short hl; omega
 have hsz : ∀ s ∈ (cf q.num q.den).map TX, s.size ≤ 9000000000000 := fun s hs => by
  obtain ⟨c, hc, rfl⟩ := List.mem_map.1 hs
  exact tx_size9 (cf_mem_lg hl c hc)
 refine exps_walk (x := RT q) (f := TX q.floor) (ls := (cf q.num q.den).map TX) (fun W => ?_) (fun W => expand_some W (rv_RT hl) (rt_size hl)) (fun W A c hk => ?_) (fun W => ?_) ⟨?_, hlen, fun i s hi hs => ?_, fun i s hi he hs => ?_⟩ W
 ·exact cq W
 ·have := collapse_calls W (c := c) hk hlen hsz
  rwa [col_cf hl] at this
 ·have := rfloor_calls W (RT q) (rt_size hl)
  rwa [rv_RT hl] at this
 ·rw [cf_step h0, List.map_cons]
  simp [Rat.floor_def]
 ·rw [List.getElem?_map] at hs
  obtain ⟨c, hc, rfl⟩ := Option.map_eq_some_iff.1 hs
  have hlc := cf_mem_lg hl c (List.mem_of_getElem? hc)
  exact ⟨sgnI c, (sgnI_pos c).2 (cf_facts i c hi hc).1, fun W => wsign_of (iv_TX hlc) (tx_size9 hlc)⟩
 ·rw [List.getElem?_map] at hs
  obtain ⟨c, hc, rfl⟩ := Option.map_eq_some_iff.1 hs
  exact one_text ((cf_facts i c hi hc).2 (by simpa using he))
end Go.Proofs.YtfmcgammhfdfnaaGreatDoor.PRatio

