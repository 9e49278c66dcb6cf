/- Go functions as plain Lean functions, each with a proof that the Go code computes just that, and facts on them; conditions: those that each theorem states. -/
import Derived.Test.YtfmcgammhfdfnaaGreatDoorQExpansions1
namespace Go.Proofs.YtfmcgammhfdfnaaGreatDoor.PRatio
open Go.RowKit Go.Proofs.YtfmcgammhfdfnaaGreatDoorW.PrintWords Go.Proofs.YtfmcgammhfdfnaaGreatDoorW.PrintLast Go.Proofs.YtfmcgammhfdfnaaGreatDoorW.PrintMore
attribute [local go_sem] max2_int min2_int max_two min_two max_three min_three max_four min_four
set_option linter.unusedVariables false
set_option linter.unusedSimpArgs false
def num_short.l0 : Nat → List Int → Int → List Int → Int → Int → Option (List Int × Int)
 |0, _, _, _, _, _ => none
 |k + 1, x0, x1, x6, x7, x8 => if x8 ≥ 0 then (if 0 ≤ x8 then (if x8 < (x0.length : Int) then (if (IntKind.u64.wrap (x1)) = 0 then (none) else (if x8 < (x6.length : Int) then (num_short.l0 k x0 x1 (x6.set (x8 : Int).toNat ((IntKind.u64.wrap (Int.tdiv (IntKind.u64.wrap ((IntKind.u64.wrap (x7 * 1000000000)) + (IntKind.u64.wrap (rd x0 x8)))) (IntKind.u64.wrap (x1)))) % 4294967296)) (Int.tmod (IntKind.u64.wrap ((IntKind.u64.wrap (x7 * 1000000000)) + (IntKind.u64.wrap (rd x0 x8)))) (IntKind.u64.wrap (x1))) (wrap64 (x8 - 1))) else (none))) else (none)) else (none)) else (some (x6, (x7) % 4294967296))
def num_short.f (k : Nat) (l0 : List Int) (a1 : Int) : Option (List Int × Int) := if 0 ≤ (l0.length : Int) then (if ((l0.length : Int) : Int).toNat ≤ 70368744177664 then (num_short.l0 k l0 a1 (List.replicate ((l0.length : Int) : Int).toNat 0) 0 (wrap64 ((l0.length : Int) - 1))) else (none)) else (none)
def num_short.T6 : Bool × List (List Nat × List Nat) := (true, [([], []), ([], []), ([], []), ([], []), ([3], [3]), ([2, 4], [2, 4]), ([5], [5]), ([], []), ([], []), ([8], [8]), ([7, 9], [7, 9]), ([0, 1, 0, 1, 2, 3, 4, 5, 6], [0, 1]), ([11, 6, 0, 1, 2, 3, 4, 5, 6], [6, 11]), ([10, 12, 0, 1, 2, 3, 4, 5, 6, 7, 8, 9, 10, 11, 12], [2, 7, 10])])
def num_short.B6 : List Nat := [0, 0, 0, 0, 8, 28, 60, 0, 0, 256, 896, 127, 2175, 8191]
theorem num_short.tab6 : rtab .any (opsOf Tryz.f191 6) = num_short.T6 := by kernel_rfl
theorem num_short.bits6 : waitsOk num_short.T6.2 num_short.B6 = true := by kernel_rfl
set_option maxHeartbeats 8000000 in
set_option maxRecDepth 100000 in
theorem num_short.calls (k : Nat) (A0 : Option Addr) (c0 : Nat) (l0 : List Int) (a1 : Int) (r1 : List Int) (r2 : Int) (w : World) (hr0 : Kd.C (Kd.int .u32) w A0 l0.length l0) (hc0 : l0.length ≤ c0) (h : num_short.f k l0 a1 = some (r1, r2)) :
  Calls Tryz.prog 191 #[.slice A0 l0.length c0, .int .u32 a1] w fun e w' => ∃ v0_ : Value, e = .returned (.tuple #[v0_, .int .u32 r2]) ∧ Kd.R (Kd.int .u32) 145 w' w.heap.size (fun _ => True) v0_ r1 ∧ Below w.heap.size w w' := by
 have HR0 := Aside0.mk hr0
 have HC0 := Aside0.mk hc0
 clear hr0 hc0
 have HB := Aside0.mk (Below.refl w.heap.size w)
 have H : (if 0 ≤ (l0.length : Int) then (if ((l0.length : Int) : Int).toNat ≤ 70368744177664 then (num_short.l0 k l0 a1 (List.replicate ((l0.length : Int) : Int).toNat 0) 0 (wrap64 ((l0.length : Int) - 1))) else (none)) else (none)) = some (r1, r2) := h
 clear h
 by_cases c3 : 0 ≤ (l0.length : Int)
 ·rw [if_pos c3] at H
  have c3b0 := eq_true c3
  have c3b1 : decide (0 ≤ (l0.length : Int)) = true := decide_eq_true c3
  clear c3
  by_cases c4 : ((l0.length : Int) : Int).toNat ≤ 70368744177664
  ·rw [if_pos c4] at H
   have c4b0 := eq_true c4
   have c4b1 : decide (((l0.length : Int) : Int).toNat ≤ 70368744177664) = true := decide_eq_true c4
   clear c4
   obtain ⟨y261, hy261⟩ : ∃ y_ : List Int, y_ = (List.replicate ((l0.length : Int) : Int).toNat 0) := ⟨_, rfl⟩
   replace H : (num_short.l0 k l0 a1 y261 0 (wrap64 ((l0.length : Int) - 1))) = some (r1, r2) := by first | (rw [hy261]; with_reducible exact H) | (have H2_ := (Option.bind_some _ _).symm.trans H; rw [hy261]; with_reducible exact H2_) | (have H2_ := (Option.bind_some _ _).symm.trans H; with_reducible exact H2_) | with_reducible exact H | (rw [hy261]; exact H) | exact H
   have Ny261 := Aside0.mk hy261
   clear hy261
   have H' := Aside0.mk H
   clear H
   go_enter Tryz.func191, Tryz.ntmps191
   go_wp2_with (first | ((with_reducible refine gate_dst (N := 11) rfl ?_); refine Kd.R_make (Kd.int .u32) _ 145 rfl (N := 11) rfl 75 _ _ rfl (l0.length : Int) rfl rfl Tryz.underlying75 (.int .u32 0) 4 info145 rfl (by decide) (by omega) 0 (ok := fun _ => True) (okp := fun _ => True) rfl (fun _ hk => hk) trivial (of_decide_eq_true as_) (Nat.le_trans (Nat.mul_le_mul_right _ (of_decide_eq_true as_ : (l0.length : Int).toNat ≤ 70368744177664)) (by omega)) (Below.refl _ _) (Nat.le_refl _) ?_; intro v262 w5 ho6 hb hg_ hnew_; clear hg_ hnew_; (first | rw [← Ny261.out] at ho6 | (simp only [Int.reduceToNat] at ho6; rw [← Ny261.out] at ho6)); have n0_ := Aside0.mk (Kd.R_lower ho6 (below_size bw_)); have n1_ := Aside0.mk (below_step bw_ hb); clear HB; have HO263 := n0_; have HB := n1_; clear n0_ n1_; clear hb ho6))
   go_loopg [7, 8] k (fun kq v7 v8 w' => ∃ (x6_1 : List Int) (x7_1 : Int) (x8_1 : Int), v7 = .int .u64 x7_1 ∧ v8 = .int .i64 x8_1 ∧ Aside0 (num_short.l0 kq l0 a1 x6_1 x7_1 x8_1 = some (r1, r2)) ∧ Aside0 (kq ≤ k) ∧ Aside0 (Kd.R (Kd.int .u32) 145 w' w.heap.size (fun _ => True) v262 x6_1) ∧ Aside0 (Below w.heap.size w w'))
   case atStart => exact ⟨(y261), (0), (wrap64 ((l0.length : Int) - 1)), sd_, sd_, H', ⟨Nat.le_refl _⟩, ⟨rRa_ HO263.out⟩, ⟨bw_⟩⟩
   case round =>
    clear H'
    try clear c1
    try clear p2
    try clear c3
    try clear c3b0
    try clear c3b1
    try clear c4
    try clear c4b0
    try clear c4b1
    try clear p6
    obtain ⟨x6_1, x7_1, x8_1, rfl, rfl, HA, HK1, HO_6, HB⟩ := hrel
    cases gk with
    |zero => exact absurd HA.out (by simp [num_short.l0])
    |succ k1 =>
     have H := HA.out
     clear HA
     simp only [num_short.l0] at H
     by_cases c7 : x8_1 ≥ 0
     ·rw [if_pos c7] at H
      have c7b0 : decide (0 ≤ x8_1) = true := decide_eq_true c7
      clear c7
      by_cases c8 : 0 ≤ x8_1
      ·rw [if_pos c8] at H
       have c8b0 : decide (0 ≤ x8_1) = true := decide_eq_true c8
       clear c8
       by_cases c9 : x8_1 < (l0.length : Int)
       ·rw [if_pos c9] at H
        have c9b0 : decide (x8_1 < (l0.length : Int)) = true := decide_eq_true c9
        clear c9
        by_cases c10 : (IntKind.u64.wrap (a1)) = 0
        ·rw [if_pos c10] at H
         exact absurd H (by simp)
        ·rw [if_neg c10] at H
         have c10b0 : ((IntKind.u64.wrap (a1)) == 0) = false := beq_eq_false_iff_ne.mpr c10
         have c10b1 : ((IntKind.u64.wrap (a1)) != 0) = true := bne_iff_ne.mpr c10
         by_cases c11 : x8_1 < (x6_1.length : Int)
         ·rw [if_pos c11] at H
          have c11b0 : decide (x8_1 < (x6_1.length : Int)) = true := decide_eq_true c11
          clear c11
          obtain ⟨y265, hy265⟩ : ∃ y_ : List Int, y_ = (x6_1.set (x8_1 : Int).toNat ((IntKind.u64.wrap (Int.tdiv (IntKind.u64.wrap ((IntKind.u64.wrap (x7_1 * 1000000000)) + (IntKind.u64.wrap (rd l0 x8_1)))) (IntKind.u64.wrap (a1)))) % 4294967296)) := ⟨_, rfl⟩
          replace H : (num_short.l0 k1 l0 a1 y265 (Int.tmod (IntKind.u64.wrap ((IntKind.u64.wrap (x7_1 * 1000000000)) + (IntKind.u64.wrap (rd l0 x8_1)))) (IntKind.u64.wrap (a1))) (wrap64 (x8_1 - 1))) = some (r1, r2) := by first | (rw [hy265]; with_reducible exact H) | (have H2_ := (Option.bind_some _ _).symm.trans H; rw [hy265]; with_reducible exact H2_) | (have H2_ := (Option.bind_some _ _).symm.trans H; with_reducible exact H2_) | with_reducible exact H | (rw [hy265]; exact H) | exact H
          have Ny265 := Aside0.mk hy265
          clear hy265
          have H' := Aside0.mk H
          clear H
          have p264 : 0 ≤ (x8_1 : Int) := of_decide_eq_true as_
          have q264 : x8_1 < (l0.length : Int) := of_decide_eq_true as_
          obtain ⟨ad264, e264, hx264_0⟩ := Kd.at_int HR0.out x8_1 p264 q264
          cases e264
          replace hx264_0 := (HB.out.cell (World.block_lt_of_cell? w _ hx264_0)).trans hx264_0
          replace p264 := eq_true p264
          replace q264 := eq_true q264
          try go_wp2
          have n0_ := Aside0.mk (Kd.R_drew HO_6.out)
          have n1_ := Aside0.mk (below_drew1 HB.out)
          clear HO_6
          clear HB
          have HO_6 := n0_
          have HB := n1_
          clear n0_ n1_
          have p12 : 0 ≤ (x8_1 : Int) := of_decide_eq_true as_
          have q12 : (x8_1 : Int) < ((x6_1.length : Int) : Int) := of_decide_eq_true as_
          obtain ⟨go12, co12, eo12, gb12, gl12, cl12, HG12⟩ := Kd.R_form HO_6.out (by omega)
          (first | cases eo12 | (injection eo12 with ea_ en_ ec_; (first | subst ea_ | (injection ea_ with ea_; subst ea_)); subst ec_; clear en_))
          have GB12 := Aside0.mk gb12
          have GG12 := Aside0.mk HG12
          clear gb12 gl12 HG12
          obtain ⟨hx12_0, hf12_0⟩ := Kd.R_celln 0 HO_6.out (x8_1 : Int) p12 q12
          replace p12 := eq_true p12
          replace q12 := eq_true q12
          have HP14 := Kd.R_putn HO_6.out (x8_1 : Int) ((IntKind.u64.wrap (Int.tdiv (IntKind.u64.wrap ((IntKind.u64.wrap (x7_1 * 1000000000)) + (IntKind.u64.wrap (rd l0 x8_1)))) (IntKind.u64.wrap (a1)))) % 4294967296)
          rw [← Ny265.out] at HP14
          have HQ14 := Aside0.mk HP14
          clear HP14
          refine start_ (n := 14) (S := fun w' => True) (ds := [12]) #[false, false, false, false, false, false, false, false, false, false, false, false, false, false] (by kernel_rfl) rfl rfl trivial (fun hH => ?_); refine with_tabW num_short.tab6 num_short.bits6 (fun HT_ HW_ => ?_)
          generalize wr.drew = w13 at HO_6 HB GG12 HQ14 hf12_0 hx12_0 hH ⊢
          refine pq_ 0 (some 27) #[true, false, false, false, false, false, false, false, false, false, false, false, false, false] HT_.out ?_
          refine pq_ 1 (some 28) #[true, true, false, false, false, false, false, false, false, false, false, false, false, false] HT_.out ?_
          refine pq_ 2 (some 29) #[true, true, true, false, false, false, false, false, false, false, false, false, false, false] HT_.out ?_
          refine pq_ 3 (some 30) #[true, true, true, true, false, false, false, false, false, false, false, false, false, false] HT_.out ?_
          refine pq_ 4 (some 31) #[true, true, true, true, true, false, false, false, false, false, false, false, false, false] HT_.out ?_
          refine pq_ 5 (some 32) #[true, true, true, true, true, true, false, false, false, false, false, false, false, false] HT_.out ?_
          refine pq_ 6 (some 33) #[true, true, true, true, true, true, true, false, false, false, false, false, false, false] HT_.out ?_
          refine pq_ 7 (some 34) #[true, true, true, true, true, true, true, true, false, false, false, false, false, false] HT_.out ?_
          refine pq_ 8 (some 35) #[true, true, true, true, true, true, true, true, true, false, false, false, false, false] HT_.out ?_
          refine pq_ 9 (some 36) #[true, true, true, true, true, true, true, true, true, true, false, false, false, false] HT_.out ?_
          refine pq_ 10 (some 37) #[true, true, true, true, true, true, true, true, true, true, true, false, false, false] HT_.out ?_
          refine pq_ 11 (some 38) #[true, true, true, true, true, true, true, true, true, true, true, true, false, false] HT_.out ?_
          refine last_ (i := 12) (N := none) #[true, true, true, true, true, true, true, true, true, true, true, true, true, false] rfl rfl (one_of HT_.out (by kernel_rfl)) (by decide) (fun K hK => ?_)
          refine skip_ (w1 := ?_) (by rfl) rfl ?_ ?_
          rotate_left
          ·go_simp
           rfl
          refine hK.out _ _ ?_
          clear hK K
          refine pq_ 13 (some 7) #[true, true, true, true, true, true, true, true, true, true, true, true, true, true] HT_.out ?_
          refine done_ (done_of HT_.out (by kernel_rfl)) ?_
          try go_wp2
          go_roundg k1
          case measure => have := HK1.out; omega
          case rel => exact ⟨(y265), (Int.tmod (IntKind.u64.wrap ((IntKind.u64.wrap (x7_1 * 1000000000)) + (IntKind.u64.wrap (rd l0 x8_1)))) (IntKind.u64.wrap (a1))), (wrap64 (x8_1 - 1)), sd_, sd_, H', ⟨by have := HK1.out; omega⟩, ⟨rRa_ HQ14.out⟩, ⟨by repeat (first | (with_reducible first | exact HB.out | apply below_alloc | apply pw_below_drewN | apply below_drew1 | refine below_set ?_ GB12.out) | exact HB.out)⟩⟩
         ·rw [if_neg c11] at H
          exact absurd H (by simp)
       ·rw [if_neg c9] at H
        exact absurd H (by simp)
      ·rw [if_neg c8] at H
       exact absurd H (by simp)
     ·rw [if_neg c7] at H
      have c7b0 : decide (0 ≤ x8_1) = false := decide_eq_false c7
      clear c7
      simp only [Option.some.injEq, Prod.mk.injEq] at H
      obtain ⟨rfl, rfl⟩ := H
      go_wp2
      go_ret2
      exact ⟨_, by first | rfl | (simp [errW_none, errW_some] <;> rfl) | (simp [*, errW_none, errW_some] <;> rfl), rRa_ HO_6.out, bw_⟩
  ·rw [if_neg c4] at H
   exact absurd H (by simp)
 ·rw [if_neg c3] at H
  exact absurd H (by simp)
attribute [local go_sem] max2_int min2_int max_two min_two max_three min_three max_four min_four
set_option linter.unusedVariables false
set_option linter.unusedSimpArgs false
def num_scaled.l0 : Nat → Int → List Int → Int → List Int → Int → Int → Option (List Int)
 |0, _, _, _, _, _, _ => none
 |k + 1, x1, x5, x6, x13, x14, x15 => if x15 < x14 then (if 0 ≤ x15 then (if x15 < (x13.length : Int) then (if x5.length < 35184372088832 then (num_scaled.l0 k x1 (x5 ++ [(Int.tmod (IntKind.u64.wrap (x6 + (IntKind.u64.wrap ((IntKind.u64.wrap (rd x13 x15)) * (IntKind.u64.wrap (x1)))))) 1000000000) % 4294967296]) (IntKind.u64.wrap (Int.tdiv (IntKind.u64.wrap (x6 + (IntKind.u64.wrap ((IntKind.u64.wrap (rd x13 x15)) * (IntKind.u64.wrap (x1)))))) 1000000000)) x13 x14 (wrap64 (x15 + 1))) else (none)) else (none)) else (none)) else (if x5.length < 35184372088832 then (some (x5 ++ [(x6) % 4294967296])) else (none))
def num_scaled.f (k : Nat) (l0 : List Int) (a1 : Int) : Option (List Int) := if 0 ≤ (wrap64 ((l0.length : Int) + 1)) then (if (wrap64 ((l0.length : Int) + 1) : Int).toNat ≤ 70368744177664 then (num_scaled.l0 k a1 (([] : List Int)) 0 l0 (l0.length : Int) 0) else (none)) else (none)
set_option maxHeartbeats 8000000 in
set_option maxRecDepth 100000 in
theorem num_scaled.calls (k : Nat) (A0 : Option Addr) (c0 : Nat) (l0 : List Int) (a1 : Int) (r : List Int) (w : World) (hr0 : Kd.C (Kd.int .u32) w A0 l0.length l0) (hc0 : l0.length ≤ c0) (h : num_scaled.f k l0 a1 = some r) :
  Calls Tryz.prog 202 #[.slice A0 l0.length c0, .int .u32 a1] w fun e w' => ∃ v0_ : Value, e = .returned (v0_) ∧ Kd.R (Kd.int .u32) 145 w' w.heap.size (fun _ => True) v0_ r ∧ Below w.heap.size w w' := by
 have HR0 := Aside0.mk hr0
 have HC0 := Aside0.mk hc0
 clear hr0 hc0
 have HB := Aside0.mk (Below.refl w.heap.size w)
 have H : (if 0 ≤ (wrap64 ((l0.length : Int) + 1)) then (if (wrap64 ((l0.length : Int) + 1) : Int).toNat ≤ 70368744177664 then (num_scaled.l0 k a1 (([] : List Int)) 0 l0 (l0.length : Int) 0) else (none)) else (none)) = some r := h
 clear h
 obtain ⟨ji3, hji3⟩ : ∃ j_ : Int, (wrap64 ((l0.length : Int) + 1)) = j_ := ⟨_, rfl⟩
 replace H : (if 0 ≤ (ji3) then (if (ji3 : Int).toNat ≤ 70368744177664 then (num_scaled.l0 k a1 (([] : List Int)) 0 l0 (l0.length : Int) 0) else (none)) else (none)) = some r := by first | (rw [hji3] at H; exact H) | (simp only [hji3] at H ⊢; exact H)
 have hji3w : (IntKind.i64.wrap ((l0.length : Int) + 1)) = ji3 := (i64_w _).trans hji3
 by_cases c4 : 0 ≤ (ji3)
 ·rw [if_pos c4] at H
  have c4b0 := eq_true c4
  have c4b1 : decide (0 ≤ (ji3)) = true := decide_eq_true c4
  clear c4
  by_cases c5 : (ji3 : Int).toNat ≤ 70368744177664
  ·rw [if_pos c5] at H
   have c5b0 := eq_true c5
   have c5b1 : decide ((ji3 : Int).toNat ≤ 70368744177664) = true := decide_eq_true c5
   clear c5
   obtain ⟨y266, hy266⟩ : ∃ y_ : List Int, y_ = (([] : List Int)) := ⟨_, rfl⟩
   replace H : (num_scaled.l0 k a1 y266 0 l0 (l0.length : Int) 0) = some r := by first | (rw [hy266]; with_reducible exact H) | (have H2_ := (Option.bind_some _ _).symm.trans H; rw [hy266]; with_reducible exact H2_) | (have H2_ := (Option.bind_some _ _).symm.trans H; with_reducible exact H2_) | with_reducible exact H | (rw [hy266]; exact H) | exact H
   have Ny266 := Aside0.mk hy266
   clear hy266
   have H' := Aside0.mk H
   clear H
   go_enter Tryz.func202, Tryz.ntmps202
   go_wp2_with (first | ((with_reducible refine gate_dst (N := 12) rfl ?_); refine Kd.R_makecap (Kd.int .u32) _ 145 rfl (N := 12) rfl 75 _ _ rfl ji3 rfl rfl Tryz.underlying75 (.int .u32 0) 4 info145 rfl (by decide) (by omega) (ok := fun _ => True) trivial (of_decide_eq_true as_) (Nat.le_trans (Nat.mul_le_mul_right _ (of_decide_eq_true as_ : ji3.toNat ≤ 70368744177664)) (by omega)) (Below.refl _ _) (Nat.le_refl _) ?_; intro v267 w6 ho7 hb hg_ hnew_; clear hg_ hnew_; (first | rw [← Ny266.out] at ho7 | (simp only [Int.reduceToNat] at ho7; rw [← Ny266.out] at ho7)); have n0_ := Aside0.mk (Kd.R_lower ho7 (below_size bw_)); have n1_ := Aside0.mk (below_step bw_ hb); clear HB; have HO268 := n0_; have HB := n1_; clear n0_ n1_; clear hb ho7))
   go_loopg [5, 6, 15] k (fun kq v5 v6 v15 w' => ∃ (x5_1 : List Int) (x6_1 : Int) (x15_1 : Int), v6 = .int .u64 x6_1 ∧ v15 = .int .i64 x15_1 ∧ Aside0 (num_scaled.l0 kq a1 x5_1 x6_1 l0 (l0.length : Int) x15_1 = some r) ∧ Aside0 (kq ≤ k) ∧ Aside0 (Kd.R (Kd.int .u32) 145 w' w.heap.size (fun _ => True) v5 x5_1) ∧ Aside0 (Below w.heap.size w w'))
   case atStart => exact ⟨(y266), (0), (0), sd_, sd_, H', ⟨Nat.le_refl _⟩, ⟨rRa_ HO268.out⟩, ⟨bw_⟩⟩
   case round =>
    clear H'
    try clear c2
    try clear p2
    try clear c4
    try clear c4b0
    try clear c4b1
    try clear c5
    try clear c5b0
    try clear c5b1
    try clear p6
    obtain ⟨x5_1, x6_1, x15_1, rfl, rfl, HA, HK1, HO_5, HB⟩ := hrel
    cases gk with
    |zero => exact absurd HA.out (by simp [num_scaled.l0])
    |succ k1 =>
     have H := HA.out
     clear HA
     simp only [num_scaled.l0] at H
     by_cases c8 : x15_1 < (l0.length : Int)
     ·rw [if_pos c8] at H
      have c8b0 : decide (x15_1 < (l0.length : Int)) = true := decide_eq_true c8
      clear c8
      by_cases c9 : 0 ≤ x15_1
      ·rw [if_pos c9] at H
       have c9b0 : decide (0 ≤ x15_1) = true := decide_eq_true c9
       clear c9
       by_cases c10 : x15_1 < (l0.length : Int)
       ·rw [if_pos c10] at H
        have c10b0 : decide (x15_1 < (l0.length : Int)) = true := decide_eq_true c10
        clear c10
        by_cases c11 : x5_1.length < 35184372088832
        ·rw [if_pos c11] at H
         have LMc11 := Aside0.mk c11
         clear c11
         obtain ⟨y270, hy270⟩ : ∃ y_ : List Int, y_ = (x5_1 ++ [(Int.tmod (IntKind.u64.wrap (x6_1 + (IntKind.u64.wrap ((IntKind.u64.wrap (rd l0 x15_1)) * (IntKind.u64.wrap (a1)))))) 1000000000) % 4294967296]) := ⟨_, rfl⟩
         replace H : (num_scaled.l0 k1 a1 y270 (IntKind.u64.wrap (Int.tdiv (IntKind.u64.wrap (x6_1 + (IntKind.u64.wrap ((IntKind.u64.wrap (rd l0 x15_1)) * (IntKind.u64.wrap (a1)))))) 1000000000)) l0 (l0.length : Int) (wrap64 (x15_1 + 1))) = some r := by first | (rw [hy270]; with_reducible exact H) | (have H2_ := (Option.bind_some _ _).symm.trans H; rw [hy270]; with_reducible exact H2_) | (have H2_ := (Option.bind_some _ _).symm.trans H; with_reducible exact H2_) | with_reducible exact H | (rw [hy270]; exact H) | exact H
         have Ny270 := Aside0.mk hy270
         clear hy270
         have H' := Aside0.mk H
         clear H
         have p269 : 0 ≤ (x15_1 : Int) := of_decide_eq_true as_
         have q269 : x15_1 < (l0.length : Int) := of_decide_eq_true as_
         obtain ⟨ad269, e269, hx269_0⟩ := Kd.at_int HR0.out x15_1 p269 q269
         cases e269
         replace hx269_0 := (HB.out.cell (World.block_lt_of_cell? w _ hx269_0)).trans hx269_0
         replace p269 := eq_true p269
         replace q269 := eq_true q269
         go_wp2_with (first | ((with_reducible refine gate_builtin (b := .append) (xs := #[.tmp 26, .tmp 30]) rfl ?_); at_builtin; refine Kd.R_append (Kd.int .u32) (w0 := w) w.heap.size rfl (.tmp 26) (.tmp 30) 75 145 (.int .u32 0) 4 rfl Tryz.underlying75 info145 rfl (by decide) (by omega) u5 x5_1 ((Int.tmod (IntKind.u64.wrap (x6_1 + (IntKind.u64.wrap ((IntKind.u64.wrap (rd l0 x15_1)) * (IntKind.u64.wrap (a1)))))) 1000000000) % 4294967296) [.int .u32 ((Int.tmod (IntKind.u64.wrap (x6_1 + (IntKind.u64.wrap ((IntKind.u64.wrap (rd l0 x15_1)) * (IntKind.u64.wrap (a1)))))) 1000000000) % 4294967296)] (fun _ => True) (fun _ => False) rfl rfl ?aP (fun _ hk => hk.elim) ?aF ?aO ?aB ?aS ?aL ?_; (case aP => exact rfl); (case aB => exact bw_); (case aF => exact (fun _ _ => trivial)); (case aO => exact (rRa_ HO_5.out)); (case aS => exact (below_size bw_)); (case aL => have := LMc11.out; omega); intro v271 w12 ho hb hg hat; rw [← Ny270.out] at ho; have n0_ := Aside0.mk (hb); have n1_ := Aside0.mk (ho); clear HB; clear HO_5; have HB := n0_; have HO272 := n1_; clear n0_ n1_; clear ho hb hg hat))
         go_roundg k1
         case measure => have := HK1.out; omega
         case rel => exact ⟨(y270), (IntKind.u64.wrap (Int.tdiv (IntKind.u64.wrap (x6_1 + (IntKind.u64.wrap ((IntKind.u64.wrap (rd l0 x15_1)) * (IntKind.u64.wrap (a1)))))) 1000000000)), (wrap64 (x15_1 + 1)), sd_, sd_, H', ⟨by have := HK1.out; omega⟩, ⟨rRa_ HO272.out⟩, ⟨bw_⟩⟩
        ·rw [if_neg c11] at H
         exact absurd H (by simp)
       ·rw [if_neg c10] at H
        exact absurd H (by simp)
      ·rw [if_neg c9] at H
       exact absurd H (by simp)
     ·rw [if_neg c8] at H
      have c8b0 : decide (x15_1 < (l0.length : Int)) = false := decide_eq_false c8
      clear c8
      by_cases c13 : x5_1.length < 35184372088832
      ·rw [if_pos c13] at H
       have LMc13 := Aside0.mk c13
       clear c13
       obtain ⟨y273, hy273⟩ : ∃ y_ : List Int, y_ = (x5_1 ++ [(x6_1) % 4294967296]) := ⟨_, rfl⟩
       replace H : (some y273) = some r := by first | (rw [hy273]; with_reducible exact H) | (have H2_ := (Option.bind_some _ _).symm.trans H; rw [hy273]; with_reducible exact H2_) | (have H2_ := (Option.bind_some _ _).symm.trans H; with_reducible exact H2_) | with_reducible exact H | (rw [hy273]; exact H) | exact H
       have Ny273 := Aside0.mk hy273
       clear hy273
       obtain rfl := Option.some.inj H
       go_wp2_with (first | ((with_reducible refine gate_builtin (b := .append) (xs := #[.tmp 35, .tmp 38]) rfl ?_); at_builtin; refine Kd.R_append (Kd.int .u32) (w0 := w) w.heap.size rfl (.tmp 35) (.tmp 38) 75 145 (.int .u32 0) 4 rfl Tryz.underlying75 info145 rfl (by decide) (by omega) u5 x5_1 ((x6_1) % 4294967296) [.int .u32 ((x6_1) % 4294967296)] (fun _ => True) (fun _ => False) rfl rfl ?aP (fun _ hk => hk.elim) ?aF ?aO ?aB ?aS ?aL ?_; (case aP => exact rfl); (case aB => exact bw_); (case aF => exact (fun _ _ => trivial)); (case aO => exact (rRa_ HO_5.out)); (case aS => exact (below_size bw_)); (case aL => have := LMc13.out; omega); intro v274 w14 ho hb hg hat; rw [← Ny273.out] at ho; have n0_ := Aside0.mk (hb); have n1_ := Aside0.mk (ho); clear HB; clear HO_5; have HB := n0_; have HO275 := n1_; clear n0_ n1_; clear ho hb hg hat))
       go_ret
       exact ⟨_, by first | rfl | (simp [errW_none, errW_some] <;> rfl) | (simp only [← hji3]; first | rfl | (simp [errW_none, errW_some] <;> rfl)) | (simp [*, errW_none, errW_some] <;> rfl), rRa_ HO275.out, bw_⟩
      ·rw [if_neg c13] at H
       exact absurd H (by simp)
  ·rw [if_neg c5] at H
   exact absurd H (by simp)
 ·rw [if_neg c4] at H
  exact absurd H (by simp)
attribute [local go_sem] max2_int min2_int max_two min_two max_three min_three max_four min_four
set_option linter.unusedVariables false
set_option linter.unusedSimpArgs false
def num_word.l0 : Nat → List Int → Int → Int → Option (Int)
 |0, _, _, _ => none
 |k + 1, x0, x3, x4 => if x4 ≥ 0 then (if 0 ≤ x4 then (if x4 < (x0.length : Int) then (num_word.l0 k x0 (wrap64 ((wrap64 (x3 * 1000000000)) + (wrap64 (rd x0 x4)))) (wrap64 (x4 - 1))) else (none)) else (none)) else (some x3)
def num_word.f (k : Nat) (l0 : List Int) : Option (Int) := num_word.l0 k l0 0 (wrap64 ((l0.length : Int) - 1))
set_option maxHeartbeats 8000000 in
set_option maxRecDepth 100000 in
theorem num_word.calls (k : Nat) (A0 : Option Addr) (c0 : Nat) (l0 : List Int) (r : Int) (w : World) (hr0 : Kd.C (Kd.int .u32) w A0 l0.length l0) (hc0 : l0.length ≤ c0) (h : num_word.f k l0 = some r) :
  Calls Tryz.prog 187 #[.slice A0 l0.length c0] w fun e w' => e = .returned (.int .i64 r) ∧ Drawn0 w w' := by
 have HR0 := Aside0.mk hr0
 have HC0 := Aside0.mk hc0
 clear hr0 hc0
 have H : (num_word.l0 k l0 0 (wrap64 ((l0.length : Int) - 1))) = some r := h
 clear h
 have H' := Aside0.mk H
 clear H
 go_enter Tryz.func187, Tryz.ntmps187
 go_wp2
 go_loopg [3, 4] k (fun kq v3 v4 w' => ∃ (x3_1 : Int) (x4_1 : Int), v3 = .int .i64 x3_1 ∧ v4 = .int .i64 x4_1 ∧ Aside0 (num_word.l0 kq l0 x3_1 x4_1 = some r) ∧ Aside0 (kq ≤ k) ∧ Drawn0 w w')
 case atStart => exact ⟨(0), (wrap64 ((l0.length : Int) - 1)), sd_, sd_, H', ⟨Nat.le_refl _⟩, dr_⟩
 case round =>
  clear H'
  try clear c1
  obtain ⟨x3_1, x4_1, rfl, rfl, HA, HK1, ⟨m1, rfl⟩⟩ := hrel
  cases gk with
  |zero => exact absurd HA.out (by simp [num_word.l0])
  |succ k1 =>
   have H := HA.out
   clear HA
   simp only [num_word.l0] at H
   by_cases c2 : x4_1 ≥ 0
   ·rw [if_pos c2] at H
    have c2b0 : decide (0 ≤ x4_1) = true := decide_eq_true c2
    clear c2
    by_cases c3 : 0 ≤ x4_1
    ·rw [if_pos c3] at H
     have c3b0 : decide (0 ≤ x4_1) = true := decide_eq_true c3
     clear c3
     by_cases c4 : x4_1 < (l0.length : Int)
     ·rw [if_pos c4] at H
      have c4b0 : decide (x4_1 < (l0.length : Int)) = true := decide_eq_true c4
      clear c4
      have H' := Aside0.mk H
      clear H
      have p367 : 0 ≤ (x4_1 : Int) := of_decide_eq_true as_
      have q367 : x4_1 < (l0.length : Int) := of_decide_eq_true as_
      obtain ⟨ad367, e367, hx367_0⟩ := Kd.at_int HR0.out x4_1 p367 q367
      cases e367
      replace p367 := eq_true p367
      replace q367 := eq_true q367
      go_wp2
      go_roundg k1
      case measure => have := HK1.out; omega
      case rel => exact ⟨(wrap64 ((wrap64 (x3_1 * 1000000000)) + (wrap64 (rd l0 x4_1)))), (wrap64 (x4_1 - 1)), sd_, sd_, H', ⟨by have := HK1.out; omega⟩, dr_⟩
     ·rw [if_neg c4] at H
      exact absurd H (by simp)
    ·rw [if_neg c3] at H
     exact absurd H (by simp)
   ·rw [if_neg c2] at H
    have c2b0 : decide (0 ≤ x4_1) = false := decide_eq_false c2
    clear c2
    obtain rfl := Option.some.inj H
    go_wp2
    go_ret
    exact ⟨sd_, dr_⟩
attribute [local go_sem] max2_int min2_int max_two min_two max_three min_three max_four min_four
set_option linter.unusedVariables false
set_option linter.unusedSimpArgs false
def num_small.l0 : Nat → Int → Int → Option (Int)
 |0, _, _ => none
 |k + 1, x0, x1 => if x1 > 0 then (if x1 = 0 then (none) else (num_small.l0 k x1 (Int.tmod x0 x1))) else (some x0)
def num_small.f (k : Nat) (a0 : Int) (a1 : Int) : Option (Int) := num_small.l0 k a0 a1
set_option maxHeartbeats 8000000 in
set_option maxRecDepth 100000 in
theorem num_small.calls (k : Nat) (a0 : Int) (a1 : Int) (r : Int) (w : World) (h : num_small.f k a0 a1 = some r) :
  Calls Tryz.prog 186 #[.int .i64 a0, .int .i64 a1] w fun e w' => e = .returned (.int .i64 r) ∧ Drawn0 w w' := by
 have H : (num_small.l0 k a0 a1) = some r := h
 clear h
 have H' := Aside0.mk H
 clear H
 go_enter Tryz.func186, Tryz.ntmps186
 go_wp2
 repeat (go_quiet (fail); try go_wp2)
 go_loopg [0, 1] k (fun kq v0 v1 w' => ∃ (x0_1 : Int) (x1_1 : Int), v0 = .int .i64 x0_1 ∧ v1 = .int .i64 x1_1 ∧ Aside0 (num_small.l0 kq x0_1 x1_1 = some r) ∧ Aside0 (kq ≤ k) ∧ Drawn0 w w')
 case atStart => exact ⟨(a0), (a1), sd_, sd_, H', ⟨Nat.le_refl _⟩, dr_⟩
 case round =>
  clear H'
  try clear c1
  try clear p2
  obtain ⟨x0_1, x1_1, rfl, rfl, HA, HK1, ⟨m1, rfl⟩⟩ := hrel
  cases gk with
  |zero => exact absurd HA.out (by simp [num_small.l0])
  |succ k1 =>
   have H := HA.out
   clear HA
   simp only [num_small.l0] at H
   by_cases c3 : x1_1 > 0
   ·rw [if_pos c3] at H
    have c3b0 : decide (0 < x1_1) = true := decide_eq_true c3
    clear c3
    by_cases c4 : x1_1 = 0
    ·rw [if_pos c4] at H
     exact absurd H (by simp)
    ·rw [if_neg c4] at H
     have c4b0 : (x1_1 == 0) = false := beq_eq_false_iff_ne.mpr c4
     have c4b1 : (x1_1 != 0) = true := bne_iff_ne.mpr c4
     have H' := Aside0.mk H
     clear H
     go_wp2
     repeat (go_quiet (fail); try go_wp2)
     go_roundg k1
     case measure => have := HK1.out; omega
     case rel => exact ⟨(x1_1), (Int.tmod x0_1 x1_1), sd_, sd_, H', ⟨by have := HK1.out; omega⟩, dr_⟩
   ·rw [if_neg c3] at H
    have c3b0 : decide (0 < x1_1) = false := decide_eq_false c3
    clear c3
    obtain rfl := Option.some.inj H
    go_wp2
    repeat (go_quiet (fail); try go_wp2)
    go_ret
    exact ⟨sd_, dr_⟩
theorem drop_set_self (l : List Int) (i : Nat) (y : Int) (h : i < l.length) : (l.set i y).drop i = y :: l.drop (i + 1) := by
 rw [List.drop_eq_getElem_cons (by rw [List.length_set]; exact h), List.getElem_set_self, List.drop_set_of_lt (by omega)]
theorem div_digit {b r x t : Int} (hb : 0 < b) (hr : 0 ≤ r ∧ r < b) (hx : 0 ≤ x ∧ x < 1000000000) (ht : t = r * 1000000000 + x) : 0 ≤ t ∧ t < b * 1000000000 ∧ 0 ≤ t / b ∧ t / b < 1000000000 ∧ 0 ≤ t % b ∧ t % b < b := by
 have h1 : (r + 1) * 1000000000 ≤ b * 1000000000 := Int.mul_le_mul_of_nonneg_right (by omega) (by omega)
 have h2 : t < b * 1000000000 := by omega
 have h0 : 0 ≤ t := by omega
 exact ⟨h0, h2, Int.ediv_nonneg h0 (by omega), Int.ediv_lt_of_lt_mul hb (by rw [Int.mul_comm]; exact h2), Int.emod_nonneg _ (by omega), Int.emod_lt_of_pos _ hb⟩
theorem short_l0 {a : List Int} {b : Int} (ha : Lim a) (hb : 0 < b) (hb' : b < 1000000000) (hm : a.length ≤ 30000000000000) : ∀ (i k : Nat) (q : List Int) (r : Int), q.length = a.length → i ≤ a.length → i < k → (0 ≤ r ∧ r < b) → Lim (q.drop i) → val (a.drop i) = val (q.drop i) * b + r →
  ∃ q' r', num_short.l0 k a b q r ((i : Int) - 1) = some (q', r') ∧ q'.length = a.length ∧ Lim q' ∧ (0 ≤ r' ∧ r' < b) ∧ val a = val q' * b + r'
 |0, k, q, r, hq, hi, hk, hr, hl, hv => by
  obtain ⟨k, rfl⟩ : ∃ m, k = m + 1 := ⟨k - 1, by omega⟩
  refine ⟨q, r, ?_, hq, by simpa using hl, hr, by simpa using hv⟩
  rw [num_short.l0, if_neg (by simp)]
  have : r % 4294967296 = r := by omega
  rw [this]
 |i + 1, k, q, r, hq, hi, hk, hr, hl, hv => by
  obtain ⟨k, rfl⟩ : ∃ m, k = m + 1 := ⟨k - 1, by omega⟩
  have e : (((i + 1 : Nat) : Int) - 1) = (i : Int) := by omega
  have hx := ha.rd i (by omega)
  obtain ⟨t, ht⟩ : ∃ t, t = r * 1000000000 + rd a (i : Int) := ⟨_, rfl⟩
  obtain ⟨t0, t1, d0, d1, m0, m1⟩ := div_digit hb hr hx ht
  have hb9 : b * 1000000000 ≤ 1000000000 * 1000000000 := Int.mul_le_mul_of_nonneg_right (by omega) (by omega)
  have eb : IntKind.u64.wrap b = b := u64_id (by omega) (by omega)
  have ex : IntKind.u64.wrap (rd a (i : Int)) = rd a (i : Int) := u64_id hx.1 (by omega)
  have hr0 : 0 ≤ r * 1000000000 := by omega
  have er : IntKind.u64.wrap (r * 1000000000) = r * 1000000000 := u64_id hr0 (by omega)
  have et : IntKind.u64.wrap (r * 1000000000 + rd a (i : Int)) = t := by rw [← ht]; exact u64_id t0 (by omega)
  have ed : IntKind.u64.wrap (Int.tdiv t b) % 4294967296 = t / b := by
   rw [Int.tdiv_eq_ediv_of_nonneg t0, u64_id d0 (by omega)]
   omega
  rw [num_short.l0, e, if_pos (by omega), if_pos (by omega), if_pos (by omega), eb, if_neg (by omega), if_pos (by omega), ex, er, et, ed, Int.tmod_eq_emod_of_nonneg t0, Int.toNat_natCast, wrap_id (by omega) (by omega)]
  have hd := drop_set_self q i (t / b) (by omega)
  refine short_l0 ha hb hb' hm i k _ _ (by rw [List.length_set]; exact hq) (by omega) (by omega) ⟨m0, m1⟩ (by rw [hd]; exact Lim.cons d0 d1 hl) ?_
  rw [hd, drop_cons a i (by omega), val, val, hv]
  have e2 := Int.emod_add_mul_ediv t b
  generalize t / b = d at *
  generalize t % b = m at *
  clear d0 d1 m0 m1 t0 t1 ed et er ex eb hd hx hr0 hb9
  grind
theorem short_ev {a : List Int} {b : Int} (ha : Lim a) (hb : 0 < b) (hb' : b < 1000000000) (hm : a.length ≤ 30000000000000) : ∃ q r, num_short.f (a.length + 1) a b = some (q, r) ∧ q.length = a.length ∧ Lim q ∧ (0 ≤ r ∧ r < b) ∧ val a = val q * b + r := by
 unfold num_short.f
 rw [if_pos (by omega), if_pos (by omega), wrap_id (by omega) (by omega), Int.toNat_natCast]
 refine short_l0 ha hb hb' hm a.length _ _ 0 (by simp) (Nat.le_refl _) (by omega) (by omega) ?_ ?_
 ·rw [List.drop_of_length_le (by simp)]; exact Lim.nil
 ·rw [List.drop_of_length_le (by simp), List.drop_of_length_le (by simp)]; simp [val]
theorem scaled_l0 {a : List Int} {b : Int} (ha : Lim a) (hb : 0 ≤ b) (hb' : b ≤ 1000000000) (hm : a.length ≤ 20000000000000) : ∀ (d i k : Nat) (out : List Int) (cy : Int), i + d = a.length → d < k → out.length = i → Lim out → (0 ≤ cy ∧ cy < 1000000000) → val out + 1000000000 ^ i * cy = val (a.take i) * b →
  ∃ l, num_scaled.l0 k b out cy a (a.length : Int) (i : Int) = some l ∧ Lim l ∧ l.length = a.length + 1 ∧ val l = val a * b
 |0, i, k, out, cy, hd, hk, hl, ho, hc, hv => by
  obtain ⟨k, rfl⟩ : ∃ m, k = m + 1 := ⟨k - 1, by omega⟩
  obtain rfl : i = a.length := by omega
  rw [num_scaled.l0, if_neg (by omega), if_pos (by omega)]
  have : cy % 4294967296 = cy := by omega
  rw [this]
  refine ⟨_, rfl, ho.append (Lim.cons hc.1 hc.2 Lim.nil), by simp [hl], ?_⟩
  rw [val_append, hl]
  rw [List.take_length] at hv
  simpa [val] using hv
 |d + 1, i, k, out, cy, hd, hk, hl, ho, hc, hv => by
  obtain ⟨k, rfl⟩ : ∃ m, k = m + 1 := ⟨k - 1, by omega⟩
  have hv' := Aside0.mk hv
  clear hv
  have e3 : wrap64 ((i : Int) + 1) = ((i + 1 : Nat) : Int) := by rw [wrap_id (by omega) (by omega)]; omega
  have hx := ha.rd i (by omega)
  have hp0 : 0 ≤ rd a (i : Int) * b := Int.mul_nonneg hx.1 hb
  have hp1 : rd a (i : Int) * b ≤ 999999999 * b := Int.mul_le_mul_of_nonneg_right (by omega) hb
  obtain ⟨t, ht⟩ : ∃ t, t = cy + rd a (i : Int) * b := ⟨_, rfl⟩
  have t0 : 0 ≤ t ∧ t < 1000000000000000000 := by omega
  have eb : IntKind.u64.wrap b = b := u64_id (by omega) (by omega)
  have ex : IntKind.u64.wrap (rd a (i : Int)) = rd a (i : Int) := u64_id hx.1 (by omega)
  have ep : IntKind.u64.wrap (rd a (i : Int) * b) = rd a (i : Int) * b := u64_id hp0 (by omega)
  have et : IntKind.u64.wrap (cy + rd a (i : Int) * b) = t := by rw [← ht]; exact u64_id t0.1 (by omega)
  have e1 : Int.tmod t 1000000000 % 4294967296 = t % 1000000000 := by rw [Int.tmod_eq_emod_of_nonneg t0.1]; omega
  have e2 : IntKind.u64.wrap (Int.tdiv t 1000000000) = t / 1000000000 := by rw [Int.tdiv_eq_ediv_of_nonneg t0.1, u64_id (by omega) (by omega)]
  rw [num_scaled.l0, if_pos (by omega), if_pos (by omega), if_pos (by omega), if_pos (by omega), eb, ex, ep, et, e1, e2, e3]
  have hm1 : 0 ≤ t % 1000000000 ∧ t % 1000000000 < 1000000000 := ⟨Int.emod_nonneg _ (by decide), Int.emod_lt_of_pos _ (by decide)⟩
  have hd1 : 0 ≤ t / 1000000000 ∧ t / 1000000000 < 1000000000 := by omega
  refine scaled_l0 ha hb hb' hm d (i + 1) k _ _ (by omega) (by omega) (by simp [hl]) (ho.append (Lim.cons hm1.1 hm1.2 Lim.nil)) hd1 ?_
  have hv := hv'.out
  have e4 : val (a.take (i + 1)) = val (a.take i) + 1000000000 ^ i * rd a (i : Int) := by
   rw [take_snoc a i (by clear hv; omega), val_append, List.length_take, Nat.min_eq_left (by clear hv; omega)]; simp [val]
  rw [e4, val_append, hl, Int.pow_succ]
  have e5 : val [t % 1000000000] = t % 1000000000 := by simp [val]
  rw [e5]
  have e6 := Int.emod_add_mul_ediv t 1000000000
  generalize t % 1000000000 = m at *
  generalize t / 1000000000 = q at *
  clear hm1 hd1 t0 e1 e2 et ep ex eb hp0 hp1 hx e3 hv' e4 e5
  grind
theorem scaled_ev {a : List Int} {b : Int} (ha : Lim a) (hb : 0 ≤ b) (hb' : b ≤ 1000000000) (hm : a.length ≤ 20000000000000) : ∃ l, num_scaled.f (a.length + 1) a b = some l ∧ Lim l ∧ l.length = a.length + 1 ∧ val l = val a * b := by
 unfold num_scaled.f
 have e : wrap64 ((a.length : Int) + 1) = (a.length : Int) + 1 := wrap_id (by omega) (by omega)
 rw [e, if_pos (by omega), if_pos (by omega)]
 exact scaled_l0 ha hb hb' hm a.length 0 _ [] 0 (by omega) (by omega) rfl Lim.nil (by omega) (by simp [val])
theorem word_l0 {a : List Int} (ha : Lim a) (hm : a.length ≤ 2) : ∀ (i k : Nat), i ≤ a.length → i < k → num_word.l0 k a (val (a.drop i)) ((i : Int) - 1) = some (val a)
 |0, k, hi, hk => by
  obtain ⟨k, rfl⟩ : ∃ m, k = m + 1 := ⟨k - 1, by omega⟩
  rw [num_word.l0, if_neg (by simp), List.drop_zero]
 |i + 1, k, hi, hk => by
  obtain ⟨k, rfl⟩ : ∃ m, k = m + 1 := ⟨k - 1, by omega⟩
  have e : (((i + 1 : Nat) : Int) - 1) = (i : Int) := by omega
  have hx := ha.rd i (by omega)
  have h1 := val_lt _ (ha.drop (i + 1))
  have h0 := val_nonneg _ (ha.drop (i + 1))
  have h2 : (1000000000 : Int) ^ (a.drop (i + 1)).length ≤ 1000000000 ^ 1 := pow_mono (by rw [List.length_drop]; omega)
  rw [Int.pow_one] at h2
  have h3 : val (a.drop (i + 1)) < 1000000000 := by omega
  clear h1 h2
  have hv : val (a.drop i) = rd a (i : Int) + 1000000000 * val (a.drop (i + 1)) := by rw [drop_cons a i (by omega), val]
  rw [num_word.l0, e, if_pos (by omega), if_pos (by omega), if_pos (by omega), wrap_id (a := rd a (i : Int)) (by omega) (by omega), wrap_id (a := val (a.drop (i + 1)) * 1000000000) (by omega) (by omega),
   wrap_id (a := val (a.drop (i + 1)) * 1000000000 + rd a (i : Int)) (by omega) (by omega), wrap_id (a := (i : Int) - 1) (by omega) (by omega)]
  have := word_l0 ha hm i k (by omega) (by omega)
  rw [hv] at this
  rw [← this]
  congr 1
  omega
theorem word_ev {a : List Int} (ha : Lim a) (hm : a.length ≤ 2) : num_word.f (a.length + 1) a = some (val a) := by
 unfold num_word.f
 rw [wrap_id (by omega) (by omega)]
 have := word_l0 ha hm a.length (a.length + 1) (Nat.le_refl _) (by omega)
 rw [List.drop_of_length_le (Nat.le_refl _)] at this
 exact this
theorem small_l0 : ∀ (y k x : Nat), y < k → num_small.l0 k (x : Int) (y : Int) = some ((Nat.gcd x y : Nat) : Int) := by
 intro y
 induction y using Nat.strongRecOn with
 |ind y ih =>
  intro k x hk
  obtain ⟨k, rfl⟩ : ∃ m, k = m + 1 := ⟨k - 1, by omega⟩
  by_cases h : y = 0
  ·subst h
   rw [num_small.l0, if_neg (by simp)]
   simp
  ·have hlt := Nat.mod_lt x (show 0 < y by omega)
   have e : Int.tmod (x : Int) (y : Int) = ((x % y : Nat) : Int) := by rw [Int.tmod_eq_emod_of_nonneg (by omega)]; simp
   rw [num_small.l0, if_pos (by omega), if_neg (by omega), e, ih (x % y) hlt k y (by omega)]
   congr 2
   rw [Nat.gcd_comm x y, Nat.gcd_rec y x, Nat.gcd_comm]
theorem small_ev (x y : Nat) : num_small.f (y + 1) (x : Int) (y : Int) = some ((Nat.gcd x y : Nat) : Int) := small_l0 y (y + 1) x (by omega)
structure Gs (B P U V ul u2 top vl v1 v2 : Int) : Prop where
 b : 1 < B
 p : 0 < P
 hU : U = ul + P * (u2 + B * top)
 hV : V = vl + P * (v2 + B * v1)
 hul : 0 ≤ ul ∧ ul < P
 hvl : 0 ≤ vl ∧ vl < P
 hu2 : 0 ≤ u2 ∧ u2 < B
 hv2 : 0 ≤ v2 ∧ v2 < B
 hv1 : 0 < v1
 ht : 0 ≤ top
 lt : U < B * V
variable {B P U V ul u2 top vl v1 v2 t rest : Int}
theorem Gs.V_pos (h : Gs B P U V ul u2 top vl v1 v2) : P * B ≤ V := by
 obtain ⟨b, p, hU, hV, hul, hvl, hu2, hv2, hv1, ht, lt⟩ := h
 have h1 : P * (B * 1) ≤ P * (B * v1) := Int.mul_le_mul_of_nonneg_left (Int.mul_le_mul_of_nonneg_left (by omega) (by omega)) (by omega)
 have h2 : 0 ≤ P * v2 := Int.mul_nonneg (by omega) hv2.1
 rw [hV, Int.mul_add]
 rw [Int.mul_one] at h1
 omega
theorem Gs.V_lt (h : Gs B P U V ul u2 top vl v1 v2) : V < P * (v2 + B * v1 + 1) ∧ V < P * (B * (v1 + 1)) := by
 obtain ⟨b, p, hU, hV, hul, hvl, hu2, hv2, hv1, ht, lt⟩ := h
 have e1 : P * (v2 + B * v1 + 1) = P * (v2 + B * v1) + P := by rw [Int.mul_add, Int.mul_one]
 have h1 : P * (v2 + B * v1 + 1) ≤ P * (B * (v1 + 1)) := Int.mul_le_mul_of_nonneg_left (by rw [Int.mul_add]; omega) (by omega)
 omega
theorem Gs.top_lt (h : Gs B P U V ul u2 top vl v1 v2) : top < B * (v1 + 1) := by
 have h2 := h.V_lt.2
 obtain ⟨b, p, hU, hV, hul, hvl, hu2, hv2, hv1, ht, lt⟩ := h
 refine Int.lt_of_not_ge fun hg => ?_
 have h3 : P * (B * (B * (v1 + 1))) ≤ P * (B * top) := Int.mul_le_mul_of_nonneg_left (Int.mul_le_mul_of_nonneg_left hg (by omega)) (by omega)
 have h4 : B * V < B * (P * (B * (v1 + 1))) := Int.mul_lt_mul_of_pos_left h2 (by omega)
 have h5 : P * (B * (B * (v1 + 1))) = B * (P * (B * (v1 + 1))) := by rw [Int.mul_left_comm]
 have h6 : 0 ≤ P * u2 := Int.mul_nonneg (by omega) hu2.1
 have h7 : P * (u2 + B * top) = P * u2 + P * (B * top) := Int.mul_add _ _ _
 omega
theorem Gs.big (h : Gs B P U V ul u2 top vl v1 v2) (hB : B ≤ t) : U < t * V := by
 have h0 := h.V_pos
 have hl := h.lt
 have : 0 ≤ P * B := Int.mul_nonneg (by have := h.p; omega) (by have := h.b; omega)
 have h1 : B * V ≤ t * V := Int.mul_le_mul_of_nonneg_right hB (by omega)
 omega
theorem Gs.test (h : Gs B P U V ul u2 top vl v1 v2) (h0 : 0 ≤ t) (hq : t * v1 + rest = top) (hg : rest * B + u2 < t * v2) : U < t * V := by
 obtain ⟨b, p, hU, hV, hul, hvl, hu2, hv2, hv1, ht, lt⟩ := h
 have e1 : t * V = t * vl + P * (t * v2 + B * (t * v1)) := by rw [hV]; grind
 have e2 : B * (t * v1) = B * top - B * rest := by rw [← hq]; grind
 have h1 : 0 ≤ t * vl := Int.mul_nonneg h0 hvl.1
 have h2 : P * (u2 + B * top + 1) ≤ P * (t * v2 + B * (t * v1)) := Int.mul_le_mul_of_nonneg_left (by rw [e2, Int.mul_comm B rest]; omega) (by omega)
 have e3 : P * (u2 + B * top + 1) = P * (u2 + B * top) + P := by rw [Int.mul_add _ _ 1, Int.mul_one]
 omega
theorem Gs.endA (h : Gs B P U V ul u2 top vl v1 v2) (h0 : 0 ≤ t) (hB : t < B) (hq : t * v1 + rest = top) (hg : t * v2 ≤ rest * B + u2) : t * V - V ≤ U := by
 have hp := h.V_pos
 have hl := h.V_lt.1
 obtain ⟨b, p, hU, hV, hul, hvl, hu2, hv2, hv1, ht, lt⟩ := h
 have e2 : B * (t * v1) = B * top - B * rest := by rw [← hq]; grind
 have h1 : t * V ≤ t * (P * (v2 + B * v1 + 1)) := Int.mul_le_mul_of_nonneg_left (by omega) h0
 have e1 : t * (P * (v2 + B * v1 + 1)) = P * (t * v2 + B * (t * v1) + t) := by grind
 have h2 : P * (t * v2 + B * (t * v1) + t) ≤ P * (u2 + B * top + B) := Int.mul_le_mul_of_nonneg_left (by rw [e2, Int.mul_comm B rest]; omega) (by omega)
 have e3 : P * (u2 + B * top + B) = P * (u2 + B * top) + P * B := Int.mul_add _ _ _
 omega
theorem Gs.endB (h : Gs B P U V ul u2 top vl v1 v2) (h0 : 0 ≤ t) (hq : t * v1 + rest = top) (hr : B ≤ rest) : t * V ≤ U ∧ t < B := by
 have ht := h.top_lt
 have hl := h.V_lt.2
 obtain ⟨b, p, hU, hV, hul, hvl, hu2, hv2, hv1, ht0, lt⟩ := h
 have htB : t < B := by
  refine Int.lt_of_not_ge fun hg => ?_
  have : B * v1 ≤ t * v1 := Int.mul_le_mul_of_nonneg_right hg (by omega)
  rw [Int.mul_add, Int.mul_one] at ht
  omega
 refine ⟨?_, htB⟩
 have h1 : t * V ≤ t * (P * (B * (v1 + 1))) := Int.mul_le_mul_of_nonneg_left (by omega) h0
 have e1 : t * (P * (B * (v1 + 1))) = P * (B * (t * v1 + t)) := by grind
 have h2 : P * (B * (t * v1 + t)) ≤ P * (B * top) := Int.mul_le_mul_of_nonneg_left (Int.mul_le_mul_of_nonneg_left (by omega) (by omega)) (by omega)
 have h3 : 0 ≤ P * u2 := Int.mul_nonneg (by omega) hu2.1
 have e2 : P * (u2 + B * top) = P * u2 + P * (B * top) := Int.mul_add _ _ _
 omega
theorem Gs.start (h : Gs B P U V ul u2 top vl v1 v2) (h0 : 0 ≤ t) (hq : t * v1 + rest = top) (hr : rest < v1) : U < t * V + V := by
 obtain ⟨b, p, hU, hV, hul, hvl, hu2, hv2, hv1, ht, lt⟩ := h
 have e1 : t * V + V = (t + 1) * vl + P * ((t + 1) * v2) + P * (B * ((t + 1) * v1)) := by rw [hV]; grind
 have h1 : 0 ≤ (t + 1) * vl := Int.mul_nonneg (by omega) hvl.1
 have h2 : 0 ≤ P * ((t + 1) * v2) := Int.mul_nonneg (by omega) (Int.mul_nonneg (by omega) hv2.1)
 have e2 : (t + 1) * v1 = t * v1 + v1 := by rw [Int.add_mul, Int.one_mul]
 have h3 : P * (B * (top + 1)) ≤ P * (B * ((t + 1) * v1)) := Int.mul_le_mul_of_nonneg_left (Int.mul_le_mul_of_nonneg_left (by omega) (by omega)) (by omega)
 have h4 : P * (u2 + B * top + 1) ≤ P * (B * (top + 1)) := Int.mul_le_mul_of_nonneg_left (by rw [Int.mul_add]; omega) (by omega)
 have e3 : P * (u2 + B * top + 1) = P * (u2 + B * top) + P := by rw [Int.mul_add _ _ 1, Int.mul_one]
 omega
structure Gd (U V v1 top t r : Int) : Prop where
 eq : t * v1 + r = top
 t0 : 0 ≤ t
 tB : t ≤ 2000000000
 r0 : 0 ≤ r
 rB : r < 1000000000
 ge : U < t * V + V
theorem Gd.dec {r : Int} (G : Gs 1000000000 P U V ul u2 top vl v1 v2) (h : Gd U V v1 top t r) (hc : 1000000000 ≤ t ∨ (t < 1000000000 ∧ r * 1000000000 + u2 < t * v2)) : 1 ≤ t ∧ U < (t - 1) * V + V ∧ (t - 1) * v1 + (r + v1) = top := by
 have h1 : U < t * V := hc.elim (fun h2 => G.big h2) (fun h2 => G.test h.t0 h.eq h2.2)
 have h2 : 0 ≤ U := by
  rw [G.hU]
  have := G.hul.1
  have := Int.mul_nonneg (show 0 ≤ P by have := G.p; omega) (show 0 ≤ u2 + 1000000000 * top by have := G.hu2.1; have := G.ht; omega)
  omega
 have h3 := h.t0
 have h4 := h.eq
 refine ⟨?_, by rw [Int.sub_mul, Int.one_mul]; omega, by rw [Int.sub_mul, Int.one_mul]; omega⟩
 rcases (by omega : t = 0 ∨ 1 ≤ t) with e | e
 ·rw [e, Int.zero_mul] at h1
  omega
 ·exact e
def Gt (U V t : Int) : Prop := (0 ≤ t ∧ t < 1000000000) ∧ U < t * V + V ∧ t * V - V ≤ U
theorem Gd.out {r : Int} (G : Gs 1000000000 P U V ul u2 top vl v1 v2) (h : Gd U V v1 top t r) (h1 : t < 1000000000) (hc : ¬ r * 1000000000 + u2 < t * v2) : Gt U V t := ⟨⟨h.t0, h1⟩, h.ge, G.endA h.t0 h1 h.eq (by omega)⟩
theorem Gd.brk {r : Int} (G : Gs 1000000000 P U V ul u2 top vl v1 v2) (h : Gd U V v1 top t r) (hd : 1 ≤ t ∧ U < (t - 1) * V + V ∧ (t - 1) * v1 + (r + v1) = top) (hr : 1000000000 ≤ r + v1) : Gt U V (t - 1) := by
 have h1 := G.endB (t := t - 1) (rest := r + v1) (by omega) hd.2.2 hr
 have h2 := G.V_pos
 have h3 := G.p
 exact ⟨⟨by omega, h1.2⟩, hd.2.1, by omega⟩
theorem Gd.next {r : Int} (G : Gs 1000000000 P U V ul u2 top vl v1 v2) (h : Gd U V v1 top t r) (hd : 1 ≤ t ∧ U < (t - 1) * V + V ∧ (t - 1) * v1 + (r + v1) = top) (hr : r + v1 < 1000000000) : Gd U V v1 top (t - 1) (r + v1) := by
 have h1 := h.tB
 have h2 := h.r0
 have h3 := G.hv1
 exact ⟨hd.2.2, by omega, by omega, by omega, hr, hd.2.1⟩
theorem lim_set {l : List Int} (h : Lim l) (i : Nat) {y : Int} (h0 : 0 ≤ y) (h1 : y < 1000000000) : Lim (l.set i y) := fun x hx => by
 rcases List.mem_or_eq_of_mem_set hx with hx | rfl
 ·exact h x hx
 ·exact ⟨h0, h1⟩
theorem rd_drop (l : List Int) (j i : Nat) : rd (l.drop j) (i : Int) = rd l ((j + i : Nat) : Int) := by
 unfold rd
 rw [Int.toNat_natCast, Int.toNat_natCast]
 simp
theorem val_split (l : List Int) (j : Nat) (h : j ≤ l.length) : val l = val (l.take j) + 1000000000 ^ j * val (l.drop j) := by
 conv => lhs; rw [← List.take_append_drop j l]
 rw [val_append, List.length_take, Nat.min_eq_left h]
theorem val_take_lt {l : List Int} (h : Lim l) (j : Nat) : 0 ≤ val (l.take j) ∧ val (l.take j) < 1000000000 ^ j := by
 refine ⟨val_nonneg _ (h.take j), Int.lt_of_lt_of_le (val_lt _ (h.take j)) (pow_mono ?_)⟩
 rw [List.length_take]
 omega
theorem val_top {l : List Int} {n : Nat} (hn : 2 ≤ n) (hl : n ≤ l.length) : val l = val (l.take (n - 2)) + 1000000000 ^ (n - 2) * (rd l ((n - 2 : Nat) : Int) + 1000000000 * (rd l ((n - 1 : Nat) : Int) + 1000000000 * val (l.drop n))) := by
 rw [val_split l (n - 2) (by omega), drop_cons l (n - 2) (by omega), val, show n - 2 + 1 = n - 1 by omega, drop_cons l (n - 1) (by omega), val, show n - 1 + 1 = n by omega]
def SubInv (u0 v : List Int) (j : Nat) (t : Int) (u : List Int) (i : Nat) (bw : Int) : Prop :=
 u.length = u0.length ∧ Lim u ∧ (0 ≤ bw ∧ bw ≤ 1000000000) ∧ u.drop (j + i) = u0.drop (j + i) ∧ u.take j = u0.take j ∧ val u - bw * 1000000000 ^ (j + i) = val u0 - t * val (v.take i) * 1000000000 ^ j
theorem SubInv.start {u0 v : List Int} (h : Lim u0) (j : Nat) (t : Int) : SubInv u0 v j t u0 0 0 := by
 refine ⟨rfl, h, by omega, rfl, rfl, ?_⟩
 simp [val]
theorem SubInv.next {u0 v u : List Int} {j i : Nat} {t bw p x c : Int} (h : SubInv u0 v j t u i bw) (hv : i < v.length) (hu : j + i < u.length) (hp : p = t * rd v (i : Int)) (hx : x = rd u ((j + i : Nat) : Int) - bw - p % 1000000000 + c * 1000000000) (x0 : 0 ≤ x) (x1 : x < 1000000000) (hb0 : 0 ≤ p / 1000000000 + c) (hb1 : p / 1000000000 + c ≤ 1000000000) :
  SubInv u0 v j t (u.set (j + i) x) (i + 1) (p / 1000000000 + c) := by
 obtain ⟨h1, h2, h3, h4, h5, h6⟩ := h
 refine ⟨by rw [List.length_set]; exact h1, lim_set h2 _ x0 x1, ⟨hb0, hb1⟩, ?_, ?_, ?_⟩
 ·have h7 := congrArg (List.drop 1) h4
  rw [List.drop_drop, List.drop_drop] at h7
  rw [List.drop_set_of_lt (by omega)]
  exact h7
 ·rw [List.take_set_of_le (by omega), h5]
 ·have e1 : val (v.take (i + 1)) = val (v.take i) + 1000000000 ^ i * rd v (i : Int) := by
   rw [take_snoc v i hv, val_append, List.length_take, Nat.min_eq_left (by omega)]
   simp [val]
  have e2 : (1000000000 : Int) ^ (j + (i + 1)) = 1000000000 ^ (j + i) * 1000000000 := by rw [← Nat.add_assoc, Int.pow_succ]
  have e3 : (1000000000 : Int) ^ (j + i) = 1000000000 ^ j * 1000000000 ^ i := Int.pow_add _ _ _
  have e4 := Int.emod_add_mul_ediv p 1000000000
  rw [val_set _ _ _ hu, e1, e2, hx]
  generalize p / 1000000000 = d at *
  generalize p % 1000000000 = m at *
  generalize rd u ((j + i : Nat) : Int) = r at *
  generalize rd v (i : Int) = y at *
  generalize (1000000000 : Int) ^ (j + i) = P at *
  subst e3
  clear hb0 hb1 x0 x1 e2 e1 hx h3
  grind
def AddInv (u1 v : List Int) (j : Nat) (u : List Int) (i : Nat) (cy : Int) : Prop :=
 u.length = u1.length ∧ Lim u ∧ (0 ≤ cy ∧ cy ≤ 1) ∧ u.drop (j + i) = u1.drop (j + i) ∧ u.take j = u1.take j ∧ val u + cy * 1000000000 ^ (j + i) = val u1 + val (v.take i) * 1000000000 ^ j
theorem AddInv.start {u1 v : List Int} (h : Lim u1) (j : Nat) : AddInv u1 v j u1 0 0 := by
 refine ⟨rfl, h, by omega, rfl, rfl, ?_⟩
 simp [val]
theorem AddInv.next {u1 v u : List Int} {j i : Nat} {cy y : Int} (h : AddInv u1 v j u i cy) (hv : i < v.length) (hlv : Lim v) (hu : j + i < u.length) (hy : y = rd u ((j + i : Nat) : Int) + rd v (i : Int) + cy) :
  AddInv u1 v j (u.set (j + i) (y % 1000000000)) (i + 1) (y / 1000000000) := by
 obtain ⟨h1, h2, h3, h4, h5, h6⟩ := h
 have hr := h2.rd (j + i) hu
 have hs := hlv.rd i hv
 refine ⟨by rw [List.length_set]; exact h1, lim_set h2 _ (Int.emod_nonneg _ (by decide)) (Int.emod_lt_of_pos _ (by decide)), by omega, ?_, ?_, ?_⟩
 ·have h7 := congrArg (List.drop 1) h4
  rw [List.drop_drop, List.drop_drop] at h7
  rw [List.drop_set_of_lt (by omega)]
  exact h7
 ·rw [List.take_set_of_le (by omega), h5]
 ·have e1 : val (v.take (i + 1)) = val (v.take i) + 1000000000 ^ i * rd v (i : Int) := by
   rw [take_snoc v i hv, val_append, List.length_take, Nat.min_eq_left (by omega)]
   simp [val]
  have e2 : (1000000000 : Int) ^ (j + (i + 1)) = 1000000000 ^ (j + i) * 1000000000 := by rw [← Nat.add_assoc, Int.pow_succ]
  have e3 : (1000000000 : Int) ^ (j + i) = 1000000000 ^ j * 1000000000 ^ i := Int.pow_add _ _ _
  have e4 := Int.emod_add_mul_ediv y 1000000000
  rw [val_set _ _ _ hu, e1, e2]
  generalize y / 1000000000 = d at *
  generalize y % 1000000000 = m at *
  generalize rd u ((j + i : Nat) : Int) = r at *
  generalize rd v (i : Int) = s at *
  generalize (1000000000 : Int) ^ (j + i) = P at *
  subst e3
  clear e2 e1 h3 hr hs
  grind
structure LongInv (a v : List Int) (n : Nat) (j : Nat) (u q : List Int) : Prop where
 vn : v.length = n
 n2 : 2 ≤ n
 lv : Lim v
 v1 : 0 < rd v ((n - 1 : Nat) : Int)
 lu : Lim u
 lq : Lim q
 ql : q.length + n = u.length
 jl : j ≤ q.length
 zq : ∀ i : Nat, i < j → rd q (i : Int) = 0
 lt : val (u.drop j) < val v
 eq : val a = val u + val v * val q
theorem LongInv.V_lt {a v u q : List Int} {n j : Nat} (h : LongInv a v n j u q) : val v < 1000000000 ^ n := by
 have := val_lt v h.lv
 rwa [h.vn] at this
theorem LongInv.above {a v u q : List Int} {n j : Nat} (h : LongInv a v n (j + 1) u q) : val (u.drop (j + n)) = rd u ((j + n : Nat) : Int) ∧ val (u.drop (j + n + 1)) = 0 := by
 have hn := h.n2
 have hjl := h.jl
 have hql := h.ql
 have h1 := val_split (u.drop (j + 1)) (n - 1) (by rw [List.length_drop]; omega)
 rw [List.drop_drop, show j + 1 + (n - 1) = j + n by omega] at h1
 have h2 := val_take_lt (h.lu.drop (j + 1)) (n - 1)
 have h3 := h.V_lt
 have h4 := h.lt
 have h5 : (1000000000 : Int) ^ n = 1000000000 ^ (n - 1) * 1000000000 := by rw [← Int.pow_succ]; exact congrArg _ (by omega)
 have hP := pow_pos (n - 1)
 have h6 : val (u.drop (j + n)) < 1000000000 := by
  refine Int.lt_of_not_ge fun hg => ?_
  have : 1000000000 ^ (n - 1) * 1000000000 ≤ 1000000000 ^ (n - 1) * val (u.drop (j + n)) := Int.mul_le_mul_of_nonneg_left hg (by omega)
  omega
 have h7 : val (u.drop (j + n)) = rd u ((j + n : Nat) : Int) + 1000000000 * val (u.drop (j + n + 1)) := by rw [drop_cons u (j + n) (by omega), val]
 have h8 := val_nonneg _ (h.lu.drop (j + n + 1))
 have h9 := h.lu.rd (j + n) (by omega)
 clear h1 h2 h3 h4 h5 hP
 omega
theorem LongInv.gs {a v u q : List Int} {n j : Nat} (h : LongInv a v n (j + 1) u q) :
  Gs 1000000000 (1000000000 ^ (n - 2)) (val (u.drop j)) (val v) (val ((u.drop j).take (n - 2))) (rd u ((j + n - 2 : Nat) : Int)) (rd u ((j + n : Nat) : Int) * 1000000000 + rd u ((j + n - 1 : Nat) : Int)) (val (v.take (n - 2))) (rd v ((n - 1 : Nat) : Int)) (rd v ((n - 2 : Nat) : Int)) := by
 have hn := h.n2
 have hjl := h.jl
 have hql := h.ql
 have hvn := h.vn
 have ha := h.above
 have hU := val_top (l := u.drop j) hn (by rw [List.length_drop]; omega)
 rw [rd_drop, rd_drop, List.drop_drop, ha.1, show j + (n - 2) = j + n - 2 by omega, show j + (n - 1) = j + n - 1 by omega] at hU
 have hV := val_top (l := v) hn (by omega)
 rw [List.drop_of_length_le (by omega), show val [] = 0 from rfl] at hV
 have r0 := h.lu.rd (j + n) (by omega)
 have r1 := h.lu.rd (j + n - 1) (by omega)
 have r2 := h.lu.rd (j + n - 2) (by omega)
 have s2 := h.lv.rd (n - 2) (by omega)
 refine ⟨by decide, pow_pos _, ?_, ?_, val_take_lt (h.lu.drop j) _, val_take_lt h.lv _, r2, s2, h.v1, by omega, ?_⟩
 ·rw [hU]
  congr 2
  omega
 ·rw [hV]
  congr 2
  omega
 ·have e : val (u.drop j) = rd u (j : Int) + 1000000000 * val (u.drop (j + 1)) := by rw [drop_cons u j (by omega), val]
  have := h.lt
  have := h.lu.rd j (by omega)
  omega
theorem low_of {low Q s r : Int} (h0 : 0 ≤ low) (h1 : low < Q) (e : low + Q * s = r) : (0 ≤ r → r < Q → s = 0) ∧ (-Q ≤ r → r < 0 → s = -1) := by
 have hs : ∀ k : Int, 1 ≤ k → Q ≤ Q * k := fun k hk => by
  have := Int.mul_le_mul_of_nonneg_left hk (show 0 ≤ Q by omega)
  omega
 constructor
 ·intro a b
  rcases (by omega : s = 0 ∨ 1 ≤ s ∨ s ≤ -1) with h | h | h
  ·exact h
  ·have := hs s h; omega
  ·have := hs (-s) (by omega)
   rw [Int.mul_neg] at this
   omega
 ·intro a b
  rcases (by omega : s = -1 ∨ 0 ≤ s ∨ 1 ≤ -s - 1) with h | h | h
  ·exact h
  ·have := Int.mul_nonneg (show 0 ≤ Q by omega) h; omega
  ·have := hs (-s - 1) h
   rw [Int.mul_sub, Int.mul_neg] at this
   omega
theorem below_pow {L P D V N : Int} (hL : 0 ≤ L ∧ L < P) (hV : V < N) : (0 ≤ D → D < V → 0 ≤ L + P * D ∧ L + P * D < P * N) ∧ (D < 0 → -V ≤ D → -(P * N) ≤ L + P * D ∧ L + P * D < 0) := by
 constructor
 ·intro a b
  have h1 : P * (D + 1) ≤ P * N := Int.mul_le_mul_of_nonneg_left (by omega) (by omega)
  have h2 : 0 ≤ P * D := Int.mul_nonneg (by omega) a
  rw [Int.mul_add, Int.mul_one] at h1
  omega
 ·intro a b
  have h1 : P * (-N) ≤ P * D := Int.mul_le_mul_of_nonneg_left (by omega) (by omega)
  have h2 : P * (D + 1) ≤ P * 0 := Int.mul_le_mul_of_nonneg_left (by omega) (by omega)
  rw [Int.mul_neg] at h1
  rw [Int.mul_add, Int.mul_one, Int.mul_zero] at h2
  omega
theorem same_digit {u u1 : List Int} {k : Nat} (h : u1.drop k = u.drop k) : rd u1 (k : Int) = rd u (k : Int) := by
 have h1 := rd_drop u1 k 0
 have h2 := rd_drop u k 0
 rw [Nat.add_zero] at h1 h2
 rw [← h1, ← h2, h]
theorem LongInv.sub {a v u q u1 : List Int} {n j : Nat} {t bw : Int} (h : LongInv a v n (j + 1) u q) (hs : SubInv u v j t u1 n bw) (h1 : val (u.drop j) < t * val v + val v) (h2 : t * val v - val v ≤ val (u.drop j)) :
  (rd u1 ((j + n : Nat) : Int) - bw = if val (u.drop j) < t * val v then -1 else 0) ∧ val u1 = val (u.take j) + 1000000000 ^ j * (val (u.drop j) - t * val v) + bw * 1000000000 ^ (j + n) := by
 obtain ⟨s1, s2, s3, s4, s5, s6⟩ := hs
 have hn := h.n2
 have hjl := h.jl
 have hql := h.ql
 have ha := h.above
 have hV := h.V_lt
 have e0 := val_split u j (by omega)
 have e1 := val_split u1 (j + n) (by omega)
 have eQ : (1000000000 : Int) ^ (j + n) = 1000000000 ^ j * 1000000000 ^ n := Int.pow_add _ _ _
 have hL := val_take_lt h.lu j
 have hlow := val_take_lt s2 (j + n)
 have hT := same_digit s4
 rw [List.take_of_length_le (by rw [h.vn]; exact Nat.le_refl _), e0] at s6
 rw [s4, ha.1] at e1
 rw [hT]
 have hb := below_pow (D := val (u.drop j) - t * val v) hL hV
 have hone := low_of (s := rd u ((j + n : Nat) : Int) - bw) (r := val (u.take j) + 1000000000 ^ j * (val (u.drop j) - t * val v)) hlow.1 hlow.2 (by
  rw [Int.mul_sub, Int.mul_sub]
  have e3 : t * val v * 1000000000 ^ j = 1000000000 ^ j * (t * val v) := Int.mul_comm _ _
  have e4 : bw * 1000000000 ^ (j + n) = 1000000000 ^ (j + n) * bw := Int.mul_comm _ _
  omega)
 have hu1 : val u1 = val (u.take j) + 1000000000 ^ j * (val (u.drop j) - t * val v) + bw * 1000000000 ^ (j + n) := by
  rw [Int.mul_sub]
  have e3 : t * val v * 1000000000 ^ j = 1000000000 ^ j * (t * val v) := Int.mul_comm _ _
  omega
 refine ⟨?_, hu1⟩
 rw [← eQ] at hb
 split
 next hd =>
  have := hb.2 (by omega) (by omega)
  exact hone.2 this.1 this.2
 next hd =>
  have := hb.1 (by omega) (by omega)
  exact hone.1 this.1 this.2
theorem LongInv.put {a v u q u2 : List Int} {n j : Nat} {t D : Int} (h : LongInv a v n (j + 1) u q) (hl : u2.length = u.length) (l2 : Lim u2) (hk : u2.take j = u.take j) (hv : val (u2.set (j + n) 0) = val (u.take j) + 1000000000 ^ j * D) (hD : D = val (u.drop j) - t * val v) (hD1 : D < val v) (t0 : 0 ≤ t) (t1 : t < 1000000000) :
  LongInv a v n j (u2.set (j + n) 0) (q.set j t) := by
 have hn := h.n2
 have hjl := h.jl
 have hql := h.ql
 have hz := h.zq j (by omega)
 have e0 := val_split u j (by omega)
 have e1 := val_split (u2.set (j + n) 0) j (by rw [List.length_set]; omega)
 rw [List.take_set_of_le (by omega), hk, hv] at e1
 have hd : val ((u2.set (j + n) 0).drop j) = D := by
  have : (1000000000 : Int) ^ j * val ((u2.set (j + n) 0).drop j) = 1000000000 ^ j * D := by omega
  exact Int.eq_of_mul_eq_mul_left (by have := pow_pos j; omega) this
 refine ⟨h.vn, hn, h.lv, h.v1, l2.set _ (by decide) (by decide), h.lq.set _ t0 t1, by rw [List.length_set, List.length_set]; omega, by rw [List.length_set]; omega, fun i hi => ?_, by rw [hd]; exact hD1, ?_⟩
 ·rw [rd_set_ne _ (by omega)]
  exact h.zq i (by omega)
 ·rw [hv, h.eq, e0, val_set _ _ _ (by omega), hz, hD, Int.sub_zero]
  generalize val (u.take j) = L
  generalize val (u.drop j) = Uj
  generalize (1000000000 : Int) ^ j = P
  grind
theorem LongInv.keep {a v u q u1 : List Int} {n j : Nat} {t bw : Int} (h : LongInv a v n (j + 1) u q) (hs : SubInv u v j t u1 n bw) (h1 : val (u.drop j) < t * val v + val v) (h2 : t * val v ≤ val (u.drop j)) (t0 : 0 ≤ t) (t1 : t < 1000000000) : LongInv a v n j (u1.set (j + n) 0) (q.set j t) := by
 have hv0 := val_nonneg v h.lv
 have hx := h.sub hs h1 (by omega)
 rw [if_neg (by omega)] at hx
 obtain ⟨s1, s2, s3, s4, s5, s6⟩ := hs
 have hn := h.n2
 have hjl := h.jl
 have hql := h.ql
 refine h.put (D := val (u.drop j) - t * val v) s1 s2 s5 ?_ rfl (by omega) t0 t1
 rw [val_set _ _ _ (by omega), hx.2, show rd u1 ((j + n : Nat) : Int) = bw by omega, Int.zero_sub, Int.mul_neg, Int.mul_comm bw]
 omega
theorem LongInv.back {a v u q u1 u2 : List Int} {n j : Nat} {t bw cy : Int} (h : LongInv a v n (j + 1) u q) (hs : SubInv u v j t u1 n bw) (hb : AddInv u1 v j u2 n cy) (h1 : val (u.drop j) < t * val v) (h2 : t * val v - val v ≤ val (u.drop j)) (t0 : 0 < t) (t1 : t ≤ 1000000000) : LongInv a v n j (u2.set (j + n) 0) (q.set j (t - 1)) := by
 have hv0 := val_nonneg v h.lv
 have hx := h.sub hs (by omega) h2
 rw [if_pos h1] at hx
 obtain ⟨s1, s2, s3, s4, s5, s6⟩ := hs
 obtain ⟨a1, a2, a3, a4, a5, a6⟩ := hb
 have hn := h.n2
 have hjl := h.jl
 have hql := h.ql
 have hV := h.V_lt
 have hT := same_digit a4
 have ha := h.above
 have e1 := val_split u2 (j + n) (by omega)
 have hlow := val_take_lt a2 (j + n)
 have hL := val_take_lt h.lu j
 have eQ : (1000000000 : Int) ^ (j + n) = 1000000000 ^ j * 1000000000 ^ n := Int.pow_add _ _ _
 have hT2 : val (u2.drop (j + n)) = rd u1 ((j + n : Nat) : Int) := by rw [a4, s4, ha.1, same_digit s4]
 rw [List.take_of_length_le (by rw [h.vn]; exact Nat.le_refl _), hx.2] at a6
 rw [hT2] at e1
 have hb := below_pow (D := val (u.drop j) - t * val v + val v) hL hV
 have hr := hb.1 (by omega) (by omega)
 rw [← eQ] at hr
 have e5 : (1000000000 : Int) ^ j * (val (u.drop j) - t * val v + val v) = 1000000000 ^ j * (val (u.drop j) - t * val v) + 1000000000 ^ j * val v := Int.mul_add _ _ _
 have e6 : val v * 1000000000 ^ j = 1000000000 ^ j * val v := Int.mul_comm _ _
 have e7 : bw * 1000000000 ^ (j + n) = 1000000000 ^ (j + n) * bw := Int.mul_comm _ _
 have e8 : cy * 1000000000 ^ (j + n) = 1000000000 ^ (j + n) * cy := Int.mul_comm _ _
 have e9 : rd u1 ((j + n : Nat) : Int) = bw - 1 := by omega
 rw [e9, Int.mul_sub, Int.mul_one] at e1
 have hone := low_of (s := cy - 1) (r := val (u.take j) + 1000000000 ^ j * (val (u.drop j) - t * val v + val v)) hlow.1 hlow.2 (by rw [Int.mul_sub, Int.mul_one]; omega)
 have hc := hone.1 hr.1 hr.2
 have hcy : cy = 1 := by omega
 rw [hcy, Int.one_mul] at a6
 refine h.put (D := val (u.drop j) - t * val v + val v) (a1.trans s1) a2 (a5.trans s5) ?_ (by rw [Int.sub_mul, Int.one_mul]; omega) (by omega) (by omega) (by omega)
 rw [val_set _ _ _ (by omega), hT, e9, Int.zero_sub, Int.mul_neg, Int.mul_sub, Int.mul_one]
 omega
theorem pow_inj_lt {m n : Nat} (h : (1000000000 : Int) ^ m < 1000000000 ^ n) : m < n := by
 refine Nat.lt_of_not_le fun hg => ?_
 have := pow_mono hg
 omega
theorem last_rd {l : List Int} (h : l ≠ []) : l.getLast? = some (rd l ((l.length - 1 : Nat) : Int)) := by
 have h1 : l.length - 1 < l.length := Nat.sub_lt (List.length_pos_iff.2 h) (by decide)
 rw [List.getLast?_eq_getElem?, List.getElem?_eq_getElem h1]
 congr 1
 unfold rd
 rw [Int.toNat_natCast]
 simp [h1]
theorem top_pos {l : List Int} (h : Can l) (hn : l ≠ []) : 0 < rd l ((l.length - 1 : Nat) : Int) := by
 have h1 := h.2 _ (last_rd hn)
 have h2 := h.1.rd (l.length - 1) (Nat.sub_lt (List.length_pos_iff.2 hn) (by decide))
 omega
theorem long_k {b : List Int} (hb : Can b) (h2 : 2 ≤ b.length) : 1 ≤ 1000000000 / (rd b ((b.length - 1 : Nat) : Int) + 1) ∧ 1000000000 / (rd b ((b.length - 1 : Nat) : Int) + 1) < 1000000000 := by
 have hne : b ≠ [] := fun e => by rw [e] at h2; exact absurd h2 (by decide)
 have h0 := top_pos hb hne
 have h1 := hb.1.rd (b.length - 1) (by omega)
 constructor
 ·exact Int.le_ediv_of_mul_le (by omega) (by omega)
 ·exact Int.ediv_lt_of_lt_mul (by omega) (by omega)
theorem long_start {a b u s : List Int} {k : Int} (ha : Lim a) (hb : Can b) (h2 : 2 ≤ b.length) (hle : b.length ≤ a.length) (hk : k = 1000000000 / (rd b ((b.length - 1 : Nat) : Int) + 1)) (hu : Lim u ∧ u.length = a.length + 1 ∧ val u = val a * k) (hs : Lim s ∧ s.length = b.length + 1 ∧ val s = val b * k) :
  LongInv u (tr s) b.length (u.length - b.length) u (List.replicate (u.length - b.length) 0) := by
 have hne : b ≠ [] := fun e => by rw [e] at h2; exact absurd h2 (by decide)
 have hkk := long_k hb h2
 rw [← hk] at hkk
 have ht := top_pos hb hne
 have hd : k * (rd b ((b.length - 1 : Nat) : Int) + 1) ≤ 1000000000 := by rw [hk]; exact Int.ediv_mul_le _ (by omega)
 have hbs := val_split b (b.length - 1) (by omega)
 rw [drop_cons b (b.length - 1) (by omega), val, show b.length - 1 + 1 = b.length by omega, List.drop_length, show val [] = 0 from rfl] at hbs
 have hbl := val_take_lt hb.1 (b.length - 1)
 have hlow := can_low b hb hne
 have hP := pow_pos (b.length - 1)
 have ePn : (1000000000 : Int) ^ b.length = 1000000000 ^ (b.length - 1) * 1000000000 := by rw [← Int.pow_succ]; exact congrArg _ (by omega)
 have hvt : val (tr s) = val b * k := by rw [tr_val]; exact hs.2.2
 have hvlt : val (tr s) < 1000000000 ^ b.length := by
  rw [hvt]
  have e1 : val b + 1 ≤ 1000000000 ^ (b.length - 1) * (rd b ((b.length - 1 : Nat) : Int) + 1) := by
   rw [Int.mul_add, Int.mul_one]
   have : rd b ((b.length - 1 : Nat) : Int) + 1000000000 * 0 = rd b ((b.length - 1 : Nat) : Int) := by omega
   rw [this] at hbs
   omega
  have e2 : (val b + 1) * k ≤ 1000000000 ^ (b.length - 1) * (rd b ((b.length - 1 : Nat) : Int) + 1) * k := Int.mul_le_mul_of_nonneg_right e1 (by omega)
  have e3 : 1000000000 ^ (b.length - 1) * (rd b ((b.length - 1 : Nat) : Int) + 1) * k = 1000000000 ^ (b.length - 1) * (k * (rd b ((b.length - 1 : Nat) : Int) + 1)) := by rw [Int.mul_assoc, Int.mul_comm (_ + 1) k]
  have e4 : 1000000000 ^ (b.length - 1) * (k * (rd b ((b.length - 1 : Nat) : Int) + 1)) ≤ 1000000000 ^ (b.length - 1) * 1000000000 := Int.mul_le_mul_of_nonneg_left hd (by omega)
  rw [Int.add_mul, Int.one_mul] at e2
  omega
 have hbk : val b ≤ val b * k := by
  have := Int.mul_le_mul_of_nonneg_left hkk.1 (show 0 ≤ val b by omega)
  rwa [Int.mul_one] at this
 have hcan := tr_can s hs.1
 have hvne : tr s ≠ [] := fun e => by rw [e, show val [] = 0 from rfl] at hvt; omega
 have hl1 : b.length ≤ (tr s).length := by
  have h3 := val_lt (tr s) hcan.1
  have := pow_inj_lt (m := b.length - 1) (n := (tr s).length) (by omega)
  omega
 have hl2 : (tr s).length ≤ b.length := by
  have h3 := can_low (tr s) hcan hvne
  have := pow_inj_lt (m := (tr s).length - 1) (n := b.length) (by omega)
  omega
 have hvn : (tr s).length = b.length := by omega
 refine ⟨hvn, h2, hcan.1, ?_, hu.1, Lim.zeros _, by rw [List.length_replicate]; omega, by rw [List.length_replicate]; exact Nat.le_refl _, fun i hi => ?_, ?_, ?_⟩
 ·have := top_pos hcan hvne
  rwa [hvn] at this
 ·unfold rd
  rw [Int.toNat_natCast]
  simp [hi]
 ·have h3 := val_split u (u.length - b.length) (by omega)
  have h4 := val_take_lt hu.1 (u.length - b.length)
  have h5 := val_lt a ha
  have h6 : val a * k < 1000000000 ^ a.length * k := Int.mul_lt_mul_of_pos_right h5 (by omega)
  have e5 : (1000000000 : Int) ^ a.length = 1000000000 ^ (u.length - b.length) * 1000000000 ^ (b.length - 1) := by rw [← Int.pow_add]; exact congrArg _ (by omega)
  rw [e5, Int.mul_assoc] at h6
  rw [hvt]
  have h7 : 1000000000 ^ (b.length - 1) * k ≤ val b * k := Int.mul_le_mul_of_nonneg_right hlow (by omega)
  have h8 : val (u.drop (u.length - b.length)) < 1000000000 ^ (b.length - 1) * k := by
   refine Int.lt_of_mul_lt_mul_left (a := 1000000000 ^ (u.length - b.length)) ?_ (by have := pow_pos (u.length - b.length); omega)
   rw [hu.2.2] at h3
   omega
  omega
 ·rw [val_zeros, Int.mul_zero, Int.add_zero]
theorem long_end {a b U v u q r : List Int} {n : Nat} {k c : Int} (h : LongInv U v n 0 u q) (hk : 1 ≤ k) (hU : val U = val a * k) (hv : val v = val b * k) (hb : 0 < val b) (hr : val (u.take n) = val r * k + c) (h0 : 0 ≤ c) (h1 : c < k) (lr : Lim r) : val a = val q * val b + val r ∧ (0 ≤ val r ∧ val r < val b) := by
 have hlt := h.lt
 rw [List.drop_zero] at hlt
 have hn := h.n2
 have hql := h.ql
 have hV := h.V_lt
 have h3 := val_split u n (by omega)
 have h4 := val_take_lt h.lu n
 have h5 := val_nonneg _ (h.lu.drop n)
 have hz : val (u.drop n) = 0 := by
  rcases (by omega : val (u.drop n) = 0 ∨ 1 ≤ val (u.drop n)) with e | e
  ·exact e
  ·have := Int.mul_le_mul_of_nonneg_left e (show (0 : Int) ≤ 1000000000 ^ n by have := pow_pos n; omega)
   rw [Int.mul_one] at this
   omega
 rw [hz, Int.mul_zero, Int.add_zero] at h3
 have he := h.eq
 rw [hU, hv, h3, hr] at he
 have e1 : (val a - val q * val b - val r) * k = c := by
  have : val b * k * val q = val q * val b * k := by grind
  rw [Int.sub_mul, Int.sub_mul]
  omega
 have hc : val a - val q * val b - val r = 0 := by
  rcases (by omega : val a - val q * val b - val r = 0 ∨ 1 ≤ val a - val q * val b - val r ∨ val a - val q * val b - val r ≤ -1) with e | e | e
  ·exact e
  ·have := Int.mul_le_mul_of_nonneg_right e (show 0 ≤ k by omega)
   omega
  ·have := Int.mul_le_mul_of_nonneg_right e (show 0 ≤ k by omega)
   omega
 have hr0 := val_nonneg r lr
 refine ⟨by omega, hr0, ?_⟩
 rw [hc, Int.zero_mul] at e1
 rw [h3, hr, hv] at hlt
 refine Int.lt_of_mul_lt_mul_right (a := k) (by omega) (by omega)
set_option maxHeartbeats 8000000
set_option maxRecDepth 100000
theorem scaled_own {W : World} {A : Option Addr} {n c : Nat} {a : List Int} {k : Int} (h : Dg W (.slice A n c) a) (ha : Lim a) (h0 : 0 ≤ k) (h1 : k ≤ 1000000000) (hm : a.length ≤ 20000000000000) :
  Calls Tryz.prog 202 #[.slice A n c, .int .u32 k] W fun e w' => Below W.heap.size W w' ∧ ∃ (l : List Int) (g cap : Nat), e = .returned (.slice (some ⟨g, 0, none⟩) l.length cap) ∧ (Lim l ∧ l.length = a.length + 1 ∧ val l = val a * k) ∧ (W.heap.size ≤ g ∧ g < w'.heap.size) ∧ Kd.R KU 145 w' W.heap.size (fun _ => True) (.slice (some ⟨g, 0, none⟩) l.length cap) l := by
 obtain rfl := h.C.1
 obtain ⟨l, hf, hl⟩ := scaled_ev ha h0 h1 hm
 refine (num_scaled.calls (a.length + 1) A c a k l W h.C.2.2 h.C.2.1 hf).mono ?_
 rintro e w' ⟨v, rfl, hv, hd⟩
 obtain ⟨g, cap, rfl, hg0, hg1, _⟩ := Kd.R_form hv (by omega)
 exact ⟨hd, l, g, cap, rfl, hl, ⟨hg0, hg1⟩, hv⟩
theorem trim_own {W : World} {P : Nat → Prop} {A : Option Addr} {c : Nat} {s : List Int} (h : Kd.V KU 145 W 0 P (.slice A s.length c) s) (hm : s.length ≤ 30000000000000) :
  Calls Tryz.prog 185 #[.slice A s.length c] W fun e w' => Below W.heap.size W w' ∧ ∃ (A' : Option Addr) (c' : Nat), e = .returned (.slice A' (tr s).length c') ∧ Kd.V KU 145 w' 0 (fun k => P k ∨ W.heap.size ≤ k) (.slice A' (tr s).length c') (tr s) := by
 refine (num_trim.calls (s.length + 1) P A c s (tr s) W h (trim_ev s (by omega))).mono ?_
 rintro e w' ⟨v, rfl, hv, hd⟩
 obtain ⟨A', c', rfl⟩ := Kd.V_slice hv
 exact ⟨hd, A', c', rfl, hv⟩
def RDI (a : List Int) (b : Int) (e : Ending) (w' : World) : Prop := ∃ (q : List Int) (r : Int), (q.length = a.length ∧ Lim q ∧ (0 ≤ r ∧ r < b) ∧ val a = val q * b + r) ∧ ∃ A c, e = .returned (.tuple #[.slice A q.length c, .int .u32 r]) ∧ Dg w' (.slice A q.length c) q
theorem short_calls {W : World} {A : Option Addr} {n c : Nat} {a : List Int} {b : Int} (h : Dg W (.slice A n c) a) (ha : Lim a) (hb : 0 < b) (hb' : b < 1000000000) (hm : a.length ≤ 30000000000000) :
  Calls Tryz.prog 191 #[.slice A n c, .int .u32 b] W fun e w' => Below W.heap.size W w' ∧ RDI a b e w' := by
 obtain rfl := h.C.1
 obtain ⟨q, r, hf, hq⟩ := short_ev ha hb hb' hm
 refine (num_short.calls (a.length + 1) A c a b q r W h.C.2.2 h.C.2.1 hf).mono ?_
 rintro e w' ⟨v, rfl, hv, hd⟩
 obtain ⟨A', c', rfl, h1, h2⟩ := Dg.of_R hv
 exact ⟨hd, q, r, hq, A', c', rfl, A', c', rfl, h1, h2⟩
def RDD (a b : List Int) (e : Ending) (w' : World) : Prop := ∃ q r : List Int, (Lim q ∧ Lim r ∧ val a = val q * val b + val r ∧ (0 ≤ val r ∧ val r < val b)) ∧ ∃ A c A' c', e = .returned (.tuple #[.slice A q.length c, .slice A' r.length c']) ∧ Dg w' (.slice A q.length c) q ∧ Dg w' (.slice A' r.length c') r
theorem mkL {ops : Array Oper} {o : Oper} {rest : List Oper} {a : Act} {Q : Exit → Act → World → Prop} {w W : World} {x y : Operand} {M : Tmp} {N : Nat} (hgd : o.guard = none) (hd : o.dst = some M) (ho : o.op = .makeSlice 75 x y) (hx : a.eval x = .int .i64 N) (hy : a.eval y = .int .i64 N) (hp : 0 < N) (hn : N ≤ 60000000000000) (HB : Below w.heap.size w W)
  (h : ∀ g cap w1, Kd.R KU 145 w1 w.heap.size (fun _ => True) (.slice (some ⟨g, 0, none⟩) N cap) (List.replicate N 0) → Below w.heap.size w w1 → W.grownBy w1 none → W.heap.size ≤ g → wpList Tryz.prog ops Q rest (a.put o.dst (.slice (some ⟨g, 0, none⟩) N cap)) w1) : wpList Tryz.prog ops Q (o :: rest) a W :=
 Kd.R_make KU w.heap.size 145 hgd hd 75 x y ho N hx hy Tryz.underlying75 (.int .u32 0) 4 info145 rfl (by decide) (by omega) 0 (ok := fun _ => True) (okp := fun _ => True) rfl (fun _ hk => hk) trivial (by omega) (by omega) HB HB.size (fun v1 w1 h1 h2 h3 h4 => by
  obtain ⟨g, cap, rfl, hg0, hg1, _⟩ := Kd.R_form h1 (by rw [List.length_replicate]; omega)
  obtain ⟨g', hg', hge⟩ := h4
  cases hg'
  rw [Int.toNat_natCast] at h1 ⊢
  rw [List.length_replicate] at h1 ⊢
  exact h g cap w1 h1 h2 h3 hge)
abbrev OwnB (W w' : World) (g n c : Nat) (l : List Int) : Prop := Kd.R KU 145 w' W.heap.size (fun _ => True) (.slice (some ⟨g, 0, none⟩) n c) l
abbrev VB2 (w' : World) (g g' : Nat) (A : Option Addr) (n c : Nat) (l : List Int) : Prop := Kd.V KU 145 w' 0 (fun k => k ≠ g ∧ k ≠ g') (.slice A n c) l
theorem OwnB.far {W w' : World} {g n c : Nat} {l : List Int} (h : OwnB W w' g n c l) {p : Addr} (hp : p.block ≠ g) (u : Value) : OwnB W (w'.setCell p u) g n c l :=
 Kd.R_reok rfl (Kd.R_far (Kd.R_reok (ok := fun k => k = g) rfl h (fun k hk => by cases hk; rfl)) (p := p) (fun k hk => by rw [hk]; exact hp.symm) u) (fun _ _ => trivial)
theorem long_w1 {u v q : List Int} {n N : Nat} {la : Nat} (h : LongInv u v n N u q) (hu : u.length = la + 1) (hle : n ≤ la) (hm : la ≤ 20000000000000) (hN : u.length - n = N) : wrap64 ((u.length : Int) - (v.length : Int)) = (N : Int) ∧ wrap64 ((N : Int) - 1) = (N : Int) - 1 ∧ N ≤ 60000000000000 ∧ 0 < N := by
 have h1 := h.vn
 have h2 := h.ql
 have h3 := h.jl
 rw [wrap_id (by omega) (by omega), wrap_id (by omega) (by omega)]
 omega
def Five (gu : Nat) (av : Addr) (x1 x2 x3 y1 y2 d1 d2 d3 e1 e2 : Int) (w' : World) : Prop :=
 w'.cell? ⟨gu, x1.toNat, none⟩ = some (.int .u32 d1) ∧ w'.frozen? ⟨gu, x1.toNat, none⟩ = false ∧ w'.cell? ⟨gu, x2.toNat, none⟩ = some (.int .u32 d2) ∧ w'.frozen? ⟨gu, x2.toNat, none⟩ = false ∧ w'.cell? ⟨gu, x3.toNat, none⟩ = some (.int .u32 d3) ∧ w'.frozen? ⟨gu, x3.toNat, none⟩ = false ∧
 w'.cell? (av.add y1.toNat) = some (.int .u32 e1) ∧ True ∧ w'.cell? (av.add y2.toNat) = some (.int .u32 e2) ∧ True ∧ (Nat → True)
theorem five_of {W w' : World} {gu n cu g' cv m : Nat} {av : Addr} {uu v : List Int} {x1 x2 x3 y1 y2 d1 d2 d3 e1 e2 : Int} (a1 : 0 ≤ x1) (a2 : x1 < (n : Int)) (b1 : 0 ≤ x2) (b2 : x2 < (n : Int)) (c1 : 0 ≤ x3) (c2 : x3 < (n : Int)) (f1 : 0 ≤ y1) (f2 : y1 < (m : Int)) (h1 : 0 ≤ y2) (h2 : y2 < (m : Int))
  (ed1 : rd uu x1 = d1) (ed2 : rd uu x2 = d2) (ed3 : rd uu x3 = d3) (ee1 : rd v y1 = e1) (ee2 : rd v y2 = e2) (HU : OwnB W w' gu n cu uu) (HV : VB2 w' gu g' (some av) m cv v) : Five gu av x1 x2 x3 y1 y2 d1 d2 d3 e1 e2 w' := by
 have k1 := Kd.R_celln 0 HU x1 a1 a2
 have k2 := Kd.R_celln 0 HU x2 b1 b2
 have k3 := Kd.R_celln 0 HU x3 c1 c2
 obtain ⟨rfl, -, hC⟩ := Kd.V_reads' HV
 have k4 := Kd.foot_int hC y1 f1 f2
 have k5 := Kd.foot_int hC y2 h1 h2
 subst ed1 ed2 ed3 ee1 ee2
 exact ⟨k1.1, k1.2, k2.1, k2.2, k3.1, k3.2, k4, trivial, k5, trivial, fun _ => trivial⟩
theorem longdiv_calls {W : World} {A B : Option Addr} {n c m d : Nat} {a b : List Int} (h : Dg W (.slice A n c) a) (h' : Dg W (.slice B m d) b) (ha : Lim a) (hb : Can b) (h2 : 2 ≤ b.length) (hle : b.length ≤ a.length) (hm : a.length ≤ 20000000000000) :
  Calls Tryz.prog 192 #[.slice A n c, .slice B m d] W fun e w' => Below W.heap.size W w' ∧ RDD a b e w' := by
 have hkk := long_k hb h2
 have hbl := hb.1.rd (b.length - 1) (by omega)
 obtain rfl := h.C.1
 obtain rfl := h'.C.1
 obtain ⟨p, hp⟩ : ∃ p : Int, p = (b.length : Int) - 1 := ⟨_, rfl⟩
 have hpn : ((b.length - 1 : Nat) : Int) = p := by omega
 rw [hpn] at hkk hbl
 obtain ⟨bt, hbt⟩ : ∃ x, rd b p = x := ⟨_, rfl⟩
 rw [hbt] at hkk hbl
 obtain ⟨k, hk⟩ : ∃ x, 1000000000 / (bt + 1) = x := ⟨_, rfl⟩
 rw [hk] at hkk
 obtain ⟨ad, eB, cB⟩ := Dg.digitB h' p (by omega) (by omega)
 cases eB
 rw [hbt] at cB
 have DA := Aside0.mk h
 have DB := Aside0.mk h'
 have HA := Aside0.mk ha
 have HBc := Aside0.mk hb
 have H2 := Aside0.mk h2
 have HLE := Aside0.mk hle
 have HM := Aside0.mk hm
 have HKK := Aside0.mk hkk
 have HK := Aside0.mk (show k = 1000000000 / (rd b ((b.length - 1 : Nat) : Int) + 1) by rw [hpn, hbt, hk])
 have f0 : wrap64 ((b.length : Int) - 1) = p := by rw [← hp]; exact wrap_id (by omega) (by omega)
 have p1 : (0 ≤ p) = True := eq_true (by omega)
 have p2 : (p < (b.length : Int)) = True := eq_true (by omega)
 have f1 : IntKind.u64.wrap bt = bt := u64_id (by omega) (by omega)
 have f2 : IntKind.u64.wrap (bt + 1) = bt + 1 := u64_id (by omega) (by omega)
 have f3 : (bt + 1 == 0) = false := beq_eq_false_iff_ne.mpr (by omega)
 have f3' : (bt + 1 != 0) = true := bne_iff_ne.mpr (by omega)
 have f3'' : (bt + 1 = 0) = False := eq_false (by omega)
 have f4 : Int.tdiv 1000000000 (bt + 1) = k := by rw [Int.tdiv_eq_ediv_of_nonneg (by decide)]; exact hk
 have f5 : IntKind.u64.wrap k = k := u64_id (by omega) (by omega)
 have f6 : k % 4294967296 = k := by omega
 clear h h' ha hb h2 hle hm hkk hbl hp hpn hbt hk
 have HK0 := Aside0.mk (show 0 ≤ k by have := HKK.out; omega)
 have HK1 := Aside0.mk (show k ≤ 1000000000 by have := HKK.out; omega)
 have HM2 := Aside0.mk (show b.length ≤ 20000000000000 by have := HM.out; have := HLE.out; omega)
 go_enter Tryz.func192, Tryz.ntmps192
 go_wp2_with (first | (go_at_call 202; have f7 := f6; clear f7; refine (scaled_own (k := k) DA.out HA.out HK0.out HK1.out HM.out).mono ?_; clear f0 f1 f2 f3 f3' f3'' f4 f5 f6 p1 p2; rintro e w1 ⟨hb1, u, gu, cu, rfl, hu, hg, hR⟩; have HU := Aside0.mk hR; have HB := Aside0.mk hb1; have UL := Aside0.mk hu; have GU := Aside0.mk hg; clear hb1 hu hg hR) | (go_at_call 202; refine (scaled_own (k := k) (DB.out.below HB.out) HBc.out.1 HK0.out HK1.out HM2.out).mono ?_; rintro e w2 ⟨hb2, s, gs, cs, rfl, hs, hgs, hR⟩; have HS := Aside0.mk (Kd.V_mono (Kd.R_V (base' := 0) (Kd.R_bound hR)) (fun k hk => hk.2.1)); replace HU := Aside0.mk (Kd.R_below HU.out hb2); replace HB := Aside0.mk (HB.out.trans (hb2.mono HB.out.size)); have SL := Aside0.mk hs; have GS := Aside0.mk hb2.size; have GS2 := Aside0.mk hb2.size; clear hb2 hs hgs hR) | (go_at_call 185; refine (trim_own (P := fun k => w1.heap.size ≤ k) HS.out (by have := SL.out.2.1; have := HM2.out; omega)).mono ?_; rintro e w3 ⟨hb3, Av, cv, rfl, hV⟩; have LI0 := long_start HA.out HBc.out H2.out HLE.out HK.out UL.out SL.out; have VV0 : val (tr s) = val b * k := (tr_val s).trans SL.out.2.2; obtain ⟨v, hv⟩ : ∃ v, tr s = v := ⟨_, rfl⟩; rw [hv] at LI0 VV0 hV; rw [hv]; have VV := Aside0.mk VV0; have HV := Aside0.mk hV; obtain ⟨N, hN⟩ : ∃ N, u.length - b.length = N := ⟨_, rfl⟩; rw [hN] at LI0; have LI := Aside0.mk LI0; obtain ⟨hw4a, hw4b, hw4c, hw4d⟩ := long_w1 LI0 UL.out.2.1 HLE.out HM.out hN; clear LI0 VV0 hv; replace HU := Aside0.mk (Kd.R_below HU.out hb3); replace HB := Aside0.mk (HB.out.trans (hb3.mono HB.out.size)); replace GS := Aside0.mk (Nat.le_trans GS.out hb3.size); clear hb3 hV hN) | (at_make; refine mkL (w := W) (N := N) (by rfl) (by rfl) (by rfl) (by first | rfl | simp [Act.eval, hw4a, i64_w]) (by first | rfl | simp [Act.eval, hw4a, i64_w]) hw4d hw4c HB.out ?_; intro gq cq w4 ho hb hgr hge; have HQ := Aside0.mk ho; replace HU := Aside0.mk (Kd.R_reok (ok := fun _ => True) rfl (Kd.R_grown HU.out hgr (fun _ _ h => by cases h)) (fun _ _ => trivial)); replace HV := Aside0.mk (Kd.V_mono (Kd.V_grown (Kd.V_bound HV.out) hgr (fun _ _ h => by cases h)) (ok' := fun k => k ≠ gu ∧ k ≠ gq) (fun k hk => ⟨by have h1 := GU.out; have h2 := GS2.out; have h3 : w1.heap.size ≤ k := hk.1.elim id (fun h => Nat.le_trans h2 h); omega, by have h1 := hk.2; omega⟩)); have HB0 := HB.out.size; replace HB := Aside0.mk hb; have GQ := Aside0.mk (show gu ≠ gq by have h1 := GU.out; have h2 := GS.out; omega); have H4 := Aside0.mk (And.intro hw4c hw4d); have GQ2 := Aside0.mk (show W.heap.size ≤ gq from Nat.le_trans HB0 hge); clear HB0 ho hb hgr hge hw4c hw4d))
 have LU := Aside0.mk (show u.length ≤ 20000000000001 by have := UL.out.2.1; have := HM.out; omega)
 have VN := Aside0.mk LI.out.vn
 have Q0 := Aside0.mk (show N ≤ u.length by have h1 := LI.out.ql; rw [List.length_replicate] at h1; omega)
 go_upto_block 0 with (first | fail)
 simp only [hw4a, hw4b]
 go_loopg [10] (N + 1) (fun kq v10 w' => ∃ (j1 : Nat) (uu q : List Int), v10 = .int .i64 ((j1 : Int) - 1) ∧ Aside0 (kq = j1 + 1) ∧ Aside0 (uu.length = u.length) ∧ Aside0 (q.length = N) ∧ Aside0 (LongInv u v b.length j1 uu q) ∧ Aside0 (OwnB W w' gu u.length cu uu) ∧ Aside0 (OwnB W w' gq N cq q) ∧ Aside0 (VB2 w' gu gq Av v.length cv v) ∧ Aside0 (Below W.heap.size W w'))
 case atStart => exact ⟨N, u, _, rfl, ⟨rfl⟩, ⟨rfl⟩, ⟨List.length_replicate⟩, LI, HU, HQ, HV, HB⟩
 case round =>
  clear HU HQ HV HB LI
  obtain ⟨j1, uu, q, rfl, KQ, UU, QN, INV, HU, HQ, HV, HB⟩ := hrel
  rcases j1 with _ | j
  ·--B fin
   as_aux_lemma =>
   obtain ⟨x0, hx0⟩ : ∃ x : Int, ((0 : Nat) : Int) - 1 = x := ⟨_, rfl⟩
   rw [hx0]
   have hjb : decide (0 ≤ x0) = false := decide_eq_false (by omega)
   have hUU := UU.out
   have hvn := VN.out
   have hjl := INV.out.jl
   have hql := INV.out.ql
   have hlu := LU.out
   obtain ⟨i0, hi0, _, hsz, _⟩ := info_parts info145
   have hcut := cut_to (P := Tryz.prog) 75 145 .i64 Tryz.underlying75 hi0 (some ⟨gu, 0, none⟩) u.length cu (v.length : Int) (by omega) (by omega) (Kd.R_reads' HU.out).2.1
   rw [Int.toNat_natCast] at hcut
   have HT := Aside0.mk (Kd.R_take (m := v.length) HU.out (by omega))
   have TL := Aside0.mk (show (uu.take v.length).length ≤ 30000000000000 by rw [List.length_take]; omega)
   have K0 := Aside0.mk (show 0 < k by have := HKK.out; omega)
   have K1 := Aside0.mk HKK.out.2
   clear hvn hUU hjl hql hlu hi0 hsz hx0
   go_wp2_with (first | (go_at_call 191; refine (short_calls (Dg.of_R HT.out) (INV.out.lu.take _) K0.out K1.out TL.out).mono ?_; rintro e w5 ⟨hb5, sq, sr, hsq, Ar, cr, rfl, hD⟩; have HD := Aside0.mk hD; have SQ := Aside0.mk hsq; replace HQ := Aside0.mk (Kd.R_below HQ.out hb5); replace HB := Aside0.mk (HB.out.trans (hb5.mono HB.out.size)); clear hb5 hD hsq))
   refine bodyPost_ret (results_list (rs := [.tmp _, .tmp _]) rfl (by simp) (.tmp (.tmp .nil))) rfl ?_
   obtain ⟨hq1, hq2, hq3, hq4⟩ := SQ.out
   have hr : val (uu.take b.length) = val sq * k + sr := by rw [← VN.out]; exact hq4
   have hE := long_end INV.out HKK.out.1 UL.out.2.2 VV.out (can_pos b HBc.out (fun e => by have := H2.out; rw [e] at this; exact absurd this (by decide))) hr hq3.1 hq3.2 hq2
   have hq0 := QN.out
   refine ⟨HB.out, q, sq, ⟨INV.out.lq, hq2, hE⟩, some ⟨gq, 0, none⟩, cq, Ar, cr, by rw [hq0]; rfl, ?_, HD.out⟩
   rw [hq0]
   exact Dg.of_R HQ.out
  ·obtain ⟨x0, hx0⟩ : ∃ x : Int, ((j : Nat) : Int) = x := ⟨_, rfl⟩
   obtain ⟨x1, hx1⟩ : ∃ x : Int, ((j + b.length : Nat) : Int) = x := ⟨_, rfl⟩
   obtain ⟨x2, hx2⟩ : ∃ x : Int, ((j + b.length - 1 : Nat) : Int) = x := ⟨_, rfl⟩
   obtain ⟨x3, hx3⟩ : ∃ x : Int, ((j + b.length - 2 : Nat) : Int) = x := ⟨_, rfl⟩
   obtain ⟨y1, hy1⟩ : ∃ x : Int, ((b.length - 1 : Nat) : Int) = x := ⟨_, rfl⟩
   obtain ⟨y2, hy2⟩ : ∃ x : Int, ((b.length - 2 : Nat) : Int) = x := ⟨_, rfl⟩
   have hj0 : ((j + 1 : Nat) : Int) - 1 = x0 := by omega
   rw [hj0]
   have hjb : decide (0 ≤ x0) = true := decide_eq_true (by omega)
   have G := INV.out.gs
   rw [hx1, hx2, hx3, hy1, hy2] at G
   have hjl := INV.out.jl
   have hql := INV.out.ql
   have huu := UU.out
   have hvn := VN.out
   have h2 := H2.out
   have hlu := LU.out
   have hm1 : (0 ≤ x1) = True := eq_true (by omega)
   have hm2 : (x1 < (u.length : Int)) = True := eq_true (by omega)
   have hm3 : (0 ≤ x2) = True := eq_true (by omega)
   have hm4 : (x2 < (u.length : Int)) = True := eq_true (by omega)
   have hm5 : (0 ≤ x3) = True := eq_true (by omega)
   have hm6 : (x3 < (u.length : Int)) = True := eq_true (by omega)
   have hm7 : (0 ≤ y1) = True := eq_true (by omega)
   have hm8 : (y1 < (v.length : Int)) = True := eq_true (by omega)
   have hm9 : (0 ≤ y2) = True := eq_true (by omega)
   have hma : (y2 < (v.length : Int)) = True := eq_true (by omega)
   have hw1 : wrap64 (x0 + (v.length : Int)) = x1 := by rw [wrap_id (by omega) (by omega)]; omega
   have hw2 : wrap64 (x1 - 1) = x2 := by rw [wrap_id (by omega) (by omega)]; omega
   have hw3 : wrap64 (x1 - 2) = x3 := by rw [wrap_id (by omega) (by omega)]; omega
   have hw5 : wrap64 ((v.length : Int) - 1) = y1 := by rw [wrap_id (by omega) (by omega)]; omega
   have hw6 : wrap64 ((v.length : Int) - 2) = y2 := by rw [wrap_id (by omega) (by omega)]; omega
   obtain ⟨c1, g1⟩ := Kd.R_celln 0 HU.out x1 (by omega) (by omega)
   obtain ⟨c2, g2⟩ := Kd.R_celln 0 HU.out x2 (by omega) (by omega)
   obtain ⟨c3, g3⟩ := Kd.R_celln 0 HU.out x3 (by omega) (by omega)
   obtain ⟨av, eV, c4⟩ := Kd.at_int (Kd.V_reads' HV.out).2.2 y1 (by omega) (by omega)
   cases eV
   obtain ⟨av', eV, c5⟩ := Kd.at_int (Kd.V_reads' HV.out).2.2 y2 (by omega) (by omega)
   cases eV
   have hd1 := INV.out.lu.rd (j + b.length) (by omega)
   have hd2 := INV.out.lu.rd (j + b.length - 1) (by omega)
   have hd3 := INV.out.lu.rd (j + b.length - 2) (by omega)
   have he1 := INV.out.lv.rd (b.length - 1) (by omega)
   have he2 := INV.out.lv.rd (b.length - 2) (by omega)
   rw [hx1] at hd1
   rw [hx2] at hd2
   rw [hx3] at hd3
   rw [hy1] at he1
   rw [hy2] at he2
   have he0 := G.hv1
   obtain ⟨d1, ed1⟩ : ∃ d, rd uu x1 = d := ⟨_, rfl⟩
   obtain ⟨d2, ed2⟩ : ∃ d, rd uu x2 = d := ⟨_, rfl⟩
   obtain ⟨d3, ed3⟩ : ∃ d, rd uu x3 = d := ⟨_, rfl⟩
   obtain ⟨e1, ee1⟩ : ∃ d, rd v y1 = d := ⟨_, rfl⟩
   obtain ⟨e2, ee2⟩ : ∃ d, rd v y2 = d := ⟨_, rfl⟩
   rw [ed1, ed2, ed3, ee1, ee2] at G
   rw [show rdOf (0 : Int) uu x1 = d1 from ed1] at c1
   rw [show rdOf (0 : Int) uu x2 = d2 from ed2] at c2
   rw [show rdOf (0 : Int) uu x3 = d3 from ed3] at c3
   rw [ed1] at hd1
   rw [ed2] at hd2
   rw [ed3] at hd3
   rw [ee1] at he1 he0 c4
   rw [ee2] at he2 c5
   obtain ⟨top, htop⟩ : ∃ t, d1 * 1000000000 + d2 = t := ⟨_, rfl⟩
   rw [htop] at G
   have GG := Aside0.mk G
   have htl := G.top_lt
   obtain ⟨t0, ht0⟩ : ∃ t, top / e1 = t := ⟨_, rfl⟩
   obtain ⟨r0, hr0⟩ : ∃ t, top % e1 = t := ⟨_, rfl⟩
   have hem := Int.emod_add_mul_ediv top e1
   rw [ht0, hr0] at hem
   have hr1 : 0 ≤ r0 ∧ r0 < e1 := by rw [← hr0]; exact ⟨Int.emod_nonneg _ (by omega), Int.emod_lt_of_pos _ (by omega)⟩
   have ht1 : 0 ≤ t0 ∧ t0 < 2000000000 := by
    rw [← ht0]
    refine ⟨Int.ediv_nonneg (by omega) (by omega), Int.ediv_lt_of_lt_mul (by omega) ?_⟩
    have : 1000000000 * (e1 + 1) ≤ 1000000000 * (2 * e1) := Int.mul_le_mul_of_nonneg_left (by omega) (by omega)
    omega
   have k1 : IntKind.u64.wrap d1 = d1 := u64_id (by omega) (by omega)
   have k2 : IntKind.u64.wrap (d1 * 1000000000) = d1 * 1000000000 := u64_id (by omega) (by omega)
   have k3 : IntKind.u64.wrap d2 = d2 := u64_id (by omega) (by omega)
   have k4 : IntKind.u64.wrap (d1 * 1000000000 + d2) = top := by rw [htop]; exact u64_id (by omega) (by omega)
   have k5 : IntKind.u64.wrap e1 = e1 := u64_id (by omega) (by omega)
   have k6 : (e1 == 0) = false := beq_eq_false_iff_ne.mpr (by omega)
   have k6' : (e1 = 0) = False := eq_false (by omega)
   have k7 : Int.tdiv top e1 = t0 := by rw [Int.tdiv_eq_ediv_of_nonneg (by omega)]; exact ht0
   have k8 : IntKind.u64.wrap t0 = t0 := u64_id (by omega) (by omega)
   have k9 : Int.tmod top e1 = r0 := by rw [Int.tmod_eq_emod_of_nonneg (by omega)]; exact hr0
   have k10 : IntKind.u64.wrap r0 = r0 := u64_id (by omega) (by omega)
   have MK := Aside0.mk (fun (w' : World) (a : OwnB W w' gu u.length cu uu) (b : VB2 w' gu gq (some av) v.length cv v) => five_of (by omega) (by omega) (by omega) (by omega) (by omega) (by omega) (by omega) (by omega) (by omega) (by omega) ed1 ed2 ed3 ee1 ee2 a b)
   have FV := MK.out _ HU.out HV.out
   have GD0 := Aside0.mk (show Gd (val (uu.drop j)) (val v) e1 top t0 r0 from ⟨by rw [Int.mul_comm]; omega, by omega, by omega, by omega, by omega, G.start (rest := r0) (by omega) (by rw [Int.mul_comm]; omega) (by omega)⟩)
   have BD := Aside0.mk (And.intro hd3 he2)
   have BE := Aside0.mk (And.intro he1 he0)
   clear c1 g1 c2 g2 c3 g3 c4 c5 hjl hql huu hvn h2 hlu G htl hem ht0 hr0 htop hd1 hd2 hd3 he1 he2 he0 hr1 ht1
   go_wp2
   (refine start_ (id := 8) (n := 18) (S := fun w' => Five gu av x1 x2 x3 y1 y2 d1 d2 d3 e1 e2 w') (ds := []) (bz 18 0) (by kernel_rfl) rfl rfl (FV) (fun hH => ?_); replace FV : Five gu av x1 x2 x3 y1 y2 d1 d2 d3 e1 e2 _ := hH; replace HU := Aside0.mk (Kd.R_drew HU.out); replace HQ := Aside0.mk (Kd.R_drew HQ.out); replace HV := Aside0.mk (Kd.V_drew HV.out); replace HB := Aside0.mk (below_drew HB.out); refine pu_ 0 (some 54) (bz 18 1) ?_; refine pu_ 1 (some 55) (bz 18 3) ?_; refine pu_ 2 (some 56) (bz 18 7) ?_; refine pu_ 3 (some 57) (bz 18 15) ?_; refine pu_ 4 (some 58) (bz 18 31) ?_; refine pu_ 8 (some 62) (bz 18 287) ?_; refine pu_ 9 (some 63) (bz 18 799) ?_; refine pu_ 10 (some 64) (bz 18 1823) ?_; refine pu_ 11 (some 65) (bz 18 3871) ?_; refine pu_ 12 (some 66) (bz 18 7967) ?_; refine pu_ 13 (some 67) (bz 18 16159) ?_; refine ta_ 5 (some 59) (bz 18 16191) hH ?_; refine pu_ 6 (some 60) (bz 18 16255) ?_; refine pu_ 7 (some 61) (bz 18 16383) ?_; refine ta_ 14 (some 68) (bz 18 32767) hH ?_; refine pu_ 15 (some 69) (bz 18 65535) ?_; refine pu_ 16 (some 70) (bz 18 131071) ?_; refine pu_ 17 (some 11) (bz 18 262143) ?_; refine done_ (by kernel_rfl) ?_)
   go_wp2
   (refine start_ (id := 9) (n := 18) (S := fun w' => Five gu av x1 x2 x3 y1 y2 d1 d2 d3 e1 e2 w') (ds := []) (bz 18 0) (by kernel_rfl) rfl rfl (FV) (fun hH => ?_); replace FV : Five gu av x1 x2 x3 y1 y2 d1 d2 d3 e1 e2 _ := hH; replace HU := Aside0.mk (Kd.R_drew HU.out); replace HQ := Aside0.mk (Kd.R_drew HQ.out); replace HV := Aside0.mk (Kd.V_drew HV.out); replace HB := Aside0.mk (below_drew HB.out); refine pu_ 0 (some 71) (bz 18 1) ?_; refine pu_ 1 (some 72) (bz 18 3) ?_; refine pu_ 2 (some 73) (bz 18 7) ?_; refine pu_ 3 (some 74) (bz 18 15) ?_; refine pu_ 4 (some 75) (bz 18 31) ?_; refine pu_ 8 (some 79) (bz 18 287) ?_; refine pu_ 9 (some 80) (bz 18 799) ?_; refine pu_ 10 (some 81) (bz 18 1823) ?_; refine pu_ 11 (some 82) (bz 18 3871) ?_; refine pu_ 12 (some 83) (bz 18 7967) ?_; refine ta_ 5 (some 76) (bz 18 7999) hH ?_; refine pu_ 6 (some 77) (bz 18 8063) ?_; refine pu_ 7 (some 78) (bz 18 8191) ?_; refine pu_ 16 (some 12) (bz 18 73727) ?_; refine ta_ 13 (some 84) (bz 18 81919) hH ?_; refine pu_ 14 (some 85) (bz 18 98303) ?_; refine pu_ 15 (some 86) (bz 18 131071) ?_; refine pu_ 17 (some 13) (bz 18 262143) ?_; refine done_ (by kernel_rfl) ?_)
   go_upto_block 2 with (first | fail)
   simp only [hw4a, hw4b, hw1, hw2, hw3, hw5, hw6]
   go_cut [12, 13, 87, 88, 89, 90, 91, 92, 93, 94, 95, 96, 97, 98, 99, 100, 101, 102, 103, 104, 105, 106, 107, 108, 109, 110, 111, 112, 113, 114, 115, 116, 117, 118, 119, 120, 121, 122] (fun v12 v13 v87 v88 v89 v90 v91 v92 v93 v94 v95 v96 v97 v98 v99 v100 v101 v102 v103 v104 v105 v106 v107 v108 v109 v110 v111 v112 v113 v114 v115 v116 v117 v118 v119 v120 v121 v122 wc => ∃ t : Int, v12 = .int .u64 t ∧ Aside0 (Gt (val (uu.drop j)) (val v) t) ∧ Aside0 (OwnB W wc gu u.length cu uu) ∧ Aside0 (OwnB W wc gq N cq q) ∧ Aside0 (VB2 wc gu gq (some av) v.length cv v) ∧ Aside0 (Below W.heap.size W wc))
   case first =>
    as_aux_lemma =>
    go_wp2
    go_loopg [12, 13] (t0.toNat + 1) (fun kq v12 v13 w' => ∃ t r : Int, v12 = .int .u64 t ∧ v13 = .int .u64 r ∧ Aside0 (kq = t.toNat + 1) ∧ Aside0 (Gd (val (uu.drop j)) (val v) e1 top t r) ∧ Aside0 (OwnB W w' gu u.length cu uu) ∧ Aside0 (OwnB W w' gq N cq q) ∧ Aside0 (VB2 w' gu gq (some av) v.length cv v) ∧ Aside0 (Below W.heap.size W w'))
    case atStart => exact ⟨_, _, rfl, rfl, ⟨rfl⟩, GD0, HU, HQ, HV, HB⟩
    case round =>
     clear HU HQ HV HB GD0 FV k1 k2 k3 k4 k6 k6' k7 k8 k9 k10
     obtain ⟨t, r, rfl, rfl, KT, INV, HU, HQ, HV, HB⟩ := hrel
     have FV := MK.out _ HU.out HV.out
     by_cases ht : 1000000000 ≤ t
     ·have htb : decide (1000000000 ≤ t) = true := decide_eq_true ht
      have HDC := Aside0.mk (INV.out.dec GG.out (Or.inl ht))
      have n1 : IntKind.u64.wrap (t - 1) = t - 1 := u64_id (by have := HDC.out.1; omega) (by have := INV.out.tB; omega)
      have n2 : IntKind.u64.wrap (r + e1) = r + e1 := u64_id (by have := INV.out.r0; have := BE.out.1.1; omega) (by have := INV.out.rB; have := BE.out.1.2; omega)
      have c4 := FV.2.2.2.2.2.2.1
      by_cases hr : 1000000000 ≤ r + e1
      ·have hrb : decide (1000000000 ≤ r + e1) = true := decide_eq_true hr
       have HE := Aside0.mk (INV.out.brk GG.out HDC.out hr)
       clear hr
       go_wp2
       (refine start_ (id := 10) (n := 24) (S := fun w' => Five gu av x1 x2 x3 y1 y2 d1 d2 d3 e1 e2 w') (ds := []) (bz 24 0) (by kernel_rfl) rfl rfl (FV) (fun hH => ?_); replace FV : Five gu av x1 x2 x3 y1 y2 d1 d2 d3 e1 e2 _ := hH; replace HU := Aside0.mk (Kd.R_drew HU.out); replace HQ := Aside0.mk (Kd.R_drew HQ.out); replace HV := Aside0.mk (Kd.V_drew HV.out); replace HB := Aside0.mk (below_drew HB.out); refine pu_ 0 (some 87) (bz 24 1) ?_; refine pu_ 1 (some 88) (bz 24 3) ?_; refine pu_ 2 (some 89) (bz 24 7) ?_; (first | (refine pu_ 3 (some 90) (bz 24 15) ?_) | (refine po_ 3 (some 90) (bz 24 15) ?_)); (first | (refine pu_ 4 (some 91) (bz 24 31) ?_) | (refine po_ 4 (some 91) (bz 24 31) ?_)); (first | (refine pu_ 5 (some 92) (bz 24 63) ?_) | (refine po_ 5 (some 92) (bz 24 63) ?_)); (first | (refine pu_ 6 (some 93) (bz 24 127) ?_) | (refine po_ 6 (some 93) (bz 24 127) ?_)); (first | (refine pu_ 7 (some 94) (bz 24 255) ?_) | (refine po_ 7 (some 94) (bz 24 255) ?_)); (first | (refine pu_ 11 (some 98) (bz 24 2303) ?_) | (refine po_ 11 (some 98) (bz 24 2303) ?_)); (first | (refine pu_ 12 (some 99) (bz 24 6399) ?_) | (refine po_ 12 (some 99) (bz 24 6399) ?_)); (first | (refine pu_ 13 (some 100) (bz 24 14591) ?_) | (refine po_ 13 (some 100) (bz 24 14591) ?_)); (first | (refine pu_ 14 (some 101) (bz 24 30975) ?_) | (refine po_ 14 (some 101) (bz 24 30975) ?_)); (first | (refine pu_ 15 (some 102) (bz 24 63743) ?_) | (refine po_ 15 (some 102) (bz 24 63743) ?_)); (first | (refine pu_ 16 (some 103) (bz 24 129279) ?_) | (refine po_ 16 (some 103) (bz 24 129279) ?_)); (first | (refine pu_ 17 (some 104) (bz 24 260351) ?_) | (refine po_ 17 (some 104) (bz 24 260351) ?_)); (first | (refine pu_ 18 (some 105) (bz 24 522495) ?_) | (refine po_ 18 (some 105) (bz 24 522495) ?_)); (first | (refine ta_ 8 (some 95) (bz 24 522751) hH ?_) | (refine po_ 8 (some 95) (bz 24 522751) ?_)); (first | (refine pu_ 9 (some 96) (bz 24 523263) ?_) | (refine po_ 9 (some 96) (bz 24 523263) ?_)); (first | (refine pu_ 10 (some 97) (bz 24 524287) ?_) | (refine po_ 10 (some 97) (bz 24 524287) ?_)); (first | (refine ta_ 19 (some 106) (bz 24 1048575) hH ?_) | (refine po_ 19 (some 106) (bz 24 1048575) ?_)); (first | (refine pu_ 20 (some 107) (bz 24 2097151) ?_) | (refine po_ 20 (some 107) (bz 24 2097151) ?_)); (first | (refine pu_ 21 (some 108) (bz 24 4194303) ?_) | (refine po_ 21 (some 108) (bz 24 4194303) ?_)); (first | (refine pu_ 22 (some 109) (bz 24 8388607) ?_) | (refine po_ 22 (some 109) (bz 24 8388607) ?_)); refine pu_ 23 (some 110) (bz 24 16777215) ?_; refine done_ (by kernel_rfl) ?_)
       go_wp2
       go_meet
       case rel => exact ⟨_, rfl, HE, HU, HQ, HV, HB⟩
      ·have hrb : decide (1000000000 ≤ r + e1) = false := decide_eq_false hr
       have HE := Aside0.mk (INV.out.next GG.out HDC.out (by omega))
       clear hr
       go_wp2
       (refine start_ (id := 10) (n := 24) (S := fun w' => Five gu av x1 x2 x3 y1 y2 d1 d2 d3 e1 e2 w') (ds := []) (bz 24 0) (by kernel_rfl) rfl rfl (FV) (fun hH => ?_); replace FV : Five gu av x1 x2 x3 y1 y2 d1 d2 d3 e1 e2 _ := hH; replace HU := Aside0.mk (Kd.R_drew HU.out); replace HQ := Aside0.mk (Kd.R_drew HQ.out); replace HV := Aside0.mk (Kd.V_drew HV.out); replace HB := Aside0.mk (below_drew HB.out); refine pu_ 0 (some 87) (bz 24 1) ?_; refine pu_ 1 (some 88) (bz 24 3) ?_; refine pu_ 2 (some 89) (bz 24 7) ?_; (first | (refine pu_ 3 (some 90) (bz 24 15) ?_) | (refine po_ 3 (some 90) (bz 24 15) ?_)); (first | (refine pu_ 4 (some 91) (bz 24 31) ?_) | (refine po_ 4 (some 91) (bz 24 31) ?_)); (first | (refine pu_ 5 (some 92) (bz 24 63) ?_) | (refine po_ 5 (some 92) (bz 24 63) ?_)); (first | (refine pu_ 6 (some 93) (bz 24 127) ?_) | (refine po_ 6 (some 93) (bz 24 127) ?_)); (first | (refine pu_ 7 (some 94) (bz 24 255) ?_) | (refine po_ 7 (some 94) (bz 24 255) ?_)); (first | (refine pu_ 11 (some 98) (bz 24 2303) ?_) | (refine po_ 11 (some 98) (bz 24 2303) ?_)); (first | (refine pu_ 12 (some 99) (bz 24 6399) ?_) | (refine po_ 12 (some 99) (bz 24 6399) ?_)); (first | (refine pu_ 13 (some 100) (bz 24 14591) ?_) | (refine po_ 13 (some 100) (bz 24 14591) ?_)); (first | (refine pu_ 14 (some 101) (bz 24 30975) ?_) | (refine po_ 14 (some 101) (bz 24 30975) ?_)); (first | (refine pu_ 15 (some 102) (bz 24 63743) ?_) | (refine po_ 15 (some 102) (bz 24 63743) ?_)); (first | (refine pu_ 16 (some 103) (bz 24 129279) ?_) | (refine po_ 16 (some 103) (bz 24 129279) ?_)); (first | (refine pu_ 17 (some 104) (bz 24 260351) ?_) | (refine po_ 17 (some 104) (bz 24 260351) ?_)); (first | (refine pu_ 18 (some 105) (bz 24 522495) ?_) | (refine po_ 18 (some 105) (bz 24 522495) ?_)); (first | (refine ta_ 8 (some 95) (bz 24 522751) hH ?_) | (refine po_ 8 (some 95) (bz 24 522751) ?_)); (first | (refine pu_ 9 (some 96) (bz 24 523263) ?_) | (refine po_ 9 (some 96) (bz 24 523263) ?_)); (first | (refine pu_ 10 (some 97) (bz 24 524287) ?_) | (refine po_ 10 (some 97) (bz 24 524287) ?_)); (first | (refine ta_ 19 (some 106) (bz 24 1048575) hH ?_) | (refine po_ 19 (some 106) (bz 24 1048575) ?_)); (first | (refine pu_ 20 (some 107) (bz 24 2097151) ?_) | (refine po_ 20 (some 107) (bz 24 2097151) ?_)); (first | (refine pu_ 21 (some 108) (bz 24 4194303) ?_) | (refine po_ 21 (some 108) (bz 24 4194303) ?_)); (first | (refine pu_ 22 (some 109) (bz 24 8388607) ?_) | (refine po_ 22 (some 109) (bz 24 8388607) ?_)); refine pu_ 23 (some 110) (bz 24 16777215) ?_; refine done_ (by kernel_rfl) ?_)
       go_wp2
       go_roundg t.toNat
       case measure => have := KT.out; omega
       case rel => exact ⟨_, _, rfl, rfl, ⟨by have := HDC.out.1; omega⟩, HE, HU, HQ, HV, HB⟩
     ·have htb : decide (1000000000 ≤ t) = false := decide_eq_false ht
      have m1 : IntKind.u64.wrap e2 = e2 := u64_id BD.out.2.1 (by have := BD.out.2.2; omega)
      have hp := prod_lt (x := t) (y := e2) ⟨INV.out.t0, by omega⟩ BD.out.2
      have m2 : IntKind.u64.wrap (t * e2) = t * e2 := u64_id hp.1 (by have := hp.2; omega)
      have m3 : IntKind.u64.wrap (r * 1000000000) = r * 1000000000 := u64_id (by have := INV.out.r0; omega) (by have := INV.out.rB; omega)
      have m4 : IntKind.u64.wrap d3 = d3 := u64_id BD.out.1.1 (by have := BD.out.1.2; omega)
      have m5 : IntKind.u64.wrap (r * 1000000000 + d3) = r * 1000000000 + d3 := u64_id (by have := INV.out.r0; have := BD.out.1.1; omega) (by have := INV.out.rB; have := BD.out.1.2; omega)
      by_cases hc : r * 1000000000 + d3 < t * e2
      ·have hcb : decide (r * 1000000000 + d3 < t * e2) = true := decide_eq_true hc
       have HDC := Aside0.mk (INV.out.dec GG.out (Or.inr ⟨by omega, hc⟩))
       have n1 : IntKind.u64.wrap (t - 1) = t - 1 := u64_id (by have := HDC.out.1; omega) (by have := INV.out.tB; omega)
       have n2 : IntKind.u64.wrap (r + e1) = r + e1 := u64_id (by have := INV.out.r0; have := BE.out.1.1; omega) (by have := INV.out.rB; have := BE.out.1.2; omega)
       have c4 := FV.2.2.2.2.2.2.1
       by_cases hr : 1000000000 ≤ r + e1
       ·have hrb : decide (1000000000 ≤ r + e1) = true := decide_eq_true hr
        have HE := Aside0.mk (INV.out.brk GG.out HDC.out hr)
        clear hr
        go_wp2
        (refine start_ (id := 10) (n := 24) (S := fun w' => Five gu av x1 x2 x3 y1 y2 d1 d2 d3 e1 e2 w') (ds := []) (bz 24 0) (by kernel_rfl) rfl rfl (FV) (fun hH => ?_); replace FV : Five gu av x1 x2 x3 y1 y2 d1 d2 d3 e1 e2 _ := hH; replace HU := Aside0.mk (Kd.R_drew HU.out); replace HQ := Aside0.mk (Kd.R_drew HQ.out); replace HV := Aside0.mk (Kd.V_drew HV.out); replace HB := Aside0.mk (below_drew HB.out); refine pu_ 0 (some 87) (bz 24 1) ?_; refine pu_ 1 (some 88) (bz 24 3) ?_; refine pu_ 2 (some 89) (bz 24 7) ?_; (first | (refine pu_ 3 (some 90) (bz 24 15) ?_) | (refine po_ 3 (some 90) (bz 24 15) ?_)); (first | (refine pu_ 4 (some 91) (bz 24 31) ?_) | (refine po_ 4 (some 91) (bz 24 31) ?_)); (first | (refine pu_ 5 (some 92) (bz 24 63) ?_) | (refine po_ 5 (some 92) (bz 24 63) ?_)); (first | (refine pu_ 6 (some 93) (bz 24 127) ?_) | (refine po_ 6 (some 93) (bz 24 127) ?_)); (first | (refine pu_ 7 (some 94) (bz 24 255) ?_) | (refine po_ 7 (some 94) (bz 24 255) ?_)); (first | (refine pu_ 11 (some 98) (bz 24 2303) ?_) | (refine po_ 11 (some 98) (bz 24 2303) ?_)); (first | (refine pu_ 12 (some 99) (bz 24 6399) ?_) | (refine po_ 12 (some 99) (bz 24 6399) ?_)); (first | (refine pu_ 13 (some 100) (bz 24 14591) ?_) | (refine po_ 13 (some 100) (bz 24 14591) ?_)); (first | (refine pu_ 14 (some 101) (bz 24 30975) ?_) | (refine po_ 14 (some 101) (bz 24 30975) ?_)); (first | (refine pu_ 15 (some 102) (bz 24 63743) ?_) | (refine po_ 15 (some 102) (bz 24 63743) ?_)); (first | (refine pu_ 16 (some 103) (bz 24 129279) ?_) | (refine po_ 16 (some 103) (bz 24 129279) ?_)); (first | (refine pu_ 17 (some 104) (bz 24 260351) ?_) | (refine po_ 17 (some 104) (bz 24 260351) ?_)); (first | (refine pu_ 18 (some 105) (bz 24 522495) ?_) | (refine po_ 18 (some 105) (bz 24 522495) ?_)); (first | (refine ta_ 8 (some 95) (bz 24 522751) hH ?_) | (refine po_ 8 (some 95) (bz 24 522751) ?_)); (first | (refine pu_ 9 (some 96) (bz 24 523263) ?_) | (refine po_ 9 (some 96) (bz 24 523263) ?_)); (first | (refine pu_ 10 (some 97) (bz 24 524287) ?_) | (refine po_ 10 (some 97) (bz 24 524287) ?_)); (first | (refine ta_ 19 (some 106) (bz 24 1048575) hH ?_) | (refine po_ 19 (some 106) (bz 24 1048575) ?_)); (first | (refine pu_ 20 (some 107) (bz 24 2097151) ?_) | (refine po_ 20 (some 107) (bz 24 2097151) ?_)); (first | (refine pu_ 21 (some 108) (bz 24 4194303) ?_) | (refine po_ 21 (some 108) (bz 24 4194303) ?_)); (first | (refine pu_ 22 (some 109) (bz 24 8388607) ?_) | (refine po_ 22 (some 109) (bz 24 8388607) ?_)); refine pu_ 23 (some 110) (bz 24 16777215) ?_; refine done_ (by kernel_rfl) ?_)
        go_wp2
        go_meet
        case rel => exact ⟨_, rfl, HE, HU, HQ, HV, HB⟩
       ·have hrb : decide (1000000000 ≤ r + e1) = false := decide_eq_false hr
        have HE := Aside0.mk (INV.out.next GG.out HDC.out (by omega))
        clear hr
        go_wp2
        (refine start_ (id := 10) (n := 24) (S := fun w' => Five gu av x1 x2 x3 y1 y2 d1 d2 d3 e1 e2 w') (ds := []) (bz 24 0) (by kernel_rfl) rfl rfl (FV) (fun hH => ?_); replace FV : Five gu av x1 x2 x3 y1 y2 d1 d2 d3 e1 e2 _ := hH; replace HU := Aside0.mk (Kd.R_drew HU.out); replace HQ := Aside0.mk (Kd.R_drew HQ.out); replace HV := Aside0.mk (Kd.V_drew HV.out); replace HB := Aside0.mk (below_drew HB.out); refine pu_ 0 (some 87) (bz 24 1) ?_; refine pu_ 1 (some 88) (bz 24 3) ?_; refine pu_ 2 (some 89) (bz 24 7) ?_; (first | (refine pu_ 3 (some 90) (bz 24 15) ?_) | (refine po_ 3 (some 90) (bz 24 15) ?_)); (first | (refine pu_ 4 (some 91) (bz 24 31) ?_) | (refine po_ 4 (some 91) (bz 24 31) ?_)); (first | (refine pu_ 5 (some 92) (bz 24 63) ?_) | (refine po_ 5 (some 92) (bz 24 63) ?_)); (first | (refine pu_ 6 (some 93) (bz 24 127) ?_) | (refine po_ 6 (some 93) (bz 24 127) ?_)); (first | (refine pu_ 7 (some 94) (bz 24 255) ?_) | (refine po_ 7 (some 94) (bz 24 255) ?_)); (first | (refine pu_ 11 (some 98) (bz 24 2303) ?_) | (refine po_ 11 (some 98) (bz 24 2303) ?_)); (first | (refine pu_ 12 (some 99) (bz 24 6399) ?_) | (refine po_ 12 (some 99) (bz 24 6399) ?_)); (first | (refine pu_ 13 (some 100) (bz 24 14591) ?_) | (refine po_ 13 (some 100) (bz 24 14591) ?_)); (first | (refine pu_ 14 (some 101) (bz 24 30975) ?_) | (refine po_ 14 (some 101) (bz 24 30975) ?_)); (first | (refine pu_ 15 (some 102) (bz 24 63743) ?_) | (refine po_ 15 (some 102) (bz 24 63743) ?_)); (first | (refine pu_ 16 (some 103) (bz 24 129279) ?_) | (refine po_ 16 (some 103) (bz 24 129279) ?_)); (first | (refine pu_ 17 (some 104) (bz 24 260351) ?_) | (refine po_ 17 (some 104) (bz 24 260351) ?_)); (first | (refine pu_ 18 (some 105) (bz 24 522495) ?_) | (refine po_ 18 (some 105) (bz 24 522495) ?_)); (first | (refine ta_ 8 (some 95) (bz 24 522751) hH ?_) | (refine po_ 8 (some 95) (bz 24 522751) ?_)); (first | (refine pu_ 9 (some 96) (bz 24 523263) ?_) | (refine po_ 9 (some 96) (bz 24 523263) ?_)); (first | (refine pu_ 10 (some 97) (bz 24 524287) ?_) | (refine po_ 10 (some 97) (bz 24 524287) ?_)); (first | (refine ta_ 19 (some 106) (bz 24 1048575) hH ?_) | (refine po_ 19 (some 106) (bz 24 1048575) ?_)); (first | (refine pu_ 20 (some 107) (bz 24 2097151) ?_) | (refine po_ 20 (some 107) (bz 24 2097151) ?_)); (first | (refine pu_ 21 (some 108) (bz 24 4194303) ?_) | (refine po_ 21 (some 108) (bz 24 4194303) ?_)); (first | (refine pu_ 22 (some 109) (bz 24 8388607) ?_) | (refine po_ 22 (some 109) (bz 24 8388607) ?_)); refine pu_ 23 (some 110) (bz 24 16777215) ?_; refine done_ (by kernel_rfl) ?_)
        go_wp2
        go_roundg t.toNat
        case measure => have := KT.out; omega
        case rel => exact ⟨_, _, rfl, rfl, ⟨by have := HDC.out.1; omega⟩, HE, HU, HQ, HV, HB⟩
      ·have hcb : decide (r * 1000000000 + d3 < t * e2) = false := decide_eq_false hc
       have HE := Aside0.mk (INV.out.out GG.out (by omega) hc)
       clear hc hp
       go_wp2
       (refine start_ (id := 10) (n := 24) (S := fun w' => Five gu av x1 x2 x3 y1 y2 d1 d2 d3 e1 e2 w') (ds := []) (bz 24 0) (by kernel_rfl) rfl rfl (FV) (fun hH => ?_); replace FV : Five gu av x1 x2 x3 y1 y2 d1 d2 d3 e1 e2 _ := hH; replace HU := Aside0.mk (Kd.R_drew HU.out); replace HQ := Aside0.mk (Kd.R_drew HQ.out); replace HV := Aside0.mk (Kd.V_drew HV.out); replace HB := Aside0.mk (below_drew HB.out); refine pu_ 0 (some 87) (bz 24 1) ?_; refine pu_ 1 (some 88) (bz 24 3) ?_; refine pu_ 2 (some 89) (bz 24 7) ?_; (first | (refine pu_ 3 (some 90) (bz 24 15) ?_) | (refine po_ 3 (some 90) (bz 24 15) ?_)); (first | (refine pu_ 4 (some 91) (bz 24 31) ?_) | (refine po_ 4 (some 91) (bz 24 31) ?_)); (first | (refine pu_ 5 (some 92) (bz 24 63) ?_) | (refine po_ 5 (some 92) (bz 24 63) ?_)); (first | (refine pu_ 6 (some 93) (bz 24 127) ?_) | (refine po_ 6 (some 93) (bz 24 127) ?_)); (first | (refine pu_ 7 (some 94) (bz 24 255) ?_) | (refine po_ 7 (some 94) (bz 24 255) ?_)); (first | (refine pu_ 11 (some 98) (bz 24 2303) ?_) | (refine po_ 11 (some 98) (bz 24 2303) ?_)); (first | (refine pu_ 12 (some 99) (bz 24 6399) ?_) | (refine po_ 12 (some 99) (bz 24 6399) ?_)); (first | (refine pu_ 13 (some 100) (bz 24 14591) ?_) | (refine po_ 13 (some 100) (bz 24 14591) ?_)); (first | (refine pu_ 14 (some 101) (bz 24 30975) ?_) | (refine po_ 14 (some 101) (bz 24 30975) ?_)); (first | (refine pu_ 15 (some 102) (bz 24 63743) ?_) | (refine po_ 15 (some 102) (bz 24 63743) ?_)); (first | (refine pu_ 16 (some 103) (bz 24 129279) ?_) | (refine po_ 16 (some 103) (bz 24 129279) ?_)); (first | (refine pu_ 17 (some 104) (bz 24 260351) ?_) | (refine po_ 17 (some 104) (bz 24 260351) ?_)); (first | (refine pu_ 18 (some 105) (bz 24 522495) ?_) | (refine po_ 18 (some 105) (bz 24 522495) ?_)); (first | (refine ta_ 8 (some 95) (bz 24 522751) hH ?_) | (refine po_ 8 (some 95) (bz 24 522751) ?_)); (first | (refine pu_ 9 (some 96) (bz 24 523263) ?_) | (refine po_ 9 (some 96) (bz 24 523263) ?_)); (first | (refine pu_ 10 (some 97) (bz 24 524287) ?_) | (refine po_ 10 (some 97) (bz 24 524287) ?_)); (first | (refine ta_ 19 (some 106) (bz 24 1048575) hH ?_) | (refine po_ 19 (some 106) (bz 24 1048575) ?_)); (first | (refine pu_ 20 (some 107) (bz 24 2097151) ?_) | (refine po_ 20 (some 107) (bz 24 2097151) ?_)); (first | (refine pu_ 21 (some 108) (bz 24 4194303) ?_) | (refine po_ 21 (some 108) (bz 24 4194303) ?_)); (first | (refine pu_ 22 (some 109) (bz 24 8388607) ?_) | (refine po_ 22 (some 109) (bz 24 8388607) ?_)); refine pu_ 23 (some 110) (bz 24 16777215) ?_; refine done_ (by kernel_rfl) ?_)
       go_wp2
       go_meet
       case rel => exact ⟨_, rfl, HE, HU, HQ, HV, HB⟩
   case rest =>
    obtain ⟨t, rfl, GT, HU, HQ, HV, HB⟩ := hcut
    clear FV GD0 k1 k2 k3 k4 k5 k6 k6' k7 k8 k9 k10
    go_wp2
    go_loopg [14, 124] (v.length + 1) (fun kq v14 v124 w' => ∃ (u1 : List Int) (bw : Int) (i : Nat), v14 = .int .i64 bw ∧ v124 = .int .i64 (i : Int) ∧ Aside0 (kq + i = v.length + 1) ∧ Aside0 (i ≤ v.length) ∧ Aside0 (SubInv uu v j t u1 i bw) ∧ Aside0 (OwnB W w' gu u.length cu u1) ∧ Aside0 (OwnB W w' gq N cq q) ∧ Aside0 (VB2 w' gu gq (some av) v.length cv v) ∧ Aside0 (Below W.heap.size W w'))
    case atStart => exact ⟨uu, 0, 0, rfl, rfl, ⟨by omega⟩, ⟨by omega⟩, ⟨SubInv.start INV.out.lu j t⟩, HU, HQ, HV, HB⟩
    case round =>
     have LI := INV
     clear HU HQ HV HB INV
     obtain ⟨u1, bw, i, rfl, rfl, KQ2, IL, INV, HU, HQ, HV, HB⟩ := hrel
     by_cases hi : i < v.length
     ·
      as_aux_lemma =>
      obtain ⟨z0, hz0⟩ : ∃ x : Int, ((i : Nat) : Int) = x := ⟨_, rfl⟩
      obtain ⟨z1, hz1⟩ : ∃ x : Int, ((j + i : Nat) : Int) = x := ⟨_, rfl⟩
      have hul := INV.out.1
      have huu := UU.out
      have hlu := LU.out
      have hvn := VN.out
      have hjl := LI.out.jl
      have hql := LI.out.ql
      have hib : decide (z0 < (v.length : Int)) = true := decide_eq_true (by omega)
      have hi1 : wrap64 (z0 + 1) = ((i + 1 : Nat) : Int) := by rw [wrap_id (by omega) (by omega)]; omega
      have HZ := Aside0.mk (show z1.toNat = j + i by omega)
      have hza : z0 + x0 = z1 := by omega
      have hwz : wrap64 z1 = z1 := wrap_id (by omega) (by omega)
      have q1 : (0 ≤ z1) = True := eq_true (by omega)
      have q2 : (z1 < (u.length : Int)) = True := eq_true (by omega)
      have q3 : (0 ≤ z0) = True := eq_true (by omega)
      have q4 : (z0 < (v.length : Int)) = True := eq_true (by omega)
      obtain ⟨cz, fz⟩ := Kd.R_celln 0 HU.out z1 (by omega) (by omega)
      obtain ⟨-, -, hC⟩ := Kd.V_reads' HV.out
      have ce := Kd.foot_int hC z0 (by omega) (by omega)
      have hdr := INV.out.2.1.rd (j + i) (by omega)
      have her := LI.out.lv.rd i hi
      rw [hz1] at hdr
      rw [hz0] at her
      obtain ⟨dd, edd⟩ : ∃ d, rd u1 z1 = d := ⟨_, rfl⟩
      obtain ⟨ee, eee⟩ : ∃ d, rd v z0 = d := ⟨_, rfl⟩
      rw [show rdOf (0 : Int) u1 z1 = dd from edd] at cz
      rw [eee] at ce her
      rw [edd] at hdr
      have ed : rd u1 ((j + i : Nat) : Int) = dd := by rw [hz1]; exact edd
      have hpr := prod_lt GT.out.1 her
      obtain ⟨pp, hpp⟩ : ∃ x, t * ee = x := ⟨_, rfl⟩
      rw [hpp] at hpr
      have HPQ := Aside0.mk (show pp = t * rd v (i : Int) by rw [hz0, eee]; exact hpp.symm)
      have HED := Aside0.mk ed
      clear ed
      obtain ⟨pm, hpm⟩ : ∃ x, pp % 1000000000 = x := ⟨_, rfl⟩
      obtain ⟨pd, hpd⟩ : ∃ x, pp / 1000000000 = x := ⟨_, rfl⟩
      have hbw := INV.out.2.2.1
      have ht := GT.out.1
      have w1 : wrap64 dd = dd := wrap_id (by omega) (by omega)
      have w2 : wrap64 (dd - bw) = dd - bw := wrap_id (by omega) (by omega)
      have w3 : wrap64 t = t := wrap_id (by omega) (by omega)
      have w4 : wrap64 ee = ee := wrap_id (by omega) (by omega)
      have w5 : wrap64 (t * ee) = pp := by rw [hpp]; exact wrap_id (by omega) (by omega)
      have w5b : wrap64 pp = pp := wrap_id (by omega) (by omega)
      have w6 : Int.tmod pp 1000000000 = pm := by rw [Int.tmod_eq_emod_of_nonneg hpr.1]; exact hpm
      have w8 : Int.tdiv pp 1000000000 = pd := by rw [Int.tdiv_eq_ediv_of_nonneg hpr.1]; exact hpd
      have hpm1 : 0 ≤ pm ∧ pm < 1000000000 := by omega
      have hpd1 : 0 ≤ pd ∧ pd ≤ 999999998 := by omega
      have w9 : wrap64 pd = pd := wrap_id (by omega) (by omega)
      have w7 : wrap64 (dd - bw - pm) = dd - bw - pm := wrap_id (by omega) (by omega)
      by_cases s1 : dd - bw - pm < 0
      ·have s1b : decide (dd - bw - pm < 0) = true := decide_eq_true s1
       by_cases s2 : dd - bw - pm + 1000000000 < 0
       ·have s2b : decide (dd - bw - pm + 1000000000 < 0) = true := decide_eq_true s2
        have HN := Aside0.mk (INV.out.next (x := dd - bw - pm + 1000000000 + 1000000000) (c := 2) (by omega) (by omega) HPQ.out (by rw [HED.out]; omega) (by omega) (by omega) (by omega) (by omega))
        have v1 : wrap64 (dd - bw - pm + 1000000000) = dd - bw - pm + 1000000000 := wrap_id (by omega) (by omega)
        have v2 : wrap64 (pd + 1) = pd + 1 := wrap_id (by omega) (by omega)
        have v3 : wrap64 (dd - bw - pm + 1000000000 + 1000000000) = dd - bw - pm + 1000000000 + 1000000000 := wrap_id (by omega) (by omega)
        have v4 : wrap64 (pd + 1 + 1) = pd + 2 := by rw [wrap_id (by omega) (by omega)]; omega
        have hxm : (dd - bw - pm + 1000000000 + 1000000000) % 4294967296 = dd - bw - pm + 1000000000 + 1000000000 := by omega
        have hHU := Aside0.mk (show ∀ w', OwnB W w' gu u.length cu u1 → OwnB W (w'.setCell ⟨gu, z1.toNat, none⟩ (.int .u32 (dd - bw - pm + 1000000000 + 1000000000))) gu u.length cu (u1.set z1.toNat (dd - bw - pm + 1000000000 + 1000000000)) from fun w' h => Kd.R_putn h z1 (dd - bw - pm + 1000000000 + 1000000000))
        clear hvn huu hul
        go_wp2
        (refine start_ (id := 18) (n := 20) (S := fun w' => w'.cell? ⟨gu, z1.toNat, none⟩ = some (.int .u32 dd) ∧ w'.frozen? ⟨gu, z1.toNat, none⟩ = false ∧ w'.cell? (av.add z0.toNat) = some (.int .u32 ee) ∧ True ∧ (Nat → True)) (ds := []) (bz 20 0) (by kernel_rfl) rfl rfl (⟨cz, fz, ce, trivial, fun _ => trivial⟩) (fun hH => ?_); obtain ⟨cz2, fz2, ce2, -, -⟩ := And.intro hH.1 hH.2; replace HU := Aside0.mk (Kd.R_drew HU.out); replace HQ := Aside0.mk (Kd.R_drew HQ.out); replace HV := Aside0.mk (Kd.V_drew HV.out); replace HB := Aside0.mk (below_drew HB.out); refine pu_ 0 (some 127) (bz 20 1) ?_; refine pu_ 1 (some 128) (bz 20 3) ?_; refine pu_ 2 (some 129) (bz 20 7) ?_; refine pu_ 3 (some 130) (bz 20 15) ?_; refine pu_ 4 (some 131) (bz 20 31) ?_; refine pu_ 7 (some 134) (bz 20 159) ?_; refine pu_ 9 (some 136) (bz 20 671) ?_; refine pu_ 10 (some 137) (bz 20 1695) ?_; refine pu_ 11 (some 138) (bz 20 3743) ?_; refine pu_ 12 (some 139) (bz 20 7839) ?_; refine pu_ 13 (some 140) (bz 20 16031) ?_; refine ta_ 5 (some 132) (bz 20 16063) hH ?_; refine pu_ 6 (some 133) (bz 20 16127) ?_; refine pu_ 8 (some 135) (bz 20 16383) ?_; refine ta_ 14 (some 141) (bz 20 32767) hH ?_; refine pu_ 15 (some 142) (bz 20 65535) ?_; refine pu_ 16 (some 143) (bz 20 131071) ?_; refine pu_ 17 (some 144) (bz 20 262143) ?_; refine pu_ 18 (some 145) (bz 20 524287) ?_; refine pu_ 19 (some 16) (bz 20 1048575) ?_; refine done_ (by kernel_rfl) ?_)
        go_wp2
        go_roundg (v.length - i)
        case measure => have := KQ2.out; have := IL.out; omega
        case rel =>
         refine ⟨u1.set z1.toNat (dd - bw - pm + 1000000000 + 1000000000), _, i + 1, rfl, by rw [hi1], ⟨by have := KQ2.out; omega⟩, ⟨by omega⟩, ⟨by rw [HZ.out, ← hpd]; have := HN.out; rwa [show pp / 1000000000 + 2 = pp / 1000000000 + 1 + 1 by omega] at this⟩, ⟨hHU.out _ HU.out⟩, ⟨OwnB.far HQ.out (by exact GQ.out) _⟩, ⟨Kd.V_far HV.out (fun k hk => hk.1) _⟩, ⟨HB.out.setCell (show W.heap.size ≤ gu from GU.out.1) _⟩⟩
       ·have s2b : decide (dd - bw - pm + 1000000000 < 0) = false := decide_eq_false s2
        have HN := Aside0.mk (INV.out.next (x := dd - bw - pm + 1000000000) (c := 1) (by omega) (by omega) HPQ.out (by rw [HED.out]; omega) (by omega) (by omega) (by omega) (by omega))
        have v1 : wrap64 (dd - bw - pm + 1000000000) = dd - bw - pm + 1000000000 := wrap_id (by omega) (by omega)
        have v2 : wrap64 (pd + 1) = pd + 1 := wrap_id (by omega) (by omega)
        have hxm : (dd - bw - pm + 1000000000) % 4294967296 = dd - bw - pm + 1000000000 := by omega
        have hHU := Aside0.mk (show ∀ w', OwnB W w' gu u.length cu u1 → OwnB W (w'.setCell ⟨gu, z1.toNat, none⟩ (.int .u32 (dd - bw - pm + 1000000000))) gu u.length cu (u1.set z1.toNat (dd - bw - pm + 1000000000)) from fun w' h => Kd.R_putn h z1 (dd - bw - pm + 1000000000))
        clear hvn huu hul
        go_wp2
        (refine start_ (id := 18) (n := 20) (S := fun w' => w'.cell? ⟨gu, z1.toNat, none⟩ = some (.int .u32 dd) ∧ w'.frozen? ⟨gu, z1.toNat, none⟩ = false ∧ w'.cell? (av.add z0.toNat) = some (.int .u32 ee) ∧ True ∧ (Nat → True)) (ds := []) (bz 20 0) (by kernel_rfl) rfl rfl (⟨cz, fz, ce, trivial, fun _ => trivial⟩) (fun hH => ?_); obtain ⟨cz2, fz2, ce2, -, -⟩ := And.intro hH.1 hH.2; replace HU := Aside0.mk (Kd.R_drew HU.out); replace HQ := Aside0.mk (Kd.R_drew HQ.out); replace HV := Aside0.mk (Kd.V_drew HV.out); replace HB := Aside0.mk (below_drew HB.out); refine pu_ 0 (some 127) (bz 20 1) ?_; refine pu_ 1 (some 128) (bz 20 3) ?_; refine pu_ 2 (some 129) (bz 20 7) ?_; refine pu_ 3 (some 130) (bz 20 15) ?_; refine pu_ 4 (some 131) (bz 20 31) ?_; refine pu_ 7 (some 134) (bz 20 159) ?_; refine pu_ 9 (some 136) (bz 20 671) ?_; refine pu_ 10 (some 137) (bz 20 1695) ?_; refine pu_ 11 (some 138) (bz 20 3743) ?_; refine pu_ 12 (some 139) (bz 20 7839) ?_; refine pu_ 13 (some 140) (bz 20 16031) ?_; refine ta_ 5 (some 132) (bz 20 16063) hH ?_; refine pu_ 6 (some 133) (bz 20 16127) ?_; refine pu_ 8 (some 135) (bz 20 16383) ?_; refine ta_ 14 (some 141) (bz 20 32767) hH ?_; refine pu_ 15 (some 142) (bz 20 65535) ?_; refine pu_ 16 (some 143) (bz 20 131071) ?_; refine pu_ 17 (some 144) (bz 20 262143) ?_; refine pu_ 18 (some 145) (bz 20 524287) ?_; refine pu_ 19 (some 16) (bz 20 1048575) ?_; refine done_ (by kernel_rfl) ?_)
        go_wp2
        go_roundg (v.length - i)
        case measure => have := KQ2.out; have := IL.out; omega
        case rel =>
         refine ⟨u1.set z1.toNat (dd - bw - pm + 1000000000), _, i + 1, rfl, by rw [hi1], ⟨by have := KQ2.out; omega⟩, ⟨by omega⟩, ⟨by rw [HZ.out, ← hpd]; exact HN.out⟩, ⟨hHU.out _ HU.out⟩, ⟨OwnB.far HQ.out (by exact GQ.out) _⟩, ⟨Kd.V_far HV.out (fun k hk => hk.1) _⟩, ⟨HB.out.setCell (show W.heap.size ≤ gu from GU.out.1) _⟩⟩
      ·have s1b : decide (dd - bw - pm < 0) = false := decide_eq_false s1
       have HN := Aside0.mk (INV.out.next (x := dd - bw - pm) (c := 0) (by omega) (by omega) HPQ.out (by rw [HED.out]; omega) (by omega) (by omega) (by omega) (by omega))
       have hxm : (dd - bw - pm) % 4294967296 = dd - bw - pm := by omega
       have hHU := Aside0.mk (show ∀ w', OwnB W w' gu u.length cu u1 → OwnB W (w'.setCell ⟨gu, z1.toNat, none⟩ (.int .u32 (dd - bw - pm))) gu u.length cu (u1.set z1.toNat (dd - bw - pm)) from fun w' h => Kd.R_putn h z1 (dd - bw - pm))
       clear hvn huu hul
       go_wp2
       (refine start_ (id := 18) (n := 20) (S := fun w' => w'.cell? ⟨gu, z1.toNat, none⟩ = some (.int .u32 dd) ∧ w'.frozen? ⟨gu, z1.toNat, none⟩ = false ∧ w'.cell? (av.add z0.toNat) = some (.int .u32 ee) ∧ True ∧ (Nat → True)) (ds := []) (bz 20 0) (by kernel_rfl) rfl rfl (⟨cz, fz, ce, trivial, fun _ => trivial⟩) (fun hH => ?_); obtain ⟨cz2, fz2, ce2, -, -⟩ := And.intro hH.1 hH.2; replace HU := Aside0.mk (Kd.R_drew HU.out); replace HQ := Aside0.mk (Kd.R_drew HQ.out); replace HV := Aside0.mk (Kd.V_drew HV.out); replace HB := Aside0.mk (below_drew HB.out); refine pu_ 0 (some 127) (bz 20 1) ?_; refine pu_ 1 (some 128) (bz 20 3) ?_; refine pu_ 2 (some 129) (bz 20 7) ?_; refine pu_ 3 (some 130) (bz 20 15) ?_; refine pu_ 4 (some 131) (bz 20 31) ?_; refine pu_ 7 (some 134) (bz 20 159) ?_; refine pu_ 9 (some 136) (bz 20 671) ?_; refine pu_ 10 (some 137) (bz 20 1695) ?_; refine pu_ 11 (some 138) (bz 20 3743) ?_; refine pu_ 12 (some 139) (bz 20 7839) ?_; refine pu_ 13 (some 140) (bz 20 16031) ?_; refine ta_ 5 (some 132) (bz 20 16063) hH ?_; refine pu_ 6 (some 133) (bz 20 16127) ?_; refine pu_ 8 (some 135) (bz 20 16383) ?_; refine ta_ 14 (some 141) (bz 20 32767) hH ?_; refine pu_ 15 (some 142) (bz 20 65535) ?_; refine pu_ 16 (some 143) (bz 20 131071) ?_; refine pu_ 17 (some 144) (bz 20 262143) ?_; refine pu_ 18 (some 145) (bz 20 524287) ?_; refine pu_ 19 (some 16) (bz 20 1048575) ?_; refine done_ (by kernel_rfl) ?_)
       go_wp2
       go_roundg (v.length - i)
       case measure => have := KQ2.out; have := IL.out; omega
       case rel =>
        refine ⟨u1.set z1.toNat (dd - bw - pm), _, i + 1, rfl, by rw [hi1], ⟨by have := KQ2.out; omega⟩, ⟨by omega⟩, ⟨by rw [HZ.out, ← hpd]; have := HN.out; rwa [Int.add_zero] at this⟩, ⟨hHU.out _ HU.out⟩, ⟨OwnB.far HQ.out (by exact GQ.out) _⟩, ⟨Kd.V_far HV.out (fun k hk => hk.1) _⟩, ⟨HB.out.setCell (show W.heap.size ≤ gu from GU.out.1) _⟩⟩
     ·obtain rfl : i = v.length := by have := IL.out; omega
      have hib : decide (((v.length : Nat) : Int) < (v.length : Int)) = false := decide_eq_false (by omega)
      have hul := INV.out.1
      have huu := UU.out
      have hlu := LU.out
      have hvn := VN.out
      have hjl := LI.out.jl
      have hql := LI.out.ql
      have hqn := QN.out
      have HS := Aside0.mk (show SubInv uu v j t u1 b.length bw by have := INV.out; rwa [hvn] at this)
      have hsub := LI.out.sub HS.out GT.out.2.1 GT.out.2.2
      rw [hx1] at hsub
      have hdr := INV.out.2.1.rd (j + b.length) (by omega)
      rw [hx1] at hdr
      obtain ⟨c1, g1⟩ := Kd.R_celln 0 HU.out x1 (by omega) (by omega)
      obtain ⟨dt, edt⟩ : ∃ d, rd u1 x1 = d := ⟨_, rfl⟩
      rw [show rdOf (0 : Int) u1 x1 = dt from edt] at c1
      rw [edt] at hsub hdr
      have hbw := INV.out.2.2.1
      have w1 : wrap64 dt = dt := wrap_id (by omega) (by omega)
      have w2 : wrap64 (dt - bw) = dt - bw := wrap_id (by omega) (by omega)
      have hg1 : (gu = gq) = False := eq_false GQ.out
      have hg2 : (gq = gu) = False := eq_false (fun e => GQ.out e.symm)
      have HX1 := Aside0.mk (show x1.toNat = j + b.length by omega)
      have HX0 := Aside0.mk (show x0.toNat = j by omega)
      have hwj : wrap64 (x0 - 1) = (j : Int) - 1 := by rw [wrap_id (by omega) (by omega)]; omega
      have b1 : (0 ≤ x0) = True := eq_true (by omega)
      have b2 : (x0 < (N : Int)) = True := eq_true (by omega)
      have hUQ := Aside0.mk (show ∀ w' (y : Int) (u2 : List Int), OwnB W w' gu u.length cu u2 → OwnB W w' gq N cq q → OwnB W ((w'.setCell ⟨gu, x1.toNat, none⟩ (.int .u32 0)).setCell ⟨gq, x0.toNat, none⟩ (.int .u32 y)) gu u.length cu (u2.set (j + b.length) 0) ∧ OwnB W ((w'.setCell ⟨gu, x1.toNat, none⟩ (.int .u32 0)).setCell ⟨gq, x0.toNat, none⟩ (.int .u32 y)) gq N cq (q.set j y) from fun w' y u2 ho hq => ⟨OwnB.far (HX1.out ▸ Kd.R_putn ho x1 0) (fun e => GQ.out e.symm) _, HX0.out ▸ Kd.R_putn (OwnB.far hq (fun e => GQ.out e) _) x0 y⟩)
      have hVV := Aside0.mk (show ∀ w' (y : Int), VB2 w' gu gq (some av) v.length cv v → VB2 ((w'.setCell ⟨gu, x1.toNat, none⟩ (.int .u32 0)).setCell ⟨gq, x0.toNat, none⟩ (.int .u32 y)) gu gq (some av) v.length cv v from fun w' y h => Kd.V_far (Kd.V_far h (fun k hk => hk.1) _) (fun k hk => hk.2) _)
      have hBB := Aside0.mk (show ∀ w' (y : Int), Below W.heap.size W w' → Below W.heap.size W ((w'.setCell ⟨gu, x1.toNat, none⟩ (.int .u32 0)).setCell ⟨gq, x0.toNat, none⟩ (.int .u32 y)) from fun w' y h => (h.setCell (show W.heap.size ≤ gu from GU.out.1) _).setCell (show W.heap.size ≤ gq from GQ2.out) _)
      have hcq := Aside0.mk (show ∀ w' , OwnB W w' gq N cq q → w'.cell? ⟨gq, x0.toNat, none⟩ = some (.int .u32 (rd q x0)) ∧ w'.frozen? ⟨gq, x0.toNat, none⟩ = false from fun w' h => Kd.R_celln 0 h x0 (by omega) (by omega))
      obtain ⟨c2, g2⟩ := hcq.out _ HQ.out
      by_cases hx : val (uu.drop j) < t * val v
      ·--B back
       as_aux_lemma =>
       rw [if_pos hx] at hsub
       have hvp := val_nonneg v LI.out.lv
       have hup := val_nonneg _ (LI.out.lu.drop j)
       have ht0 : 0 < t := by
        rcases (by omega : t ≤ 0 ∨ 0 < t) with e | e
        ·have := Int.mul_le_mul_of_nonneg_right e hvp
         omega
        ·exact e
       have HT0 := Aside0.mk ht0
       have ht9 := GT.out.1
       have w3 : (t - 1) % 4294967296 = t - 1 := by omega
       have n1 : IntKind.u64.wrap (t - 1) = t - 1 := u64_id (by omega) (by omega)
       have s1b : decide (dt - bw < 0) = true := decide_eq_true (by omega)
       have HXX := Aside0.mk hx
       clear hul huu hvn hsub hx edt hvp hup ht0 ht9
       go_wp2
       go_loopg [18, 189] (v.length + 1) (fun kq v18 v189 w' => ∃ (u2 : List Int) (cy : Int) (i : Nat), v18 = .int .u32 cy ∧ v189 = .int .i64 (i : Int) ∧ Aside0 (kq + i = v.length + 1) ∧ Aside0 (i ≤ v.length) ∧ Aside0 (AddInv u1 v j u2 i cy) ∧ Aside0 (OwnB W w' gu u.length cu u2) ∧ Aside0 (OwnB W w' gq N cq q) ∧ Aside0 (VB2 w' gu gq (some av) v.length cv v) ∧ Aside0 (Below W.heap.size W w'))
       case atStart => exact ⟨u1, 0, 0, rfl, rfl, ⟨by omega⟩, ⟨by omega⟩, ⟨AddInv.start INV.out.2.1 j⟩, HU, HQ, HV, HB⟩
       case round =>
        clear HU HQ HV HB c1 g1 c2 g2 hib n1 s1b IL
        obtain ⟨u2, cy, i, rfl, rfl, KQ3, IL, ADD, HU, HQ, HV, HB⟩ := hrel
        by_cases hi : i < v.length
        ·obtain ⟨z0, hz0⟩ : ∃ x : Int, ((i : Nat) : Int) = x := ⟨_, rfl⟩
         obtain ⟨z1, hz1⟩ : ∃ x : Int, ((j + i : Nat) : Int) = x := ⟨_, rfl⟩
         have hul := ADD.out.1
         have hul1 := INV.out.1
         have huu := UU.out
         have hlu := LU.out
         have hvn := VN.out
         have hib : decide (z0 < (v.length : Int)) = true := decide_eq_true (by omega)
         have hi1 : wrap64 (z0 + 1) = ((i + 1 : Nat) : Int) := by rw [wrap_id (by omega) (by omega)]; omega
         have HZ := Aside0.mk (show z1.toNat = j + i by omega)
         have hza : z0 + x0 = z1 := by omega
         have hwz : wrap64 z1 = z1 := wrap_id (by omega) (by omega)
         have q1 : (0 ≤ z1) = True := eq_true (by omega)
         have q2 : (z1 < (u.length : Int)) = True := eq_true (by omega)
         have q3 : (0 ≤ z0) = True := eq_true (by omega)
         have q4 : (z0 < (v.length : Int)) = True := eq_true (by omega)
         obtain ⟨cz, fz⟩ := Kd.R_celln 0 HU.out z1 (by omega) (by omega)
         obtain ⟨-, -, hC⟩ := Kd.V_reads' HV.out
         have ce := Kd.foot_int hC z0 (by omega) (by omega)
         have hdr2 := ADD.out.2.1.rd (j + i) (by omega)
         have her := LI.out.lv.rd i hi
         have HN := Aside0.mk (ADD.out.next (by omega) LI.out.lv (by omega) rfl)
         rw [hz1] at hdr2 HN
         rw [hz0] at her HN
         obtain ⟨dd, edd⟩ : ∃ d, rd u2 z1 = d := ⟨_, rfl⟩
         obtain ⟨ee, eee⟩ : ∃ d, rd v z0 = d := ⟨_, rfl⟩
         rw [show rdOf (0 : Int) u2 z1 = dd from edd] at cz
         rw [eee] at ce her HN
         rw [edd] at hdr2 HN
         have hcy := ADD.out.2.2.1
         obtain ⟨yy, hyy⟩ : ∃ x, dd + ee + cy = x := ⟨_, rfl⟩
         rw [hyy] at HN
         obtain ⟨ym, hym⟩ : ∃ x, yy % 1000000000 = x := ⟨_, rfl⟩
         obtain ⟨yd, hyd⟩ : ∃ x, yy / 1000000000 = x := ⟨_, rfl⟩
         rw [hyd] at HN
         have HYD := Aside0.mk hyd
         have a1 : (dd + ee) % 4294967296 = dd + ee := by omega
         have a2 : (dd + ee + cy) % 4294967296 = yy := by omega
         have a2' : yy % 4294967296 = yy := by omega
         have a3 : Int.tdiv yy 1000000000 = yd := by rw [Int.tdiv_eq_ediv_of_nonneg (by omega)]; exact hyd
         have a4 : Int.tmod yy 1000000000 = ym := by rw [Int.tmod_eq_emod_of_nonneg (by omega)]; exact hym
         have a5 : yd % 4294967296 = yd := by omega
         have a6 : ym % 4294967296 = ym := by omega
         have hHU := Aside0.mk (show ∀ w', OwnB W w' gu u.length cu u2 → OwnB W (w'.setCell ⟨gu, z1.toNat, none⟩ (.int .u32 (yy % 1000000000))) gu u.length cu (u2.set (j + i) (yy % 1000000000)) from fun w' h => HZ.out ▸ Kd.R_putn h z1 (yy % 1000000000))
         clear hvn huu hul hul1 hyd hym hdr2 her hcy
         go_wp2
         (refine start_ (id := 33) (n := 14) (S := fun w' => w'.cell? ⟨gu, z1.toNat, none⟩ = some (.int .u32 dd) ∧ w'.frozen? ⟨gu, z1.toNat, none⟩ = false ∧ w'.cell? (av.add z0.toNat) = some (.int .u32 ee) ∧ True ∧ (Nat → True)) (ds := []) (bz 14 0) (by kernel_rfl) rfl rfl (⟨cz, fz, ce, trivial, fun _ => trivial⟩) (fun hH => ?_); obtain ⟨cz2, fz2, ce2, -, -⟩ := And.intro hH.1 hH.2; replace HU := Aside0.mk (Kd.R_drew HU.out); replace HQ := Aside0.mk (Kd.R_drew HQ.out); replace HV := Aside0.mk (Kd.V_drew HV.out); replace HB := Aside0.mk (below_drew HB.out); refine pu_ 0 (some 192) (bz 14 1) ?_; refine pu_ 1 (some 193) (bz 14 3) ?_; refine pu_ 2 (some 194) (bz 14 7) ?_; refine pu_ 3 (some 195) (bz 14 15) ?_; refine pu_ 4 (some 196) (bz 14 31) ?_; refine pu_ 6 (some 198) (bz 14 95) ?_; refine pu_ 7 (some 199) (bz 14 223) ?_; refine pu_ 8 (some 200) (bz 14 479) ?_; refine pu_ 11 (some 203) (bz 14 2527) ?_; refine ta_ 5 (some 197) (bz 14 2559) hH ?_; refine ta_ 9 (some 201) (bz 14 3071) hH ?_; refine pu_ 10 (some 202) (bz 14 4095) ?_; refine pu_ 12 (some 204) (bz 14 8191) ?_; refine pu_ 13 (some 20) (bz 14 16383) ?_; refine done_ (by kernel_rfl) ?_)
         go_wp2
         go_roundg (v.length - i)
         case measure => have := KQ3.out; have := IL.out; omega
         case rel => exact ⟨u2.set (j + i) (yy % 1000000000), yd, i + 1, by rw [hyy, HYD.out], by rw [hi1], ⟨by have := KQ3.out; omega⟩, ⟨by omega⟩, HN, ⟨hHU.out _ HU.out⟩, ⟨OwnB.far HQ.out (by exact GQ.out) _⟩, ⟨Kd.V_far HV.out (fun k hk => hk.1) _⟩, ⟨HB.out.setCell (show W.heap.size ≤ gu from GU.out.1) _⟩⟩
        ·obtain rfl : i = v.length := by have := IL.out; omega
         have hib : decide (((v.length : Nat) : Int) < (v.length : Int)) = false := decide_eq_false (by omega)
         have hul := ADD.out.1
         have hul1 := INV.out.1
         have huu := UU.out
         have hvn := VN.out
         have HA2 := Aside0.mk (show AddInv u1 v j u2 b.length cy by have := ADD.out; rwa [hvn] at this)
         have HN := Aside0.mk (LI.out.back HS.out HA2.out HXX.out GT.out.2.2 HT0.out (by have := GT.out.1; omega))
         obtain ⟨c1, g1⟩ := Kd.R_celln 0 HU.out x1 (by omega) (by omega)
         obtain ⟨c2, g2⟩ := hcq.out _ HQ.out
         clear hul hul1 huu hvn
         go_wp2
         go_roundg (j + 1)
         case measure => have := KQ.out; omega
         case rel => exact ⟨j, u2.set (j + b.length) 0, q.set j (t - 1), by rw [hwj], ⟨rfl⟩, ⟨by rw [List.length_set]; exact (ADD.out.1.trans INV.out.1).trans UU.out⟩, ⟨by rw [List.length_set]; exact QN.out⟩, HN, ⟨(hUQ.out _ (t - 1) u2 HU.out HQ.out).1⟩, ⟨(hUQ.out _ (t - 1) u2 HU.out HQ.out).2⟩, ⟨hVV.out _ (t - 1) HV.out⟩, ⟨hBB.out _ (t - 1) HB.out⟩⟩
      ·--B keep
       as_aux_lemma =>
       rw [if_neg hx] at hsub
       have w3 : t % 4294967296 = t := by have := GT.out.1; omega
       have s1b : decide (dt - bw < 0) = false := decide_eq_false (by omega)
       have HN := Aside0.mk (LI.out.keep HS.out GT.out.2.1 (by omega) GT.out.1.1 GT.out.1.2)
       clear hul huu hvn hsub hx edt
       go_wp2
       go_roundg (j + 1)
       case measure => have := KQ.out; omega
       case rel => exact ⟨j, u1.set (j + b.length) 0, q.set j t, by rw [hwj], ⟨rfl⟩, ⟨by rw [List.length_set]; exact INV.out.1.trans UU.out⟩, ⟨by rw [List.length_set]; exact QN.out⟩, HN, ⟨(hUQ.out _ t u1 HU.out HQ.out).1⟩, ⟨(hUQ.out _ t u1 HU.out HQ.out).2⟩, ⟨hVV.out _ t HV.out⟩, ⟨hBB.out _ t HB.out⟩⟩
theorem word_calls {W : World} {A : Option Addr} {n c : Nat} {l : List Int} (h : Dg W (.slice A n c) l) (hl : Lim l) (h2 : l.length ≤ 2) : Calls Tryz.prog 187 #[.slice A n c] W fun e w' => Below W.heap.size W w' ∧ e = .returned (.int .i64 (val l)) := by
 obtain rfl := h.C.1
 refine (num_word.calls (l.length + 1) A c l _ W h.C.2.2 h.C.2.1 (word_ev hl h2)).mono ?_
 rintro e w' ⟨rfl, hd⟩
 exact ⟨hd.below, rfl⟩
theorem small_calls {W : World} {x y : Int} (hx : 0 ≤ x) (hy : 0 ≤ y) : Calls Tryz.prog 186 #[.int .i64 x, .int .i64 y] W fun e w' => Below W.heap.size W w' ∧ e = .returned (.int .i64 ((Nat.gcd x.toNat y.toNat : Nat) : Int)) := by
 obtain ⟨m, rfl⟩ := Int.eq_ofNat_of_zero_le hx
 obtain ⟨k, rfl⟩ := Int.eq_ofNat_of_zero_le hy
 refine (num_small.calls (k + 1) m k _ W (small_ev m k)).mono ?_
 rintro e w' ⟨rfl, hd⟩
 exact ⟨hd.below, rfl⟩
theorem Dg.one (W : World) (r : Int) : Dg (W.alloc (.cells #[.int .u32 r] 145)) (.slice (some ⟨W.heap.size, 0, none⟩) 1 1) [r] := by
 refine ⟨some ⟨W.heap.size, 0, none⟩, 1, rfl, Nat.le_refl _, rfl, by simp, fun _ => ⟨_, rfl, fun j p hp => ⟨[.int .u32 p], rfl, rfl, fun i u hu => ?_⟩⟩⟩
 obtain ⟨rfl, rfl⟩ : j = 0 ∧ p = r := by
  rcases j with _ | j
  ·exact ⟨rfl, (Option.some.inj hp).symm⟩
  ·simp at hp
 obtain ⟨rfl, rfl⟩ : i = 0 ∧ u = .int .u32 p := by
  rcases i with _ | i
  ·exact ⟨rfl, (Option.some.inj hu).symm⟩
  ·simp at hu
 have e := blk_cell (blk_new W (.cells #[.int .u32 p] 145)) 0
 rw [add_plain]
 exact e
theorem Dg.first {W : World} {ad : Addr} {n d : Nat} {x : Int} (h : Dg W (.slice (some ad) n d) [x]) : W.cell? ad = some (.int .u32 x) := by
 obtain ⟨ad', e, hx⟩ := Dg.digitB h 0 (by omega) (by simp)
 cases e
 have h2 : W.cell? (ad.add 0) = some (.int .u32 x) := hx
 simpa [Addr.add] using h2
theorem parts_calls {W : World} {A B : Option Addr} {n c m d : Nat} {a b : List Int} (h : Dg W (.slice A n c) a) (h' : Dg W (.slice B m d) b) (ha : Can a) (hb : Can b) (hn : b ≠ []) (hm : a.length ≤ 20000000000000) :
  Calls Tryz.prog 170 #[.slice A n c, .slice B m d] W fun e w' => Below W.heap.size W w' ∧ RDD a b e w' := by
 have E := ((Env.start W).dg h).dg h'
 obtain rfl := h.C.1
 obtain rfl := h'.C.1
 have HA := Aside0.mk ha
 have HBc := Aside0.mk hb
 have HM := Aside0.mk hm
 have HN := Aside0.mk hn
 have va := Aside0.mk (val_nonneg a ha.1)
 clear h h' ha hb hm hn
 by_cases hs : sgnI (val a - val b) < 0
 ·have hsb : decide (sgnI (val a - val b) < 0) = true := decide_eq_true hs
  have HS := Aside0.mk (show val a < val b by rw [sgnI_neg] at hs; omega)
  clear hs
  go_enter Tryz.func170, Tryz.ntmps170
  go_wp2_with (first | (go_at_call 172; refine env_call E (size_calls E.getD E.getD HA.out HBc.out) ?_; clear E; rintro e wc E rfl; have q := E.cls; (repeat obtain ⟨_, _, q⟩ := q); clear q))
  refine bodyPost_ret (results_list (rs := [.tmp _, .tmp _]) rfl (by simp) (.tmp (.tmp .nil))) rfl ?_
  exact ⟨E.below, [], a, ⟨Lim.nil, HA.out.1, by simp [val], va.out, HS.out⟩, none, 0, A, c, rfl, Dg.nil _, E.getD⟩
 ·have hsb : decide (sgnI (val a - val b) < 0) = false := decide_eq_false hs
  have HS := Aside0.mk (show val b ≤ val a by rw [sgnI_neg] at hs; omega)
  clear hs
  by_cases h1 : b.length = 1
  ·obtain ⟨x, rfl⟩ := List.length_eq_one_iff.1 h1
   clear h1
   have hx := HBc.out.1.head
   have hx0 : 0 < x := by have := HBc.out.2 x (by simp); omega
   have HX := Aside0.mk hx
   obtain ⟨ad, eB, cB⟩ := Dg.digitB (E.getD (v := .slice B [x].length d) (l := [x])) 0 (by omega) (by simp)
   cases eB
   have HX0 := Aside0.mk hx0
   clear hx hx0 cB
   go_enter Tryz.func170, Tryz.ntmps170
   go_wp2_with (first | ((go_at_call 172; refine env_call E (size_calls E.getD E.getD HA.out HBc.out) ?_; clear E; rintro e wc E rfl; have q := E.cls; (repeat obtain ⟨_, _, q⟩ := q); clear q); have cF := Dg.first (E.getD (v := .slice (some ad) [x].length d) (l := [x]))) | (go_at_call 191; refine env_call E (short_calls E.getD HA.out.1 HX0.out HX.out.2 (by have := HM.out; omega)) ?_; clear E; rintro e wc E ⟨q, r, hq_, Ar, cr, rfl, hw_⟩; replace E := E.dg hw_; clear hw_; have QQ := Aside0.mk hq_; clear hq_; have q := E.cls; (repeat obtain ⟨_, _, q⟩ := q); clear q) | (go_at_call 185; replace E := E.next (below_alloc (Below.refl _ _) (.cells #[.int .u32 r] 145)); refine env_call E (trim_calls (Dg.one _ _)) ?_; clear E; rintro e wc E ⟨At, ct, rfl, hw_⟩; replace E := E.dg hw_; clear hw_))
   refine bodyPost_ret (results_list (rs := [.tmp _, .tmp _]) rfl (by simp) (.tmp (.tmp .nil))) rfl ?_
   have hq := QQ.out
   refine ⟨E.below, q, tr [r], ⟨hq.2.1, fun y hy => ?_, ?_, ?_⟩, Ar, cr, At, ct, rfl, E.getD, E.getD⟩
   ·have := tr_sub [r] y hy
    simp at this
    have := HX.out
    omega
   ·rw [tr_val]
    have e1 : val [r] = r := by simp [val]
    have e2 : val [x] = x := by simp [val]
    rw [e1, e2]
    exact hq.2.2.2
   ·rw [tr_val]
    have e1 : val [r] = r := by simp [val]
    have e2 : val [x] = x := by simp [val]
    rw [e1, e2]
    exact hq.2.2.1
  ·have h2 : 2 ≤ b.length := by
    have := HN.out
    rcases hb : b with _ | ⟨x, _ | ⟨y, l⟩⟩
    ·exact absurd hb this
    ·rw [hb] at h1; exact absurd rfl h1
    ·simp
   have hle : b.length ≤ a.length := by
    refine Nat.le_of_not_lt fun hl => ?_
    have := can_len_lt HA.out HBc.out hl
    have := HS.out
    omega
   have H2 := Aside0.mk h2
   have HL := Aside0.mk hle
   have h1b : ((b.length : Int) == 1) = false := by simp; omega
   clear h2 hle
   go_enter Tryz.func170, Tryz.ntmps170
   go_wp2_with (first | (go_at_call 172; refine env_call E (size_calls E.getD E.getD HA.out HBc.out) ?_; clear E; rintro e wc E rfl; have q := E.cls; (repeat obtain ⟨_, _, q⟩ := q); clear q) | (go_at_call 192; refine env_call E (longdiv_calls E.getD E.getD HA.out.1 HBc.out H2.out HL.out HM.out) ?_; clear E; rintro e wc E ⟨q, r, hq_, Ar, cr, Ar2, cr2, rfl, hw_, hw2_⟩; replace E := (E.dg hw_).dg hw2_; clear hw_ hw2_; have QQ := Aside0.mk hq_; clear hq_; have q := E.cls; (repeat obtain ⟨_, _, q⟩ := q); clear q))
   refine bodyPost_ret (results_list (rs := [.tmp _, .tmp _]) rfl (by simp) (.tmp (.tmp .nil))) rfl ?_
   exact ⟨E.below, q, r, QQ.out, Ar, cr, Ar2, cr2, rfl, E.getD, E.getD⟩
theorem fits_small {z : Int} (h : (z.natAbs : Int) ≤ 9223372036854775808) : (dg z.natAbs).length ≤ 3 := dg_abs_len (by omega)
def OfInv (n : Int) (d : List Int) (u kq : Nat) : Prop := dg n.natAbs = d ++ dg u ∧ kq = u ∧ u ≤ 9223372036854775808
theorem OfInv.next {n : Int} {d : List Int} {u kq : Nat} (h : OfInv n d u kq) (hu : 0 < u) : u / 1000000000 < kq ∧ OfInv n (d ++ [((u % 1000000000 : Nat) : Int)]) (u / 1000000000) (u / 1000000000) := by
 obtain ⟨h1, rfl, h3⟩ := h
 refine ⟨by omega, ?_, rfl, by omega⟩
 rw [h1, dg_pos _ (by omega), List.append_assoc]
 rfl
theorem of_quo {u : Nat} (h : u ≤ 9223372036854775808) : Value.int .u64 (IntKind.u64.wrap (Int.tdiv (u : Int) 1000000000)) = .int .u64 ((u / 1000000000 : Nat) : Int) := by
 rw [Int.tdiv_eq_ediv_of_nonneg (by omega), u64_id (by omega) (by omega)]
 congr 1
theorem of_rem {w W : World} {v : Value} {d : List Int} {u : Nat} (h : Own32 w W v (d ++ [(u : Int) % 1000000000])) : Own32 w W v (d ++ [((u % 1000000000 : Nat) : Int)]) := by
 have : (u : Int) % 1000000000 = ((u % 1000000000 : Nat) : Int) := by omega
 rwa [this] at h
theorem of_calls {W : World} {n : Int} (h0 : -9223372036854775808 ≤ n) (h1 : n ≤ 9223372036854775807) : Calls Tryz.prog 121 #[.int .i64 n] W fun e w' => Below W.heap.size W w' ∧ RW n e w' := by
 have E := Env.start W
 have H0 := Aside0.mk h0
 have H1 := Aside0.mk h1
 have H3 := Aside0.mk (fits_small (z := n) (by omega))
 have INV0 := Aside0.mk (show OfInv n [] n.natAbs n.natAbs from ⟨rfl, rfl, by omega⟩)
 by_cases hn : n < 0
 ·have hnb : decide (n < 0) = true := decide_eq_true hn
  have hu : IntKind.u64.wrap (-IntKind.u64.wrap n) = ((n.natAbs : Nat) : Int) := by simp [IntKind.wrap, IntKind.bits, IntKind.signed]; omega
  clear h0 h1 hn
  go_enter Tryz.func121, Tryz.ntmps121
  go_wp2_with (first | ((with_reducible first | refine gate_box (by rfl) ?_ | refine gate_alloc (by rfl) ?_); refine bx_ E ?_; clear E; intro gb wb E; have q := E.cls; (repeat obtain ⟨_, _, q⟩ := q); clear q))
  have E0 := Aside0.mk E
  go_loopg [3, 5] n.natAbs (fun kq v3 v5 w' => ∃ (d : List Int) (u : Nat), v3 = .int .u64 (u : Int) ∧ Aside0 (OfInv n d u kq) ∧ Aside0 (Own32 wb w' v5 d) ∧ Aside0 (Below wb.heap.size wb w'))
  case atStart => exact ⟨[], _, rfl, INV0, ⟨Kd.R_nil _ _ _ _ _⟩, ⟨Below.refl _ _⟩⟩
  case round =>
   clear INV0 E
   obtain ⟨d, u, rfl, INV, HO, HB⟩ := hrel
   have E := E0.out.next HB.out
   have q := E.cls; (repeat obtain ⟨_, _, q⟩ := q); clear q
   by_cases hu0 : 0 < u
   ·have hn := Aside0.mk (INV.out.next hu0)
    have hle := Aside0.mk INV.out.2.2
    have hdl := Aside0.mk (show d.length ≤ 3 by have := congrArg List.length INV.out.1; rw [List.length_append] at this; have := H3.out; omega)
    have hub : decide (0 < u) = true := decide_eq_true hu0
    have hub2 : decide (0 < (u : Int)) = true := decide_eq_true (by omega)
    go_wp2_with (at_builtin; refine app32 (w := wb) (v := u5) (l := d) (by rfl) (by rfl) (by rfl) (by rfl) HO.out HB.out (by have := hdl.out; omega) ?_; clear HB HO; intro v1 w1 ho hb; have HO := Aside0.mk ho; have HB := Aside0.mk hb; clear ho hb)
    go_roundg (u / 1000000000)
    case measure => exact hn.out.1
    case rel => exact ⟨_, _, of_quo hle.out, ⟨hn.out.2⟩, ⟨of_rem HO.out⟩, HB⟩
   ·have hu1 : u = 0 := by omega
    subst hu1
    replace E := E.dg (Dg.of_R HO.out)
    have hd : dg n.natAbs = d := by have := INV.out.1; rwa [dg_zero, List.append_nil] at this
    have HD := Aside0.mk hd
    clear hd
    obtain ⟨Ao, co, rfl⟩ := Kd.R_slice HO.out
    go_wp2_with (first | ((with_reducible refine gate_stored (t := 77) (by rfl) ?_); refine st_ (fun ws hs_ => ?_); replace E := Env.pt2 hs_ E; clear hs_; have q := E.cls; (repeat obtain ⟨_, _, q⟩ := q); clear q) | ((with_reducible refine gate_stored (t := 84) (by rfl) ?_); refine st_ (fun ws hs_ => ?_); replace E := Env.pt4 hs_ E; clear hs_; have q := E.cls; (repeat obtain ⟨_, _, q⟩ := q); clear q))
    refine bodyPost_ret (results_single rfl (.cell _ _ _ (0, 0) _ rfl E.blk Tryz.underlying77 rfl (by kernel_rfl) .nil)) rfl ?_
    exact ⟨E.below, RW.mk ⟨hnb.symm, by rw [HD.out]; exact E.getD⟩⟩
 ·have hnb : decide (n < 0) = false := decide_eq_false hn
  have hu : IntKind.u64.wrap n = ((n.natAbs : Nat) : Int) := by rw [u64_id (by omega) (by omega)]; omega
  clear h0 h1 hn
  go_enter Tryz.func121, Tryz.ntmps121
  go_wp2_with (first | ((with_reducible first | refine gate_box (by rfl) ?_ | refine gate_alloc (by rfl) ?_); refine bx_ E ?_; clear E; intro gb wb E; have q := E.cls; (repeat obtain ⟨_, _, q⟩ := q); clear q))
  have E0 := Aside0.mk E
  go_loopg [3, 5] n.natAbs (fun kq v3 v5 w' => ∃ (d : List Int) (u : Nat), v3 = .int .u64 (u : Int) ∧ Aside0 (OfInv n d u kq) ∧ Aside0 (Own32 wb w' v5 d) ∧ Aside0 (Below wb.heap.size wb w'))
  case atStart => exact ⟨[], _, rfl, INV0, ⟨Kd.R_nil _ _ _ _ _⟩, ⟨Below.refl _ _⟩⟩
  case round =>
   clear INV0 E
   obtain ⟨d, u, rfl, INV, HO, HB⟩ := hrel
   have E := E0.out.next HB.out
   have q := E.cls; (repeat obtain ⟨_, _, q⟩ := q); clear q
   by_cases hu0 : 0 < u
   ·have hn := Aside0.mk (INV.out.next hu0)
    have hle := Aside0.mk INV.out.2.2
    have hdl := Aside0.mk (show d.length ≤ 3 by have := congrArg List.length INV.out.1; rw [List.length_append] at this; have := H3.out; omega)
    have hub : decide (0 < u) = true := decide_eq_true hu0
    have hub2 : decide (0 < (u : Int)) = true := decide_eq_true (by omega)
    go_wp2_with (at_builtin; refine app32 (w := wb) (v := u5) (l := d) (by rfl) (by rfl) (by rfl) (by rfl) HO.out HB.out (by have := hdl.out; omega) ?_; clear HB HO; intro v1 w1 ho hb; have HO := Aside0.mk ho; have HB := Aside0.mk hb; clear ho hb)
    go_roundg (u / 1000000000)
    case measure => exact hn.out.1
    case rel => exact ⟨_, _, of_quo hle.out, ⟨hn.out.2⟩, ⟨of_rem HO.out⟩, HB⟩
   ·have hu1 : u = 0 := by omega
    subst hu1
    replace E := E.dg (Dg.of_R HO.out)
    have hd : dg n.natAbs = d := by have := INV.out.1; rwa [dg_zero, List.append_nil] at this
    have HD := Aside0.mk hd
    clear hd
    obtain ⟨Ao, co, rfl⟩ := Kd.R_slice HO.out
    go_wp2_with (first | ((with_reducible refine gate_stored (t := 77) (by rfl) ?_); refine st_ (fun ws hs_ => ?_); replace E := Env.pt2 hs_ E; clear hs_; have q := E.cls; (repeat obtain ⟨_, _, q⟩ := q); clear q) | ((with_reducible refine gate_stored (t := 84) (by rfl) ?_); refine st_ (fun ws hs_ => ?_); replace E := Env.pt4 hs_ E; clear hs_; have q := E.cls; (repeat obtain ⟨_, _, q⟩ := q); clear q))
    refine bodyPost_ret (results_single rfl (.cell _ _ _ (0, 0) _ rfl E.blk Tryz.underlying77 rfl (by kernel_rfl) .nil)) rfl ?_
    exact ⟨E.below, RW.mk ⟨hnb.symm, by rw [HD.out]; exact E.getD⟩⟩
theorem fits_of {a b : Int} (h : Fits b) (hl : a.natAbs ≤ b.natAbs) : Fits a := Nat.le_trans (len_mono hl) h
theorem natAbs_sgnd (s : Bool) {v : Int} (h : 0 ≤ v) : (sgnd s v).natAbs = v.toNat := by unfold sgnd; split <;> omega
theorem fits_quo {z z' : Int} {q r : List Int} (hf : Fits z) (hz : z' ≠ 0) (h : Lim q ∧ Lim r ∧ val (dg z.natAbs) = val q * val (dg z'.natAbs) + val r ∧ (0 ≤ val r ∧ val r < val (dg z'.natAbs))) (s : Bool) : Fits (sgnd s (val q)) := by
 obtain ⟨h1, h2, h3, h4, h5⟩ := h
 rw [val_dg] at h3 h5
 rw [val_dg] at h3
 have h6 := val_nonneg q h1
 refine fits_of hf ?_
 rw [natAbs_sgnd s h6]
 have h7 : val q * 1 ≤ val q * (z'.natAbs : Int) := Int.mul_le_mul_of_nonneg_left (by omega) h6
 omega
theorem fits_rem {z z' : Int} {q r : List Int} (hf : Fits z') (h : Lim q ∧ Lim r ∧ val (dg z.natAbs) = val q * val (dg z'.natAbs) + val r ∧ (0 ≤ val r ∧ val r < val (dg z'.natAbs))) (s : Bool) : Fits (sgnd s (val r)) := by
 obtain ⟨h1, h2, h3, h4, h5⟩ := h
 rw [val_dg] at h5
 refine fits_of hf ?_
 rw [natAbs_sgnd s h4]
 omega
theorem fits_one : Fits 1 := by
 have := fits_small (z := 1) (by decide)
 unfold Fits
 omega
theorem floor_same {z z' : Int} {q r : List Int} (h : Lim q ∧ Lim r ∧ val (dg z.natAbs) = val q * val (dg z'.natAbs) + val r ∧ (0 ≤ val r ∧ val r < val (dg z'.natAbs))) (hz : z' ≠ 0) {s s' : Bool} (hs : s = decide (z < 0)) (hs' : s' = decide (z' < 0)) (hc : s = s' ∨ val r = 0) :
  sgnd (s != s') (val q) = z.fdiv z' ∧ sgnd s (val r) = z.fmod z' := by
 obtain ⟨h1, h2, h3, h4, h5⟩ := h
 rw [val_dg, val_dg] at h3
 rw [val_dg] at h5
 rcases Int.lt_or_gt_of_ne hz with hn | hp
 ·have e2 : s' = true := by rw [hs', decide_eq_true hn]
  have := (Int.fdiv_fmod_unique' (a := z) (r := sgnd s (val r)) (q := sgnd (s != s') (val q)) hn).2
  refine (fun k => ⟨k.1.symm, k.2.symm⟩) (this ?_)
  by_cases c : z < 0
  ·have e1 : s = true := by rw [hs, decide_eq_true c]
   subst e1 e2
   have ez : (z.natAbs : Int) = -z := by omega
   have ez' : (z'.natAbs : Int) = -z' := by omega
   rw [ez, ez', Int.mul_neg] at h3
   simp only [sgnd, bne_self_eq_false, if_true]
   rw [if_neg (by decide), Int.mul_comm]
   omega
  ·have e1 : s = false := by rw [hs, decide_eq_false c]
   subst e1 e2
   have hr : val r = 0 := by simpa using hc
   have ez : (z.natAbs : Int) = z := by omega
   have ez' : (z'.natAbs : Int) = -z' := by omega
   rw [ez, ez', Int.mul_neg] at h3
   simp only [sgnd, Bool.false_bne, if_true]
   rw [if_neg (by decide), Int.mul_neg, Int.mul_comm]
   omega
 ·have e2 : s' = false := by rw [hs', decide_eq_false (by omega)]
  have := (Int.fdiv_fmod_unique (a := z) (r := sgnd s (val r)) (q := sgnd (s != s') (val q)) hp).2
  refine (fun k => ⟨k.1.symm, k.2.symm⟩) (this ?_)
  by_cases c : z < 0
  ·have e1 : s = true := by rw [hs, decide_eq_true c]
   subst e1 e2
   have hr : val r = 0 := by simpa using hc
   have ez : (z.natAbs : Int) = -z := by omega
   have ez' : (z'.natAbs : Int) = z' := by omega
   rw [ez, ez'] at h3
   simp only [sgnd, Bool.bne_false, if_true]
   rw [Int.mul_neg, Int.mul_comm]
   omega
  ·have e1 : s = false := by rw [hs, decide_eq_false c]
   subst e1 e2
   have ez : (z.natAbs : Int) = z := by omega
   have ez' : (z'.natAbs : Int) = z' := by omega
   rw [ez, ez'] at h3
   simp only [sgnd, Bool.bne_false]
   rw [if_neg (by decide), if_neg (by decide), Int.mul_comm]
   omega
theorem floor_other {z z' : Int} {q r : List Int} (h : Lim q ∧ Lim r ∧ val (dg z.natAbs) = val q * val (dg z'.natAbs) + val r ∧ (0 ≤ val r ∧ val r < val (dg z'.natAbs))) (hz : z' ≠ 0) {s s' : Bool} (hs : s = decide (z < 0)) (hs' : s' = decide (z' < 0)) (hc : s ≠ s') (hr : val r ≠ 0) :
  sgnd (s != s') (val q) - 1 = z.fdiv z' ∧ sgnd s (val r) + z' = z.fmod z' := by
 obtain ⟨h1, h2, h3, h4, h5⟩ := h
 rw [val_dg, val_dg] at h3
 rw [val_dg] at h5
 rcases Int.lt_or_gt_of_ne hz with hn | hp
 ·have e2 : s' = true := by rw [hs', decide_eq_true hn]
  have := (Int.fdiv_fmod_unique' (a := z) (r := sgnd s (val r) + z') (q := sgnd (s != s') (val q) - 1) hn).2
  refine (fun k => ⟨k.1.symm, k.2.symm⟩) (this ?_)
  have e1 : s = false := by cases s with | false => rfl | true => exact absurd e2.symm hc
  have c : ¬ z < 0 := by rw [e1] at hs; simpa using hs.symm
  subst e1 e2
  have ez : (z.natAbs : Int) = z := by omega
  have ez' : (z'.natAbs : Int) = -z' := by omega
  rw [ez, ez', Int.mul_neg] at h3
  simp only [sgnd, Bool.false_bne, if_true]
  rw [if_neg (by decide), Int.mul_sub, Int.mul_neg, Int.mul_comm z']
  omega
 ·have e2 : s' = false := by rw [hs', decide_eq_false (by omega)]
  have := (Int.fdiv_fmod_unique (a := z) (r := sgnd s (val r) + z') (q := sgnd (s != s') (val q) - 1) hp).2
  refine (fun k => ⟨k.1.symm, k.2.symm⟩) (this ?_)
  have e1 : s = true := by cases s with | false => exact absurd e2.symm hc | true => rfl
  have c : z < 0 := by rw [e1] at hs; simpa using hs.symm
  subst e1 e2
  have ez : (z.natAbs : Int) = -z := by omega
  have ez' : (z'.natAbs : Int) = z' := by omega
  rw [ez, ez'] at h3
  simp only [sgnd, Bool.bne_false, if_true]
  rw [Int.mul_sub, Int.mul_neg, Int.mul_comm z']
  omega
theorem sgnd_zero {s : Bool} {v : Int} : sgnI (sgnd s v) = 0 ↔ v = 0 := by
 rw [sgnI_zero]
 unfold sgnd
 split <;> omega
def RWW (z z' : Int) (e : Ending) (w' : World) : Prop := ∃ b A n c b' A' n' c', e = .returned (.tuple #[.agg #[.bool b, .slice A n c], .agg #[.bool b', .slice A' n' c']]) ∧ Wh w' b (.slice A n c) z ∧ Wh w' b' (.slice A' n' c') z'
theorem RWW.mk {W : World} {b b' : Bool} {A A' : Option Addr} {n c n' c' : Nat} {z z' : Int} (h : Wh W b (.slice A n c) z) (h' : Wh W b' (.slice A' n' c') z') : RWW z z' (.returned (.tuple #[.agg #[.bool b, .slice A n c], .agg #[.bool b', .slice A' n' c']])) W := by
 exact ⟨b, A, n, c, b', A', n', c', rfl, h, h'⟩
theorem divmod_calls {W : World} {b b' : Bool} {A A' : Option Addr} {n c n' c' : Nat} {z z' : Int} (h : Wh W b (.slice A n c) z) (h' : Wh W b' (.slice A' n' c') z') (hz : z' ≠ 0) (hf : Fits z) (hf' : Fits z') :
  Calls Tryz.prog 120 #[.agg #[.bool b, .slice A n c], .agg #[.bool b', .slice A' n' c']] W fun e w' => Below W.heap.size W w' ∧ RWW (z.fdiv z') (z.fmod z') e w' := by
 have E := ((Env.start W).wh h).wh h'
 have hb := Aside0.mk h.1
 have hb' := Aside0.mk h'.1
 have HF := Aside0.mk hf
 have HF' := Aside0.mk hf'
 have HZ := Aside0.mk hz
 have HN := Aside0.mk (show dg z'.natAbs ≠ [] by intro e; have := dg_len_zero.1 (congrArg List.length e); omega)
 have v1 := Aside0.mk (val_dg z)
 have v2 := Aside0.mk (val_dg z')
 obtain rfl := h.2.C.1
 obtain rfl := h'.2.C.1
 clear h h' hf hf' hz
 cases b <;> cases b' <;>
 ·go_enter Tryz.func120, Tryz.ntmps120
  go_wp2_with (first | ((with_reducible first | refine gate_box (by rfl) ?_ | refine gate_alloc (by rfl) ?_); refine bx_ E ?_; clear E; intro gb wb E; have q := E.cls; (repeat obtain ⟨_, _, q⟩ := q); clear q) | ((with_reducible refine gate_stored (t := 77) (by rfl) ?_); refine st_ (fun ws hs_ => ?_); replace E := Env.pt2 hs_ E; clear hs_; have q := E.cls; (repeat obtain ⟨_, _, q⟩ := q); clear q) | ((with_reducible refine gate_stored (t := 84) (by rfl) ?_); refine st_ (fun ws hs_ => ?_); replace E := Env.pt4 hs_ E; clear hs_; have q := E.cls; (repeat obtain ⟨_, _, q⟩ := q); clear q) | (go_at_call 170; refine env_call E (parts_calls E.getW.2 E.getW.2 (dg_canon _) (dg_canon _) HN.out HF.out) ?_; clear E; rintro e wc E ⟨q, r, hq_, Ar, cr, Ar2, cr2, rfl, hw_, hw2_⟩; replace E := (E.dg hw_).dg hw2_; clear hw_ hw2_; have QQ := Aside0.mk hq_; clear hq_; have q := E.cls; (repeat obtain ⟨_, _, q⟩ := q); clear q) | (go_at_call 84; refine env_call E (sign_calls E.getW) ?_; clear E; rintro e wc E rfl; have q := E.cls; (repeat obtain ⟨_, _, q⟩ := q); clear q) | (refine start_ (id := 2) (n := 13) (S := fun w' => Cls w' _) (ds := [11, 12]) (bz 13 0) (by kernel_rfl) rfl rfl E.draw.cls (fun hH => ?_); replace E := E.draw; refine pu_ 0 (some 16) (bz 13 1) ?_; refine pu_ 2 (some 18) (bz 13 5) ?_; refine pu_ 5 (some 21) (bz 13 37) ?_; refine pu_ 7 (some 23) (bz 13 165) ?_; refine pu_ 9 (some 25) (bz 13 677) ?_; refine ta_ 1 (some 17) (bz 13 679) hH ?_; refine ta_ 3 (some 19) (bz 13 687) hH ?_; refine pu_ 4 (some 20) (bz 13 703) ?_; refine ta_ 8 (some 24) (bz 13 959) hH ?_; refine on_ 6 (some 22) (bz 13 1023) (fun K hK => ?_); refine gs_ Tryz.func153 ?_; refine env_call E (signed_calls E.getD (by first | exact QQ.out.1 | exact QQ.out.2.1)) ?_; clear E; rintro e wc E ⟨br, Ar, nr, cr, rfl, hw_⟩; replace E := E.wh hw_; clear hw_; refine ⟨_, rfl, ?_⟩; refine hK.out _ _ E.cls (fun hH => ?_); clear hK K; refine nm_ (some 22) ?_; refine on_ 10 (some 26) (bz 13 2047) (fun K hK => ?_); refine gs_ Tryz.func153 ?_; refine env_call E (signed_calls E.getD (by first | exact QQ.out.1 | exact QQ.out.2.1)) ?_; clear E; rintro e wc E ⟨br, Ar, nr, cr, rfl, hw_⟩; replace E := E.wh hw_; clear hw_; refine ⟨_, rfl, ?_⟩; refine hK.out _ _ E.cls (fun hH => ?_); clear hK K; refine nm_ (some 26) ?_; refine la_ 11 (none) (bz 13 4095) (fun K hK => ?_); have q := E.cls; (repeat obtain ⟨_, _, q⟩ := q); clear q; refine sk_ (fun ws hs_ => ?_); replace E := Env.pt2 hs_ E; clear hs_; refine hK.out _ _ ?_; clear hK K; have q := E.cls; (repeat obtain ⟨_, _, q⟩ := q); clear q; refine la_ 12 (none) (bz 13 8191) (fun K hK => ?_); have q := E.cls; (repeat obtain ⟨_, _, q⟩ := q); clear q; refine sk_ (fun ws hs_ => ?_); replace E := Env.pt2 hs_ E; clear hs_; refine hK.out _ _ ?_; clear hK K; have q := E.cls; (repeat obtain ⟨_, _, q⟩ := q); clear q; refine done_ (by kernel_rfl) ?_; all_goals (have q := E.cls; (repeat obtain ⟨_, _, q⟩ := q); clear q)) | (refine start_ (id := 4) (n := 8) (S := fun w' => Cls w' _) (ds := [6, 7]) (bz 8 0) (by kernel_rfl) rfl rfl E.draw.cls (fun hH => ?_); replace E := E.draw; refine ta_ 0 (some 37) (bz 8 1) hH ?_; refine ta_ 3 (some 40) (bz 8 9) hH ?_; refine ta_ 4 (some 41) (bz 8 25) hH ?_; refine on_ 1 (some 38) (bz 8 27) (fun K hK => ?_); refine gs_ Tryz.func121 ?_; refine env_call E (of_calls (n := 1) (by omega) (by omega)) ?_; clear E; rintro e wc E ⟨br, Ar, nr, cr, rfl, hw_⟩; replace E := E.wh hw_; clear hw_; refine ⟨_, rfl, ?_⟩; refine hK.out _ _ E.cls (fun hH => ?_); clear hK K; refine nm_ (some 38) ?_; refine on_ 2 (some 39) (bz 8 31) (fun K hK => ?_); refine gs_ Tryz.func169 ?_; refine env_call E (sub_calls E.getW E.getW (fits_quo HF.out HZ.out QQ.out _) fits_one) ?_; clear E; rintro e wc E ⟨br, Ar, nr, cr, rfl, hw_⟩; replace E := E.wh hw_; clear hw_; refine ⟨_, rfl, ?_⟩; refine hK.out _ _ E.cls (fun hH => ?_); clear hK K; refine nm_ (some 39) ?_; refine on_ 5 (some 42) (bz 8 63) (fun K hK => ?_); refine gs_ Tryz.func123 ?_; refine env_call E (add_calls E.getW E.getW (fits_rem HF'.out QQ.out _) HF'.out) ?_; clear E; rintro e wc E ⟨br, Ar, nr, cr, rfl, hw_⟩; replace E := E.wh hw_; clear hw_; refine ⟨_, rfl, ?_⟩; refine hK.out _ _ E.cls (fun hH => ?_); clear hK K; refine nm_ (some 42) ?_; refine la_ 6 (none) (bz 8 127) (fun K hK => ?_); have q := E.cls; (repeat obtain ⟨_, _, q⟩ := q); clear q; refine sk_ (fun ws hs_ => ?_); replace E := Env.pt2 hs_ E; clear hs_; refine hK.out _ _ ?_; clear hK K; have q := E.cls; (repeat obtain ⟨_, _, q⟩ := q); clear q; refine la_ 7 (none) (bz 8 255) (fun K hK => ?_); have q := E.cls; (repeat obtain ⟨_, _, q⟩ := q); clear q; refine sk_ (fun ws hs_ => ?_); replace E := Env.pt2 hs_ E; clear hs_; refine hK.out _ _ ?_; clear hK K; have q := E.cls; (repeat obtain ⟨_, _, q⟩ := q); clear q; refine done_ (by kernel_rfl) ?_; all_goals (have q := E.cls; (repeat obtain ⟨_, _, q⟩ := q); clear q)) | (refine start_ (id := 5) (n := 4) (S := fun w' => Cls w' _) (ds := []) (bz 4 0) (by kernel_rfl) rfl rfl E.draw.cls (fun hH => ?_); replace E := E.draw; refine ta_ 0 (some 43) (bz 4 1) hH ?_; refine ta_ 1 (some 44) (bz 4 3) hH ?_; refine on_ 2 (none) (bz 4 7) (fun K hK => ?_); have q := E.cls; (repeat obtain ⟨_, _, q⟩ := q); clear q; refine sk_ (fun ws hs_ => ?_); replace E := Env.pt2 hs_ E; clear hs_; refine hK.out _ _ E.cls (fun hH => ?_); clear hK K; have q := E.cls; (repeat obtain ⟨_, _, q⟩ := q); clear q; refine on_ 3 (none) (bz 4 15) (fun K hK => ?_); have q := E.cls; (repeat obtain ⟨_, _, q⟩ := q); clear q; refine sk_ (fun ws hs_ => ?_); replace E := Env.pt2 hs_ E; clear hs_; refine hK.out _ _ E.cls (fun hH => ?_); clear hK K; have q := E.cls; (repeat obtain ⟨_, _, q⟩ := q); clear q; refine done_ (by kernel_rfl) ?_; all_goals (have q := E.cls; (repeat obtain ⟨_, _, q⟩ := q); clear q)))
  all_goals refine bodyPost_ret (results_list (rs := [.cell _ 77, .cell _ 77]) rfl (by simp) (.cell _ _ _ (0, 0) _ rfl E.blk Tryz.underlying77 rfl (by kernel_rfl) (.cell _ _ _ (0, 0) _ rfl E.blk Tryz.underlying77 rfl (by kernel_rfl) .nil))) rfl ?_
  all_goals refine ⟨E.below, ?_⟩
  all_goals first | (have hf := floor_same QQ.out HZ.out hb.out hb'.out (.inl rfl); refine RWW.mk (E.getW.eq hf.1) (E.getW.eq hf.2); done) | (have hf := floor_same QQ.out HZ.out hb.out hb'.out (.inr (sgnd_zero.1 (by assumption))); refine RWW.mk (E.getW.eq hf.1) (E.getW.eq hf.2); done) | (have hf := floor_other QQ.out HZ.out hb.out hb'.out (by decide) (mt sgnd_zero.2 (by assumption)); refine RWW.mk (E.getW.eq hf.1) (E.getW.eq hf.2); done)
def GcdInv (g : Nat) (x y : List Int) (kq : Nat) : Prop := Can x ∧ Can y ∧ (x.length ≤ 20000000000000 ∧ y.length ≤ 20000000000000) ∧ Nat.gcd (val x).toNat (val y).toNat = g ∧ kq = (val y).toNat
theorem GcdInv.next {g : Nat} {x y q r : List Int} {kq : Nat} (h : GcdInv g x y kq) (hq : Lim q ∧ Lim r ∧ val x = val q * val y + val r ∧ (0 ≤ val r ∧ val r < val y)) : (val (tr r)).toNat < kq ∧ GcdInv g y (tr r) (val (tr r)).toNat := by
 obtain ⟨h1, h2, ⟨h3, h4⟩, h5, h6⟩ := h
 obtain ⟨q1, q2, q3, q4, q5⟩ := hq
 have hc := tr_can r q2
 have hv := tr_val r
 have hl : (tr r).length ≤ y.length := by
  refine Nat.le_of_not_lt fun hl => ?_
  have := can_len_lt h2 hc hl
  omega
 refine ⟨by omega, h2, hc, ⟨h4, by omega⟩, ?_, rfl⟩
 rw [← h5, hv]
 have q0 := val_nonneg q q1
 obtain ⟨a, ha⟩ := Int.eq_ofNat_of_zero_le q0
 obtain ⟨b, hb⟩ := Int.eq_ofNat_of_zero_le (show 0 ≤ val y by omega)
 obtain ⟨c, hc'⟩ := Int.eq_ofNat_of_zero_le q4
 have e : (val x).toNat = a * b + c := by
  rw [q3, ha, hb, hc', ← Int.natCast_mul]
  omega
 rw [e, hb, hc', Int.toNat_natCast, Int.toNat_natCast, Nat.gcd_comm (a * b + c), Nat.add_comm, Nat.gcd_add_mul_right_right]
theorem word_le {x : List Int} (h : Lim x) (hx : x.length ≤ 2) : 0 ≤ val x ∧ val x ≤ 999999999999999999 := by
 have h1 := val_lt x h
 have h2 : (1000000000 : Int) ^ x.length ≤ 1000000000 ^ 2 := pow_mono hx
 have h3 := val_nonneg x h
 rw [show (1000000000 : Int) ^ 2 = 1000000000000000000 by decide] at h2
 omega
theorem GcdInv.small {g : Nat} {x y : List Int} {kq : Nat} (h : GcdInv g x y kq) (hy2 : y.length ≤ 2) (hy : y ≠ []) : (g : Int) ≤ 999999999999999999 := by
 have h0 := word_le h.2.1.1 hy2
 have hp := can_pos y h.2.1 hy
 have h1 := Nat.gcd_le_right (val x).toNat (show 0 < (val y).toNat by omega)
 have := h.2.2.2.1
 omega
theorem gcd_rows {W : World} {b b' : Bool} {A A' : Option Addr} {c c' : Nat} {p q : List Int} {g : Nat} (dx : Dg W (.slice A p.length c) p) (dy : Dg W (.slice A' q.length c') q) (INV0 : GcdInv g p q (val q).toNat) :
  Calls Tryz.prog 155 #[.agg #[.bool b, .slice A p.length c], .agg #[.bool b', .slice A' q.length c']] W fun e w' => Below W.heap.size W w' ∧ RW g e w' := by
 have E := ((Env.start W).dg dx).dg dy
 replace INV0 := Aside0.mk INV0
 clear dx dy
 go_enter Tryz.func155, Tryz.ntmps155
 go_wp2_with (first | ((with_reducible first | refine gate_box (by rfl) ?_ | refine gate_alloc (by rfl) ?_); refine bx_ E ?_; clear E; intro gb wb E; have q := E.cls; (repeat obtain ⟨_, _, q⟩ := q); clear q) | ((with_reducible refine gate_stored (t := 77) (by rfl) ?_); refine st_ (fun ws hs_ => ?_); replace E := Env.pt2 hs_ E; clear hs_; have q := E.cls; (repeat obtain ⟨_, _, q⟩ := q); clear q) | ((with_reducible refine gate_stored (t := 84) (by rfl) ?_); refine st_ (fun ws hs_ => ?_); replace E := Env.pt4 hs_ E; clear hs_; have q := E.cls; (repeat obtain ⟨_, _, q⟩ := q); clear q) | (refine start_ (id := 1) (n := 6) (S := fun w' => Cls w' _) (ds := []) (bz 6 0) (by kernel_rfl) rfl rfl E.draw.cls (fun hH => ?_); replace E := E.draw; refine pu_ 0 (some 9) (bz 6 1) ?_; refine pu_ 2 (some 11) (bz 6 5) ?_; refine ta_ 1 (some 10) (bz 6 7) hH ?_; refine pu_ 4 (some 5) (bz 6 23) ?_; refine ta_ 3 (some 12) (bz 6 31) hH ?_; refine pu_ 5 (some 6) (bz 6 63) ?_; refine done_ (by kernel_rfl) ?_; all_goals (have q := E.cls; (repeat obtain ⟨_, _, q⟩ := q); clear q)))
 have E0 := Aside0.mk E
 obtain ⟨wl, hwl⟩ : ∃ wl, wl = wb.drew := ⟨_, rfl⟩
 rw [← hwl] at E0 E ⊢
 clear hwl
 have dx := Aside0.mk (E.getD (v := .slice A p.length c) (l := p))
 have dy := Aside0.mk (E.getD (v := .slice A' q.length c') (l := q))
 go_loopg [5, 6] (val q).toNat (fun kq v5 v6 w' => ∃ (x y : List Int) (Ax Ay : Option Addr) (cx cy : Nat), v5 = .slice Ax x.length cx ∧ v6 = .slice Ay y.length cy ∧ Aside0 (GcdInv g x y kq) ∧ Aside0 (Dg w' (.slice Ax x.length cx) x) ∧ Aside0 (Dg w' (.slice Ay y.length cy) y) ∧ Aside0 (Below wl.heap.size wl w'))
 case atStart => exact ⟨p, q, A, A', c, c', rfl, rfl, INV0, dx, dy, ⟨Below.refl _ _⟩⟩
 case round =>
  clear INV0 dx dy E
  obtain ⟨x, y, Ax, Ay, cx, cy, rfl, rfl, INV, dx, dy, HB⟩ := hrel
  by_cases hy : y = []
  ·have E := E0.out.next HB.out
   replace E := E.dg dx.out
   have q := E.cls; (repeat obtain ⟨_, _, q⟩ := q); clear q
   subst hy
   go_wp2_with (first | ((with_reducible refine gate_stored (t := 77) (by rfl) ?_); refine st_ (fun ws hs_ => ?_); replace E := Env.pt2 hs_ E; clear hs_; have q := E.cls; (repeat obtain ⟨_, _, q⟩ := q); clear q) | ((with_reducible refine gate_stored (t := 84) (by rfl) ?_); refine st_ (fun ws hs_ => ?_); replace E := Env.pt4 hs_ E; clear hs_; have q := E.cls; (repeat obtain ⟨_, _, q⟩ := q); clear q))
   refine bodyPost_ret (results_single rfl (.cell _ _ _ (0, 0) _ rfl E.blk Tryz.underlying77 rfl (by kernel_rfl) .nil)) rfl ?_
   have hv : val x = (g : Int) := by
    have h1 := INV.out.2.2.2.1
    have h2 := val_nonneg x INV.out.1.1
    have e : val ([] : List Int) = 0 := rfl
    rw [e, Int.toNat_zero, Nat.gcd_zero_right] at h1
    omega
   have hx : dg (g : Int).natAbs = x := by
    have := dg_of INV.out.1
    rw [hv] at this
    exact this
   exact ⟨E.below, RW.mk ⟨(decide_eq_false (by omega)).symm, by rw [hx]; exact E.getD⟩⟩
  ·have hyl : 0 < y.length := by
    rcases y with _ | ⟨a, l⟩
    ·exact absurd rfl hy
    ·simp
   have hyb : decide (0 < y.length) = true := decide_eq_true hyl
   have HY := Aside0.mk hy
   clear hy
   by_cases hs : x.length ≤ 2 ∧ y.length ≤ 2
   ·have E := ((E0.out.next HB.out).dg dx.out).dg dy.out
    have q := E.cls; (repeat obtain ⟨_, _, q⟩ := q); clear q
    have HS := Aside0.mk hs
    obtain ⟨s1, s2⟩ := hs
    have wx := Aside0.mk (word_le INV.out.1.1 s1)
    have wy := Aside0.mk (word_le INV.out.2.1.1 s2)
    have hg : Nat.gcd (val x).toNat (val y).toNat = g := INV.out.2.2.2.1
    have HG := Aside0.mk (INV.out.small s2 HY.out)
    go_wp2_with (first | ((with_reducible refine gate_stored (t := 77) (by rfl) ?_); refine st_ (fun ws hs_ => ?_); replace E := Env.pt2 hs_ E; clear hs_; have q := E.cls; (repeat obtain ⟨_, _, q⟩ := q); clear q) | ((with_reducible refine gate_stored (t := 84) (by rfl) ?_); refine st_ (fun ws hs_ => ?_); replace E := Env.pt4 hs_ E; clear hs_; have q := E.cls; (repeat obtain ⟨_, _, q⟩ := q); clear q) | (go_at_call 187; refine env_call E (word_calls E.getD (by first | exact INV.out.1.1 | exact INV.out.2.1.1) (by first | exact HS.out.1 | exact HS.out.2)) ?_; clear E; rintro e wc E rfl; have q := E.cls; (repeat obtain ⟨_, _, q⟩ := q); clear q) | (go_at_call 186; refine env_call E (small_calls wx.out.1 wy.out.1) ?_; clear E; rintro e wc E rfl; have q := E.cls; (repeat obtain ⟨_, _, q⟩ := q); clear q) | (go_at_call 121; refine env_call E (of_calls (n := (g : Int)) (by omega) (by have := HG.out; omega)) ?_; clear E; rintro e wc E ⟨br, Ar, nr, cr, rfl, hw_⟩; replace E := E.wh hw_; clear hw_; have q := E.cls; (repeat obtain ⟨_, _, q⟩ := q); clear q))
    refine bodyPost_ret (results_single rfl (.cell _ _ _ (0, 0) _ rfl E.blk Tryz.underlying77 rfl (by kernel_rfl) .nil)) rfl ?_
    exact ⟨E.below, RW.mk E.getW⟩
   ·have E := (((Env.start wl).next HB.out).dg dx.out).dg dy.out
    have HS := Aside0.mk hs
    clear hs
    go_wp2_with (first | (go_at_call 170; refine env_call E (parts_calls E.getD E.getD INV.out.1 INV.out.2.1 HY.out INV.out.2.2.1.1) ?_; clear E; rintro e wc E ⟨q, r, hq_, Ar, cr, Ar2, cr2, rfl, hw_, hw2_⟩; replace E := (E.dg hw_).dg hw2_; clear hw_ hw2_; have QQ := Aside0.mk hq_; clear hq_; have q := E.cls; (repeat obtain ⟨_, _, q⟩ := q); clear q) | (go_at_call 185; refine env_call E (trim_calls E.getD) ?_; clear E; rintro e wc E ⟨Ar, cr, rfl, hw_⟩; replace E := E.dg hw_; clear hw_; have q := E.cls; (repeat obtain ⟨_, _, q⟩ := q); clear q))
    all_goals try (exfalso; have := HS.out; omega)
    all_goals
     have hn := INV.out.next QQ.out
     go_roundg (val (tr r)).toNat
     case measure => exact hn.1
     case rel => exact ⟨_, _, _, _, _, _, rfl, rfl, ⟨hn.2⟩, ⟨E.getD⟩, ⟨E.getD⟩, ⟨E.below⟩⟩
theorem gcd_calls {W : World} {b b' : Bool} {A A' : Option Addr} {n c n' c' : Nat} {z z' : Int} (h : Wh W b (.slice A n c) z) (h' : Wh W b' (.slice A' n' c') z') (hf : Fits z) (hf' : Fits z') :
  Calls Tryz.prog 155 #[.agg #[.bool b, .slice A n c], .agg #[.bool b', .slice A' n' c']] W fun e w' => Below W.heap.size W w' ∧ RW (z.gcd z') e w' := by
 have dx := h.2
 have dy := h'.2
 obtain rfl := h.2.C.1
 obtain rfl := h'.2.C.1
 exact gcd_rows dx dy ⟨dg_canon z, dg_canon z', ⟨hf, hf'⟩, by rw [dg_toNat, dg_toNat]; rfl, rfl⟩
end Go.Proofs.YtfmcgammhfdfnaaGreatDoor.PRatio

