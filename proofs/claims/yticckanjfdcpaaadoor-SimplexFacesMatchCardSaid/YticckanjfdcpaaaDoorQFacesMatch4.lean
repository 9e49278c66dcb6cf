/- Go functions as plain Lean functions, each with a proof that the Go code computes just that, and facts on them; conditions: those that each theorem states. -/
import Derived.Test.YticckanjfdcpaaaDoorQFacesMatch3
namespace Go.Proofs.YticckanjfdcpaaaDoor.PSimplex
open Go.RowKit Go.Proofs.YticckanjfdcpaaaDoorW.PrintWords Go.Proofs.YticckanjfdcpaaaDoorW.PrintLast Go.Proofs.YticckanjfdcpaaaDoorW.PrintMore
attribute [local go_sem] max2_int min2_int max_two min_two max_three min_three max_four min_four   -- for this text's walks alone
set_option linter.unusedVariables false
set_option linter.unusedSimpArgs false

theorem has_cl (k : Nat) (g : Nat) (A1 : Option Addr) (c1 : Nat) (l1 : List Int) (a0 : Int) (b : Bool) (w : World) (hr : Kd.C (Kd.int .i64) w A1 l1.length l1) (hc : l1.length ≤ c1)
    (hp : w.cell? ⟨g, 0, none⟩ = some (.slice A1 l1.length c1)) (h : api_Simplex_int_49.f k l1 a0 = some b) :
    Calls Tryd.prog 48 #[.int .i64 a0, .pointer (some ⟨g, 0, none⟩)] w fun e w' => e = .returned (.bool (!b)) ∧ Drawn0 w w' := by
  go_enter Tryd.func48, Tryd.ntmps48
  go_wp2_with (first | ((with_reducible refine gate_callee (f := 49) rfl ?_); refine goesL_ (some 6) rfl rfl Tryd.func49 (by kernel_rfl) rfl #[.slice A1 l1.length c1, .int .i64 a0] rfl (by (try simp only [List.map_toArray, List.map_cons, List.map_nil]); first | done | rfl) ?_; (with_reducible refine (api_Simplex_int_49.calls k _ _ l1 a0 b _ ?side1 ?side2 h).mono ?_); (case side1 => exact hr); (case side2 => exact hc); rintro e w' ⟨rfl, ⟨nd, rfl⟩⟩; refine ⟨_, rfl, ?_⟩))
  go_ret
  exact ⟨by first | rfl | (simp; done) | (simp [*]; done), by repeat (first | exact Drawn0.refl _ | apply Drawn0.step)⟩

def has_ix.l0 : Nat → List Int → List Int → Int → Int → Option (Int)
  | 0, _, _, _, _ => none
  | k + 1, x0, x1, x7, x8 => if x8 < x7 then (if 0 ≤ x8 then (if x8 < (x0.length : Int) then ((api_Simplex_int_49.f k x1 (rd x0 x8)).bind fun t => (if t = true then (has_ix.l0 k x0 x1 x7 (wrap64 (x8 + 1))) else (some x8))) else (none)) else (none)) else (some (-1))
theorem has_ix.mono_l : ∀ k, (∀ y0 y1 y2 y3, LeO (has_ix.l0 k y0 y1 y2 y3) (has_ix.l0 (k + 1) y0 y1 y2 y3))
  | 0 => fun _ _ _ _ r h => by simp [has_ix.l0] at h
  | k + 1 => by
    have ih0 := has_ix.mono_l k
    intro y0 y1 y2 y3
    unfold has_ix.l0
    repeat' first
      | (with_reducible exact ih0 _ _ _ _)
      | (with_reducible exact api_Simplex_int_49.mono _ _ _)
      | (with_reducible exact LeO.refl _)
      | (with_reducible exact LeO.none _)
      | (with_reducible refine LeO.ite ?_ ?_)
      | (with_reducible refine LeO.bind ?_ (fun _ => ?_))
set_option maxHeartbeats 8000000 in
set_option maxRecDepth 100000 in
theorem has_ix.calls (k : Nat) (g : Nat) (A0 : Option Addr) (c0 : Nat) (l0 : List Int) (A1 : Option Addr) (c1 : Nat) (l1 : List Int) (r : Int) (w : World) (hr0 : Kd.C (Kd.int .i64) w A0 l0.length l0) (hc0 : l0.length ≤ c0)
    (hr1 : Kd.C (Kd.int .i64) w A1 l1.length l1) (hc1 : l1.length ≤ c1) (hp : w.cell? ⟨g, 0, none⟩ = some (.slice A1 l1.length c1)) (h : has_ix.l0 k l0 l1 (l0.length : Int) 0 = some r) :
    Calls Tryd.prog 63 #[.slice A0 l0.length c0, .func (.func 48) #[] #[.pointer (some ⟨g, 0, none⟩)]] w fun e w' => e = .returned (.int .i64 r) ∧ Drawn0 w w' := by
  have HR0 := Aside0.mk hr0
  have HR1 := Aside0.mk hr1
  have HP := Aside0.mk hp
  have H' := Aside0.mk h
  clear h hr0 hr1 hp
  go_enter Tryd.func63, Tryd.ntmps63
  go_wp2
  go_loopg [8] k (fun kq v8 w' => ∃ (x8_1 : Int), v8 = .int .i64 x8_1 ∧ Aside0 (has_ix.l0 kq l0 l1 (l0.length : Int) x8_1 = some r) ∧ Aside0 (kq ≤ k) ∧ Drawn0 w w')
  case atStart => exact ⟨(0), (by first | rfl | (simp; done) | (simp [*]; done)), H', ⟨Nat.le_refl _⟩, by repeat (first | exact Drawn0.refl _ | apply Drawn0.step)⟩
  case round =>
    clear H'
    obtain ⟨x8_1, rfl, HA, HK1, ⟨m1, rfl⟩⟩ := hrel
    cases gk with
    | zero => exact absurd HA.out (by simp [has_ix.l0])
    | succ k1 =>
      have H := HA.out
      clear HA
      simp only [has_ix.l0] at H
      by_cases c3 : x8_1 < (l0.length : Int)
      · rw [if_pos c3] at H
        have c3b0 : decide (x8_1 < (l0.length : Int)) = true := decide_eq_true c3
        by_cases c4 : 0 ≤ x8_1
        · rw [if_pos c4, if_pos c3] at H
          obtain ⟨ad244, e244, hx244_0⟩ := Kd.at_int HR0.out x8_1 c4 c3
          cases e244
          have p244 := eq_true c4
          have q244 := eq_true c3
          obtain ⟨t, ht, H⟩ := Option.bind_eq_some_iff.mp H
          replace H : (if t = true then (has_ix.l0 k1 l0 l1 (l0.length : Int) (wrap64 (x8_1 + 1))) else (some x8_1)) = some r := H
          cases t with
          | false =>
            obtain rfl := Option.some.inj H
            go_wp2_with (first | ((with_reducible refine gate_valcall (x := .tmp 11) rfl ?_); refine goesV_ (some 16) rfl rfl (f := 48) (cap := #[.pointer (some ⟨g, 0, none⟩)]) Tryd.func48 (by kernel_rfl) rfl #[.int .i64 (rd l0 x8_1)] rfl rfl (by (try simp only [List.map_toArray, List.map_cons, List.map_nil]); first | done | rfl) ?_; (refine (has_cl k1 g A1 c1 l1 (rd l0 x8_1) false _ ?side1 hc1 ?side2 ht).mono ?_); (case side1 => repeat (first | exact HR1.out | (with_reducible refine Kd.C_alloc ?_ _) | (with_reducible refine Kd.C_drewN ?_ _) | (with_reducible refine Kd.C_drew ?_))); (case side2 => exact HP.out); rintro e w' ⟨rfl, ⟨nd, rfl⟩⟩; refine ⟨_, rfl, ?_⟩))
            go_ret
            exact ⟨by first | rfl | (simp; done) | (simp [*]; done), by repeat (first | exact Drawn0.refl _ | apply Drawn0.step)⟩
          | true =>
            have H' := Aside0.mk H
            clear H
            go_wp2_with (first | ((with_reducible refine gate_valcall (x := .tmp 11) rfl ?_); refine goesV_ (some 16) rfl rfl (f := 48) (cap := #[.pointer (some ⟨g, 0, none⟩)]) Tryd.func48 (by kernel_rfl) rfl #[.int .i64 (rd l0 x8_1)] rfl rfl (by (try simp only [List.map_toArray, List.map_cons, List.map_nil]); first | done | rfl) ?_; (refine (has_cl k1 g A1 c1 l1 (rd l0 x8_1) true _ ?side1 hc1 ?side2 ht).mono ?_); (case side1 => repeat (first | exact HR1.out | (with_reducible refine Kd.C_alloc ?_ _) | (with_reducible refine Kd.C_drewN ?_ _) | (with_reducible refine Kd.C_drew ?_))); (case side2 => exact HP.out); rintro e w' ⟨rfl, ⟨nd, rfl⟩⟩; refine ⟨_, rfl, ?_⟩))
            go_roundg k1
            case measure => have := HK1.out; omega
            case rel => exact ⟨(wrap64 (x8_1 + 1)), (by first | rfl | (simp; done) | (simp [*]; done)), H', ⟨by have := HK1.out; omega⟩, by repeat (first | exact Drawn0.refl _ | apply Drawn0.step)⟩
        · rw [if_neg c4] at H
          exact absurd H (by simp)
      · rw [if_neg c3] at H
        have c3b0 : decide (x8_1 < (l0.length : Int)) = false := decide_eq_false c3
        obtain rfl := Option.some.inj H
        go_wp2
        go_ret
        exact ⟨by first | rfl | (simp; done) | (simp [*]; done), by repeat (first | exact Drawn0.refl _ | apply Drawn0.step)⟩

def simplex_Has.f (k : Nat) (l0 : List Int) (l1 : List Int) : Option Bool := (has_ix.l0 k l1 l0 (l1.length : Int) 0).bind fun t => some (!(decide (t ≥ 0)))
theorem simplex_Has.mono : ∀ a0 a1 k, LeO (simplex_Has.f k a0 a1) (simplex_Has.f (k + 1) a0 a1) := by
  intro a0 a1 k
  have ih0 := has_ix.mono_l k
  unfold simplex_Has.f
  repeat' first
      | (with_reducible exact ih0 _ _ _ _)
      | (with_reducible exact LeO.refl _)
      | (with_reducible refine LeO.bind ?_ (fun _ => ?_))
theorem has_any (k : Nat) (g : Nat) (A0 : Option Addr) (c0 : Nat) (l0 : List Int) (A1 : Option Addr) (c1 : Nat) (l1 : List Int) (r : Int) (w : World) (hr0 : Kd.C (Kd.int .i64) w A0 l0.length l0) (hc0 : l0.length ≤ c0)
    (hr1 : Kd.C (Kd.int .i64) w A1 l1.length l1) (hc1 : l1.length ≤ c1) (hp : w.cell? ⟨g, 0, none⟩ = some (.slice A1 l1.length c1)) (h : has_ix.l0 k l0 l1 (l0.length : Int) 0 = some r) :
    Calls Tryd.prog 47 #[.slice A0 l0.length c0, .func (.func 48) #[] #[.pointer (some ⟨g, 0, none⟩)]] w fun e w' => e = .returned (.bool (decide (r ≥ 0))) ∧ Drawn0 w w' := by
  go_enter Tryd.func47, Tryd.ntmps47
  go_wp2_with (first | ((with_reducible refine gate_callee (f := 63) rfl ?_); refine goesL_ (some 7) rfl rfl Tryd.func63 (by kernel_rfl) rfl #[.slice A0 l0.length c0, .func (.func 48) #[] #[.pointer (some ⟨g, 0, none⟩)]] rfl (by (try simp only [List.map_toArray, List.map_cons, List.map_nil]); first | done | rfl) ?_; (with_reducible refine (has_ix.calls k g _ _ l0 _ _ l1 r _ hr0 hc0 hr1 hc1 hp h).mono ?_); rintro e w' ⟨rfl, ⟨nd, rfl⟩⟩; refine ⟨_, rfl, ?_⟩))
  go_ret
  exact ⟨by first | rfl | (simp; done) | (simp [*]; done), by repeat (first | exact Drawn0.refl _ | apply Drawn0.step)⟩
theorem simplex_Has.calls (k : Nat) (A0 : Option Addr) (c0 : Nat) (l0 : List Int) (A1 : Option Addr) (c1 : Nat) (l1 : List Int) (r : Bool) (w : World) (hr0 : Kd.C (Kd.int .i64) w A0 l0.length l0) (hc0 : l0.length ≤ c0) (hr1 : Kd.C (Kd.int .i64) w A1 l1.length l1) (hc1 : l1.length ≤ c1) (h : simplex_Has.f k l0 l1 = some r) :
    Calls Tryd.prog 23 #[.slice A0 l0.length c0, .slice A1 l1.length c1] w fun e w' => e = .returned (.bool r) ∧ Below w.heap.size w w' := by
  have hmf : ∀ (fn : Fn) (first cap : Array Value) (w : World), (Instr.makeFunc fn first cap).run Tryd.prog w = .ok (.func fn first cap) w := fun _ _ _ _ => rfl
  unfold simplex_Has.f at h
  obtain ⟨t, ht, h⟩ := Option.bind_eq_some_iff.mp h
  obtain rfl := Option.some.inj h
  go_enter Tryd.func23, Tryd.ntmps23
  go_wp2_with (first | ((with_reducible refine gate_callee (f := 47) rfl ?_); refine goesL_ (some 7) rfl rfl Tryd.func47 (by kernel_rfl) rfl #[.slice A1 l1.length c1, .func (.func 48) #[] #[.pointer (some ⟨w.heap.size, 0, none⟩)]] rfl (by (try simp only [List.map_toArray, List.map_cons, List.map_nil]); first | done | rfl) ?_; (with_reducible refine (has_any k w.heap.size A1 c1 l1 A0 c0 l0 t _ ?side1 hc1 ?side2 hc0 ?side3 ht).mono ?_); (case side1 => repeat (first | exact hr1 | (with_reducible refine Kd.C_alloc ?_ _) | (with_reducible refine Kd.C_drewN ?_ _) | (with_reducible refine Kd.C_drew ?_))); (case side2 => repeat (first | exact hr0 | (with_reducible refine Kd.C_alloc ?_ _) | (with_reducible refine Kd.C_drewN ?_ _) | (with_reducible refine Kd.C_drew ?_))); (case side3 => exact blk_cell (blk_new _ _) 0); rintro e w' ⟨rfl, ⟨nd, rfl⟩⟩; refine ⟨_, rfl, ?_⟩))
  go_ret
  exact ⟨by first | rfl | (simp; done) | (simp [*]; done), by repeat (first | (with_reducible first | exact Below.refl _ _ | apply below_alloc | apply pw_below_drewN | apply below_drew1) | exact Below.refl _ _)⟩
end Go.Proofs.YticckanjfdcpaaaDoor.PSimplex
namespace Go.Proofs.YticckanjfdcpaaaDoor.PSimplex
open Go.RowKit Go.Proofs.YticckanjfdcpaaaDoorW.PrintWords Go.Proofs.YticckanjfdcpaaaDoorW.PrintLast Go.Proofs.YticckanjfdcpaaaDoorW.PrintMore
attribute [local go_sem] max2_int min2_int max_two min_two max_three min_three max_four min_four   -- for this text's walks alone
set_option linter.unusedVariables false
set_option linter.unusedSimpArgs false

/-! ### torusref07_Has: function 26 -/
def torusref07_Has.l0 : Nat → List Int → List Int → Int → Option (Bool)
 |0, _, _, _ => none
 |k + 1, x0, x1, x5 => if x5 < (x1.length : Int) then (if 0 ≤ x5 then ((torusref07_In.f k x0 (rd x1 x5)).bind fun t409 => (if t409 = true then (torusref07_Has.l0 k x0 x1 (wrap64 (x5 + 1))) else (some false))) else (none)) else (some true)
def torusref07_Has.f (k : Nat) (l0 : List Int) (l1 : List Int) : Option (Bool) := torusref07_Has.l0 k l0 l1 0
theorem torusref07_Has.mono_l : ∀ k, (∀ y0 y1 y2, LeO (torusref07_Has.l0 k y0 y1 y2) (torusref07_Has.l0 (k + 1) y0 y1 y2))
 |0 => fun _ _ _ r h => by simp [torusref07_Has.l0] at h
 |k + 1 => by
  have ih0 := torusref07_Has.mono_l k
  ·intro y0 y1 y2
   unfold torusref07_Has.l0
   repeat' first
   |(with_reducible exact ih0 _ _ _)
   |(with_reducible exact torusref07_In.mono _ _ _)
   |(with_reducible exact LeO.refl _)
   |(with_reducible exact LeO.none _)
   |(with_reducible refine LeO.ite ?_ ?_)
   |(with_reducible refine LeO.bind ?_ (fun _ => ?_))
theorem torusref07_Has.mono : ∀ a0 a1 k, LeO (torusref07_Has.f k a0 a1) (torusref07_Has.f (k + 1) a0 a1) := by
 intro a0 a1 k
 have ih0 := torusref07_Has.mono_l k
 unfold torusref07_Has.f
 repeat' first
   |(with_reducible exact ih0 _ _ _)
   |(with_reducible exact torusref07_In.mono _ _ _)
   |(with_reducible exact LeO.refl _)
   |(with_reducible exact LeO.none _)
   |(with_reducible refine LeO.ite ?_ ?_)
   |(with_reducible refine LeO.bind ?_ (fun _ => ?_))
set_option maxHeartbeats 8000000 in
set_option maxRecDepth 100000 in
theorem torusref07_Has.calls (k : Nat) (A0 : Option Addr) (c0 : Nat) (l0 : List Int) (A1 : Option Addr) (c1 : Nat) (l1 : List Int) (r : Bool) (w : World) (hr0 : Kd.C (Kd.int .i64) w A0 l0.length l0) (hc0 : l0.length ≤ c0) (hr1 : Kd.C (Kd.int .i64) w A1 l1.length l1) (hc1 : l1.length ≤ c1) (h : torusref07_Has.f k l0 l1 = some r) :
  Calls Tryd.prog 26 #[.slice A0 l0.length c0, .slice A1 l1.length c1] w fun e w' => e = .returned (.bool r) ∧ Drawn0 w w' := by
 have HR0 := Aside0.mk hr0
 have HC0 := Aside0.mk hc0
 clear hr0 hc0
 have HR1 := Aside0.mk hr1
 have HC1 := Aside0.mk hc1
 clear hr1 hc1
 have H : (torusref07_Has.l0 k l0 l1 0) = some r := h
 clear h
 have H' := Aside0.mk H
 clear H
 go_enter Tryd.func26, Tryd.ntmps26
 go_wp2
 go_loopg [5] k (fun kq v5 w' => ∃ (x5_1 : Int), v5 = .int .i64 x5_1 ∧ Aside0 (torusref07_Has.l0 kq l0 l1 x5_1 = some r) ∧ Aside0 (kq ≤ k) ∧ Drawn0 w w')
 case atStart => exact ⟨(0), sd_, H', ⟨Nat.le_refl _⟩, dr_⟩
 case round =>
  clear H'
  try clear c1
  try clear c2
  try clear p2
  obtain ⟨x5_1, rfl, HA, HK1, ⟨m1, rfl⟩⟩ := hrel
  cases gk with
  |zero => exact absurd HA.out (by simp [torusref07_Has.l0])
  |succ k1 =>
   have H := HA.out
   clear HA
   simp only [torusref07_Has.l0] at H
   by_cases c3 : x5_1 < (l1.length : Int)
   ·rw [if_pos c3] at H
    have c3b0 : decide (x5_1 < (l1.length : Int)) = true := decide_eq_true c3
    clear c3
    by_cases c4 : 0 ≤ x5_1
    ·rw [if_pos c4] at H
     have c4b0 : decide (0 ≤ x5_1) = true := decide_eq_true c4
     clear c4
     replace H := Option.bind_eq_some_iff.mp H
     obtain ⟨t409, A50, H⟩ := H
     have A5 := Aside0.mk A50
     clear A50
     by_cases c6 : t409 = true
     ·subst c6
      rw [if_pos rfl] at H
      have H' := Aside0.mk H
      clear H
      have p408 : 0 ≤ (x5_1 : Int) := of_decide_eq_true as_
      have q408 : x5_1 < (l1.length : Int) := of_decide_eq_true as_
      obtain ⟨ad408, e408, hx408_0⟩ := Kd.at_int HR1.out x5_1 p408 q408
      cases e408
      replace p408 := eq_true p408
      replace q408 := eq_true q408
      go_wp2_with (first | ((with_reducible refine gate_callee (f := 46) rfl ?_); refine goesL_ (some 17) rfl rfl Tryd.func46 (by kernel_rfl) rfl #[.slice A0 l0.length c0, .int .i64 (rd l1 x5_1)] rfl ag_ ?_; (with_reducible refine (torusref07_In.calls k1 _ _ l0 (rd l1 x5_1) true _ ?side1 ?side2 A5.out).mono ?_); (case side1 => exact cs_ HR0.out); (case side2 => exact HC0.out); rintro e w' ⟨rfl, ⟨nd, rfl⟩⟩; refine ⟨_, rfl, ?_⟩))
      go_roundg k1
      case measure => have := HK1.out; omega
      case rel => exact ⟨(wrap64 (x5_1 + 1)), sd_, H', ⟨by have := HK1.out; omega⟩, dr_⟩
     ·replace c6 := Bool.eq_false_iff.mpr c6
      subst c6
      rw [if_neg (show ¬ (false = true) by decide)] at H
      obtain rfl := Option.some.inj H
      have p408 : 0 ≤ (x5_1 : Int) := of_decide_eq_true as_
      have q408 : x5_1 < (l1.length : Int) := of_decide_eq_true as_
      obtain ⟨ad408, e408, hx408_0⟩ := Kd.at_int HR1.out x5_1 p408 q408
      cases e408
      replace p408 := eq_true p408
      replace q408 := eq_true q408
      go_wp2_with (first | ((with_reducible refine gate_callee (f := 46) rfl ?_); refine goesL_ (some 17) rfl rfl Tryd.func46 (by kernel_rfl) rfl #[.slice A0 l0.length c0, .int .i64 (rd l1 x5_1)] rfl ag_ ?_; (with_reducible refine (torusref07_In.calls k1 _ _ l0 (rd l1 x5_1) false _ ?side1 ?side2 A5.out).mono ?_); (case side1 => exact cs_ HR0.out); (case side2 => exact HC0.out); rintro e w' ⟨rfl, ⟨nd, rfl⟩⟩; refine ⟨_, rfl, ?_⟩))
      go_ret
      exact ⟨sd_, dr_⟩
    ·rw [if_neg c4] at H
     exact absurd H (by simp)
   ·rw [if_neg c3] at H
    have c3b0 : decide (x5_1 < (l1.length : Int)) = false := decide_eq_false c3
    clear c3
    obtain rfl := Option.some.inj H
    go_wp2
    go_ret
    exact ⟨sd_, dr_⟩

end Go.Proofs.YticckanjfdcpaaaDoor.PSimplex
namespace Go.Proofs.YticckanjfdcpaaaDoor.PSimplex
open Go.RowKit Go.Proofs.YticckanjfdcpaaaDoorW.PrintWords Go.Proofs.YticckanjfdcpaaaDoorW.PrintLast Go.Proofs.YticckanjfdcpaaaDoorW.PrintMore
set_option linter.unusedVariables false
set_option linter.unusedSimpArgs false

theorem con_l (l : List Int) (x : Int) (hl : l.length ≤ 1000) : ∀ (m i : Nat), m = l.length - i → i ≤ l.length →
    Ev (fun k => (api_Simplex_int_64.l0 k l x (l.length : Int) (i : Int)).bind fun t => some (decide (t ≥ 0))) (decide (x ∈ l.drop i))
  | 0, i, hm, hi => by
    rw [List.drop_of_length_le (by omega)]
    refine ev_succ ?_
    simp only [api_Simplex_int_64.l0, if_neg (show ¬ ((i : Int) < (l.length : Int)) by omega), Option.bind_some]
    exact Ev.now _
  | m + 1, i, hm, hi => by
    have ih := con_l l x hl m (i + 1) (by omega) (by omega)
    rw [drop_cons l i (by omega)]
    refine ev_succ ?_
    simp only [api_Simplex_int_64.l0, if_pos (show ((i : Int) < (l.length : Int)) by omega), if_pos (show (0 : Int) ≤ (i : Int) by omega), wrap_nat i (by omega)]
    by_cases c : x = rd l (i : Int)
    · simp only [if_pos c, Option.bind_some]
      have e : decide (x ∈ rd l (i : Int) :: l.drop (i + 1)) = decide ((i : Int) ≥ 0) := by rw [decide_eq_true (show x ∈ rd l (i : Int) :: l.drop (i + 1) by simp [c]), decide_eq_true (by omega)]
      rw [e]
      exact Ev.now _
    · simp only [if_neg c]
      have e : decide (x ∈ rd l (i : Int) :: l.drop (i + 1)) = decide (x ∈ l.drop (i + 1)) := by simp [c]
      rw [e]
      exact ih
theorem con_ev (l : List Int) (x : Int) (hl : l.length ≤ 1000) : Ev (fun k => api_Simplex_int_49.f k l x) (decide (x ∈ l)) := by
  have := con_l l x hl l.length 0 (by omega) (by omega)
  simpa [api_Simplex_int_49.f, api_Simplex_int_64.f] using this
theorem in_l (l : List Int) (x : Int) (hl : l.length ≤ 1000) : ∀ (m i : Nat), m = l.length - i → i ≤ l.length → Ev (fun k => torusref07_In.l0 k l x (i : Int)) (decide (x ∈ l.drop i))
  | 0, i, hm, hi => by
    rw [List.drop_of_length_le (by omega)]
    refine ev_succ ?_
    simp only [torusref07_In.l0, if_neg (show ¬ ((i : Int) < (l.length : Int)) by omega)]
    exact Ev.now _
  | m + 1, i, hm, hi => by
    have ih := in_l l x hl m (i + 1) (by omega) (by omega)
    rw [drop_cons l i (by omega)]
    refine ev_succ ?_
    simp only [torusref07_In.l0, if_pos (show ((i : Int) < (l.length : Int)) by omega), if_pos (show (0 : Int) ≤ (i : Int) by omega), wrap_nat i (by omega)]
    by_cases c : rd l (i : Int) = x
    · simp only [if_pos c]
      rw [decide_eq_true (show x ∈ rd l (i : Int) :: l.drop (i + 1) by simp [c])]
      exact Ev.now _
    · simp only [if_neg c]
      have e : decide (x ∈ rd l (i : Int) :: l.drop (i + 1)) = decide (x ∈ l.drop (i + 1)) := by
        have c' : ¬ (x = rd l (i : Int)) := fun h => c h.symm
        simp [c']
      rw [e]
      exact ih
theorem in_ev (l : List Int) (x : Int) (hl : l.length ≤ 1000) : Ev (fun k => torusref07_In.f k l x) (decide (x ∈ l)) := by
  have := in_l l x hl l.length 0 (by omega) (by omega)
  simpa [torusref07_In.f] using this
def hasB (a b : List Int) : Bool := b.all (fun v => decide (v ∈ a))
theorem shas_l (a b : List Int) (ha : a.length ≤ 1000) (hb : b.length ≤ 1000) : ∀ (m i : Nat), m = b.length - i → i ≤ b.length →
    Ev (fun k => (has_ix.l0 k b a (b.length : Int) (i : Int)).bind fun t => some (!(decide (t ≥ 0)))) (hasB a (b.drop i))
  | 0, i, hm, hi => by
    rw [List.drop_of_length_le (by omega)]
    refine ev_succ ?_
    simp only [has_ix.l0, if_neg (show ¬ ((i : Int) < (b.length : Int)) by omega), Option.bind_some]
    exact Ev.now _
  | m + 1, i, hm, hi => by
    have ih := shas_l a b ha hb m (i + 1) (by omega) (by omega)
    rw [drop_cons b i (by omega)]
    refine ev_succ ?_
    simp only [has_ix.l0, if_pos (show ((i : Int) < (b.length : Int)) by omega), if_pos (show (0 : Int) ≤ (i : Int) by omega), wrap_nat i (by omega), Option.bind_assoc]
    refine (ev_bind (con_ev a (rd b (i : Int)) ha)).mpr ?_
    by_cases c : rd b (i : Int) ∈ a
    · simp only [decide_eq_true c, if_true]
      have e : hasB a (rd b (i : Int) :: b.drop (i + 1)) = hasB a (b.drop (i + 1)) := by simp [hasB, c]
      rw [e]
      exact ih
    · simp only [decide_eq_false c, Bool.false_eq_true, if_false, Option.bind_some]
      have e : hasB a (rd b (i : Int) :: b.drop (i + 1)) = !(decide ((i : Int) ≥ 0)) := by simp [hasB, c]
      rw [e]
      exact Ev.now _
theorem shas_ev (a b : List Int) (ha : a.length ≤ 1000) (hb : b.length ≤ 1000) : Ev (fun k => simplex_Has.f k a b) (hasB a b) := by
  have := shas_l a b ha hb b.length 0 (by omega) (by omega)
  simpa [simplex_Has.f] using this
theorem rhas_l (a b : List Int) (ha : a.length ≤ 1000) (hb : b.length ≤ 1000) : ∀ (m i : Nat), m = b.length - i → i ≤ b.length → Ev (fun k => torusref07_Has.l0 k a b (i : Int)) (hasB a (b.drop i))
  | 0, i, hm, hi => by
    rw [List.drop_of_length_le (by omega)]
    refine ev_succ ?_
    simp only [torusref07_Has.l0, if_neg (show ¬ ((i : Int) < (b.length : Int)) by omega)]
    exact Ev.now _
  | m + 1, i, hm, hi => by
    have ih := rhas_l a b ha hb m (i + 1) (by omega) (by omega)
    rw [drop_cons b i (by omega)]
    refine ev_succ ?_
    simp only [torusref07_Has.l0, if_pos (show ((i : Int) < (b.length : Int)) by omega), if_pos (show (0 : Int) ≤ (i : Int) by omega), wrap_nat i (by omega)]
    refine (ev_bind (in_ev a (rd b (i : Int)) ha)).mpr ?_
    by_cases c : rd b (i : Int) ∈ a
    · simp only [decide_eq_true c, if_true]
      have e : hasB a (rd b (i : Int) :: b.drop (i + 1)) = hasB a (b.drop (i + 1)) := by simp [hasB, c]
      rw [e]
      exact ih
    · simp only [decide_eq_false c, Bool.false_eq_true, if_false]
      have e : hasB a (rd b (i : Int) :: b.drop (i + 1)) = false := by simp [hasB, c]
      rw [e]
      exact Ev.now _
theorem rhas_ev (a b : List Int) (ha : a.length ≤ 1000) (hb : b.length ≤ 1000) : Ev (fun k => torusref07_Has.f k a b) (hasB a b) := by
  have := rhas_l a b ha hb b.length 0 (by omega) (by omega)
  simpa [torusref07_Has.f] using this
def meetL (a b : List Int) : List Int := a.filter (fun v => decide (v ∈ b))
theorem meetL_cons (v : Int) (a b : List Int) : meetL (v :: a) b = if v ∈ b then v :: meetL a b else meetL a b := by
  by_cases c : v ∈ b <;> simp [meetL, c]
theorem meetL_len (a b : List Int) : (meetL a b).length ≤ a.length := List.length_filter_le _ _
theorem smeet_l (a b : List Int) (ha : a.length ≤ 1000) (hb : b.length ≤ 1000) : ∀ (m i : Nat) (acc : List Int), m = a.length - i → i ≤ a.length → acc.length ≤ i →
    Ev (fun k => simplex_Meet.l0 k b acc a (a.length : Int) (i : Int)) (acc ++ meetL (a.drop i) b)
  | 0, i, acc, hm, hi, hc => by
    rw [List.drop_of_length_le (by omega)]
    refine ev_succ ?_
    simp only [simplex_Meet.l0, if_neg (show ¬ ((i : Int) < (a.length : Int)) by omega), meetL, List.filter_nil, List.append_nil]
    exact Ev.now _
  | m + 1, i, acc, hm, hi, hc => by
    rw [drop_cons a i (by omega), meetL_cons]
    refine ev_succ ?_
    simp only [simplex_Meet.l0, if_pos (show ((i : Int) < (a.length : Int)) by omega), if_pos (show (0 : Int) ≤ (i : Int) by omega), wrap_nat i (by omega)]
    refine (ev_bind (con_ev b (rd a (i : Int)) hb)).mpr ?_
    by_cases c : rd a (i : Int) ∈ b
    · simp only [decide_eq_true c, if_true, if_pos c, if_pos (show acc.length < 17592186044416 by omega)]
      have := smeet_l a b ha hb m (i + 1) (acc ++ [rd a (i : Int)]) (by omega) (by omega) (by simp; omega)
      simpa using this
    · simp only [decide_eq_false c, Bool.false_eq_true, if_false, if_neg c]
      exact smeet_l a b ha hb m (i + 1) acc (by omega) (by omega) (by omega)
theorem smeet_ev (a b : List Int) (ha : a.length ≤ 1000) (hb : b.length ≤ 1000) : Ev (fun k => simplex_Meet.f k a b) (meetL a b) := by
  have := smeet_l a b ha hb a.length 0 [] (by omega) (by omega) (by simp)
  simpa [simplex_Meet.f] using this
theorem rmeet_l (a b : List Int) (ha : a.length ≤ 1000) (hb : b.length ≤ 1000) : ∀ (m i : Nat) (acc : List Int), m = a.length - i → i ≤ a.length → acc.length ≤ i →
    Ev (fun k => torusref07_Meet.l0 k a b acc (i : Int)) (acc ++ meetL (a.drop i) b)
  | 0, i, acc, hm, hi, hc => by
    rw [List.drop_of_length_le (by omega)]
    refine ev_succ ?_
    simp only [torusref07_Meet.l0, if_neg (show ¬ ((i : Int) < (a.length : Int)) by omega), meetL, List.filter_nil, List.append_nil]
    exact Ev.now _
  | m + 1, i, acc, hm, hi, hc => by
    rw [drop_cons a i (by omega), meetL_cons]
    refine ev_succ ?_
    simp only [torusref07_Meet.l0, if_pos (show ((i : Int) < (a.length : Int)) by omega), if_pos (show (0 : Int) ≤ (i : Int) by omega), wrap_nat i (by omega)]
    refine (ev_bind (in_ev b (rd a (i : Int)) hb)).mpr ?_
    by_cases c : rd a (i : Int) ∈ b
    · simp only [decide_eq_true c, if_true, if_pos c, if_pos (show acc.length < 17592186044416 by omega)]
      have := rmeet_l a b ha hb m (i + 1) (acc ++ [rd a (i : Int)]) (by omega) (by omega) (by simp; omega)
      simpa using this
    · simp only [decide_eq_false c, Bool.false_eq_true, if_false, if_neg c]
      exact rmeet_l a b ha hb m (i + 1) acc (by omega) (by omega) (by omega)
theorem rmeet_ev (a b : List Int) (ha : a.length ≤ 1000) (hb : b.length ≤ 1000) : Ev (fun k => torusref07_Meet.f k a b) (meetL a b) := by
  have := rmeet_l a b ha hb a.length 0 [] (by omega) (by omega) (by simp)
  simpa [torusref07_Meet.f] using this
end Go.Proofs.YticckanjfdcpaaaDoor.PSimplex
namespace Go.Proofs.YticckanjfdcpaaaDoor.PSimplex
open Go.RowKit Go.Proofs.YticckanjfdcpaaaDoorW.PrintWords Go.Proofs.YticckanjfdcpaaaDoorW.PrintLast Go.Proofs.YticckanjfdcpaaaDoorW.PrintMore
attribute [local go_sem] max2_int min2_int max_two min_two max_three min_three max_four min_four   -- for this text's walks alone
set_option linter.unusedVariables false
set_option linter.unusedSimpArgs false

/-! ### torusref07_Valid: function 21 -/
mutual
def torusref07_Valid.l0 : Nat → List Int → Int → Int → List Int → Int → Option (List Int)
 |0, _, _, _, _, _ => none
 |k + 1, x0, x1, x2, x7, x8 => if x8 < (x0.length : Int) then (torusref07_Valid.j1 k x0 x1 x2 x7 x8 (decide ((x7.length : Int) < x1))) else (torusref07_Valid.j1 k x0 x1 x2 x7 x8 false)
def torusref07_Valid.j1 : Nat → List Int → Int → Int → List Int → Int → Bool → Option (List Int)
 |0, _, _, _, _, _, _ => none
 |k + 1, x0, x1, x2, x7, x8, x19 => if x19 = true then (if 0 ≤ x8 then (if x8 < (x0.length : Int) then (if x2 = 0 then (none) else ((torusref07_In.f k x7 (Int.tmod (wrap64 ((Int.tmod (rd x0 x8) x2) + x2)) x2)).bind fun t343 => (if t343 = true then (torusref07_Valid.l0 k x0 x1 x2 x7 (wrap64 (x8 + 1))) else (if x7.length < 17592186044416 then (torusref07_Valid.l0 k x0 x1 x2 (x7 ++ [Int.tmod (wrap64 ((Int.tmod (rd x0 x8) x2) + x2)) x2]) (wrap64 (x8 + 1))) else (none))))) else (none)) else (none)) else (if (x7.length : Int) = 0 then (if x7.length < 17592186044416 then ((torusref07_Sorted.f k (x7 ++ [0])).bind fun bt350 => (some bt350.1)) else (none)) else ((torusref07_Sorted.f k x7).bind fun bt354 => (some bt354.1)))
end
def torusref07_Valid.f (k : Nat) (l0 : List Int) (a1 : Int) (a2 : Int) : Option (List Int) := torusref07_Valid.l0 k l0 a1 a2 ([] : List Int) 0
theorem torusref07_Valid.mono_l : ∀ k, (∀ y0 y1 y2 y3 y4, LeO (torusref07_Valid.l0 k y0 y1 y2 y3 y4) (torusref07_Valid.l0 (k + 1) y0 y1 y2 y3 y4)) ∧ (∀ y0 y1 y2 y3 y4 y5, LeO (torusref07_Valid.j1 k y0 y1 y2 y3 y4 y5) (torusref07_Valid.j1 (k + 1) y0 y1 y2 y3 y4 y5))
 |0 => ⟨fun _ _ _ _ _ r h => by simp [torusref07_Valid.l0] at h, fun _ _ _ _ _ _ r h => by simp [torusref07_Valid.j1] at h⟩
 |k + 1 => by
  obtain ⟨ih0, ih1⟩ := torusref07_Valid.mono_l k
  refine ⟨?_, ?_⟩
  ·intro y0 y1 y2 y3 y4
   unfold torusref07_Valid.l0
   repeat' first
   |(with_reducible exact ih0 _ _ _ _ _)
   |(with_reducible exact ih1 _ _ _ _ _ _)
   |(with_reducible exact torusref07_In.mono _ _ _)
   |(with_reducible exact torusref07_Sorted.mono _ _)
   |(with_reducible exact LeO.refl _)
   |(with_reducible exact LeO.none _)
   |(with_reducible refine LeO.ite ?_ ?_)
   |(with_reducible refine LeO.bind ?_ (fun _ => ?_))
  ·intro y0 y1 y2 y3 y4 y5
   unfold torusref07_Valid.j1
   repeat' first
   |(with_reducible exact ih0 _ _ _ _ _)
   |(with_reducible exact ih1 _ _ _ _ _ _)
   |(with_reducible exact torusref07_In.mono _ _ _)
   |(with_reducible exact torusref07_Sorted.mono _ _)
   |(with_reducible exact LeO.refl _)
   |(with_reducible exact LeO.none _)
   |(with_reducible refine LeO.ite ?_ ?_)
   |(with_reducible refine LeO.bind ?_ (fun _ => ?_))
theorem torusref07_Valid.mono : ∀ a0 a1 a2 k, LeO (torusref07_Valid.f k a0 a1 a2) (torusref07_Valid.f (k + 1) a0 a1 a2) := by
 intro a0 a1 a2 k
 obtain ⟨ih0, ih1⟩ := torusref07_Valid.mono_l k
 unfold torusref07_Valid.f
 repeat' first
   |(with_reducible exact ih0 _ _ _ _ _)
   |(with_reducible exact ih1 _ _ _ _ _ _)
   |(with_reducible exact torusref07_In.mono _ _ _)
   |(with_reducible exact torusref07_Sorted.mono _ _)
   |(with_reducible exact LeO.refl _)
   |(with_reducible exact LeO.none _)
   |(with_reducible refine LeO.ite ?_ ?_)
   |(with_reducible refine LeO.bind ?_ (fun _ => ?_))
set_option maxHeartbeats 8000000 in
set_option maxRecDepth 100000 in
theorem torusref07_Valid.calls (k : Nat) (A0 : Option Addr) (c0 : Nat) (l0 : List Int) (a1 : Int) (a2 : Int) (r : List Int) (w : World) (hr0 : Kd.C (Kd.int .i64) w A0 l0.length l0) (hc0 : l0.length ≤ c0) (h : torusref07_Valid.f k l0 a1 a2 = some r) :
  Calls Tryd.prog 21 #[.slice A0 l0.length c0, .int .i64 a1, .int .i64 a2] w fun e w' => ∃ v0_ : Value, e = .returned (v0_) ∧ Kd.R (Kd.int .i64) 3 w' w.heap.size (fun _ => True) v0_ r ∧ Below w.heap.size w w' := by
 have HR0 := Aside0.mk hr0
 have HC0 := Aside0.mk hc0
 clear hr0 hc0
 have HB := Aside0.mk (Below.refl w.heap.size w)
 have H : (torusref07_Valid.l0 k l0 a1 a2 ([] : List Int) 0) = some r := h
 clear h
 have H' := Aside0.mk H
 clear H
 go_enter Tryd.func21, Tryd.ntmps21
 go_wp2
 go_loopg [7, 8] k (fun kq v7 v8 w' => ∃ (x7_1 : List Int) (x8_1 : Int), v8 = .int .i64 x8_1 ∧ Aside0 (torusref07_Valid.l0 kq l0 a1 a2 x7_1 x8_1 = some r) ∧ Aside0 (kq ≤ k) ∧ Aside0 (Kd.R (Kd.int .i64) 3 w' w.heap.size (fun _ => True) v7 x7_1) ∧ Aside0 (Below w.heap.size w w'))
 case atStart => exact ⟨(([] : List Int)), (0), sd_, H', ⟨Nat.le_refl _⟩, ⟨by first | exact Kd.R_nil _ _ _ _ _ | exact Kd.N_nil _ _ _ _ _ | exact Kd.V_nil _ _ _ _ _ | exact Kd.Q_nil _ _ _ _ _ | exact Kd.S_nil _ _ _ _ _⟩, ⟨bw_⟩⟩
 case round =>
  clear H'
  try clear c2
  try clear p2
  obtain ⟨x7_1, x8_1, rfl, HA, HK1, HO_7, HB⟩ := hrel
  cases gk with
  |zero => exact absurd HA.out (by simp [torusref07_Valid.l0])
  |succ k1 =>
   have H := HA.out
   clear HA
   simp only [torusref07_Valid.l0] at H
   have HC4 := Aside0.mk H
   clear H
   go_upto_region 3 with (fail)
   go_cut [19] (fun v19 wc => ∃ (kq : Nat) (x19_3 : Bool), v19 = .bool x19_3 ∧ Aside0 (torusref07_Valid.j1 kq l0 a1 a2 x7_1 x8_1 x19_3 = some r) ∧ Aside0 (kq ≤ k1) ∧ Aside0 (Kd.R (Kd.int .i64) 3 wc w.heap.size (fun _ => True) u7 x7_1) ∧ Aside0 (Below w.heap.size w wc))
   case first =>
    have H := HC4.out
    clear HC4
    by_cases c5 : x8_1 < (l0.length : Int)
    ·rw [if_pos c5] at H
     have c5b0 : decide (x8_1 < (l0.length : Int)) = true := decide_eq_true c5
     clear c5
     (first | rw [c5b0] | (simp only [i64_w, i32_w]; rw [c5b0]) | skip)
     have H' := Aside0.mk H
     clear H
     obtain ⟨Ao6, co6, eo6⟩ := Kd.R_slice HO_7.out
     subst eo6
     go_wp2
     go_meet
     case rel => exact ⟨_, (decide ((x7_1.length : Int) < a1)), sd_, H', ⟨by have := HK1.out; first | omega | exact Nat.le_refl _⟩, ⟨rRa_ HO_7.out⟩, ⟨bw_⟩⟩
    ·rw [if_neg c5] at H
     have c5b0 : decide (x8_1 < (l0.length : Int)) = false := decide_eq_false c5
     clear c5
     (first | rw [c5b0] | (simp only [i64_w, i32_w]; rw [c5b0]) | skip)
     have H' := Aside0.mk H
     clear H
     go_wp2
     go_meet
     case rel => exact ⟨_, (false), sd_, H', ⟨by have := HK1.out; first | omega | exact Nat.le_refl _⟩, ⟨rRa_ HO_7.out⟩, ⟨bw_⟩⟩
   case rest =>
    clear HC4
    try clear c2
    try clear p2
    try clear c5
    try clear c5b0
    try clear p2
    obtain ⟨kq, x19_3, rfl, HA, HJ3, HO_7, HB⟩ := hcut
    cases kq with
    |zero => exact absurd HA.out (by simp [torusref07_Valid.j1])
    |succ kj3 =>
     have H := HA.out
     clear HA
     simp only [torusref07_Valid.j1] at H
     by_cases c7 : x19_3 = true
     ·subst c7
      rw [if_pos rfl] at H
      by_cases c8 : 0 ≤ x8_1
      ·rw [if_pos c8] at H
       have c8b0 : decide (0 ≤ x8_1) = true := decide_eq_true c8
       clear c8
       by_cases c9 : x8_1 < (l0.length : Int)
       ·rw [if_pos c9] at H
        have c9b0 : decide (x8_1 < (l0.length : Int)) = true := decide_eq_true c9
        clear c9
        by_cases c10 : a2 = 0
        ·rw [if_pos c10] at H
         exact absurd H (by simp)
        ·rw [if_neg c10] at H
         have c10b0 : (a2 == 0) = false := beq_eq_false_iff_ne.mpr c10
         have c10b1 : (a2 != 0) = true := bne_iff_ne.mpr c10
         replace H := Option.bind_eq_some_iff.mp H
         obtain ⟨t343, A110, H⟩ := H
         have A11 := Aside0.mk A110
         clear A110
         by_cases c12 : t343 = true
         ·subst c12
          rw [if_pos rfl] at H
          have H' := Aside0.mk H
          clear H
          have p342 : 0 ≤ (x8_1 : Int) := of_decide_eq_true as_
          have q342 : x8_1 < (l0.length : Int) := of_decide_eq_true as_
          obtain ⟨ad342, e342, hx342_0⟩ := Kd.at_int HR0.out x8_1 p342 q342
          cases e342
          replace hx342_0 := (HB.out.cell (World.block_lt_of_cell? w _ hx342_0)).trans hx342_0
          replace p342 := eq_true p342
          replace q342 := eq_true q342
          obtain ⟨Ao13, co13, eo13⟩ := Kd.R_slice HO_7.out
          subst eo13
          go_wp2_with (first | ((with_reducible refine gate_callee (f := 46) rfl ?_); refine goesL_ (some 34) rfl rfl Tryd.func46 (by kernel_rfl) rfl #[.slice Ao13 x7_1.length co13, .int .i64 (Int.tmod (wrap64 ((Int.tmod (rd l0 x8_1) a2) + a2)) a2)] rfl ag_ ?_; (with_reducible refine (torusref07_In.calls kj3 _ _ x7_1 (Int.tmod (wrap64 ((Int.tmod (rd l0 x8_1) a2) + a2)) a2) true _ ?side1 ?side2 A11.out).mono ?_); (case side1 => repeat (first | exact (Kd.R_reads' HO_7.out).2.2 | (with_reducible refine Kd.C_alloc ?_ _) | (with_reducible refine Kd.C_drewN ?_ _) | (with_reducible refine Kd.C_drew ?_))); (case side2 => exact (Kd.R_reads' HO_7.out).2.1); rintro e w' ⟨rfl, ⟨nd, rfl⟩⟩; refine ⟨_, rfl, ?_⟩))
          go_roundg kj3
          case measure => have := HK1.out; have := HJ3.out; omega
          case rel => exact ⟨(x7_1), (wrap64 (x8_1 + 1)), sd_, H', ⟨by have := HK1.out; have := HJ3.out; omega⟩, ⟨rRa_ HO_7.out⟩, ⟨bw_⟩⟩
         ·replace c12 := Bool.eq_false_iff.mpr c12
          subst c12
          rw [if_neg (show ¬ (false = true) by decide)] at H
          by_cases c14 : x7_1.length < 17592186044416
          ·rw [if_pos c14] at H
           have LMc14 := Aside0.mk c14
           clear c14
           obtain ⟨y344, hy344⟩ : ∃ y_ : List Int, y_ = (x7_1 ++ [Int.tmod (wrap64 ((Int.tmod (rd l0 x8_1) a2) + a2)) a2]) := ⟨_, rfl⟩
           replace H : (torusref07_Valid.l0 kj3 l0 a1 a2 y344 (wrap64 (x8_1 + 1))) = some r := by first | (rw [hy344]; with_reducible exact H) | (have H2_ := (Option.bind_some _ _).symm.trans H; rw [hy344]; with_reducible exact H2_) | (have H2_ := (Option.bind_some _ _).symm.trans H; with_reducible exact H2_) | with_reducible exact H | (rw [hy344]; exact H) | exact H
           have Ny344 := Aside0.mk hy344
           clear hy344
           have H' := Aside0.mk H
           clear H
           have p342 : 0 ≤ (x8_1 : Int) := of_decide_eq_true as_
           have q342 : x8_1 < (l0.length : Int) := of_decide_eq_true as_
           obtain ⟨ad342, e342, hx342_0⟩ := Kd.at_int HR0.out x8_1 p342 q342
           cases e342
           replace hx342_0 := (HB.out.cell (World.block_lt_of_cell? w _ hx342_0)).trans hx342_0
           replace p342 := eq_true p342
           replace q342 := eq_true q342
           obtain ⟨Ao15, co15, eo15⟩ := Kd.R_slice HO_7.out
           subst eo15
           go_wp2_with (first | ((with_reducible refine gate_callee (f := 46) rfl ?_); refine goesL_ (some 34) rfl rfl Tryd.func46 (by kernel_rfl) rfl #[.slice Ao15 x7_1.length co15, .int .i64 (Int.tmod (wrap64 ((Int.tmod (rd l0 x8_1) a2) + a2)) a2)] rfl ag_ ?_; (with_reducible refine (torusref07_In.calls kj3 _ _ x7_1 (Int.tmod (wrap64 ((Int.tmod (rd l0 x8_1) a2) + a2)) a2) false _ ?side1 ?side2 A11.out).mono ?_); (case side1 => repeat (first | exact (Kd.R_reads' HO_7.out).2.2 | (with_reducible refine Kd.C_alloc ?_ _) | (with_reducible refine Kd.C_drewN ?_ _) | (with_reducible refine Kd.C_drew ?_))); (case side2 => exact (Kd.R_reads' HO_7.out).2.1); rintro e w' ⟨rfl, ⟨nd, rfl⟩⟩; refine ⟨_, rfl, ?_⟩) | ((with_reducible refine gate_builtin (b := .append) (xs := #[.tmp 36, .tmp 38]) rfl ?_); (try (refine gate_guard (by rfl) ?_; dsimp only)); at_builtin; refine Kd.R_append (Kd.int .i64) (w0 := w) w.heap.size rfl (.tmp 36) (.tmp 38) 22 3 (.int .i64 0) 8 rfl Tryd.underlying22 info3 rfl (by decide) (by omega) (.slice Ao15 x7_1.length co15) x7_1 (Int.tmod (wrap64 ((Int.tmod (rd l0 x8_1) a2) + a2)) a2) [.int .i64 (Int.tmod (wrap64 ((Int.tmod (rd l0 x8_1) a2) + a2)) a2)] (fun _ => True) (fun _ => False) rfl rfl ?aP (fun _ hk => hk.elim) ?aF ?aO ?aB ?aS ?aL ?_; (case aP => exact rfl); (case aB => exact bw_); (case aF => exact (fun _ _ => trivial)); (case aO => exact (rRa_ HO_7.out)); (case aS => exact (below_size bw_)); (case aL => have := LMc14.out; omega); intro v345 w16 ho hb hg hat; rw [← Ny344.out] at ho; have n0_ := Aside0.mk (hb); have n1_ := Aside0.mk (ho); clear HB; clear HO_7; have HB := n0_; have HO346 := n1_; clear n0_ n1_; clear ho hb hg hat))
           go_roundg kj3
           case measure => have := HK1.out; have := HJ3.out; omega
           case rel => exact ⟨(y344), (wrap64 (x8_1 + 1)), sd_, H', ⟨by have := HK1.out; have := HJ3.out; omega⟩, ⟨rRa_ HO346.out⟩, ⟨bw_⟩⟩
          ·rw [if_neg c14] at H
           exact absurd H (by simp)
       ·rw [if_neg c9] at H
        exact absurd H (by simp)
      ·rw [if_neg c8] at H
       exact absurd H (by simp)
     ·replace c7 := Bool.eq_false_iff.mpr c7
      subst c7
      rw [if_neg (show ¬ (false = true) by decide)] at H
      by_cases c17 : (x7_1.length : Int) = 0
      ·rw [if_pos c17] at H
       have c17b0 : ((x7_1.length : Int) == 0) = true := beq_iff_eq.mpr c17
       have c17b1 : ((x7_1.length : Int) != 0) = false := bne_eq_false_iff_eq.mpr c17
       clear c17
       by_cases c18 : x7_1.length < 17592186044416
       ·rw [if_pos c18] at H
        have LMc18 := Aside0.mk c18
        clear c18
        obtain ⟨y347, hy347⟩ : ∃ y_ : List Int, y_ = (x7_1 ++ [0]) := ⟨_, rfl⟩
        replace H : ((torusref07_Sorted.f kj3 y347).bind fun bt350 => (some bt350.1)) = some r := by first | (rw [hy347]; with_reducible exact H) | (have H2_ := (Option.bind_some _ _).symm.trans H; rw [hy347]; with_reducible exact H2_) | (have H2_ := (Option.bind_some _ _).symm.trans H; with_reducible exact H2_) | with_reducible exact H | (rw [hy347]; exact H) | exact H
        have Ny347 := Aside0.mk hy347
        clear hy347
        replace H := Option.bind_eq_some_iff.mp H
        obtain ⟨⟨t350, t351⟩, A190, H⟩ := H
        dsimp only at H
        have A19 := Aside0.mk A190
        clear A190
        obtain rfl := Option.some.inj H
        obtain ⟨Ao20, co20, eo20⟩ := Kd.R_slice HO_7.out
        subst eo20
        go_wp2_with (first | ((with_reducible refine gate_builtin (b := .append) (xs := #[.tmp 43, .tmp 44]) rfl ?_); (try (refine gate_guard (by rfl) ?_; dsimp only)); at_builtin; refine Kd.R_append (Kd.int .i64) (w0 := w) w.heap.size rfl (.tmp 43) (.tmp 44) 22 3 (.int .i64 0) 8 rfl Tryd.underlying22 info3 rfl (by decide) (by omega) (.slice Ao20 x7_1.length co20) x7_1 0 [.int .i64 0] (fun _ => True) (fun _ => False) rfl rfl ?aP (fun _ hk => hk.elim) ?aF ?aO ?aB ?aS ?aL ?_; (case aP => exact rfl); (case aB => exact bw_); (case aF => exact (fun _ _ => trivial)); (case aO => exact (rRa_ HO_7.out)); (case aS => exact (below_size bw_)); (case aL => have := LMc18.out; omega); intro v348 w21 ho hb hg hat; rw [← Ny347.out] at ho; have n0_ := Aside0.mk (hb); have n1_ := Aside0.mk (ho); clear HB; clear HO_7; have HB := n0_; have HO349 := n1_; clear n0_ n1_; clear ho hb hg hat; obtain ⟨Ao22, co22, eo22⟩ := Kd.R_slice HO349.out; subst eo22) | ((with_reducible refine gate_callee (f := 43) rfl ?_); refine goesL_ (some 48) rfl rfl Tryd.func43 (by kernel_rfl) rfl #[.slice Ao22 y347.length co22] rfl ag_ ?_; (with_reducible refine (torusref07_Sorted.calls kj3 _ _ y347 t350 t351 _ ?side1 ?side2 A19.out).mono ?_); (case side1 => repeat (first | exact (Kd.R_reads' HO349.out).2.2 | (with_reducible refine Kd.C_alloc ?_ _) | (with_reducible refine Kd.C_drewN ?_ _) | (with_reducible refine Kd.C_drew ?_))); (case side2 => exact (Kd.R_reads' HO349.out).2.1); rintro e w23 ⟨v352, rfl, ho0, hb⟩; refine ⟨_, rfl, ?_⟩; have n0_ := Aside0.mk (Kd.R_elder' (rRa_ HO349.out) (Kd.R_base ho0) hb); have n1_ := Aside0.mk (Kd.R_lower (Kd.R_new' ho0 (Kd.R_lt (rRa_ HO349.out))) (below_size bw_)); have n2_ := Aside0.mk (below_step bw_ hb); clear HO349; clear HB; have HO349 := n0_; have HO353 := n1_; have HB := n2_; clear n0_ n1_ n2_; (try clear hb); (try clear hb2); (try clear hk); (try clear hi); (try clear ho0)))
        go_ret
        exact ⟨_, by first | rfl | (simp [errW_none, errW_some] <;> rfl) | (simp [*, errW_none, errW_some] <;> rfl), by (with_reducible repeat (first | apply Kd.R_alloc | apply Kd.R_drewN | apply Kd.R_drew)); exact Kd.R_mono HO353.out (fun _ hk => trivial), bw_⟩
       ·rw [if_neg c18] at H
        exact absurd H (by simp)
      ·rw [if_neg c17] at H
       have c17b0 : ((x7_1.length : Int) == 0) = false := beq_eq_false_iff_ne.mpr c17
       have c17b1 : ((x7_1.length : Int) != 0) = true := bne_iff_ne.mpr c17
       have c17b2 : ¬ (x7_1 = []) := fun h_ => c17 (by rw [h_]; rfl)
       replace H := Option.bind_eq_some_iff.mp H
       obtain ⟨⟨t354, t355⟩, A240, H⟩ := H
       dsimp only at H
       have A24 := Aside0.mk A240
       clear A240
       obtain rfl := Option.some.inj H
       obtain ⟨Ao25, co25, eo25⟩ := Kd.R_slice HO_7.out
       subst eo25
       go_wp2_with (first | ((with_reducible refine gate_callee (f := 43) rfl ?_); refine goesL_ (some 48) rfl rfl Tryd.func43 (by kernel_rfl) rfl #[.slice Ao25 x7_1.length co25] rfl ag_ ?_; (with_reducible refine (torusref07_Sorted.calls kj3 _ _ x7_1 t354 t355 _ ?side1 ?side2 A24.out).mono ?_); (case side1 => repeat (first | exact (Kd.R_reads' HO_7.out).2.2 | (with_reducible refine Kd.C_alloc ?_ _) | (with_reducible refine Kd.C_drewN ?_ _) | (with_reducible refine Kd.C_drew ?_))); (case side2 => exact (Kd.R_reads' HO_7.out).2.1); rintro e w26 ⟨v356, rfl, ho0, hb⟩; refine ⟨_, rfl, ?_⟩; have n0_ := Aside0.mk (Kd.R_elder' (rRa_ HO_7.out) (Kd.R_base ho0) hb); have n1_ := Aside0.mk (Kd.R_lower (Kd.R_new' ho0 (Kd.R_lt (rRa_ HO_7.out))) (below_size bw_)); have n2_ := Aside0.mk (below_step bw_ hb); clear HO_7; clear HB; have HO_7 := n0_; have HO357 := n1_; have HB := n2_; clear n0_ n1_ n2_; (try clear hb); (try clear hb2); (try clear hk); (try clear hi); (try clear ho0)))
       go_ret
       exact ⟨_, by first | rfl | (simp [errW_none, errW_some] <;> rfl) | (simp [*, errW_none, errW_some] <;> rfl), by (with_reducible repeat (first | apply Kd.R_alloc | apply Kd.R_drewN | apply Kd.R_drew)); exact Kd.R_mono HO357.out (fun _ hk => trivial), bw_⟩

end Go.Proofs.YticckanjfdcpaaaDoor.PSimplex
namespace Go.Proofs.YticckanjfdcpaaaDoor.PSimplex
open Go.RowKit Go.Proofs.YticckanjfdcpaaaDoorW.PrintWords Go.Proofs.YticckanjfdcpaaaDoorW.PrintLast Go.Proofs.YticckanjfdcpaaaDoorW.PrintMore
set_option linter.unusedVariables false
set_option linter.unusedSimpArgs false

theorem insR_count (f : Int → Bool) : ∀ R x, (insR R x).countP f = (x :: R).countP f
  | [], x => rfl
  | a :: R, x => by
    unfold insR
    split
    · have := insR_count f R x
      simp only [List.countP_cons] at this ⊢
      omega
    · rfl
theorem srt_count (f : Int → Bool) : ∀ B R, (srt R B).countP f = R.countP f + B.countP f
  | [], R => by simp [srt]
  | x :: B, R => by
    rw [srt, srt_count f B, insR_count]
    simp only [List.countP_cons]
    omega
theorem desc_pair : ∀ R, desc R → R.Pairwise (fun a b => b ≤ a)
  | [], _ => List.Pairwise.nil
  | a :: R, h => List.Pairwise.cons h.1 (desc_pair R h.2)
theorem srt_pair : ∀ B R, desc R → (srt R B).Pairwise (fun a b => a ≤ b)
  | [], R, h => by
    rw [srt, List.pairwise_reverse]
    exact desc_pair R h
  | x :: B, R, h => srt_pair B _ (insR_desc R x h)
theorem asc_of_pair : ∀ (l : List Int), l.Pairwise (fun a b => a ≤ b) → (∀ p : Int, l.countP (· == p) ≤ 1) → asc l = true
  | [], _, _ => rfl
  | [_], _, _ => rfl
  | x :: y :: t, h, hc => by
    have h1 := (List.pairwise_cons.1 h).1 y List.mem_cons_self
    have h2 : x ≠ y := fun e => by
      have := hc x
      rw [List.countP_cons, List.countP_cons, e] at this
      simp at this
    have h3 := asc_of_pair (y :: t) (List.pairwise_cons.1 h).2 (fun p => by
      have := hc p
      rw [List.countP_cons] at this
      omega)
    simp only [asc, Bool.and_eq_true, decide_eq_true_eq]
    exact ⟨by omega, h3⟩
theorem any_count (t : List Int) : t.any bad = decide (0 < t.countP bad) := by
  rw [Bool.eq_iff_iff]
  simp [List.countP_pos_iff]
theorem srt_ck (l : List Int) (h1 : 1 ≤ l.length) (h2 : l.length ≤ 5) (h3 : l.any bad = false) (h4 : ∀ p : Int, l.countP (· == p) ≤ 1) : ck (srt [] l) = 0 := by
  refine ck_of ?_ ?_ ?_ ?_
  · rw [srt_len]; simpa using h1
  · rw [srt_len]; simpa using h2
  · rw [any_count, srt_count]
    rw [any_count] at h3
    simpa using h3
  · exact asc_of_pair _ (srt_pair l [] trivial) (fun p => by rw [srt_count]; simpa using h4 p)
theorem vfin (acc : List Int) (h2 : acc.length ≤ 5) (h3 : acc.any bad = false) (h4 : ∀ p : Int, acc.countP (· == p) ≤ 1) (l : List Int) (i : Int) :
    ∃ s, Ev (fun k => torusref07_Valid.j1 k l 5 64 acc i false) s ∧ ck s = 0 := by
  by_cases c : acc.length = 0
  · have e : acc = [] := List.length_eq_zero_iff.1 c
    subst e
    refine ⟨srt [] [0], ?_, by decide⟩
    refine ev_succ ?_
    simp only [torusref07_Valid.j1, Bool.false_eq_true, if_false, List.length_nil, if_pos (show ((0 : Nat) : Int) = 0 from rfl), if_pos (show 0 < 17592186044416 by omega), List.nil_append]
    refine (ev_bind (rsorted_ev [0] (by simp))).mpr ?_
    exact Ev.now _
  · refine ⟨srt [] acc, ?_, srt_ck acc (by omega) h2 h3 h4⟩
    refine ev_succ ?_
    simp only [torusref07_Valid.j1, Bool.false_eq_true, if_false, if_neg (show ¬ ((acc.length : Int) = 0) by omega)]
    refine (ev_bind (rsorted_ev acc (by omega))).mpr ?_
    exact Ev.now _
theorem val_l (l : List Int) (hl : l.length ≤ 1000) (hw : ∀ x ∈ l, -9223372036854775808 ≤ x ∧ x ≤ 9223372036854775807) : ∀ (m i : Nat) (acc : List Int), m = l.length - i → i ≤ l.length → acc.length ≤ 5 → acc.any bad = false → (∀ p : Int, acc.countP (· == p) ≤ 1) →
    ∃ s, Ev (fun k => torusref07_Valid.l0 k l 5 64 acc (i : Int)) s ∧ ck s = 0
  | 0, i, acc, hm, hi, h2, h3, h4 => by
    obtain ⟨s, hs, hk⟩ := vfin acc h2 h3 h4 l (i : Int)
    refine ⟨s, ev_succ ?_, hk⟩
    simp only [torusref07_Valid.l0, if_neg (show ¬ ((i : Int) < (l.length : Int)) by omega)]
    exact hs
  | m + 1, i, acc, hm, hi, h2, h3, h4 => by
    by_cases c : acc.length < 5
    · obtain ⟨v, hv⟩ : ∃ v, v = Int.tmod (wrap64 (Int.tmod (rd l (i : Int)) 64 + 64)) 64 := ⟨_, rfl⟩
      have hvb : 0 ≤ v ∧ v < 64 := by
        have h5 : -64 < Int.tmod (rd l (i : Int)) 64 ∧ Int.tmod (rd l (i : Int)) 64 < 64 := ⟨Int.lt_tmod_of_pos _ (by decide), Int.tmod_lt_of_pos _ (by decide)⟩
        rw [hv, wrap_id (by omega) (by omega), Int.tmod_eq_emod_of_nonneg (by omega)]
        omega
      by_cases c2 : v ∈ acc
      · obtain ⟨s, hs, hk⟩ := val_l l hl hw m (i + 1) acc (by omega) (by omega) h2 h3 h4
        refine ⟨s, ev_succ ?_, hk⟩
        simp only [torusref07_Valid.l0, if_pos (show ((i : Int) < (l.length : Int)) by omega), decide_eq_true (show (acc.length : Int) < 5 by omega)]
        refine ev_succ ?_
        simp only [torusref07_Valid.j1, if_true, if_pos (show (0 : Int) ≤ (i : Int) by omega), if_pos (show ((i : Int) < (l.length : Int)) by omega), if_neg (show ¬ ((64 : Int) = 0) by omega), ← hv, wrap_nat i (by omega)]
        refine (ev_bind (in_ev acc v (by omega))).mpr ?_
        simp only [decide_eq_true c2, if_true]
        exact hs
      · obtain ⟨s, hs, hk⟩ := val_l l hl hw m (i + 1) (acc ++ [v]) (by omega) (by omega) (by simp; omega) (by
            rw [List.any_append, h3]
            simp [bad]
            omega) (fun p => by
            have := h4 p
            rw [List.countP_append, List.countP_cons, List.countP_nil]
            by_cases e : v = p
            · have h0 : acc.countP (· == p) = 0 := by
                rw [List.countP_eq_zero]
                intro b hb hbp
                exact c2 (by rw [e]; simpa [show b = p by simpa using hbp] using hb)
              rw [h0]
              split <;> omega
            · simp [e]
              exact this)
        refine ⟨s, ev_succ ?_, hk⟩
        simp only [torusref07_Valid.l0, if_pos (show ((i : Int) < (l.length : Int)) by omega), decide_eq_true (show (acc.length : Int) < 5 by omega)]
        refine ev_succ ?_
        simp only [torusref07_Valid.j1, if_true, if_pos (show (0 : Int) ≤ (i : Int) by omega), if_pos (show ((i : Int) < (l.length : Int)) by omega), if_neg (show ¬ ((64 : Int) = 0) by omega), ← hv, wrap_nat i (by omega)]
        refine (ev_bind (in_ev acc v (by omega))).mpr ?_
        simp only [decide_eq_false c2, Bool.false_eq_true, if_false, if_pos (show acc.length < 17592186044416 by omega)]
        exact hs
    · obtain ⟨s, hs, hk⟩ := vfin acc h2 h3 h4 l (i : Int)
      refine ⟨s, ev_succ ?_, hk⟩
      simp only [torusref07_Valid.l0, if_pos (show ((i : Int) < (l.length : Int)) by omega), decide_eq_false (show ¬ ((acc.length : Int) < 5) by omega)]
      exact hs
theorem valid_ev (l : List Int) (hl : l.length ≤ 1000) (hw : ∀ x ∈ l, -9223372036854775808 ≤ x ∧ x ≤ 9223372036854775807) : ∃ s, Ev (fun k => torusref07_Valid.f k l 5 64) s ∧ ck s = 0 := by
  have := val_l l hl hw l.length 0 [] (by omega) (by omega) (by simp) (by simp) (by simp)
  simpa [torusref07_Valid.f] using this
theorem asc_take : ∀ (l : List Int) (n : Nat), asc l = true → asc (l.take n) = true
  | [], n, h => by simp [asc]
  | x :: t, 0, h => by simp [asc]
  | [x], n + 1, h => by simp [asc]
  | x :: y :: t, 1, h => by simp [asc]
  | x :: y :: t, n + 2, h => by
    simp only [asc, Bool.and_eq_true] at h
    have := asc_take (y :: t) (n + 1) h.2
    simp only [List.take_succ_cons, asc, Bool.and_eq_true] at this ⊢
    exact ⟨h.1, this⟩
theorem ck_take (l : List Int) (n : Nat) (h : ck l = 0) (hn : 1 ≤ n) : ck (l.take n) = 0 := by
  obtain ⟨h1, h2, h3, h4⟩ := ck_ok h
  refine ck_of (by simp; omega) (by simp; omega) ?_ (asc_take l n h4)
  rw [List.any_eq_false] at h3 ⊢
  exact fun x hx => h3 x (List.mem_of_mem_take hx)
end Go.Proofs.YticckanjfdcpaaaDoor.PSimplex
namespace Go.Proofs.YticckanjfdcpaaaDoor.PSimplex
open Go.RowKit Go.Proofs.YticckanjfdcpaaaDoorW.PrintWords Go.Proofs.YticckanjfdcpaaaDoorW.PrintLast Go.Proofs.YticckanjfdcpaaaDoorW.PrintMore
set_option linter.unusedVariables false
set_option linter.unusedSimpArgs false

theorem asc_pair : ∀ (l : List Int), asc l = true → l.Pairwise (fun a b => a < b)
  | [], _ => List.Pairwise.nil
  | [x], _ => List.pairwise_singleton _ _
  | x :: y :: t, h => by
    simp only [asc, Bool.and_eq_true, decide_eq_true_eq] at h
    have ih := asc_pair (y :: t) h.2
    refine List.Pairwise.cons (fun b hb => ?_) ih
    rcases List.mem_cons.1 hb with e | e
    · omega
    · have := (List.pairwise_cons.1 ih).1 b e
      omega
theorem pair_asc : ∀ (l : List Int), l.Pairwise (fun a b => a < b) → asc l = true
  | [], _ => rfl
  | [x], _ => rfl
  | x :: y :: t, h => by
    simp only [asc, Bool.and_eq_true, decide_eq_true_eq]
    exact ⟨(List.pairwise_cons.1 h).1 y List.mem_cons_self, pair_asc (y :: t) (List.pairwise_cons.1 h).2⟩
theorem bad_at (l : List Int) (hb : l.any bad = false) (i : Nat) (hi : i < l.length) : 0 ≤ rd l (i : Int) ∧ rd l (i : Int) < 64 := by
  have h1 : bad (rd l (i : Int)) = false := by
    rw [List.any_eq_false] at hb
    have := hb (rd l (i : Int)) (by simp [rd, hi])
    simpa using this
  simp [bad] at h1
  omega
theorem ck_erase (s : List Int) (j : Nat) (h : ck s = 0) (h2 : 2 ≤ s.length) : ck (s.eraseIdx j) = 0 := by
  obtain ⟨h1, hl, hb, ha⟩ := ck_ok h
  have hs := List.eraseIdx_sublist s j
  refine ck_of ?_ ?_ ?_ (pair_asc _ ((asc_pair s ha).sublist hs))
  · rw [List.length_eraseIdx]; split <;> omega
  · have := hs.length_le; omega
  · rw [List.any_eq_false] at hb ⊢
    exact fun x hx => hb x (hs.subset hx)
theorem without_at (s : List Int) (i : Nat) (hi : i < s.length) (hl : s.length ≤ 1000) : simplex_without.f s (i : Int) = some (s.eraseIdx i) := by
  unfold simplex_without.f
  have hw := wrap_nat i (by omega)
  simp only [Option.bind_some, if_pos (show (0 : Int) ≤ (i : Int) by omega), if_pos (show (i : Int) ≤ (s.length : Int) by omega), List.length_nil, Int.toNat_natCast, hw, if_pos (show (0 : Int) ≤ ((i + 1 : Nat) : Int) by omega), if_pos (show ((i + 1 : Nat) : Int) ≤ (s.length : Int) by omega), List.nil_append, List.length_take, List.length_drop,
    if_pos (show 0 + min i s.length < 17592186044416 by omega), if_pos (show min i s.length + (s.length - (i + 1)) < 17592186044416 by omega)]
  rw [List.eraseIdx_eq_take_drop_succ]
/-- The facets. -/
def fcs (s : List Int) : List (List Int) := (List.range s.length).map (fun i => s.eraseIdx i)
theorem facets_l (s : List Int) (hl : s.length ≤ 1000) : ∀ (m i : Nat) (acc : List (List Int)), m = s.length - i → i ≤ s.length → acc.length = i →
    Ev (fun k => simplex_Facets.l0 k s acc (s.length : Int) (i : Int)) (acc ++ (List.range' i m).map (fun i => s.eraseIdx i), 0)
  | 0, i, acc, hm, hi, ha => by
    refine ev_succ ?_
    simp only [simplex_Facets.l0, if_neg (show ¬ ((i : Int) < (s.length : Int)) by omega), List.range'_zero, List.map_nil, List.append_nil]
    exact Ev.now _
  | m + 1, i, acc, hm, hi, ha => by
    have ih := facets_l s hl m (i + 1) (acc ++ [s.eraseIdx i]) (by omega) (by omega) (by simp; omega)
    refine ev_succ ?_
    simp only [simplex_Facets.l0, if_pos (show (i : Int) < (s.length : Int) by omega), without_at s i (by omega) hl, Option.bind_some, if_pos (show acc.length < 5864062014805 by omega), wrap_nat i (by omega)]
    rw [List.range'_succ, List.map_cons]
    rw [List.append_assoc] at ih
    exact ih
theorem facets_ev (s : List Int) (h : ck s = 0) : Ev (fun k => simplex_Facets.f k s) (if s.length = 1 then [] else fcs s, 0) := by
  obtain ⟨h1, hl, hb, ha⟩ := ck_ok h
  unfold simplex_Facets.f
  refine (ev_bind (scheck_ev s)).mpr ?_
  simp only [h, if_true]
  by_cases c : s.length = 1
  · have e : ((s.length : Int) == 1) = true := by simp [c]
    rw [if_pos c, e]
    refine ev_succ ?_
    simp only [simplex_Facets.j0, if_true]
    exact Ev.now _
  · have e : ((s.length : Int) == 1) = false := by simp; omega
    rw [if_neg c, e]
    refine ev_succ ?_
    simp only [simplex_Facets.j0, Bool.false_eq_true, if_false]
    have := facets_l s (by omega) s.length 0 [] (by omega) (by omega) rfl
    simpa [fcs, List.range_eq_range'] using this

/-! ### The search -/
theorem pair_rd (s : List Int) (h : asc s = true) (i j : Nat) (hij : i < j) (hj : j < s.length) : rd s (i : Int) < rd s (j : Int) := by
  have := (List.pairwise_iff_getElem.1 (asc_pair s h)) i j (by omega) hj hij
  simpa [rd, show i < s.length by omega, hj] using this
/-- The place of u among the elements. -/
def at_ (s : List Int) (u : Int) : Nat := s.countP (fun x => decide (x < u))
theorem at_unique : ∀ (s : List Int) (u : Int) (p : Nat), p ≤ s.length → (∀ t, t < p → rd s (t : Int) < u) → (∀ t, p ≤ t → t < s.length → u ≤ rd s (t : Int)) → at_ s u = p
  | [], u, p, hp, _, _ => by simp at hp; subst hp; rfl
  | x :: s, u, 0, hp, _, h2 => by
    unfold at_
    rw [List.countP_eq_zero]
    intro b hb
    obtain ⟨t, ht, e⟩ := List.getElem_of_mem hb
    have := h2 t (by omega) ht
    rw [show rd (x :: s) (t : Int) = b by
      unfold rd
      rw [Int.toNat_natCast, List.getD_eq_getElem?_getD, List.getElem?_eq_getElem ht]
      exact e] at this
    simp
    omega
  | x :: s, u, p + 1, hp, h1, h2 => by
    have hx := h1 0 (by omega)
    have e0 : rd (x :: s) ((0 : Nat) : Int) = x := by simp [rd]
    rw [e0] at hx
    have es : ∀ t : Nat, rd (x :: s) ((t + 1 : Nat) : Int) = rd s (t : Int) := fun t => by simp [rd]
    have := at_unique s u p (by simp at hp; omega) (fun t ht => by have := h1 (t + 1) (by omega); rwa [es] at this) (fun t ht hl => by have := h2 (t + 1) (by omega) (by simp; omega); rwa [es] at this)
    unfold at_ at this ⊢
    rw [List.countP_cons, this]
    simp [hx]
theorem search_l (s : List Int) (ha : asc s = true) (hl : s.length ≤ 1000) (u : Int) : ∀ (d i j : Nat), d = j - i → i ≤ j → j ≤ s.length → (∀ t, t < i → rd s (t : Int) < u) → (∀ t, j ≤ t → t < s.length → u ≤ rd s (t : Int)) →
    Ev (fun k => api_Simplex_int_55.l0 k s u (s.length : Int) (i : Int) (j : Int)) ((at_ s u : Int), decide (u ∈ s)) := by
  intro d
  induction d using Nat.strongRecOn with
  | ind d ih =>
    intro i j hd hij hj h1 h2
    refine ev_succ ?_
    by_cases c : i < j
    · have hh : wrap64 ((IntKind.u64.wrap (wrap64 ((i : Int) + (j : Int)))) / 2) = (((i + j) / 2 : Nat) : Int) := by
        have e1 : wrap64 ((i : Int) + (j : Int)) = ((i + j : Nat) : Int) := by rw [wrap_id (by omega) (by omega)]; omega
        have e2 : IntKind.u64.wrap ((i + j : Nat) : Int) = ((i + j : Nat) : Int) := by
          have : IntKind.u64.wrap ((i + j : Nat) : Int) = ((i + j : Nat) : Int) % 18446744073709551616 := by simp [IntKind.wrap, IntKind.signed, IntKind.bits]
          rw [this]
          omega
        rw [e1, e2, wrap_id (by omega) (by omega)]
        omega
      have hm1 : i ≤ (i + j) / 2 := by omega
      have hm2 : (i + j) / 2 < j := by omega
      generalize (i + j) / 2 = q at hh hm1 hm2
      simp only [api_Simplex_int_55.l0, if_pos (show (i : Int) < (j : Int) by omega), hh, if_pos (show (0 : Int) ≤ (q : Int) by omega), if_pos (show (q : Int) < (s.length : Int) by omega), Option.bind_some]
      have hless : cmp_Less_int.f (rd s (q : Int)) u = some (decide (rd s (q : Int) < u)) := less_at _ _
      rw [hless]
      simp only [Option.bind_some]
      by_cases c2 : rd s (q : Int) < u
      · simp only [decide_eq_true c2, if_true, wrap_nat q (by omega)]
        refine ih (j - (q + 1)) (by omega) (q + 1) j rfl (by omega) hj (fun t ht => ?_) h2
        by_cases e : t = q
        · rw [e]; exact c2
        · have := pair_rd s ha t q (by omega) (by omega)
          omega
      · simp only [decide_eq_false c2, Bool.false_eq_true, if_false]
        refine ih (q - i) (by omega) i q rfl (by omega) (by omega) h1 (fun t ht hlt => ?_)
        by_cases e : t = q
        · rw [e]; omega
        · have := pair_rd s ha q t (by omega) hlt
          omega
    · have e : i = j := by omega
      subst e
      have hat := at_unique s u i hj h1 h2
      simp only [api_Simplex_int_55.l0, if_neg (show ¬ ((i : Int) < (i : Int)) by omega)]
      rw [hat]
      have hmem : ∀ b ∈ s, b = u → i < s.length ∧ rd s (i : Int) = u := fun b hb hbu => by
        obtain ⟨t, ht, eb⟩ := List.getElem_of_mem hb
        have er : rd s (t : Int) = u := by simp [rd, ht, eb, hbu]
        have t1 : i ≤ t := by
          by_cases c3 : i ≤ t
          · exact c3
          · have := h1 t (by omega); omega
        have hi2 : i < s.length := by omega
        by_cases e : t = i
        · rw [← e]; exact ⟨by omega, er⟩
        · have h3 := pair_rd s ha i t (by omega) ht
          have h4 := h2 i (Nat.le_refl _) hi2
          omega
      by_cases c2 : i < s.length
      · simp only [if_pos (show (i : Int) < (s.length : Int) by omega), if_pos (show (0 : Int) ≤ (i : Int) by omega)]
        by_cases c3 : rd s (i : Int) = u
        · have hm : u ∈ s := by
            rw [← c3]
            simp [rd, c2]
          simp only [if_pos c3, decide_eq_true hm]
          exact Ev.now _
        · have hm : ¬ u ∈ s := fun hm => c3 (hmem u hm rfl).2
          have hnan : slices_isNaN_int.f (rd s (i : Int)) = some false := by simp [slices_isNaN_int.f]
          simp only [if_neg c3, hnan, Option.bind_some, Bool.false_eq_true, if_false, decide_eq_false hm]
          exact Ev.now _
      · have hm : ¬ u ∈ s := fun hm => c2 (hmem u hm rfl).1
        simp only [if_neg (show ¬ ((i : Int) < (s.length : Int)) by omega), decide_eq_false hm]
        exact Ev.now _
theorem search_ev (s : List Int) (ha : asc s = true) (hl : s.length ≤ 1000) (u : Int) : Ev (fun k => api_Simplex_int_55.f k s u) ((at_ s u : Int), decide (u ∈ s)) := by
  have := search_l s ha hl u s.length 0 s.length rfl (by omega) (by omega) (fun t ht => by omega) (fun t h1 h2 => by omega)
  simpa [api_Simplex_int_55.f] using this
def insAt (s : List Int) (u : Int) : List Int := s.take (at_ s u) ++ [u] ++ s.drop (at_ s u)
def cof1 (s : List Int) (u : Int) : List (List Int) := if u ∈ s then [] else if s.length ≤ 4 then [insAt s u] else []
/-- The cofacets with a new vertex from u on. -/
def cofs (s : List Int) : Nat → Nat → List (List Int)
  | 0, _ => []
  | m + 1, u => cof1 s (u : Int) ++ cofs s m (u + 1)
theorem cof1_len (s : List Int) (u : Int) : (cof1 s u).length ≤ 1 := by
  unfold cof1
  split
  · simp
  · split <;> simp
theorem cofs_l (s : List Int) (ha : asc s = true) (hl : s.length ≤ 5) (n : Nat) (hn : n ≤ 64) : ∀ (m u : Nat) (acc : List (List Int)), m = n - u → u ≤ n → acc.length ≤ u →
    Ev (fun k => simplex_Cofacets.l0 k s acc (n : Int) (u : Int)) (acc ++ cofs s m u, 0)
  | 0, u, acc, hm, hu, hac => by
    refine ev_succ ?_
    simp only [simplex_Cofacets.l0, if_neg (show ¬ ((u : Int) < (n : Int)) by omega), cofs, List.append_nil]
    exact Ev.now _
  | m + 1, u, acc, hm, hu, hac => by
    refine ev_succ ?_
    simp only [simplex_Cofacets.l0, if_pos (show (u : Int) < (n : Int) by omega)]
    refine (ev_bind (search_ev s ha (by omega) (u : Int))).mpr ?_
    have hcl := cof1_len s (u : Int)
    have ih := cofs_l s ha hl n hn m (u + 1) (acc ++ cof1 s (u : Int)) (by omega) (by omega) (by simp; omega)
    rw [List.append_assoc] at ih
    have skip : cof1 s (u : Int) = [] → Ev (fun k => simplex_Cofacets.j2 k s acc (u : Int) (at_ s (u : Int)) (n : Int) (u : Int) false) (acc ++ cofs s (m + 1) u, 0) := fun e => by
      refine ev_succ ?_
      simp only [simplex_Cofacets.j2, Bool.false_eq_true, if_false, wrap_nat u (by omega), cofs]
      rw [e] at ih ⊢
      simpa using ih
    by_cases c : (u : Int) ∈ s
    · simp only [decide_eq_true c, if_true]
      exact skip (by unfold cof1; rw [if_pos c])
    · simp only [decide_eq_false c, Bool.false_eq_true, if_false]
      by_cases c2 : s.length ≤ 4
      · simp only [decide_eq_true (show (s.length : Int) ≤ 4 by omega)]
        have hat : at_ s (u : Int) ≤ s.length := List.countP_le_length
        have hins : api_Simplex_int_56.f s (at_ s (u : Int) : Int) [(u : Int)] = some (insAt s (u : Int)) := by
          unfold api_Simplex_int_56.f
          rw [if_pos ⟨rfl, by omega, by omega, by omega⟩]
          rfl
        have e1 : cof1 s (u : Int) = [insAt s (u : Int)] := by unfold cof1; rw [if_neg c, if_pos c2]
        refine ev_succ ?_
        simp only [simplex_Cofacets.j2, if_true, api_Simplex_int_41.f, if_pos (show s.length < 17592186044416 by omega), Option.bind_some, hins, if_pos (show acc.length < 5864062014805 by omega), wrap_nat u (by omega), cofs]
        rw [e1] at ih ⊢
        simpa using ih
      · simp only [decide_eq_false (show ¬ ((s.length : Int) ≤ 4) by omega)]
        exact skip (by unfold cof1; rw [if_neg c, if_neg c2])
theorem cofacets_ev (s : List Int) (h : ck s = 0) (n : Nat) (hn : n ≤ 64) (hlast : rd s ((s.length - 1 : Nat) : Int) < (n : Int)) : Ev (fun k => simplex_Cofacets.f k s (n : Int)) (cofs s n 0, 0) := by
  obtain ⟨h1, hl, hb, ha⟩ := ck_ok h
  unfold simplex_Cofacets.f
  refine (ev_bind (scheck_ev s)).mpr ?_
  have hw : wrap64 ((s.length : Int) - 1) = ((s.length - 1 : Nat) : Int) := by rw [wrap_id (by omega) (by omega)]; omega
  simp only [h, if_true, if_neg (show ¬ ((n : Int) < 0) by omega), if_neg (show ¬ ((n : Int) > 64) by omega), hw, if_pos (show (0 : Int) ≤ ((s.length - 1 : Nat) : Int) by omega), if_pos (show ((s.length - 1 : Nat) : Int) < (s.length : Int) by omega), decide_eq_false (show ¬ (rd s ((s.length - 1 : Nat) : Int) ≥ (n : Int)) by omega)]
  refine ev_succ ?_
  simp only [simplex_Cofacets.j0, Bool.false_eq_true, if_false]
  have := cofs_l s ha hl n hn n 0 [] (by omega) (by omega) (by simp)
  simpa using this
theorem cofs_mem (s : List Int) (x : List Int) : ∀ (m u : Nat) (v : Nat), u ≤ v → v < u + m → x ∈ cof1 s (v : Int) → x ∈ cofs s m u
  | 0, u, v, h1, h2, _ => by omega
  | m + 1, u, v, h1, h2, hx => by
    rw [cofs, List.mem_append]
    by_cases e : v = u
    · subst e; exact .inl hx
    · exact .inr (cofs_mem s x m (u + 1) v (by omega) (by omega) hx)
theorem cofs_len (s : List Int) : ∀ (m u : Nat), (cofs s m u).length ≤ m
  | 0, _ => by simp [cofs]
  | m + 1, u => by
    have h1 := cof1_len s (u : Int)
    have h2 := cofs_len s m (u + 1)
    simp only [cofs, List.length_append]
    omega
end Go.Proofs.YticckanjfdcpaaaDoor.PSimplex
namespace Go.Proofs.YticckanjfdcpaaaDoor.PSimplex
open Go.RowKit Go.Proofs.YticckanjfdcpaaaDoorW.PrintWords Go.Proofs.YticckanjfdcpaaaDoorW.PrintLast Go.Proofs.YticckanjfdcpaaaDoorW.PrintMore
set_option linter.unusedVariables false
set_option linter.unusedSimpArgs false

/-! the facets -/
theorem rwithout_l (s : List Int) (j : Nat) (hl : s.length ≤ 1000) : ∀ (m i : Nat) (acc : List Int), m = s.length - i → i ≤ s.length → acc.length ≤ i →
    Ev (fun k => torusref07_Without.l0 k s (j : Int) acc (i : Int)) (acc ++ (if j < i then s.drop i else (s.drop i).eraseIdx (j - i)))
  | 0, i, acc, hm, hi, ha => by
    refine ev_succ ?_
    have e : s.drop i = [] := List.drop_of_length_le (by omega)
    simp only [torusref07_Without.l0, if_neg (show ¬ ((i : Int) < (s.length : Int)) by omega), e, List.eraseIdx_nil, ite_self, List.append_nil]
    exact Ev.now _
  | m + 1, i, acc, hm, hi, ha => by
    refine ev_succ ?_
    simp only [torusref07_Without.l0, if_pos (show (i : Int) < (s.length : Int) by omega), if_pos (show (0 : Int) ≤ (i : Int) by omega), wrap_nat i (by omega), if_pos (show acc.length < 17592186044416 by omega)]
    by_cases c : i = j
    · subst c
      simp only [eq_self, if_true]
      have ih := rwithout_l s i hl m (i + 1) acc (by omega) (by omega) (by omega)
      rw [if_pos (by omega)] at ih
      rw [if_neg (Nat.lt_irrefl i), drop_cons s i (by omega), Nat.sub_self, List.eraseIdx_cons_zero]
      exact ih
    · simp only [if_neg (show ¬ ((i : Int) = (j : Int)) by omega)]
      have ih := rwithout_l s j hl m (i + 1) (acc ++ [rd s (i : Int)]) (by omega) (by omega) (by simp; omega)
      rw [List.append_assoc] at ih
      by_cases c2 : j < i
      · rw [if_pos (by omega)] at ih
        rw [if_pos c2, drop_cons s i (by omega)]
        exact ih
      · rw [if_neg (by omega)] at ih
        rw [if_neg c2, drop_cons s i (by omega), show j - i = (j - (i + 1)) + 1 by omega, List.eraseIdx_cons_succ]
        exact ih
theorem rwithout_ev (s : List Int) (j : Nat) (hl : s.length ≤ 1000) : Ev (fun k => torusref07_Without.f k s (j : Int)) (s.eraseIdx j) := by
  have := rwithout_l s j hl s.length 0 [] (by omega) (by omega) (by simp)
  simpa [torusref07_Without.f] using this
theorem rfacets_l (s : List Int) (hl : s.length ≤ 1000) (h1 : 1 < s.length) : ∀ (m i : Nat) (acc : List (List Int)), m = s.length - i → i ≤ s.length → acc.length ≤ i →
    Ev (fun k => torusref07_Facets.l0 k s acc (i : Int)) (acc ++ (fcs s).drop i)
  | 0, i, acc, hm, hi, ha => by
    refine ev_succ ?_
    have e : (fcs s).drop i = [] := List.drop_of_length_le (by simp [fcs]; omega)
    simp only [torusref07_Facets.l0, if_pos (show (s.length : Int) > 1 by omega), if_neg (show ¬ ((i : Int) < (s.length : Int)) by omega), e, List.append_nil]
    exact Ev.now _
  | m + 1, i, acc, hm, hi, ha => by
    refine ev_succ ?_
    simp only [torusref07_Facets.l0, if_pos (show (s.length : Int) > 1 by omega), if_pos (show (i : Int) < (s.length : Int) by omega)]
    refine (ev_bind (rwithout_ev s i hl)).mpr ?_
    simp only [if_pos (show acc.length < 5864062014805 by omega), wrap_nat i (by omega)]
    have ih := rfacets_l s hl h1 m (i + 1) (acc ++ [s.eraseIdx i]) (by omega) (by omega) (by simp; omega)
    have e : (fcs s).drop i = s.eraseIdx i :: (fcs s).drop (i + 1) := by
      rw [List.drop_eq_getElem_cons (by simp [fcs]; omega)]
      simp [fcs]
    rw [e]
    simpa using ih
theorem rfacets_ev (s : List Int) (h : ck s = 0) : Ev (fun k => torusref07_Facets.f k s) (if s.length = 1 then [] else fcs s) := by
  obtain ⟨h1, hl, hb, ha⟩ := ck_ok h
  unfold torusref07_Facets.f
  by_cases c : s.length = 1
  · rw [if_pos c]
    refine ev_succ ?_
    simp only [torusref07_Facets.l0, if_neg (show ¬ ((s.length : Int) > 1) by omega)]
    exact Ev.now _
  · rw [if_neg c]
    have := rfacets_l s (by omega) (by omega) s.length 0 [] (by omega) (by omega) (by simp)
    simpa using this

/-! the faces -/
def putG (l : List (List Int)) (x : List Int) : List (List Int) → List (List Int) → Bool → List (List Int)
  | [], out, done => if done = true then out else out ++ [x]
  | r :: rs, out, done => if cm x r = 0 then l else if cm x r < 0 then (if done = true then putG l x rs (out ++ [r]) done else putG l x rs (out ++ [x] ++ [r]) true) else putG l x rs (out ++ [r]) done
theorem rput_l (l : List (List Int)) (x : List Int) (hx : x.length ≤ 1000) (hl : l.length ≤ 1000) : ∀ (m i : Nat) (out : List (List Int)) (done : Bool), m = l.length - i → i ≤ l.length → out.length ≤ 2 * i →
    Ev (fun k => torusref07_Put.l0 k l x out done (i : Int)) (putG l x (l.drop i) out done)
  | 0, i, out, done, hm, hi, ho => by
    refine ev_succ ?_
    have e : l.drop i = [] := List.drop_of_length_le (by omega)
    simp only [torusref07_Put.l0, if_neg (show ¬ ((i : Int) < (l.length : Int)) by omega), e, putG, if_pos (show out.length < 5864062014805 by omega)]
    split
    · exact Ev.now _
    · exact Ev.now _
  | m + 1, i, out, done, hm, hi, ho => by
    refine ev_succ ?_
    have e : l.drop i = l[i] :: l.drop (i + 1) := List.drop_eq_getElem_cons (by omega)
    have hrd : rd_L1 l (i : Int) = l[i] := by simp [rd_L1, show i < l.length by omega]
    simp only [torusref07_Put.l0, if_pos (show (i : Int) < (l.length : Int) by omega), if_pos (show (0 : Int) ≤ (i : Int) by omega), wrap_nat i (by omega), hrd]
    refine (ev_bind (rcmp_ev x l[i] (by omega))).mpr ?_
    rw [e, putG]
    by_cases c0 : cm x l[i] = 0
    · simp only [if_pos c0]
      exact Ev.now _
    · simp only [if_neg c0, if_pos (show out.length < 5864062014805 by omega), Option.bind_some]
      by_cases c1 : cm x l[i] < 0
      · simp only [if_pos c1]
        cases done with
        | true =>
          simp only [if_true]
          exact rput_l l x hx hl m (i + 1) (out ++ [l[i]]) true (by omega) (by omega) (by simp; omega)
        | false =>
          simp only [Bool.false_eq_true, if_false, if_pos (show (out ++ [x]).length < 5864062014805 by simp; omega)]
          exact rput_l l x hx hl m (i + 1) (out ++ [x] ++ [l[i]]) true (by omega) (by omega) (by simp; omega)
      · simp only [if_neg c1]
        exact rput_l l x hx hl m (i + 1) (out ++ [l[i]]) done (by omega) (by omega) (by simp; omega)
theorem rput_ev (l : List (List Int)) (x : List Int) (hx : x.length ≤ 1000) (hl : l.length ≤ 1000) : Ev (fun k => torusref07_Put.f k l x) (putG l x l [] false) := by
  have := rput_l l x hx hl l.length 0 [] false (by omega) (by omega) (by simp)
  simpa [torusref07_Put.f] using this
/-- The elements whose bit is set, from the place i on. -/
def bits (m : Int) : Nat → Nat → List Int
  | 0, _ => []
  | d + 1, i => if Int.tmod (shr .i64 m (i : Int)) 2 = 1 then (i : Int) :: bits m d (i + 1) else bits m d (i + 1)
theorem bits_len (m : Int) : ∀ d i, (bits m d i).length ≤ d
  | 0, _ => by simp [bits]
  | d + 1, i => by
    have := bits_len m d (i + 1)
    rw [bits]
    split <;> simp <;> omega
/-- The lists put in, one after the other, by their places. -/
def masks (n : Nat) : Nat → List (List Int) → Int → List (List Int)
  | 0, acc, _ => acc
  | d + 1, acc, m => masks n d (putG acc (bits m n 0) acc [] false) (m + 1)
/-- A map that keeps the order. -/
def Inc (f : Int → Int) : Prop := ∀ x y, x < y → f x < f y
theorem Inc.lt {f : Int → Int} (h : Inc f) (x y : Int) : f x < f y ↔ x < y := ⟨fun hf => by
  by_cases e : x = y
  · subst e; omega
  · by_cases c : x < y
    · exact c
    · have := h y x (by omega); omega, h x y⟩
theorem lex_map {f : Int → Int} (h : Inc f) : ∀ a b : List Int, lex (a.map f) (b.map f) = lex a b
  | [], [] => rfl
  | [], _ :: _ => rfl
  | _ :: _, [] => rfl
  | x :: xs, y :: ys => by
    simp only [List.map_cons, lex_cons, h.lt, lex_map h xs ys]
theorem cm_map {f : Int → Int} (h : Inc f) (a b : List Int) : cm (a.map f) (b.map f) = cm a b := by
  simp only [cm, List.length_map, lex_map h]
theorem putG_map {f : Int → Int} (h : Inc f) (l : List (List Int)) (x : List Int) : ∀ (rs out : List (List Int)) (done : Bool),
    putG (l.map (List.map f)) (x.map f) (rs.map (List.map f)) (out.map (List.map f)) done = (putG l x rs out done).map (List.map f)
  | [], out, done => by
    simp only [List.map_nil, putG]
    split <;> simp
  | r :: rs, out, done => by
    have e1 : (out ++ [r]).map (List.map f) = out.map (List.map f) ++ [r.map f] := by simp
    have e2 : (out ++ [x] ++ [r]).map (List.map f) = out.map (List.map f) ++ [x.map f] ++ [r.map f] := by simp
    have h1 := putG_map h l x rs (out ++ [r]) done
    have h2 := putG_map h l x rs (out ++ [x] ++ [r]) true
    rw [e1] at h1
    rw [e2] at h2
    simp only [List.map_cons, putG, cm_map h, h1, h2]
    split
    · rfl
    · split
      · split <;> rfl
      · rfl
theorem masks_map {f : Int → Int} (h : Inc f) (n : Nat) : ∀ (d : Nat) (acc : List (List Int)) (m : Int), d = 0 ∨ masks n d acc m = masks n (d - 1) (putG acc (bits m n 0) acc [] false) (m + 1)
  | 0, _, _ => .inl rfl
  | d + 1, _, _ => .inr rfl
theorem combs_map (f : Int → Int) : ∀ (n : Nat) (l : List Int), combs n (l.map f) = (combs n l).map (List.map f)
  | 0, l => by cases l <;> simp [combs]
  | n + 1, [] => by simp [combs]
  | n + 1, x :: xs => by
    have h1 := combs_map f n xs
    have h2 := combs_map f (n + 1) xs
    simp only [List.map_cons, combs, h1, h2, List.map_append, List.map_map]
    rfl
theorem upTo_map (f : Int → Int) (l : List Int) (j : Nat) : upTo (l.map f) j = (upTo l j).map (List.map f) := by
  simp only [upTo, combs_map, List.map_flatMap]
theorem putG_len (l : List (List Int)) (x : List Int) (hl : l.length ≤ 500) : ∀ (rs out : List (List Int)) (done : Bool), out.length + 2 * rs.length ≤ 1000 → (putG l x rs out done).length ≤ 1001
  | [], out, done, h => by
    rw [putG]
    split
    · simp at h; omega
    · simp at h ⊢; omega
  | r :: rs, out, done, h => by
    simp only [List.length_cons] at h
    rw [putG]
    split
    · omega
    · split
      · split
        · exact putG_len l x hl rs _ _ (by simp; omega)
        · exact putG_len l x hl rs _ _ (by simp; omega)
      · exact putG_len l x hl rs _ _ (by simp; omega)
/-- The order of the places, carried to a simplex's vertices. -/
def carry (s : List Int) (i : Int) : Int := if i < 0 then i else if i < (s.length : Int) then rd s i else 64 + i
theorem carry_inc (s : List Int) (h : ck s = 0) : Inc (carry s) := by
  obtain ⟨h1, hl, hb, ha⟩ := ck_ok h
  intro x y hxy
  unfold carry
  have hx : 0 ≤ x → x < (s.length : Int) → 0 ≤ rd s x ∧ rd s x < 64 := fun a b => by
    have := bad_at s hb x.toNat (by omega)
    rwa [show ((x.toNat : Nat) : Int) = x by omega] at this
  have hy : 0 ≤ y → y < (s.length : Int) → 0 ≤ rd s y ∧ rd s y < 64 := fun a b => by
    have := bad_at s hb y.toNat (by omega)
    rwa [show ((y.toNat : Nat) : Int) = y by omega] at this
  have hp : 0 ≤ x → y < (s.length : Int) → rd s x < rd s y := fun a b => by
    have := pair_rd s ha x.toNat y.toNat (by omega) (by omega)
    rwa [show ((x.toNat : Nat) : Int) = x by omega, show ((y.toNat : Nat) : Int) = y by omega] at this
  split
  · split
    · omega
    · split
      · have := hy (by omega) (by omega); omega
      · omega
  · split
    · rw [if_neg (by omega)]
      split
      · exact hp (by omega) (by omega)
      · have := hx (by omega) (by omega); omega
    · rw [if_neg (by omega), if_neg (by omega)]
      omega
theorem carry_at (s : List Int) (i : Nat) (hi : i < s.length) : carry s (i : Int) = rd s (i : Int) := by
  unfold carry
  rw [if_neg (by omega), if_pos (by omega)]
theorem carry_all (s : List Int) : ((List.range s.length).map (fun i : Nat => (i : Int))).map (carry s) = s := by
  refine List.ext_getElem (by simp) (fun i h1 h2 => ?_)
  simp only [List.getElem_map, List.getElem_range]
  rw [carry_at s i (by simpa using h2)]
  simp [rd, h2]
theorem rfaces_l1 (s : List Int) (hl : s.length ≤ 5) (acc : List (List Int)) (m : Int) (r : List (List Int)) : ∀ (d i : Nat) (x : List Int), d = s.length - i → i ≤ s.length → x.length ≤ i →
    Ev (fun k => (torusref07_Put.f k acc (x ++ (bits m d i).map (carry s))).bind fun t => torusref07_Faces.l0 k s t (wrap64 (m + 1))) r → Ev (fun k => torusref07_Faces.l1 k s acc m x (i : Int)) r
  | 0, i, x, hd, hi, hx, h => by
    refine ev_succ ?_
    simp only [torusref07_Faces.l1, if_neg (show ¬ ((i : Int) < (s.length : Int)) by omega)]
    simpa [bits] using h
  | d + 1, i, x, hd, hi, hx, h => by
    refine ev_succ ?_
    simp only [torusref07_Faces.l1, if_pos (show (i : Int) < (s.length : Int) by omega), if_pos (show (0 : Int) ≤ (i : Int) by omega), if_pos (show x.length < 17592186044416 by omega), wrap_nat i (by omega)]
    by_cases c : Int.tmod (shr .i64 m (i : Int)) 2 = 1
    · simp only [if_pos c]
      refine rfaces_l1 s hl acc m r d (i + 1) (x ++ [rd s (i : Int)]) (by omega) (by omega) (by simp; omega) ?_
      rw [bits, if_pos c, List.map_cons, carry_at s i (by omega)] at h
      simpa using h
    · simp only [if_neg c]
      refine rfaces_l1 s hl acc m r d (i + 1) x (by omega) (by omega) (by omega) ?_
      rwa [bits, if_neg c] at h
theorem rfaces_l0 (s : List Int) (hc : ck s = 0) (hs : shl .i64 1 (s.length : Int) = 2 ^ s.length) : ∀ (d m : Nat) (acc : List (List Int)), m + d = 2 ^ s.length → acc.length ≤ m →
    (∀ t : Nat, t ≤ d → (masks s.length t acc (m : Int)).length ≤ m + t) →
    Ev (fun k => torusref07_Faces.l0 k s (acc.map (List.map (carry s))) (m : Int)) ((masks s.length d acc (m : Int)).map (List.map (carry s)))
  | 0, m, acc, hm, ha, hq => by
    refine ev_succ ?_
    have hge : ¬ ((m : Int) < 2 ^ s.length) := by
      have : ¬ (m < 2 ^ s.length) := by omega
      exact_mod_cast this
    simp only [torusref07_Faces.l0, hs, masks, if_neg hge]
    exact Ev.now _
  | d + 1, m, acc, hm, ha, hq => by
    obtain ⟨h1, hl, hb, hasc⟩ := ck_ok hc
    have h32 : 2 ^ s.length ≤ 32 := by
      have := Nat.pow_le_pow_right (show 0 < 2 by decide) hl
      simpa using this
    refine ev_succ ?_
    have hlt : (m : Int) < 2 ^ s.length := by
      have : m < 2 ^ s.length := by omega
      exact_mod_cast this
    simp only [torusref07_Faces.l0, hs, if_pos hlt]
    have hbl := bits_len (m : Int) s.length 0
    refine rfaces_l1 s hl _ (m : Int) _ s.length 0 [] (by omega) (by omega) (by simp) ?_
    rw [List.nil_append]
    refine (ev_bind (rput_ev _ _ (by simp; omega) (by simp; omega))).mpr ?_
    have e := putG_map (carry_inc s hc) acc (bits (m : Int) s.length 0) acc [] false
    simp only [List.map_nil] at e
    rw [e, wrap_nat m (by omega)]
    have hq1 : (putG acc (bits (m : Int) s.length 0) acc [] false).length ≤ m + 1 := by
      have := hq 1 (by omega)
      simpa [masks] using this
    exact rfaces_l0 s hc hs d (m + 1) _ (by omega) hq1 (fun t ht => by
      have := hq (t + 1) (by omega)
      rw [masks] at this
      push_cast
      omega)
theorem faces_places : ∀ n : Nat, 1 ≤ n → n ≤ 5 → masks n (2 ^ n - 1) [] 1 = upTo ((List.range n).map (fun i : Nat => (i : Int))) n ∧ (∀ t, t ≤ 2 ^ n - 1 → (masks n t [] 1).length ≤ 1 + t) ∧ shl .i64 1 (n : Int) = 2 ^ n := by
  intro n h1 h5
  have : n = 1 ∨ n = 2 ∨ n = 3 ∨ n = 4 ∨ n = 5 := by omega
  rcases this with rfl | rfl | rfl | rfl | rfl <;> refine ⟨by decide +kernel, ?_, by decide +kernel⟩ <;> (intro t ht; revert t; decide +kernel)
theorem rfaces_ev (s : List Int) (h : ck s = 0) : Ev (fun k => torusref07_Faces.f k s) (upTo s s.length) := by
  obtain ⟨h1, hl, hb, ha⟩ := ck_ok h
  obtain ⟨p1, p2, p3⟩ := faces_places s.length h1 hl
  have h2 : 1 ≤ 2 ^ s.length := Nat.one_le_two_pow
  have := rfaces_l0 s h p3 (2 ^ s.length - 1) 1 [] (by omega) (by simp) (fun t ht => p2 t ht)
  rw [show (((1 : Nat) : Int)) = 1 from rfl, p1, ← upTo_map, carry_all] at this
  exact this
end Go.Proofs.YticckanjfdcpaaaDoor.PSimplex
namespace Go.Proofs.YticckanjfdcpaaaDoor.PSimplex
open Go.RowKit Go.Proofs.YticckanjfdcpaaaDoorW.PrintWords Go.Proofs.YticckanjfdcpaaaDoorW.PrintLast Go.Proofs.YticckanjfdcpaaaDoorW.PrintMore
set_option linter.unusedVariables false
set_option linter.unusedSimpArgs false

/-! a vertex is put into its place -/
theorem at_split : ∀ (s : List Int) (u : Int), s.Pairwise (fun a b => a < b) → (∀ x ∈ s.take (at_ s u), x < u) ∧ (∀ x ∈ s.drop (at_ s u), u ≤ x)
  | [], u, _ => by simp
  | a :: t, u, h => by
    obtain ⟨h1, h2⟩ := List.pairwise_cons.1 h
    obtain ⟨i1, i2⟩ := at_split t u h2
    by_cases c : a < u
    · have e : at_ (a :: t) u = at_ t u + 1 := by simp [at_, List.countP_cons, c]
      rw [e, List.take_succ_cons, List.drop_succ_cons]
      refine ⟨fun x hx => ?_, i2⟩
      rcases List.mem_cons.1 hx with rfl | hx
      · exact c
      · exact i1 x hx
    · have e : at_ (a :: t) u = 0 := by
        unfold at_
        rw [List.countP_eq_zero]
        intro x hx
        rcases List.mem_cons.1 hx with rfl | hx
        · simp; omega
        · have := h1 x hx
          simp; omega
      rw [e]
      refine ⟨fun x hx => by simp at hx, fun x hx => ?_⟩
      rw [List.drop_zero] at hx
      rcases List.mem_cons.1 hx with rfl | hx
      · omega
      · have := h1 x hx
        omega
theorem insR_mid (u : Int) : ∀ (A B : List Int), (∀ x ∈ A, u < x) → (∀ x ∈ B, x ≤ u) → insR (A ++ B) u = A ++ u :: B
  | [], [], _, _ => rfl
  | [], b :: B, _, hB => by
    have := hB b List.mem_cons_self
    simp only [List.nil_append, insR]
    rw [if_neg (by omega)]
  | a :: A, B, hA, hB => by
    have := hA a List.mem_cons_self
    simp only [List.cons_append, insR]
    rw [if_pos (by omega), insR_mid u A B (fun x hx => hA x (List.mem_cons_of_mem _ hx)) hB]
theorem srt_asc : ∀ (s R B : List Int), (R.reverse ++ s).Pairwise (fun a b => a < b) → srt R (s ++ B) = srt (s.reverse ++ R) B
  | [], R, B, _ => by simp
  | x :: s, R, B, h => by
    have hR : ∀ y ∈ R, y ≤ x := fun y hy => by
      have := (List.pairwise_append.1 h).2.2 y (List.mem_reverse.2 hy) x List.mem_cons_self
      omega
    have e : insR R x = x :: R := by
      have := insR_mid x [] R (by simp) hR
      simpa using this
    rw [List.cons_append, srt, e, srt_asc s (x :: R) B (by simpa using h)]
    simp
theorem srt_ins (s : List Int) (h : asc s = true) (u : Int) (hu : u ∉ s) : srt [] (s ++ [u]) = insAt s u := by
  have hp := asc_pair s h
  obtain ⟨h1, h2⟩ := at_split s u hp
  rw [srt_asc s [] [u] (by simpa using hp), List.append_nil, srt, srt]
  have e : s.reverse = (s.drop (at_ s u)).reverse ++ (s.take (at_ s u)).reverse := by
    rw [← List.reverse_append, List.take_append_drop]
  rw [e, insR_mid u _ _ (fun x hx => ?_) (fun x hx => ?_)]
  · simp [insAt]
  · have := h2 x (List.mem_reverse.1 hx)
    have hne : x ≠ u := by
      rintro rfl
      exact hu (List.drop_subset _ _ (List.mem_reverse.1 hx))
    omega
  · have := h1 x (List.mem_reverse.1 hx)
    omega

/-! the cofacets -/
theorem cofs_long (s : List Int) (h : 4 < s.length) : ∀ m u, cofs s m u = []
  | 0, _ => rfl
  | m + 1, u => by
    rw [cofs, cofs_long s h m (u + 1)]
    unfold cof1
    split
    · rfl
    · rw [if_neg (by omega)]; rfl
/-- What Cofacets answers. -/
def cf (s : List Int) (n : Int) : List (List Int) × Int :=
  if ck s = 0 then (if n < 0 then ([], 1) else if n > 64 then ([], 1) else if rd s ((s.length - 1 : Nat) : Int) ≥ n then ([], 1) else (cofs s n.toNat 0, 0)) else ([], ck s)
theorem scof_ev (s : List Int) (n : Int) : Ev (fun k => simplex_Cofacets.f k s n) (cf s n) := by
  by_cases c : ck s = 0
  · obtain ⟨h1, hl, hb, ha⟩ := ck_ok c
    have hw : wrap64 ((s.length : Int) - 1) = ((s.length - 1 : Nat) : Int) := by rw [wrap_id (by omega) (by omega)]; omega
    by_cases c4 : 0 ≤ n ∧ n ≤ 64 ∧ rd s ((s.length - 1 : Nat) : Int) < n
    · have := cofacets_ev s c n.toNat (by omega) (by omega)
      rw [show ((n.toNat : Nat) : Int) = n by omega] at this
      rw [cf, if_pos c, if_neg (by omega), if_neg (by omega), if_neg (by omega)]
      exact this
    · have e : cf s n = ([], 1) := by
        rw [cf, if_pos c]
        split
        · rfl
        · split
          · rfl
          · rw [if_pos (by omega)]
      rw [e]
      unfold simplex_Cofacets.f
      refine (ev_bind (scheck_ev s)).mpr ?_
      simp only [c, if_true, hw, if_pos (show (0 : Int) ≤ ((s.length - 1 : Nat) : Int) by omega), if_pos (show ((s.length - 1 : Nat) : Int) < (s.length : Int) by omega)]
      have stop : Ev (fun k => simplex_Cofacets.j0 k s n [] true) ([], 1) := by
        refine ev_succ ?_
        simp only [simplex_Cofacets.j0, if_true]
        exact Ev.now _
      by_cases c1 : n < 0
      · simp only [if_pos c1]; exact stop
      · by_cases c2 : n > 64
        · simp only [if_neg c1, if_pos c2]; exact stop
        · simp only [if_neg c1, if_neg c2, decide_eq_true (show rd s ((s.length - 1 : Nat) : Int) ≥ n by omega)]; exact stop
  · rw [cf, if_neg c]
    unfold simplex_Cofacets.f
    refine (ev_bind (scheck_ev s)).mpr ?_
    simp only [if_neg c]
    exact Ev.now _
theorem rcof_l (s : List Int) (ha : asc s = true) (hl : s.length ≤ 4) (n : Nat) (hn : n ≤ 64) : ∀ (m u : Nat) (acc : List (List Int)), m = n - u → u ≤ n → acc.length ≤ u →
    Ev (fun k => torusref07_Cofacets.l0 k s (n : Int) acc (u : Int)) (acc ++ cofs s m u, 0)
  | 0, u, acc, hm, hu, hac => by
    refine ev_succ ?_
    simp only [torusref07_Cofacets.l0, if_pos (show (s.length : Int) ≤ 4 by omega), decide_eq_false (show ¬ ((u : Int) < (n : Int)) by omega)]
    refine ev_succ ?_
    simp only [torusref07_Cofacets.j2, Bool.false_eq_true, if_false, cofs, List.append_nil]
    exact Ev.now _
  | m + 1, u, acc, hm, hu, hac => by
    refine ev_succ ?_
    simp only [torusref07_Cofacets.l0, if_pos (show (s.length : Int) ≤ 4 by omega), decide_eq_true (show (u : Int) < (n : Int) by omega)]
    refine ev_succ ?_
    simp only [torusref07_Cofacets.j2, if_true]
    refine (ev_bind (in_ev s (u : Int) (by omega))).mpr ?_
    have hcl := cof1_len s (u : Int)
    have ih := rcof_l s ha hl n hn m (u + 1) (acc ++ cof1 s (u : Int)) (by omega) (by omega) (by simp; omega)
    rw [List.append_assoc] at ih
    by_cases c : (u : Int) ∈ s
    · simp only [decide_eq_true c, if_true, wrap_nat u (by omega), cofs]
      have e1 : cof1 s (u : Int) = [] := by unfold cof1; rw [if_pos c]
      rw [e1] at ih ⊢
      simpa using ih
    · simp only [decide_eq_false c, Bool.false_eq_true, if_false, Option.bind_some, List.nil_append, List.length_nil, if_pos (show 0 + s.length < 17592186044416 by omega), if_pos (show s.length < 17592186044416 by omega)]
      refine (ev_bind (rsorted_ev (s ++ [(u : Int)]) (by simp; omega))).mpr ?_
      simp only [if_pos (show acc.length < 5864062014805 by omega), wrap_nat u (by omega), cofs, srt_ins s ha (u : Int) c]
      have e1 : cof1 s (u : Int) = [insAt s (u : Int)] := by unfold cof1; rw [if_neg c, if_pos hl]
      rw [e1] at ih ⊢
      simpa using ih
theorem rcof_ev (s : List Int) (n : Int) : Ev (fun k => torusref07_Cofacets.f k s n) (cf s n) := by
  by_cases c : ck s = 0
  · obtain ⟨h1, hl, hb, ha⟩ := ck_ok c
    have hw : wrap64 ((s.length : Int) - 1) = ((s.length - 1 : Nat) : Int) := by rw [wrap_id (by omega) (by omega)]; omega
    unfold torusref07_Cofacets.f
    refine (ev_bind (rcheck_ev s)).mpr ?_
    simp only [c, if_true, hw, if_pos (show (0 : Int) ≤ ((s.length - 1 : Nat) : Int) by omega), if_pos (show ((s.length - 1 : Nat) : Int) < (s.length : Int) by omega)]
    have stop : Ev (fun k => torusref07_Cofacets.j0 k s n true) ([], 1) := by
      refine ev_succ ?_
      simp only [torusref07_Cofacets.j0, if_true]
      exact Ev.now _
    rw [cf, if_pos c]
    by_cases c1 : n < 0
    · simp only [if_pos c1]; exact stop
    · by_cases c2 : n > 64
      · simp only [if_neg c1, if_pos c2]; exact stop
      · by_cases c3 : rd s ((s.length - 1 : Nat) : Int) ≥ n
        · simp only [if_neg c1, if_neg c2, decide_eq_true c3, if_pos c3]; exact stop
        · simp only [if_neg c1, if_neg c2, decide_eq_false c3, if_neg c3]
          refine ev_succ ?_
          simp only [torusref07_Cofacets.j0, Bool.false_eq_true, if_false]
          by_cases c5 : s.length ≤ 4
          · have := rcof_l s ha c5 n.toNat (by omega) n.toNat 0 [] (by omega) (by omega) (by simp)
            rw [show ((n.toNat : Nat) : Int) = n by omega] at this
            simpa using this
          · rw [cofs_long s (by omega)]
            refine ev_succ ?_
            simp only [torusref07_Cofacets.l0, if_neg (show ¬ ((s.length : Int) ≤ 4) by omega)]
            refine ev_succ ?_
            simp only [torusref07_Cofacets.j2, Bool.false_eq_true, if_false]
            exact Ev.now _
  · rw [cf, if_neg c]
    unfold torusref07_Cofacets.f
    refine (ev_bind (rcheck_ev s)).mpr ?_
    simp only [if_neg c]
    exact Ev.now _

/-! the join -/
def jn (a b : List Int) : List Int × Int :=
  if ck a = 0 then (if ck b = 0 then (if (meetL a b).length > 0 then ([], 5) else if a.length + b.length > 5 then ([], 3) else (srt [] (a ++ b), 0)) else ([], ck b)) else ([], ck a)
theorem sjoin_ev (a b : List Int) : Ev (fun k => simplex_Join.f k a b) (jn a b) := by
  unfold simplex_Join.f jn
  refine (ev_bind (scheck_ev a)).mpr ?_
  by_cases ca : ck a = 0
  · obtain ⟨ha1, ha5, _, _⟩ := ck_ok ca
    simp only [if_pos ca]
    refine (ev_bind (scheck_ev b)).mpr ?_
    by_cases cb : ck b = 0
    · obtain ⟨hb1, hb5, _, _⟩ := ck_ok cb
      simp only [if_pos cb]
      refine (ev_bind (smeet_ev a b (by omega) (by omega))).mpr ?_
      by_cases cm : (meetL a b).length > 0
      · simp only [if_pos cm, if_pos (show ((meetL a b).length : Int) > 0 by omega)]
        exact Ev.now _
      · simp only [if_neg cm, if_neg (show ¬ (((meetL a b).length : Int) > 0) by omega), wrap_id (show -9223372036854775808 ≤ (a.length : Int) + (b.length : Int) by omega) (show (a.length : Int) + (b.length : Int) ≤ 9223372036854775807 by omega)]
        by_cases cl : a.length + b.length > 5
        · simp only [if_pos cl, if_pos (show (a.length : Int) + (b.length : Int) > 5 by omega)]
          exact Ev.now _
        · simp only [if_neg cl, if_neg (show ¬ ((a.length : Int) + (b.length : Int) > 5) by omega)]
          have ef : ([a, b] : List (List Int)).flatten = a ++ b := by simp
          simp only [api_Simplex_int_57.f, ef, if_pos (show (a ++ b).length < 17592186044416 by simp; omega), Option.bind_some]
          refine (ev_bind (sort42_ev (a ++ b) (by simp; omega))).mpr ?_
          exact Ev.now _
    · simp only [if_neg cb]
      exact Ev.now _
  · simp only [if_neg ca]
    exact Ev.now _
theorem rjoin_ev (a b : List Int) : Ev (fun k => torusref07_Join.f k a b) (jn a b) := by
  unfold torusref07_Join.f jn
  refine (ev_bind (rcheck_ev a)).mpr ?_
  by_cases ca : ck a = 0
  · obtain ⟨ha1, ha5, _, _⟩ := ck_ok ca
    simp only [if_pos ca]
    refine (ev_bind (rcheck_ev b)).mpr ?_
    by_cases cb : ck b = 0
    · obtain ⟨hb1, hb5, _, _⟩ := ck_ok cb
      simp only [if_pos cb]
      refine (ev_bind (rmeet_ev a b (by omega) (by omega))).mpr ?_
      by_cases cm : (meetL a b).length > 0
      · simp only [if_pos cm, if_pos (show ((meetL a b).length : Int) > 0 by omega)]
        exact Ev.now _
      · simp only [if_neg cm, if_neg (show ¬ (((meetL a b).length : Int) > 0) by omega), wrap_id (show -9223372036854775808 ≤ (a.length : Int) + (b.length : Int) by omega) (show (a.length : Int) + (b.length : Int) ≤ 9223372036854775807 by omega)]
        by_cases cl : a.length + b.length > 5
        · simp only [if_pos cl, if_pos (show (a.length : Int) + (b.length : Int) > 5 by omega)]
          exact Ev.now _
        · simp only [if_neg cl, if_neg (show ¬ ((a.length : Int) + (b.length : Int) > 5) by omega), Option.bind_some, List.nil_append, List.length_nil, if_pos (show 0 + a.length < 17592186044416 by omega), if_pos (show a.length + b.length < 17592186044416 by omega)]
          refine (ev_bind (rsorted_ev (a ++ b) (by simp; omega))).mpr ?_
          exact Ev.now _
    · simp only [if_neg cb]
      exact Ev.now _
  · simp only [if_neg ca]
    exact Ev.now _
theorem jn_len (a b : List Int) : (jn a b).1.length ≤ 5 := by
  unfold jn
  split
  · split
    · split
      · simp
      · split
        · simp
        · have := srt_len (a ++ b) []
          simp at this
          simp only [this]
          omega
    · simp
  · simp

/-! what is there is the same -/
theorem same_l (x : List (List Int)) (hx : ∀ r ∈ x, r.length ≤ 1000) (hl : x.length ≤ 100000) : ∀ (m i : Nat), m = x.length - i → i ≤ x.length → Ev (fun k => torusref07_Same.l0 k x x (i : Int)) true
  | 0, i, hm, hi => by
    refine ev_succ ?_
    simp only [torusref07_Same.l0, if_neg (show ¬ ((i : Int) < (x.length : Int)) by omega)]
    exact Ev.now _
  | m + 1, i, hm, hi => by
    refine ev_succ ?_
    have hrd : rd_L1 x (i : Int) = x[i] := by simp [rd_L1, show i < x.length by omega]
    simp only [torusref07_Same.l0, if_pos (show (i : Int) < (x.length : Int) by omega), if_pos (show (0 : Int) ≤ (i : Int) by omega), hrd, wrap_nat i (by omega)]
    refine (ev_bind (rcmp_ev x[i] x[i] (by have := hx x[i] (List.getElem_mem _); omega))).mpr ?_
    simp only [cm_self, if_true]
    exact same_l x hx hl m (i + 1) (by omega) (by omega)
theorem same_ev (x : List (List Int)) (hx : ∀ r ∈ x, r.length ≤ 1000) (hl : x.length ≤ 100000) : Ev (fun k => torusref07_Same.f k x x) true := by
  unfold torusref07_Same.f
  simp only [if_true]
  exact same_l x hx hl x.length 0 (by omega) (by omega)
theorem combs_row : ∀ (n : Nat) (l : List Int), ∀ r ∈ combs n l, r.length = n
  | 0, l, r, h => by
    rw [show combs 0 l = [[]] by simp [combs]] at h
    rw [List.mem_singleton.1 h]
    rfl
  | n + 1, [], r, h => by simp [combs] at h
  | n + 1, x :: xs, r, h => by
    rw [combs] at h
    rcases List.mem_append.1 h with h | h
    · obtain ⟨q, hq, rfl⟩ := List.mem_map.1 h
      simp [combs_row n xs q hq]
    · exact combs_row (n + 1) xs r h
theorem upTo_row (l : List Int) (j : Nat) : ∀ r ∈ upTo l j, r.length ≤ j := fun r h => by
  obtain ⟨n, hn, hr⟩ := List.mem_flatMap.1 h
  have := combs_row (n + 1) l r hr
  have := List.mem_range.1 hn
  omega
theorem cofs_row (s : List Int) : ∀ (m u : Nat), ∀ r ∈ cofs s m u, r.length ≤ s.length + 1
  | 0, _, r, h => by simp [cofs] at h
  | m + 1, u, r, h => by
    rw [cofs] at h
    rcases List.mem_append.1 h with h | h
    · unfold cof1 at h
      split at h
      · simp at h
      · split at h
        · rw [List.mem_singleton.1 h]
          simp [insAt]
          omega
        · simp at h
    · exact cofs_row s m (u + 1) r h
theorem cf_row (s : List Int) (n : Int) (hs : s.length ≤ 200) : (∀ r ∈ (cf s n).1, r.length ≤ 1000) ∧ (cf s n).1.length ≤ 100000 := by
  unfold cf
  split
  · split
    · simp
    · split
      · simp
      · split
        · simp
        · refine ⟨fun r h => ?_, ?_⟩
          · have := cofs_row s n.toNat 0 r h
            omega
          · have := cofs_len s n.toNat 0
            simp only
            omega
  · simp
/-- What Facets and Faces answer. -/
def fa (s : List Int) : List (List Int) := if ck s = 0 then (if s.length = 1 then [] else fcs s) else []
def fc (s : List Int) : List (List Int) := if ck s = 0 then upTo s s.length else []
theorem sfacets_ev (s : List Int) : Ev (fun k => simplex_Facets.f k s) (fa s, ck s) := by
  by_cases c : ck s = 0
  · rw [fa, if_pos c, c]
    exact facets_ev s c
  · rw [fa, if_neg c]
    unfold simplex_Facets.f
    refine (ev_bind (scheck_ev s)).mpr ?_
    simp only [if_neg c]
    refine ev_succ ?_
    simp only [simplex_Facets.j0, if_true]
    exact Ev.now _
theorem sfaces_ev (s : List Int) : Ev (fun k => simplex_Faces.f k s) (fc s, ck s) := by
  unfold simplex_Faces.f
  refine (ev_bind (scheck_ev s)).mpr ?_
  by_cases c : ck s = 0
  · simp only [if_pos c, fc, c]
    exact Ev.now _
  · simp only [if_neg c, fc]
    exact Ev.now _
theorem fa_row (s : List Int) (hs : s.length ≤ 200) : (∀ r ∈ fa s, r.length ≤ 1000) ∧ (fa s).length ≤ 100000 := by
  unfold fa
  split
  · split
    · simp
    · refine ⟨fun r h => ?_, by simp [fcs]; omega⟩
      obtain ⟨i, _, rfl⟩ := List.mem_map.1 h
      have := (List.eraseIdx_sublist s i).length_le
      omega
  · simp
theorem fc_row (s : List Int) : (∀ r ∈ fc s, r.length ≤ 1000) ∧ (fc s).length ≤ 100000 := by
  unfold fc
  split
  · rename_i c
    obtain ⟨h1, hl, _, _⟩ := ck_ok c
    refine ⟨fun r h => ?_, ?_⟩
    · have := upTo_row s s.length r h
      omega
    · have := upTo_len s hl s.length
      omega
  · simp
end Go.Proofs.YticckanjfdcpaaaDoor.PSimplex
namespace Go.Proofs.YticckanjfdcpaaaDoor.Pure
open Go.RowKit Go.Proofs.YticckanjfdcpaaaDoor.PSimplex Go.Proofs.YticckanjfdcpaaaDoorW.PrintWords Go.Proofs.YticckanjfdcpaaaDoorW.PrintLast
set_option linter.unusedVariables false
set_option linter.unusedSimpArgs false

theorem last_round (a b : List Int) (n : Int) : Ev (fun k => toruslaw07_SimplexFacesMatch.l0 k a b n (ck a) (fa a) (fc a) (cf a n).1 (cf a n).2 (jn a b).1 (jn a b).2 2) true := by
  refine ev_succ ?_
  simp only [toruslaw07_SimplexFacesMatch.l0, if_neg (show ¬ ((2 : Int) < 2) by omega)]
  exact law_long awake_ev (Ev.now _)
theorem one_round (a b : List Int) (n : Int) (ha : a.length ≤ 200) (i j : Int) (hi : i < 2) (hj : wrap64 (i + 1) = j) (h : Ev (fun k => toruslaw07_SimplexFacesMatch.l0 k a b n (ck a) (fa a) (fc a) (cf a n).1 (cf a n).2 (jn a b).1 (jn a b).2 j) true) :
    Ev (fun k => toruslaw07_SimplexFacesMatch.l0 k a b n (ck a) (fa a) (fc a) (cf a n).1 (cf a n).2 (jn a b).1 (jn a b).2 i) true := by
  refine ev_succ ?_
  simp only [toruslaw07_SimplexFacesMatch.l0, if_pos hi, hj]
  refine law_long (sfacets_ev a) ?_
  refine law_long (sfaces_ev a) ?_
  refine law_long (scof_ev a n) ?_
  refine law_long (sjoin_ev a b) ?_
  simp only [if_true]
  refine law_long (same_ev _ (fa_row a ha).1 (fa_row a ha).2) ?_
  simp only [if_true]
  refine law_long (same_ev _ (fc_row a).1 (fc_row a).2) ?_
  simp only [if_true]
  refine law_long (same_ev _ (cf_row a n ha).1 (cf_row a n ha).2) ?_
  simp only [if_true]
  refine law_long (rcmp_ev _ _ (by have := jn_len a b; omega)) ?_
  simp only [cm_self, if_true]
  exact h
theorem SimplexFacesMatch : toruslaw07_SimplexFacesMatch.Pure := by
  intro a b n _ _ _ _ _ _ _
  apply Ev.rounds
  unfold toruslaw07_SimplexFacesMatch.f
  have short : Ev (fun k => toruslaw07_SimplexFacesMatch.j0 k a b n true) true := by
    refine ev_succ ?_
    simp only [toruslaw07_SimplexFacesMatch.j0, if_true]
    exact law_long awake_ev (Ev.now _)
  by_cases ca : (a.length : Int) > 200
  · simp only [if_pos ca]
    exact short
  · by_cases cb : (b.length : Int) > 200
    · simp only [if_neg ca, decide_eq_true cb]
      exact short
    · simp only [if_neg ca, decide_eq_false cb]
      refine ev_succ ?_
      simp only [toruslaw07_SimplexFacesMatch.j0, Bool.false_eq_true, if_false]
      refine law_long (rcheck_ev a) ?_
      have rest : Ev (fun k => toruslaw07_SimplexFacesMatch.j1 k a b n (ck a) (fa a) (fc a)) true := by
        refine ev_succ ?_
        simp only [toruslaw07_SimplexFacesMatch.j1]
        refine law_long (rcof_ev a n) ?_
        refine law_long (rjoin_ev a b) ?_
        exact one_round a b n (by omega) 0 1 (by omega) (by rw [wrap_id (by omega) (by omega)]; rfl) (one_round a b n (by omega) 1 2 (by omega) (by rw [wrap_id (by omega) (by omega)]; rfl) (last_round a b n))
      by_cases c : ck a = 0
      · simp only [if_pos c]
        refine law_long (rfacets_ev a c) ?_
        refine law_long (rfaces_ev a c) ?_
        have e1 : fa a = if a.length = 1 then [] else fcs a := by rw [fa, if_pos c]
        have e2 : fc a = upTo a a.length := by rw [fc, if_pos c]
        rw [← e1, ← e2]
        exact rest
      · simp only [if_neg c]
        have e1 : fa a = [] := by rw [fa, if_neg c]
        have e2 : fc a = [] := by rw [fc, if_neg c]
        rw [e1, e2] at rest
        exact rest
end Go.Proofs.YticckanjfdcpaaaDoor.Pure
