/- Go functions as plain Lean functions, each with a proof that the Go code computes just that, and facts on them; conditions: those that each theorem states. -/
import Derived.Test.YtfmcgammhfdfnaaGreatDoorQText6
import Derived.Deep.DeepCutAuto
namespace Go.Proofs.YtfmcgammhfdfnaaGreatDoor.PRatio
open Go.RowKit Go.Proofs.YtfmcgammhfdfnaaGreatDoorW.PrintWords Go.Proofs.YtfmcgammhfdfnaaGreatDoorW.PrintLast Go.Proofs.YtfmcgammhfdfnaaGreatDoorW.PrintMore
set_option linter.unusedVariables false
set_option linter.unusedSimpArgs false
def turned (l : List Int) (i : Nat) : List Int := (l.reverse.take i) ++ (l.drop i).take (l.length - 2 * i) ++ l.reverse.drop (l.length - i)
theorem turned_zero (l : List Int) : turned l 0 = l := by
 unfold turned
 simp
theorem turned_len (l : List Int) (i : Nat) (h : 2 * i ≤ l.length) : (turned l i).length = l.length := by
 unfold turned
 simp
 omega
theorem turned_get (l : List Int) (i j : Nat) (h : 2 * i ≤ l.length) (hj : j < l.length) : (turned l i)[j]? = if j < i ∨ l.length - i ≤ j then l.reverse[j]? else l[j]? := by
 unfold turned
 rw [List.append_assoc, List.getElem?_append]
 simp only [List.length_take, List.length_reverse]
 rw [Nat.min_eq_left (by omega)]
 by_cases h1 : j < i
 ·rw [if_pos h1, if_pos (.inl h1), List.getElem?_take, if_pos h1]
 ·rw [if_neg h1, List.getElem?_append, List.length_take, List.length_drop, Nat.min_eq_left (by omega)]
  by_cases h2 : j - i < l.length - 2 * i
  ·rw [if_pos h2, if_neg (by omega), List.getElem?_take, if_pos h2, List.getElem?_drop, show i + (j - i) = j by omega]
  ·rw [if_neg h2, if_pos (by omega), List.getElem?_drop]
   congr 1
   omega
theorem rd_get {l : List Int} {i : Nat} (h : i < l.length) : l[i]? = some (rd l (i : Int)) := by
 simp [rd, h]
theorem turned_next (l : List Int) (i : Nat) (h : 2 * (i + 1) ≤ l.length) : ((turned l i).set i (rd (turned l i) ((l.length - 1 - i : Nat) : Int))).set (l.length - 1 - i) (rd (turned l i) (i : Int)) = turned l (i + 1) := by
 have hl := turned_len l i (by omega)
 have e1 : rd (turned l i) (i : Int) = rd l (i : Int) := by
  have h1 := turned_get l i i (by omega) (by omega)
  rw [if_neg (by omega), rd_get (by omega), rd_get (by omega)] at h1
  exact Option.some.inj h1
 have e2 : rd (turned l i) ((l.length - 1 - i : Nat) : Int) = rd l ((l.length - 1 - i : Nat) : Int) := by
  have h1 := turned_get l i (l.length - 1 - i) (by omega) (by omega)
  rw [if_neg (by omega), rd_get (by omega), rd_get (by omega)] at h1
  exact Option.some.inj h1
 rw [e1, e2]
 refine List.ext_getElem? fun j => ?_
 by_cases hj : j < l.length
 ·rw [turned_get l (i + 1) j h hj, List.getElem?_set, List.getElem?_set, List.length_set, hl]
  by_cases h1 : l.length - 1 - i = j
  ·rw [if_pos h1, if_pos (by omega), if_pos (by omega), List.getElem?_reverse hj, rd_get (by omega), show l.length - 1 - j = i by omega]
  ·rw [if_neg h1]
   by_cases h2 : i = j
   ·rw [if_pos h2, if_pos (by omega), if_pos (by omega), List.getElem?_reverse hj, rd_get (by omega), ← h2]
   ·rw [if_neg h2, turned_get l i j (by omega) hj]
    by_cases h3 : j < i ∨ l.length - i ≤ j
    ·rw [if_pos h3, if_pos (by omega)]
    ·rw [if_neg h3, if_neg (by omega)]
 ·rw [List.getElem?_eq_none (by rw [List.length_set, List.length_set, hl]; omega), List.getElem?_eq_none (by rw [turned_len l _ h]; omega)]
theorem turned_end (l : List Int) (i : Nat) (h : l.length / 2 = i) : turned l i = l.reverse := by
 refine List.ext_getElem? fun j => ?_
 by_cases hj : j < l.length
 ·rw [turned_get l i j (by omega) hj]
  by_cases h3 : j < i ∨ l.length - i ≤ j
  ·rw [if_pos h3]
  ·rw [if_neg h3, List.getElem?_reverse hj]
   congr 1
   omega
 ·rw [List.getElem?_eq_none (by rw [turned_len l _ (by omega)]; omega), List.getElem?_eq_none (by rw [List.length_reverse]; omega)]
theorem fdm {a b q r : Int} (h : a = b * q + r) (hb : b ≠ 0) (h1 : 0 < b → 0 ≤ r ∧ r < b) (h2 : b < 0 → b < r ∧ r ≤ 0) : a.fdiv b = q ∧ a.fmod b = r := by
 have e : a.fdiv b = q := by
  rw [h]
  have h3 := Int.fmod_add_mul_fdiv a b
  rcases (by omega : 0 < b ∨ b < 0) with hb | hb
  ·rw [Int.fdiv_eq_ediv_of_nonneg _ (by omega), Int.add_comm, Int.add_mul_ediv_left _ _ (by omega), Int.ediv_eq_zero_of_lt (h1 hb).1 (h1 hb).2]
   omega
  ·have h4 := h2 hb
   have e2 : (b * q + r).fdiv b = (-(b * q + r)).fdiv (-b) := by rw [Int.neg_fdiv_neg]
   rw [e2, Int.fdiv_eq_ediv_of_nonneg _ (by omega), show -(b * q + r) = -r + (-b) * q by rw [Int.neg_mul]; omega, Int.add_mul_ediv_left _ _ (by omega), Int.ediv_eq_zero_of_lt (by omega) (by omega)]
   omega
 refine ⟨e, ?_⟩
 have h3 := Int.fmod_add_mul_fdiv a b
 rw [e] at h3
 omega
theorem fd_abs {x y q r : Int} (hy : y ≠ 0) (h : (x.natAbs : Int) = y.natAbs * q + r) (h0 : 0 ≤ r) (h1 : r < y.natAbs) :
  (if (decide (x < 0) != decide (y < 0)) = true ∧ r ≠ 0 then x.fdiv y = -q - 1 ∧ x.fmod y = sgnd (decide (x < 0)) r + y else x.fdiv y = sgnd (decide (x < 0) != decide (y < 0)) q ∧ x.fmod y = sgnd (decide (x < 0)) r) := by
 by_cases hx : x < 0 <;> by_cases hs : y < 0 <;> simp only [hx, hs, decide_true, decide_false, bne_self_eq_false, Bool.false_eq_true, false_and, if_false, Bool.true_bne, Bool.not_false, Bool.false_bne, true_and, sgnd_true, sgnd_false]
 ·refine fdm ?_ hy (fun _ => by omega) (fun _ => by omega)
  have e : (y.natAbs : Int) = -y := by omega
  rw [e, Int.neg_mul] at h
  omega
 ·have e : (y.natAbs : Int) = y := by omega
  rw [e] at h
  split
  ·refine fdm ?_ hy (fun _ => by omega) (fun _ => by omega)
   rw [Int.mul_sub, Int.mul_neg]
   omega
  ·refine fdm ?_ hy (fun _ => by omega) (fun _ => by omega)
   rw [Int.mul_neg]
   omega
 ·have e : (y.natAbs : Int) = -y := by omega
  rw [e, Int.neg_mul] at h
  split
  ·refine fdm ?_ hy (fun _ => by omega) (fun _ => by omega)
   rw [Int.mul_sub, Int.mul_neg]
   omega
  ·refine fdm ?_ hy (fun _ => by omega) (fun _ => by omega)
   rw [Int.mul_neg]
   omega
 ·refine fdm ?_ hy (fun _ => by omega) (fun _ => by omega)
  have e : (y.natAbs : Int) = y := by omega
  rw [e] at h
  omega
theorem sz_small {z : Int} (h : z.natAbs < 10000000000000000000) : Sz z := sz_of (by have := nd_int64 (y := z.natAbs) h; omega)
theorem quo_l1 {x1 : ByteArray} {s1 s2 : Bool} {x y qs : List Int} {i : Int} {R : ByteArray × ByteArray} (hy : Ten.Can y) (hy0 : y ≠ []) (hym : y.length ≤ 1000000000) (hq : qs.length < 1000000001) : ∀ (m : Nat) (r : List Int) (c : Int), Ten.Can r → r.length ≤ 1000000001 → 0 ≤ c → c + m ≤ 100 → Ten.val r < Ten.val y * (m + 1) →
  (∀ r' c', Ten.Can r' → r'.length ≤ y.length → c ≤ c' → Ten.val r = Ten.val y * (c' - c) + Ten.val r' → Ten.val r' < Ten.val y → Ev (fun k => torusref02_Quotient.l0 k x1 s1 x s2 y (qs ++ [c']) r' (wrap64 (i - 1))) R) →
  Ev (fun k => torusref02_Quotient.l1 k x1 s1 x s2 y qs r i c) R
 |m, r, c, hr, hrm, hc, hcm, hlt, hk => by
  refine ev_succ ?_
  simp only [torusref02_Quotient.l1]
  have hn := Ten.val_nonneg r hr.1
  have hp := Ten.can_pos y hy hy0
  refine (ev_bind (rsize_ev hr hy (by omega))).2 ?_
  by_cases h : Ten.val y ≤ Ten.val r
  ·simp only [show ((Ten.val r - Ten.val y).sign ≥ 0) from Int.sign_nonneg_iff.2 (by omega), if_true]
   obtain ⟨d, h1, h2, h3, h4⟩ := difference_ev hr.1 hy.1 (by omega) (can_len_le hr hy h) h
   refine (ev_bind h1).2 ?_
   rw [wrap_id (by omega) (by omega)]
   obtain ⟨m, rfl⟩ : ∃ q, m = q + 1 := ⟨m - 1, by
    rcases Nat.eq_zero_or_pos m with rfl | h
    ·simp at hlt; omega
    ·omega⟩
   rw [show ((m + 1 : Nat) : Int) + 1 = (m + 1 : Int) + 1 by omega, Int.mul_add _ ((m : Int) + 1)] at hlt
   refine quo_l1 hy hy0 hym hq m d (c + 1) h2 (by omega) (by omega) (by omega) (by rw [h4]; omega) fun r' c' g1 g2 g3 g4 g5 => hk r' c' g1 g2 (by omega) ?_ g5
   rw [h4] at g4
   rw [show c' - c = (c' - (c + 1)) + 1 by omega, Int.mul_add]
   omega
  ·simp only [show ¬ ((Ten.val r - Ten.val y).sign ≥ 0) from fun h2 => by have := Int.sign_nonneg_iff.1 h2; omega, if_false]
   rw [show (fun k => if qs.length < 17592186044416 then torusref02_Quotient.l0 k x1 s1 x s2 y (qs ++ [c]) r (wrap64 (i - 1)) else none) = fun k => torusref02_Quotient.l0 k x1 s1 x s2 y (qs ++ [c]) r (wrap64 (i - 1)) from funext fun k => by rw [if_pos (by omega)]]
   exact hk r c hr (by
    refine Nat.le_of_not_lt fun hl => ?_
    have := Ten.can_len_lt hy hr hl
    omega) (by omega) (by rw [Int.sub_self, Int.mul_zero]; omega) (by omega)
 termination_by m => m
theorem quo_l2 {x1 : ByteArray} {s1 s2 : Bool} {l r : List Int} {R : ByteArray × ByteArray} (hm : l.length ≤ 2000000000)
  (hk : Ev (fun k => (torusref02_text.f k (s1 != s2) l.reverse).bind fun t648 => ((torusref02_text.f k s1 r).bind fun t649 => (if t649.toList = ([48] : List UInt8) then (torusref02_Quotient.j5 k x1 t648 t649 false) else (torusref02_Quotient.j5 k x1 t648 t649 (s1 != s2))))) R) :
  ∀ (m i : Nat), i + m = l.length / 2 → Ev (fun k => torusref02_Quotient.l2 k x1 s1 s2 (turned l i) r (i : Int)) R
 |0, i, h => by
  refine ev_succ ?_
  have hl := turned_len l i (by omega)
  simp only [torusref02_Quotient.l2, hl]
  rw [wrap_id (a := (l.length : Int) / 2) (by omega) (by omega)]
  simp only [show ¬ (i : Int) < (l.length : Int) / 2 by omega, if_false]
  rw [turned_end l i (by omega)]
  exact hk
 |m + 1, i, h => by
  refine ev_succ ?_
  have hl := turned_len l i (by omega)
  simp only [torusref02_Quotient.l2, hl]
  rw [wrap_id (a := (l.length : Int) / 2) (by omega) (by omega), wrap_id (a := (l.length : Int) - 1) (by omega) (by omega), wrap_id (a := (l.length : Int) - 1 - i) (by omega) (by omega), wrap_id (a := (i : Int) + 1) (by omega) (by omega)]
  have e : (l.length : Int) - 1 - i = ((l.length - 1 - i : Nat) : Int) := by omega
  have e2 : (i : Int) + 1 = ((i + 1 : Nat) : Int) := by omega
  have p1 : (i : Int) < (l.length : Int) / 2 := by omega
  have p2 : (0 : Int) ≤ ((l.length - 1 - i : Nat) : Int) := by omega
  have p3 : ((l.length - 1 - i : Nat) : Int) < (l.length : Int) := by omega
  have p4 : (0 : Int) ≤ (i : Int) := by omega
  have p5 : (i : Int) < (l.length : Int) := by omega
  rw [e, e2]
  simp only [p1, p2, p3, p4, p5, if_true, Int.toNat_natCast]
  rw [turned_next l i (by omega)]
  exact quo_l2 hm hk m (i + 1) (by omega)
theorem quo_l0 {x1 : ByteArray} {s1 s2 : Bool} {x y : List Int} {R : ByteArray × ByteArray} (hx : Ten.Can x) (hxm : x.length ≤ 1000000000) (hy : Ten.Can y) (hy0 : y ≠ []) (hym : y.length ≤ 1000000000)
  (hk : ∀ q r, Ten.Lim q → q.length ≤ x.length → Ten.Can r → r.length ≤ y.length → Ten.val x = Ten.val y * Ten.val q.reverse + Ten.val r → Ten.val r < Ten.val y →
   Ev (fun k => torusref02_Quotient.l2 k x1 s1 s2 q r 0) R) : ∀ (i : Nat) (q r : List Int), i + q.length ≤ x.length → Ten.Lim q → Ten.Can r → r.length ≤ y.length → Ten.val (x.drop i) = Ten.val y * Ten.val q.reverse + Ten.val r → Ten.val r < Ten.val y →
   Ev (fun k => torusref02_Quotient.l0 k x1 s1 x s2 y q r ((i : Int) - 1)) R
 |0, q, r, hi, hq, hr, hrl, he, hlt => by
  refine ev_succ ?_
  simp only [torusref02_Quotient.l0]
  simp only [show ¬ (((0 : Nat) : Int) - 1 ≥ 0) by omega, if_false]
  exact hk q r hq (by omega) hr hrl he hlt
 |i + 1, q, r, hi, hq, hr, hrl, he, hlt => by
  refine ev_succ ?_
  have e : (((i + 1 : Nat) : Int) - 1) = (i : Int) := by omega
  have p1 : ((i : Int) ≥ 0) := by omega
  have p2 : (0 : Int) ≤ (i : Int) := by omega
  have p3 : (i : Int) < (x.length : Int) := by omega
  simp only [torusref02_Quotient.l0, e, p1, p2, p3, if_true, Option.bind_some, List.length_singleton]
  have hd := hx.1.rd i (by omega)
  have hvx : Ten.val (x.drop i) = rd x (i : Int) + 10 * Ten.val (x.drop (i + 1)) := by rw [drop_cons x i (by omega), Ten.val]
  have hn := Ten.val_nonneg r hr.1
  have hp := Ten.can_pos y hy hy0
  rw [show (fun k => if 1 + r.length < 17592186044416 then (torusref02_trim.f k ([rd x (i : Int)] ++ r)).bind fun t634 => torusref02_Quotient.l1 k x1 s1 x s2 y q t634 (i : Int) 0 else none) = fun k => (torusref02_trim.f k ([rd x (i : Int)] ++ r)).bind fun t634 => torusref02_Quotient.l1 k x1 s1 x s2 y q t634 (i : Int) 0 from funext fun k => by rw [if_pos (by omega)]]
  have hl2 : Ten.Lim ([rd x (i : Int)] ++ r) := (Ten.Lim.cons hd.1 hd.2 Ten.Lim.nil).append hr.1
  refine (ev_bind (rtrim_ev _ (by rw [List.length_append, List.length_singleton]; omega))).2 ?_
  have htl := Ten.tr_len ([rd x (i : Int)] ++ r)
  rw [List.length_append, List.length_singleton] at htl
  have htv : Ten.val (Ten.tr ([rd x (i : Int)] ++ r)) = rd x (i : Int) + 10 * Ten.val r := by rw [Ten.tr_val]; rfl
  refine quo_l1 hy hy0 hym (by omega) 9 _ 0 (Ten.tr_can _ hl2) (by omega) (by omega) (by omega) (by rw [htv]; omega) fun r' c' g1 g2 g3 g4 g5 => ?_
  rw [wrap_id (by omega) (by omega)]
  rw [htv, Int.sub_zero] at g4
  have hn' := Ten.val_nonneg r' g1.1
  have c9 : c' ≤ 9 := by
   refine Int.le_of_not_gt fun h => ?_
   have := Int.mul_le_mul_of_nonneg_left (show (10 : Int) ≤ c' by omega) (show 0 ≤ Ten.val y by omega)
   omega
  refine quo_l0 hx hxm hy hy0 hym hk i (q ++ [c']) r' (by rw [List.length_append, List.length_singleton]; omega) (hq.append (Ten.Lim.cons (by omega) (by omega) Ten.Lim.nil)) g1 g2 ?_ g5
  rw [List.reverse_append, List.reverse_singleton, List.singleton_append, Ten.val, hvx, he]
  grind
theorem bl_iff (s t : ByteArray) : s.toList = t.toList ↔ s = t := by
 rw [ByteArray.toList_eq, ByteArray.toList_eq]
 refine ⟨fun h => ?_, fun h => by rw [h]⟩
 cases s
 cases t
 simp at h
 rw [h]
theorem TX_zero : TX 0 = ⟨#[48]⟩ := rfl
theorem TX_one : TX 1 = ⟨#[49]⟩ := (int?_TX (s := ⟨#[49]⟩) (by decide)).symm
theorem toList48 (q : Int) : (TX q).toList = ([48] : List UInt8) ↔ q = 0 := by
 have h : ([48] : List UInt8) = (TX 0).toList := by rw [TX_zero, ByteArray.toList_eq]
 rw [h, bl_iff]
 exact ⟨TX_inj, fun e => by rw [e]⟩
theorem toList49 (q : Int) : (TX q).toList = ([49] : List UInt8) ↔ q = 1 := by
 have h : ([49] : List UInt8) = (TX 1).toList := by rw [TX_one, ByteArray.toList_eq]
 rw [h, bl_iff]
 exact ⟨TX_inj, fun e => by rw [e]⟩
theorem nd_val {l : List Int} (h : Ten.Lim l) : nd (Ten.val l).natAbs ≤ l.length := by
 have h1 := Ten.val_lt l h
 have h2 := Ten.val_nonneg l h
 refine (nd_le _ _).2 ?_
 have e : ((10 ^ l.length : Nat) : Int) = 10 ^ l.length := by rw [Int.natCast_pow]; rfl
 rw [← e] at h1
 omega
theorem sgnd_abs (b : Bool) (v : Int) : (sgnd b v).natAbs = v.natAbs := by
 unfold sgnd
 split <;> omega
theorem sz_digits {b : Bool} {l : List Int} (h : Ten.Lim l) (hl : l.length ≤ 999999999) : Sz (sgnd b (Ten.val l)) := sz_of (by rw [sgnd_abs]; have := nd_val h; omega)
theorem quo_j1 {y q r : Int} {b : Bool} (h1 : q.natAbs < 1000000000) (h2 : r.natAbs < 1000000000) (h3 : y.natAbs < 1000000000) :
  Ev (fun k => torusref02_Quotient.j1 k y q r b) (if b = true then (TX (q - 1), TX (r + y)) else (TX q, TX r)) := by
 refine ev_succ ?_
 simp only [torusref02_Quotient.j1]
 cases b with
 |true =>
  simp only [if_true]
  rw [wrap_id (by omega) (by omega), wrap_id (by omega) (by omega)]
  refine (ev_bind (Number_ev (by omega) (by omega))).2 ((ev_bind (Number_ev (by omega) (by omega))).2 (Ev.now _))
 |false =>
  simp only [Bool.false_eq_true, if_false]
  refine (ev_bind (Number_ev (by omega) (by omega))).2 ((ev_bind (Number_ev (by omega) (by omega))).2 (Ev.now _))
theorem quo_small {a b : ByteArray} {x y : Int} (hx : x.natAbs < 1000000000) (hy : y.natAbs < 1000000000) (hy0 : y ≠ 0) : Ev (fun k => torusref02_Quotient.j0 k a b x y true) (TX (x.fdiv y), TX (x.fmod y)) := by
 refine ev_succ ?_
 simp only [torusref02_Quotient.j0, if_true, hy0, if_false]
 have e1 := Int.tmod_add_mul_tdiv x y
 have e2 : (Int.tmod x y).natAbs = x.natAbs % y.natAbs := Int.natAbs_tmod x y
 have e3 : (Int.tdiv x y).natAbs = x.natAbs / y.natAbs := Int.natAbs_tdiv x y
 have e4 : x.natAbs % y.natAbs < y.natAbs := Nat.mod_lt _ (by omega)
 have e5 : x.natAbs / y.natAbs ≤ x.natAbs := Nat.div_le_self _ _
 generalize Int.tmod x y = r at *
 generalize Int.tdiv x y = q at *
 rw [wrap_id (by omega) (by omega)]
 by_cases h0 : r = 0
 ·simp only [h0, if_true]
  have := quo_j1 (y := y) (q := q) (r := 0) (b := false) (by omega) (by omega) hy
  rw [if_neg (by decide)] at this
  have f := fdm (a := x) (b := y) (q := q) (r := 0) (by omega) hy0 (fun _ => by omega) (fun _ => by omega)
  rw [f.1, f.2]
  exact this
 ·simp only [h0, if_false]
  have := quo_j1 (y := y) (q := q) (r := r) (b := (decide (r < 0)) != (decide (y < 0))) (by omega) (by omega) hy
  by_cases hs : ((decide (r < 0)) != (decide (y < 0))) = true
  ·rw [if_pos hs] at this
   have f := fdm (a := x) (b := y) (q := q - 1) (r := r + y) (by rw [Int.mul_sub]; omega) hy0 (fun h => by
    have : ¬ y < 0 := by omega
    simp only [this, decide_false] at hs
    have : r < 0 := by simpa using hs
    omega) (fun h => by
    simp only [h, decide_true] at hs
    have : ¬ r < 0 := by simpa using hs
    omega)
   rw [f.1, f.2]
   exact this
  ·rw [if_neg hs] at this
   have f := fdm (a := x) (b := y) (q := q) (r := r) (by omega) hy0 (fun h => by
    have : ¬ y < 0 := by omega
    simp only [this, decide_false] at hs
    have : ¬ r < 0 := by simpa using hs
    omega) (fun h => by
    simp only [h, decide_true] at hs
    have : r < 0 := by simpa using hs
    omega)
   rw [f.1, f.2]
   exact this
theorem quo_big {x y : Int} (hx : Sz x) (hy : Sz y) (hx9 : nd x.natAbs ≤ 999999990) (hy9 : nd y.natAbs ≤ 999999990) (hy0 : y ≠ 0) {u v : Int} : Ev (fun k => torusref02_Quotient.j0 k (TX x) (TX y) u v false) (TX (x.fdiv y), TX (x.fmod y)) := by
 refine ev_succ ?_
 simp only [torusref02_Quotient.j0, Bool.false_eq_true, if_false]
 refine (ev_bind (digits_TX hx)).2 ((ev_bind (digits_TX hy)).2 ?_)
 obtain ⟨X, hX⟩ : ∃ X, Ten.dg x.natAbs = X := ⟨_, rfl⟩
 obtain ⟨Y, hY⟩ : ∃ Y, Ten.dg y.natAbs = Y := ⟨_, rfl⟩
 have cX := Ten.dg_can x.natAbs
 have cY := Ten.dg_can y.natAbs
 have vX := val_dg10 x
 have vY := val_dg10 y
 have yn : Ten.dg y.natAbs ≠ [] := dg_ne (by omega)
 unfold nd at hx9 hy9
 rw [hX] at cX vX hx9 ⊢
 rw [hY] at cY vY hy9 yn ⊢
 clear hX hY
 have ly : 0 < Y.length := List.length_pos_iff.2 yn
 obtain ⟨S, hS⟩ : ∃ S : Nat, X.length - (Y.length - 1) = S := ⟨_, rfl⟩
 have m1 : mx 0 (wrap64 ((Y.length : Int) - 1)) = ((Y.length - 1 : Nat) : Int) := by
  rw [wrap_id (by omega) (by omega)]
  unfold mx
  split <;> omega
 have m2 : mx 0 (wrap64 ((X.length : Int) - ((Y.length - 1 : Nat) : Int))) = (S : Int) := by
  rw [wrap_id (by omega) (by omega)]
  unfold mx
  split <;> omega
 simp only [Option.bind_some, m1, m2, List.nil_append, List.length_nil, Int.toNat_natCast]
 have p1 : (0 : Int) ≤ (S : Int) := by omega
 have p2 : (S : Int) ≤ (X.length : Int) := by omega
 have p3 : 0 + (X.drop S).length < 17592186044416 := by rw [List.length_drop]; omega
 simp only [p1, p2, p3, if_true]
 refine (ev_bind (rtrim_ev _ (by rw [List.length_drop]; omega))).2 ?_
 rw [wrap_id (by omega) (by omega)]
 have tl := Ten.tr_len (X.drop S)
 rw [List.length_drop] at tl
 refine quo_l0 cX (by omega) cY yn (by omega) ?_ S [] (Ten.tr (X.drop S)) (by simp; omega) Ten.Lim.nil (Ten.tr_can _ (cX.1.drop S)) (by omega) (by rw [Ten.tr_val]; simp [Ten.val]) ?_
 ·intro q r hq hql hr hrl he hlt
  have hn := Ten.val_nonneg r hr.1
  have := quo_l2 (x1 := TX y) (s1 := decide (x < 0)) (s2 := decide (y < 0)) (l := q) (r := r) (R := (TX (x.fdiv y), TX (x.fmod y))) (by omega) ?_ (q.length / 2) 0 (by omega)
  ·rw [turned_zero] at this
   exact this
  have hqr : Ten.Lim q.reverse := Ten.Lim.reverse hq
  refine (ev_bind (text_ev _ hqr (by rw [List.length_reverse]; omega))).2 ((ev_bind (text_ev _ hr.1 (by omega))).2 ?_)
  rw [vX, vY] at he
  rw [vY] at hlt
  have F := fd_abs hy0 he hn hlt
  have z0 : sgnd (decide (x < 0)) (Ten.val r) = 0 ↔ Ten.val r = 0 := by
   have := sgnd_abs (decide (x < 0)) (Ten.val r)
   omega
  simp only [toList48, z0]
  have s1 : Sz (sgnd (decide (x < 0) != decide (y < 0)) (Ten.val q.reverse)) := sz_digits hqr (by rw [List.length_reverse]; omega)
  have s2 : Sz (sgnd (decide (x < 0)) (Ten.val r)) := sz_digits hr.1 (by omega)
  by_cases hr0 : Ten.val r = 0
  ·rw [if_neg (fun h => h.2 hr0)] at F
   simp only [hr0, if_true]
   refine ev_succ ?_
   simp only [torusref02_Quotient.j5, Bool.false_eq_true, if_false]
   rw [F.1, F.2, hr0]
   exact Ev.now _
  ·simp only [hr0, if_false]
   refine ev_succ ?_
   by_cases hs : (decide (x < 0) != decide (y < 0)) = true
   ·rw [if_pos ⟨hs, hr0⟩] at F
    simp only [torusref02_Quotient.j5, hs, if_true]
    rw [hs] at s1
    rw [sgnd_true] at s1 ⊢
    rw [← TX_one]
    refine (ev_bind (Minus_ev s1 (sz_small (by decide)) (sz_small (by decide)))).2 ((ev_bind (Plus_ev s2 hy)).2 ?_)
    rw [F.1, F.2]
    exact Ev.now _
   ·rw [if_neg (fun h => hs h.1)] at F
    have hs' : (decide (x < 0) != decide (y < 0)) = false := by simpa using hs
    rw [hs'] at F
    simp only [torusref02_Quotient.j5, hs', Bool.false_eq_true, if_false]
    rw [F.1, F.2]
    exact Ev.now _
 ·rw [Ten.tr_val]
  have h1 := Ten.val_lt _ (cX.1.drop S)
  have h2 := Ten.can_low Y cY yn
  have h3 : (10 : Int) ^ (X.drop S).length ≤ 10 ^ (Y.length - 1) := Ten.pow_mono (by rw [List.length_drop]; omega)
  omega
theorem Quotient_ev {x y : Int} (hx : Sz x) (hy : Sz y) (hx9 : nd x.natAbs ≤ 999999990) (hy9 : nd y.natAbs ≤ 999999990) (hy0 : y ≠ 0) : Ev (fun k => torusref02_Quotient.f k (TX x) (TX y)) (TX (x.fdiv y), TX (x.fmod y)) := by
 unfold torusref02_Quotient.f
 refine (ev_bind (Short_ev hx)).2 ((ev_bind (Short_ev hy)).2 ?_)
 by_cases c1 : x.natAbs < 1000000000
 ·have e1 : shortN x = (x, true) := if_pos c1
  simp only [e1, if_true]
  by_cases c2 : y.natAbs < 1000000000
  ·have e2 : shortN y = (y, true) := if_pos c2
   simp only [e2]
   exact quo_small c1 c2 hy0
  ·have e2 : shortN y = (0, false) := if_neg c2
   simp only [e2]
   exact quo_big hx hy hx9 hy9 hy0
 ·have e1 : shortN x = (0, false) := if_neg c1
  simp only [e1, Bool.false_eq_true, if_false]
  exact quo_big hx hy hx9 hy9 hy0
theorem Divisor_l0 : ∀ (y x : Nat), nd x ≤ 999999990 → nd y ≤ 999999990 → Ev (fun k => torusref02_Divisor.l0 k (TX (x : Int)) (TX (y : Int))) (TX (Nat.gcd x y : Nat)) := by
 intro y
 induction y using Nat.strongRecOn with
 |ind y ih =>
  intro x hx hy
  refine ev_succ ?_
  simp only [torusref02_Divisor.l0, toList48]
  by_cases h0 : y = 0
  ·subst h0
   simp only [show ((0 : Nat) : Int) = 0 from rfl, if_true, Nat.gcd_zero_right]
   exact Ev.now _
  ·simp only [show ¬ ((y : Nat) : Int) = 0 by omega, if_false]
   refine (ev_bind (Quotient_ev (sz_of (by rw [Int.natAbs_natCast]; omega)) (sz_of (by rw [Int.natAbs_natCast]; omega)) (by rw [Int.natAbs_natCast]; exact hx) (by rw [Int.natAbs_natCast]; exact hy) (by omega))).2 ?_
   have e : (x : Int).fmod (y : Int) = ((x % y : Nat) : Int) := by rw [Int.fmod_eq_emod_of_nonneg _ (by omega)]; omega
   have hm := Nat.mod_lt x (show y > 0 by omega)
   simp only [e]
   have hnd : nd (x % y) ≤ 999999990 := by
    have h1 := (nd_le (nd y) y).1 (Nat.le_refl _)
    have h2 := (nd_le (nd y) (x % y)).2 (by omega)
    omega
   have := ih (x % y) hm y hy hnd
   rw [show Nat.gcd x y = Nat.gcd y (x % y) by rw [Nat.gcd_comm x y, Nat.gcd_rec y x, Nat.gcd_comm]]
   exact this
theorem Divisor_ev {x y : Int} (hx : Sz x) (hy : Sz y) (hx9 : nd x.natAbs ≤ 999999990) (hy9 : nd y.natAbs ≤ 999999990) : Ev (fun k => torusref02_Divisor.f k (TX x) (TX y)) (TX (Int.gcd x y : Nat)) := by
 unfold torusref02_Divisor.f
 refine (ev_bind (Positive_ev hx)).2 ((ev_bind (Positive_ev hy)).2 ?_)
 exact Divisor_l0 y.natAbs x.natAbs hx9 hy9
attribute [local go_sem] max2_int min2_int max_two min_two max_three min_three max_four min_four
set_option linter.unusedVariables false
set_option linter.unusedSimpArgs false
def torusref03_Reduced.j0 : Nat → ByteArray → ByteArray → Option (ByteArray)
 |0, _, _ => none
 |k + 1, x0, x1 => (torusref02_Divisor.f k x0 x1).bind fun t659 => (if t659.toList = ([49] : List UInt8) then (if x1.toList = ([49] : List UInt8) then (some x0) else (if x0.size + 1 ≤ 9223372036854775807 then (if (x0 ++ (⟨#[47]⟩ : ByteArray)).size + x1.size ≤ 9223372036854775807 then (some ((x0 ++ (⟨#[47]⟩ : ByteArray)) ++ x1)) else (none)) else (none))) else ((torusref02_Quotient.f k x0 t659).bind fun bt660 => ((torusref02_Quotient.f k x1 t659).bind fun bt662 => (if bt662.1.toList = ([49] : List UInt8) then (some bt660.1) else (if bt660.1.size + 1 ≤ 9223372036854775807 then (if (bt660.1 ++ (⟨#[47]⟩ : ByteArray)).size + bt662.1.size ≤ 9223372036854775807 then (some ((bt660.1 ++ (⟨#[47]⟩ : ByteArray)) ++ bt662.1)) else (none)) else (none))))))
def torusref03_Reduced.f (k : Nat) (a0 : ByteArray) (a1 : ByteArray) : Option (ByteArray) := (torusref02_Compare.f k a1 (⟨#[48]⟩ : ByteArray)).bind fun t656 => (if t656 < 0 then ((torusref02_Opposite.f k a0).bind fun t657 => ((torusref02_Opposite.f k a1).bind fun t658 => (torusref03_Reduced.j0 k t657 t658))) else (torusref03_Reduced.j0 k a0 a1))
set_option maxHeartbeats 8000000 in
set_option maxRecDepth 100000 in
theorem torusref03_Reduced.calls (k : Nat) (a0 : ByteArray) (a1 : ByteArray) (r : ByteArray) (w : World) (h : torusref03_Reduced.f k a0 a1 = some r) :
  Calls Tryz.prog 93 #[.string a0, .string a1] w fun e w' => e = .returned (.string r) ∧ Below w.heap.size w w' := by
 have HB := Aside0.mk (Below.refl w.heap.size w)
 have H : ((torusref02_Compare.f k a1 (⟨#[48]⟩ : ByteArray)).bind fun t656 => (if t656 < 0 then ((torusref02_Opposite.f k a0).bind fun t657 => ((torusref02_Opposite.f k a1).bind fun t658 => (torusref03_Reduced.j0 k t657 t658))) else (torusref03_Reduced.j0 k a0 a1))) = some r := h
 clear h
 replace H := Option.bind_eq_some_iff.mp H
 obtain ⟨t656, A30, H⟩ := H
 have A3 := Aside0.mk A30
 clear A30
 have HC4 := Aside0.mk H
 clear H
 go_enter Tryz.func93, Tryz.ntmps93
 go_upto_if 8 with (first | ((with_reducible refine gate_callee (f := 128) rfl ?_); refine goesL_ (some 7) rfl rfl Tryz.func128 (by kernel_rfl) rfl #[.string a1, .string (⟨#[48]⟩ : ByteArray)] rfl ag_ ?_; (with_reducible refine (torusref02_Compare.calls k a1 (⟨#[48]⟩ : ByteArray) t656 _ A3.out).mono ?_); rintro e w5 ⟨rfl, hb⟩; refine ⟨_, rfl, ?_⟩; have n0_ := Aside0.mk (below_step bw_ hb); clear HB; have HB := n0_; clear n0_; (try clear hb); (try clear hb2); (try clear hk); (try clear hi)))
 (try simp only [Act.put, List.setIfInBounds_toArray, List.set_cons_zero, List.set_cons_succ])
 go_cut [0, 1] (fun v0 v1 wc => ∃ (kq : Nat) (x0_3 : ByteArray) (x1_3 : ByteArray), v0 = .string x0_3 ∧ v1 = .string x1_3 ∧ Aside0 (torusref03_Reduced.j0 kq x0_3 x1_3 = some r) ∧ Aside0 (kq ≤ k) ∧ Aside0 (Below w.heap.size w wc))
 case first =>
  have H := HC4.out
  clear HC4
  by_cases c6 : t656 < 0
  ·rw [if_pos c6] at H
   have c6b0 : decide (t656 < 0) = true := decide_eq_true c6
   clear c6
   (first | rw [c6b0] | (simp only [i64_w, i32_w]; rw [c6b0]) | skip)
   replace H := Option.bind_eq_some_iff.mp H
   obtain ⟨t657, A70, H⟩ := H
   have A7 := Aside0.mk A70
   clear A70
   replace H := Option.bind_eq_some_iff.mp H
   obtain ⟨t658, A80, H⟩ := H
   have A8 := Aside0.mk A80
   clear A80
   have H' := Aside0.mk H
   clear H
   go_wp2_with (first | ((with_reducible refine gate_callee (f := 91) rfl ?_); refine goesL_ (some 10) rfl rfl Tryz.func91 (by kernel_rfl) rfl #[.string a0] rfl ag_ ?_; (with_reducible refine (torusref02_Opposite.calls k a0 t657 _ A7.out).mono ?_); rintro e w9 ⟨rfl, hb⟩; refine ⟨_, rfl, ?_⟩; have n0_ := Aside0.mk (below_step bw_ hb); clear HB; have HB := n0_; clear n0_; (try clear hb); (try clear hb2); (try clear hk); (try clear hi)) | ((with_reducible refine gate_callee (f := 91) rfl ?_); refine goesL_ (some 12) rfl rfl Tryz.func91 (by kernel_rfl) rfl #[.string a1] rfl ag_ ?_; (with_reducible refine (torusref02_Opposite.calls k a1 t658 _ A8.out).mono ?_); rintro e w10 ⟨rfl, hb⟩; refine ⟨_, rfl, ?_⟩; have n0_ := Aside0.mk (below_step bw_ hb); clear HB; have HB := n0_; clear n0_; (try clear hb); (try clear hb2); (try clear hk); (try clear hi)))
   go_meet
   case rel => exact ⟨_, (t657), (t658), sd_, sd_, H', ⟨by first | omega | exact Nat.le_refl _⟩, ⟨bw_⟩⟩
  ·rw [if_neg c6] at H
   have c6b0 : decide (t656 < 0) = false := decide_eq_false c6
   clear c6
   (first | rw [c6b0] | (simp only [i64_w, i32_w]; rw [c6b0]) | skip)
   have H' := Aside0.mk H
   clear H
   go_wp2
   go_meet
   case rel => exact ⟨_, (a0), (a1), sd_, sd_, H', ⟨by first | omega | exact Nat.le_refl _⟩, ⟨bw_⟩⟩
 case rest =>
  clear HC4
  try clear c1
  try clear p2
  try clear c6
  try clear c6b0
  try clear c9
  obtain ⟨kq, x0_3, x1_3, rfl, rfl, HA, HJ3, HB⟩ := hcut
  cases kq with
  |zero => exact absurd HA.out (by simp [torusref03_Reduced.j0])
  |succ kj3 =>
   have H := HA.out
   clear HA
   simp only [torusref03_Reduced.j0] at H
   replace H := Option.bind_eq_some_iff.mp H
   obtain ⟨t659, A110, H⟩ := H
   have A11 := Aside0.mk A110
   clear A110
   by_cases c12 : t659.toList = ([49] : List UInt8)
   ·rw [if_pos c12] at H
    have c12b0 : (t659.toList == ([49] : List UInt8)) = true := beq_iff_eq.mpr c12
    have c12b1 : (t659.toList != ([49] : List UInt8)) = false := bne_eq_false_iff_eq.mpr c12
    clear c12
    by_cases c13 : x1_3.toList = ([49] : List UInt8)
    ·rw [if_pos c13] at H
     have c13b0 : (x1_3.toList == ([49] : List UInt8)) = true := beq_iff_eq.mpr c13
     have c13b1 : (x1_3.toList != ([49] : List UInt8)) = false := bne_eq_false_iff_eq.mpr c13
     clear c13
     obtain rfl := Option.some.inj H
     go_wp2_with (first | ((with_reducible refine gate_callee (f := 158) rfl ?_); refine goesL_ (some 15) rfl rfl Tryz.func158 (by kernel_rfl) rfl #[.string x0_3, .string x1_3] rfl ag_ ?_; (with_reducible refine (torusref02_Divisor.calls kj3 x0_3 x1_3 t659 _ A11.out).mono ?_); rintro e w14 ⟨rfl, hb⟩; refine ⟨_, rfl, ?_⟩; have n0_ := Aside0.mk (below_step bw_ hb); clear HB; have HB := n0_; clear n0_; (try clear hb); (try clear hb2); (try clear hk); (try clear hi)))
     go_ret
     exact ⟨by first | rfl | (simp [errW_none, errW_some] <;> rfl) | (simp [*, errW_none, errW_some] <;> rfl), bw_⟩
    ·rw [if_neg c13] at H
     have c13b0 : (x1_3.toList == ([49] : List UInt8)) = false := beq_eq_false_iff_ne.mpr c13
     have c13b1 : (x1_3.toList != ([49] : List UInt8)) = true := bne_iff_ne.mpr c13
     by_cases c15 : x0_3.size + 1 ≤ 9223372036854775807
     ·rw [if_pos c15] at H
      have c15b0 := eq_true c15
      have c15b1 : decide (x0_3.size + 1 ≤ 9223372036854775807) = true := decide_eq_true c15
      try have c15b2 : (9223372036854775807 < x0_3.size + 1) = False := eq_false (Nat.not_lt.2 c15)
      by_cases c16 : (x0_3 ++ (⟨#[47]⟩ : ByteArray)).size + x1_3.size ≤ 9223372036854775807
      ·rw [if_pos c16] at H
       have c16b0 := eq_true c16
       have c16b1 : decide ((x0_3 ++ (⟨#[47]⟩ : ByteArray)).size + x1_3.size ≤ 9223372036854775807) = true := decide_eq_true c16
       try have c16b2 : (9223372036854775807 < (x0_3 ++ (⟨#[47]⟩ : ByteArray)).size + x1_3.size) = False := eq_false (Nat.not_lt.2 c16)
       obtain rfl := Option.some.inj H
       go_wp2_with (first | ((with_reducible refine gate_callee (f := 158) rfl ?_); refine goesL_ (some 15) rfl rfl Tryz.func158 (by kernel_rfl) rfl #[.string x0_3, .string x1_3] rfl ag_ ?_; (with_reducible refine (torusref02_Divisor.calls kj3 x0_3 x1_3 t659 _ A11.out).mono ?_); rintro e w17 ⟨rfl, hb⟩; refine ⟨_, rfl, ?_⟩; have n0_ := Aside0.mk (below_step bw_ hb); clear HB; have HB := n0_; clear n0_; (try clear hb); (try clear hb2); (try clear hk); (try clear hi)))
       go_ret
       exact ⟨by first | rfl | (simp [errW_none, errW_some] <;> rfl) | (simp [*, errW_none, errW_some] <;> rfl), bw_⟩
      ·rw [if_neg c16] at H
       exact absurd H (by simp)
     ·rw [if_neg c15] at H
      exact absurd H (by simp)
   ·rw [if_neg c12] at H
    have c12b0 : (t659.toList == ([49] : List UInt8)) = false := beq_eq_false_iff_ne.mpr c12
    have c12b1 : (t659.toList != ([49] : List UInt8)) = true := bne_iff_ne.mpr c12
    replace H := Option.bind_eq_some_iff.mp H
    obtain ⟨⟨t660, t661⟩, A180, H⟩ := H
    dsimp only at H
    have A18 := Aside0.mk A180
    clear A180
    replace H := Option.bind_eq_some_iff.mp H
    obtain ⟨⟨t662, t663⟩, A190, H⟩ := H
    dsimp only at H
    have A19 := Aside0.mk A190
    clear A190
    by_cases c20 : t662.toList = ([49] : List UInt8)
    ·rw [if_pos c20] at H
     have c20b0 : (t662.toList == ([49] : List UInt8)) = true := beq_iff_eq.mpr c20
     have c20b1 : (t662.toList != ([49] : List UInt8)) = false := bne_eq_false_iff_eq.mpr c20
     clear c20
     obtain rfl := Option.some.inj H
     go_wp2_with (first | ((with_reducible refine gate_callee (f := 158) rfl ?_); refine goesL_ (some 15) rfl rfl Tryz.func158 (by kernel_rfl) rfl #[.string x0_3, .string x1_3] rfl ag_ ?_; (with_reducible refine (torusref02_Divisor.calls kj3 x0_3 x1_3 t659 _ A11.out).mono ?_); rintro e w21 ⟨rfl, hb⟩; refine ⟨_, rfl, ?_⟩; have n0_ := Aside0.mk (below_step bw_ hb); clear HB; have HB := n0_; clear n0_; (try clear hb); (try clear hb2); (try clear hk); (try clear hi)) | ((with_reducible refine gate_callee (f := 159) rfl ?_); refine goesL_ (some 21) rfl rfl Tryz.func159 (by kernel_rfl) rfl #[.string x0_3, .string t659] rfl ag_ ?_; (with_reducible refine (torusref02_Quotient.calls kj3 x0_3 t659 t660 t661 _ A18.out).mono ?_); rintro e w22 ⟨rfl, hb⟩; refine ⟨_, rfl, ?_⟩; have n0_ := Aside0.mk (below_step bw_ hb); clear HB; have HB := n0_; clear n0_; (try clear hb); (try clear hb2); (try clear hk); (try clear hi)) | ((with_reducible refine gate_callee (f := 159) rfl ?_); refine goesL_ (some 27) rfl rfl Tryz.func159 (by kernel_rfl) rfl #[.string x1_3, .string t659] rfl ag_ ?_; (with_reducible refine (torusref02_Quotient.calls kj3 x1_3 t659 t662 t663 _ A19.out).mono ?_); rintro e w23 ⟨rfl, hb⟩; refine ⟨_, rfl, ?_⟩; have n0_ := Aside0.mk (below_step bw_ hb); clear HB; have HB := n0_; clear n0_; (try clear hb); (try clear hb2); (try clear hk); (try clear hi)))
     go_ret
     exact ⟨by first | rfl | (simp [errW_none, errW_some] <;> rfl) | (simp [*, errW_none, errW_some] <;> rfl), bw_⟩
    ·rw [if_neg c20] at H
     have c20b0 : (t662.toList == ([49] : List UInt8)) = false := beq_eq_false_iff_ne.mpr c20
     have c20b1 : (t662.toList != ([49] : List UInt8)) = true := bne_iff_ne.mpr c20
     by_cases c24 : t660.size + 1 ≤ 9223372036854775807
     ·rw [if_pos c24] at H
      have c24b0 := eq_true c24
      have c24b1 : decide (t660.size + 1 ≤ 9223372036854775807) = true := decide_eq_true c24
      try have c24b2 : (9223372036854775807 < t660.size + 1) = False := eq_false (Nat.not_lt.2 c24)
      by_cases c25 : (t660 ++ (⟨#[47]⟩ : ByteArray)).size + t662.size ≤ 9223372036854775807
      ·rw [if_pos c25] at H
       have c25b0 := eq_true c25
       have c25b1 : decide ((t660 ++ (⟨#[47]⟩ : ByteArray)).size + t662.size ≤ 9223372036854775807) = true := decide_eq_true c25
       try have c25b2 : (9223372036854775807 < (t660 ++ (⟨#[47]⟩ : ByteArray)).size + t662.size) = False := eq_false (Nat.not_lt.2 c25)
       obtain rfl := Option.some.inj H
       go_wp2_with (first | ((with_reducible refine gate_callee (f := 158) rfl ?_); refine goesL_ (some 15) rfl rfl Tryz.func158 (by kernel_rfl) rfl #[.string x0_3, .string x1_3] rfl ag_ ?_; (with_reducible refine (torusref02_Divisor.calls kj3 x0_3 x1_3 t659 _ A11.out).mono ?_); rintro e w26 ⟨rfl, hb⟩; refine ⟨_, rfl, ?_⟩; have n0_ := Aside0.mk (below_step bw_ hb); clear HB; have HB := n0_; clear n0_; (try clear hb); (try clear hb2); (try clear hk); (try clear hi)) | ((with_reducible refine gate_callee (f := 159) rfl ?_); refine goesL_ (some 21) rfl rfl Tryz.func159 (by kernel_rfl) rfl #[.string x0_3, .string t659] rfl ag_ ?_; (with_reducible refine (torusref02_Quotient.calls kj3 x0_3 t659 t660 t661 _ A18.out).mono ?_); rintro e w27 ⟨rfl, hb⟩; refine ⟨_, rfl, ?_⟩; have n0_ := Aside0.mk (below_step bw_ hb); clear HB; have HB := n0_; clear n0_; (try clear hb); (try clear hb2); (try clear hk); (try clear hi)) | ((with_reducible refine gate_callee (f := 159) rfl ?_); refine goesL_ (some 27) rfl rfl Tryz.func159 (by kernel_rfl) rfl #[.string x1_3, .string t659] rfl ag_ ?_; (with_reducible refine (torusref02_Quotient.calls kj3 x1_3 t659 t662 t663 _ A19.out).mono ?_); rintro e w28 ⟨rfl, hb⟩; refine ⟨_, rfl, ?_⟩; have n0_ := Aside0.mk (below_step bw_ hb); clear HB; have HB := n0_; clear n0_; (try clear hb); (try clear hb2); (try clear hk); (try clear hi)))
       go_ret
       exact ⟨by first | rfl | (simp [errW_none, errW_some] <;> rfl) | (simp [*, errW_none, errW_some] <;> rfl), bw_⟩
      ·rw [if_neg c25] at H
       exact absurd H (by simp)
     ·rw [if_neg c24] at H
      exact absurd H (by simp)
attribute [local go_sem] max2_int min2_int max_two min_two max_three min_three max_four min_four
set_option linter.unusedVariables false
set_option linter.unusedSimpArgs false
mutual
def torusref02_Fit.l0 : Nat → ByteArray → Int → List Int → Int → Option (ByteArray)
 |0, _, _, _, _ => none
 |k + 1, x0, x1, x5, x6 => if x6 < (x0.size : Int) then (torusref02_Fit.j1 k x0 x1 x5 x6 (decide ((x5.length : Int) < x1))) else (torusref02_Fit.j1 k x0 x1 x5 x6 false)
def torusref02_Fit.j1 : Nat → ByteArray → Int → List Int → Int → Bool → Option (ByteArray)
 |0, _, _, _, _, _ => none
 |k + 1, x0, x1, x5, x6, x16 => if x16 = true then (if 0 ≤ x6 then (if x6 < (x0.size : Int) then (if (bt x0 x6) ≥ 48 then (if (bt x0 x6) ≤ 57 then (if x5.length < 17592186044416 then (torusref02_Fit.l0 k x0 x1 (x5 ++ [wrap64 ((wrap64 (bt x0 x6)) - 48)]) (wrap64 (x6 + 1))) else (none)) else (torusref02_Fit.l0 k x0 x1 x5 (wrap64 (x6 + 1)))) else (torusref02_Fit.l0 k x0 x1 x5 (wrap64 (x6 + 1)))) else (none)) else (none)) else (if (x0.size : Int) > 0 then (if 0 < (x0.size : Int) then ((torusref02_text.f k ((bt x0 0) == 45) x5).bind fun t1075 => (some t1075)) else (none)) else ((torusref02_text.f k false x5).bind fun t1076 => (some t1076)))
end
def torusref02_Fit.f (k : Nat) (a0 : ByteArray) (a1 : Int) : Option (ByteArray) := torusref02_Fit.l0 k a0 a1 ([] : List Int) 0
set_option maxHeartbeats 8000000 in
set_option maxRecDepth 100000 in
theorem torusref02_Fit.calls (k : Nat) (a0 : ByteArray) (a1 : Int) (r : ByteArray) (w : World) (h : torusref02_Fit.f k a0 a1 = some r) :
  Calls Tryz.prog 99 #[.string a0, .int .i64 a1] w fun e w' => e = .returned (.string r) ∧ Below w.heap.size w w' := by
 have HB := Aside0.mk (Below.refl w.heap.size w)
 have H : (torusref02_Fit.l0 k a0 a1 ([] : List Int) 0) = some r := h
 clear h
 have H' := Aside0.mk H
 clear H
 go_enter Tryz.func99, Tryz.ntmps99
 go_wp2
 go_loopg [5, 6] k (fun kq v5 v6 w' => ∃ (x5_1 : List Int) (x6_1 : Int), v6 = .int .i64 x6_1 ∧ Aside0 (torusref02_Fit.l0 kq a0 a1 x5_1 x6_1 = some r) ∧ Aside0 (kq ≤ k) ∧ Aside0 (Kd.R (Kd.int .i64) 3 w' w.heap.size (fun _ => True) v5 x5_1) ∧ Aside0 (Below w.heap.size w w'))
 case atStart => exact ⟨(([] : List Int)), (0), sd_, H', ⟨Nat.le_refl _⟩, ⟨by first | exact Kd.R_nil _ _ _ _ _ | exact Kd.N_nil _ _ _ _ _ | exact Kd.V_nil _ _ _ _ _ | exact Kd.Q_nil _ _ _ _ _ | exact Kd.S_nil _ _ _ _ _⟩, ⟨bw_⟩⟩
 case round =>
  clear H'
  try clear p2
  obtain ⟨x5_1, x6_1, rfl, HA, HK1, HO_5, HB⟩ := hrel
  cases gk with
  |zero => exact absurd HA.out (by simp [torusref02_Fit.l0])
  |succ k1 =>
   have H := HA.out
   clear HA
   simp only [torusref02_Fit.l0] at H
   have HC3 := Aside0.mk H
   clear H
   go_upto_region 3 with (fail)
   go_cut [16] (fun v16 wc => ∃ (kq : Nat) (x16_2 : Bool), v16 = .bool x16_2 ∧ Aside0 (torusref02_Fit.j1 kq a0 a1 x5_1 x6_1 x16_2 = some r) ∧ Aside0 (kq ≤ k1) ∧ Aside0 (Kd.R (Kd.int .i64) 3 wc w.heap.size (fun _ => True) u5 x5_1) ∧ Aside0 (Below w.heap.size w wc))
   case first =>
    have H := HC3.out
    clear HC3
    by_cases c4 : x6_1 < (a0.size : Int)
    ·rw [if_pos c4] at H
     have c4b0 : decide (x6_1 < (a0.size : Int)) = true := decide_eq_true c4
     clear c4
     (first | rw [c4b0] | (simp only [i64_w, i32_w]; rw [c4b0]) | skip)
     have H' := Aside0.mk H
     clear H
     obtain ⟨Ao5, co5, eo5⟩ := Kd.R_slice HO_5.out
     subst eo5
     go_wp2
     go_meet
     case rel => exact ⟨_, (decide ((x5_1.length : Int) < a1)), sd_, H', ⟨by have := HK1.out; first | omega | exact Nat.le_refl _⟩, ⟨rRa_ HO_5.out⟩, ⟨bw_⟩⟩
    ·rw [if_neg c4] at H
     have c4b0 : decide (x6_1 < (a0.size : Int)) = false := decide_eq_false c4
     clear c4
     (first | rw [c4b0] | (simp only [i64_w, i32_w]; rw [c4b0]) | skip)
     have H' := Aside0.mk H
     clear H
     go_wp2
     go_meet
     case rel => exact ⟨_, (false), sd_, H', ⟨by have := HK1.out; first | omega | exact Nat.le_refl _⟩, ⟨rRa_ HO_5.out⟩, ⟨bw_⟩⟩
   case rest =>
    clear HC3
    try clear p2
    try clear c4
    try clear c4b0
    try clear p2
    obtain ⟨kq, x16_2, rfl, HA, HJ2, HO_5, HB⟩ := hcut
    cases kq with
    |zero => exact absurd HA.out (by simp [torusref02_Fit.j1])
    |succ kj2 =>
     have H := HA.out
     clear HA
     simp only [torusref02_Fit.j1] at H
     by_cases c6 : x16_2 = true
     ·subst c6
      rw [if_pos rfl] at H
      by_cases c7 : 0 ≤ x6_1
      ·rw [if_pos c7] at H
       have c7b0 : decide (0 ≤ x6_1) = true := decide_eq_true c7
       clear c7
       by_cases c8 : x6_1 < (a0.size : Int)
       ·rw [if_pos c8] at H
        have c8b0 : decide (x6_1 < (a0.size : Int)) = true := decide_eq_true c8
        clear c8
        by_cases c10 : (bt a0 x6_1) ≥ 48
        ·rw [if_pos c10] at H
         have c10b0 : decide (48 ≤ (bt a0 x6_1)) = true := decide_eq_true c10
         clear c10
         by_cases c12 : (bt a0 x6_1) ≤ 57
         ·rw [if_pos c12] at H
          have c12b0 : decide ((bt a0 x6_1) ≤ 57) = true := decide_eq_true c12
          clear c12
          by_cases c14 : x5_1.length < 17592186044416
          ·rw [if_pos c14] at H
           have LMc14 := Aside0.mk c14
           clear c14
           obtain ⟨y1072, hy1072⟩ : ∃ y_ : List Int, y_ = (x5_1 ++ [wrap64 ((wrap64 (bt a0 x6_1)) - 48)]) := ⟨_, rfl⟩
           replace H : (torusref02_Fit.l0 kj2 a0 a1 y1072 (wrap64 (x6_1 + 1))) = some r := by first | (rw [hy1072]; with_reducible exact H) | (have H2_ := (Option.bind_some _ _).symm.trans H; rw [hy1072]; with_reducible exact H2_) | (have H2_ := (Option.bind_some _ _).symm.trans H; with_reducible exact H2_) | with_reducible exact H | (rw [hy1072]; exact H) | exact H
           have Ny1072 := Aside0.mk hy1072
           clear hy1072
           have H' := Aside0.mk H
           clear H
           have p9 : 0 ≤ (x6_1 : Int) := of_decide_eq_true as_
           have q9 : x6_1 < (a0.size : Int) := of_decide_eq_true as_
           have hx9 := bt_at a0 x6_1
           replace p9 := eq_true p9
           replace q9 := eq_true q9
           have p11 : 0 ≤ (x6_1 : Int) := of_decide_eq_true as_
           have q11 : x6_1 < (a0.size : Int) := of_decide_eq_true as_
           have hx11 := bt_at a0 x6_1
           replace p11 := eq_true p11
           replace q11 := eq_true q11
           have p13 : 0 ≤ (x6_1 : Int) := of_decide_eq_true as_
           have q13 : x6_1 < (a0.size : Int) := of_decide_eq_true as_
           have hx13 := bt_at a0 x6_1
           replace p13 := eq_true p13
           replace q13 := eq_true q13
           go_wp2_with (first | ((with_reducible refine gate_builtin (b := .append) (xs := #[.tmp 29, .tmp 35]) rfl ?_); (try (refine gate_guard (by rfl) ?_; dsimp only)); at_builtin; refine Kd.R_append (Kd.int .i64) (w0 := w) w.heap.size rfl (.tmp 29) (.tmp 35) 146 3 (.int .i64 0) 8 rfl Tryz.underlying146 info3 rfl (by decide) (by omega) u5 x5_1 (wrap64 ((wrap64 (bt a0 x6_1)) - 48)) [.int .i64 (wrap64 ((wrap64 (bt a0 x6_1)) - 48))] (fun _ => True) (fun _ => False) rfl rfl ?aP (fun _ hk => hk.elim) ?aF ?aO ?aB ?aS ?aL ?_; (case aP => exact rfl); (case aB => exact bw_); (case aF => exact (fun _ _ => trivial)); (case aO => exact (rRa_ HO_5.out)); (case aS => exact (below_size bw_)); (case aL => have := LMc14.out; omega); intro v1073 w15 ho hb hg hat; rw [← Ny1072.out] at ho; have n0_ := Aside0.mk (hb); have n1_ := Aside0.mk (ho); clear HB; clear HO_5; have HB := n0_; have HO1074 := n1_; clear n0_ n1_; clear ho hb hg hat))
           go_roundg kj2
           case measure => have := HK1.out; have := HJ2.out; omega
           case rel => exact ⟨(y1072), (wrap64 (x6_1 + 1)), sd_, H', ⟨by have := HK1.out; have := HJ2.out; omega⟩, ⟨rRa_ HO1074.out⟩, ⟨bw_⟩⟩
          ·rw [if_neg c14] at H
           exact absurd H (by simp)
         ·rw [if_neg c12] at H
          have c12b0 : decide ((bt a0 x6_1) ≤ 57) = false := decide_eq_false c12
          clear c12
          have H' := Aside0.mk H
          clear H
          have p9 : 0 ≤ (x6_1 : Int) := of_decide_eq_true as_
          have q9 : x6_1 < (a0.size : Int) := of_decide_eq_true as_
          have hx9 := bt_at a0 x6_1
          replace p9 := eq_true p9
          replace q9 := eq_true q9
          have p11 : 0 ≤ (x6_1 : Int) := of_decide_eq_true as_
          have q11 : x6_1 < (a0.size : Int) := of_decide_eq_true as_
          have hx11 := bt_at a0 x6_1
          replace p11 := eq_true p11
          replace q11 := eq_true q11
          go_wp2
          go_roundg kj2
          case measure => have := HK1.out; have := HJ2.out; omega
          case rel => exact ⟨(x5_1), (wrap64 (x6_1 + 1)), sd_, H', ⟨by have := HK1.out; have := HJ2.out; omega⟩, ⟨rRa_ HO_5.out⟩, ⟨bw_⟩⟩
        ·rw [if_neg c10] at H
         have c10b0 : decide (48 ≤ (bt a0 x6_1)) = false := decide_eq_false c10
         clear c10
         have H' := Aside0.mk H
         clear H
         have p9 : 0 ≤ (x6_1 : Int) := of_decide_eq_true as_
         have q9 : x6_1 < (a0.size : Int) := of_decide_eq_true as_
         have hx9 := bt_at a0 x6_1
         replace p9 := eq_true p9
         replace q9 := eq_true q9
         go_wp2
         go_roundg kj2
         case measure => have := HK1.out; have := HJ2.out; omega
         case rel => exact ⟨(x5_1), (wrap64 (x6_1 + 1)), sd_, H', ⟨by have := HK1.out; have := HJ2.out; omega⟩, ⟨rRa_ HO_5.out⟩, ⟨bw_⟩⟩
       ·rw [if_neg c8] at H
        exact absurd H (by simp)
      ·rw [if_neg c7] at H
       exact absurd H (by simp)
     ·replace c6 := Bool.eq_false_iff.mpr c6
      subst c6
      rw [if_neg (show ¬ (false = true) by decide)] at H
      by_cases c16 : (a0.size : Int) > 0
      ·rw [if_pos c16] at H
       have c16b0 : decide (0 < (a0.size : Int)) = true := decide_eq_true c16
       have c16b1 : decide (0 < a0.size) = true := decide_eq_true (by omega)
       clear c16
       by_cases c17 : 0 < (a0.size : Int)
       ·rw [if_pos c17] at H
        have c17b0 : decide (0 < (a0.size : Int)) = true := decide_eq_true c17
        have c17b1 : decide (0 < a0.size) = true := decide_eq_true (by omega)
        clear c17
        replace H := Option.bind_eq_some_iff.mp H
        obtain ⟨t1075, A190, H⟩ := H
        have A19 := Aside0.mk A190
        clear A190
        obtain rfl := Option.some.inj H
        have p18 : 0 ≤ (0 : Int) := (by omega)
        have q18 : 0 < a0.size := (by have : (0 : Int) < (a0.size : Int) := of_decide_eq_true as_; omega)
        have hx18 : ∀ h : 0 < a0.size, ((a0[0]'h).toNat : Int) = bt a0 0 := bt_at a0 0
        clear p18
        have qi18 : (0 < (a0.size : Int)) = True := eq_true (of_decide_eq_true as_)
        replace q18 := eq_true q18
        obtain ⟨Ao20, co20, eo20⟩ := Kd.R_slice HO_5.out
        subst eo20
        go_wp2_with (first | ((with_reducible refine gate_callee (f := 157) rfl ?_); refine goesL_ (some 46) rfl rfl Tryz.func157 (by kernel_rfl) rfl #[.bool ((bt a0 0) == 45), .slice Ao20 x5_1.length co20] rfl ag_ ?_; (with_reducible refine (torusref02_text.calls kj2 ((bt a0 0) == 45) _ _ x5_1 t1075 _ ?side1 ?side2 A19.out).mono ?_); (case side1 => repeat (first | exact (Kd.R_reads' HO_5.out).2.2 | (with_reducible refine Kd.C_alloc ?_ _) | (with_reducible refine Kd.C_drewN ?_ _) | (with_reducible refine Kd.C_drew ?_))); (case side2 => exact (Kd.R_reads' HO_5.out).2.1); rintro e w21 ⟨rfl, hb⟩; refine ⟨_, rfl, ?_⟩; have n0_ := Aside0.mk (Kd.R_below (rRa_ HO_5.out) hb); have n1_ := Aside0.mk (below_step bw_ hb); clear HO_5; clear HB; have HO_5 := n0_; have HB := n1_; clear n0_ n1_; (try clear hb); (try clear hb2); (try clear hk); (try clear hi)))
        go_ret
        exact ⟨by first | rfl | (simp [errW_none, errW_some] <;> rfl) | (simp [*, errW_none, errW_some] <;> rfl), bw_⟩
       ·rw [if_neg c17] at H
        exact absurd H (by simp)
      ·rw [if_neg c16] at H
       have c16b0 : decide (0 < (a0.size : Int)) = false := decide_eq_false c16
       have c16b1 : decide (0 < a0.size) = false := decide_eq_false (by omega)
       clear c16
       replace H := Option.bind_eq_some_iff.mp H
       obtain ⟨t1076, A220, H⟩ := H
       have A22 := Aside0.mk A220
       clear A220
       obtain rfl := Option.some.inj H
       obtain ⟨Ao23, co23, eo23⟩ := Kd.R_slice HO_5.out
       subst eo23
       go_wp2_with (first | ((with_reducible refine gate_callee (f := 157) rfl ?_); refine goesL_ (some 46) rfl rfl Tryz.func157 (by kernel_rfl) rfl #[.bool false, .slice Ao23 x5_1.length co23] rfl ag_ ?_; (with_reducible refine (torusref02_text.calls kj2 false _ _ x5_1 t1076 _ ?side1 ?side2 A22.out).mono ?_); (case side1 => repeat (first | exact (Kd.R_reads' HO_5.out).2.2 | (with_reducible refine Kd.C_alloc ?_ _) | (with_reducible refine Kd.C_drewN ?_ _) | (with_reducible refine Kd.C_drew ?_))); (case side2 => exact (Kd.R_reads' HO_5.out).2.1); rintro e w24 ⟨rfl, hb⟩; refine ⟨_, rfl, ?_⟩; have n0_ := Aside0.mk (Kd.R_below (rRa_ HO_5.out) hb); have n1_ := Aside0.mk (below_step bw_ hb); clear HO_5; clear HB; have HO_5 := n0_; have HB := n1_; clear n0_ n1_; (try clear hb); (try clear hb2); (try clear hk); (try clear hi)))
       go_ret
       exact ⟨by first | rfl | (simp [errW_none, errW_some] <;> rfl) | (simp [*, errW_none, errW_some] <;> rfl), bw_⟩
attribute [local go_sem] max2_int min2_int max_two min_two max_three min_three max_four min_four
set_option linter.unusedVariables false
set_option linter.unusedSimpArgs false
def torusref03_Fit.f (k : Nat) (a0 : ByteArray) (a1 : ByteArray) (a2 : Int) : Option (ByteArray) := (torusref02_Fit.f k a1 a2).bind fun t1077 => ((torusref02_Positive.f k t1077).bind fun t1078 => (if t1078.toList = ([48] : List UInt8) then ((torusref02_Fit.f k a0 a2).bind fun t1079 => ((torusref03_Reduced.f k t1079 (⟨#[49]⟩ : ByteArray)).bind fun t1080 => (some t1080))) else ((torusref02_Fit.f k a0 a2).bind fun t1081 => ((torusref03_Reduced.f k t1081 t1078).bind fun t1082 => (some t1082)))))
set_option maxHeartbeats 8000000 in
set_option maxRecDepth 100000 in
theorem torusref03_Fit.calls (k : Nat) (a0 : ByteArray) (a1 : ByteArray) (a2 : Int) (r : ByteArray) (w : World) (h : torusref03_Fit.f k a0 a1 a2 = some r) :
  Calls Tryz.prog 18 #[.string a0, .string a1, .int .i64 a2] w fun e w' => e = .returned (.string r) ∧ Below w.heap.size w w' := by
 have HB := Aside0.mk (Below.refl w.heap.size w)
 have H : ((torusref02_Fit.f k a1 a2).bind fun t1077 => ((torusref02_Positive.f k t1077).bind fun t1078 => (if t1078.toList = ([48] : List UInt8) then ((torusref02_Fit.f k a0 a2).bind fun t1079 => ((torusref03_Reduced.f k t1079 (⟨#[49]⟩ : ByteArray)).bind fun t1080 => (some t1080))) else ((torusref02_Fit.f k a0 a2).bind fun t1081 => ((torusref03_Reduced.f k t1081 t1078).bind fun t1082 => (some t1082)))))) = some r := h
 clear h
 replace H := Option.bind_eq_some_iff.mp H
 obtain ⟨t1077, A40, H⟩ := H
 have A4 := Aside0.mk A40
 clear A40
 replace H := Option.bind_eq_some_iff.mp H
 obtain ⟨t1078, A50, H⟩ := H
 have A5 := Aside0.mk A50
 clear A50
 by_cases c6 : t1078.toList = ([48] : List UInt8)
 ·rw [if_pos c6] at H
  have c6b0 : (t1078.toList == ([48] : List UInt8)) = true := beq_iff_eq.mpr c6
  have c6b1 : (t1078.toList != ([48] : List UInt8)) = false := bne_eq_false_iff_eq.mpr c6
  clear c6
  replace H := Option.bind_eq_some_iff.mp H
  obtain ⟨t1079, A70, H⟩ := H
  have A7 := Aside0.mk A70
  clear A70
  replace H := Option.bind_eq_some_iff.mp H
  obtain ⟨t1080, A80, H⟩ := H
  have A8 := Aside0.mk A80
  clear A80
  obtain rfl := Option.some.inj H
  go_enter Tryz.func18, Tryz.ntmps18
  go_wp2_with (first | ((with_reducible refine gate_callee (f := 99) rfl ?_); refine goesL_ (some 10) rfl rfl Tryz.func99 (by kernel_rfl) rfl #[.string a1, .int .i64 a2] rfl ag_ ?_; (with_reducible refine (torusref02_Fit.calls k a1 a2 t1077 _ A4.out).mono ?_); rintro e w9 ⟨rfl, hb⟩; refine ⟨_, rfl, ?_⟩; have n0_ := Aside0.mk (below_step bw_ hb); clear HB; have HB := n0_; clear n0_; (try clear hb); (try clear hb2); (try clear hk); (try clear hi)) | ((with_reducible refine gate_callee (f := 98) rfl ?_); refine goesL_ (some 11) rfl rfl Tryz.func98 (by kernel_rfl) rfl #[.string t1077] rfl ag_ ?_; (with_reducible refine (torusref02_Positive.calls k t1077 t1078 _ A5.out).mono ?_); rintro e w10 ⟨rfl, hb⟩; refine ⟨_, rfl, ?_⟩; have n0_ := Aside0.mk (below_step bw_ hb); clear HB; have HB := n0_; clear n0_; (try clear hb); (try clear hb2); (try clear hk); (try clear hi)) | ((with_reducible refine gate_callee (f := 99) rfl ?_); refine goesL_ (some 16) rfl rfl Tryz.func99 (by kernel_rfl) rfl #[.string a0, .int .i64 a2] rfl ag_ ?_; (with_reducible refine (torusref02_Fit.calls k a0 a2 t1079 _ A7.out).mono ?_); rintro e w11 ⟨rfl, hb⟩; refine ⟨_, rfl, ?_⟩; have n0_ := Aside0.mk (below_step bw_ hb); clear HB; have HB := n0_; clear n0_; (try clear hb); (try clear hb2); (try clear hk); (try clear hi)) | ((with_reducible refine gate_callee (f := 93) rfl ?_); refine goesL_ (some 18) rfl rfl Tryz.func93 (by kernel_rfl) rfl #[.string t1079, .string (⟨#[49]⟩ : ByteArray)] rfl ag_ ?_; (with_reducible refine (torusref03_Reduced.calls k t1079 (⟨#[49]⟩ : ByteArray) t1080 _ A8.out).mono ?_); rintro e w12 ⟨rfl, hb⟩; refine ⟨_, rfl, ?_⟩; have n0_ := Aside0.mk (below_step bw_ hb); clear HB; have HB := n0_; clear n0_; (try clear hb); (try clear hb2); (try clear hk); (try clear hi)))
  go_ret
  exact ⟨by first | rfl | (simp [errW_none, errW_some] <;> rfl) | (simp [*, errW_none, errW_some] <;> rfl), bw_⟩
 ·rw [if_neg c6] at H
  have c6b0 : (t1078.toList == ([48] : List UInt8)) = false := beq_eq_false_iff_ne.mpr c6
  have c6b1 : (t1078.toList != ([48] : List UInt8)) = true := bne_iff_ne.mpr c6
  replace H := Option.bind_eq_some_iff.mp H
  obtain ⟨t1081, A130, H⟩ := H
  have A13 := Aside0.mk A130
  clear A130
  replace H := Option.bind_eq_some_iff.mp H
  obtain ⟨t1082, A140, H⟩ := H
  have A14 := Aside0.mk A140
  clear A140
  obtain rfl := Option.some.inj H
  go_enter Tryz.func18, Tryz.ntmps18
  go_wp2_with (first | ((with_reducible refine gate_callee (f := 99) rfl ?_); refine goesL_ (some 10) rfl rfl Tryz.func99 (by kernel_rfl) rfl #[.string a1, .int .i64 a2] rfl ag_ ?_; (with_reducible refine (torusref02_Fit.calls k a1 a2 t1077 _ A4.out).mono ?_); rintro e w15 ⟨rfl, hb⟩; refine ⟨_, rfl, ?_⟩; have n0_ := Aside0.mk (below_step bw_ hb); clear HB; have HB := n0_; clear n0_; (try clear hb); (try clear hb2); (try clear hk); (try clear hi)) | ((with_reducible refine gate_callee (f := 98) rfl ?_); refine goesL_ (some 11) rfl rfl Tryz.func98 (by kernel_rfl) rfl #[.string t1077] rfl ag_ ?_; (with_reducible refine (torusref02_Positive.calls k t1077 t1078 _ A5.out).mono ?_); rintro e w16 ⟨rfl, hb⟩; refine ⟨_, rfl, ?_⟩; have n0_ := Aside0.mk (below_step bw_ hb); clear HB; have HB := n0_; clear n0_; (try clear hb); (try clear hb2); (try clear hk); (try clear hi)) | ((with_reducible refine gate_callee (f := 99) rfl ?_); refine goesL_ (some 16) rfl rfl Tryz.func99 (by kernel_rfl) rfl #[.string a0, .int .i64 a2] rfl ag_ ?_; (with_reducible refine (torusref02_Fit.calls k a0 a2 t1081 _ A13.out).mono ?_); rintro e w17 ⟨rfl, hb⟩; refine ⟨_, rfl, ?_⟩; have n0_ := Aside0.mk (below_step bw_ hb); clear HB; have HB := n0_; clear n0_; (try clear hb); (try clear hb2); (try clear hk); (try clear hi)) | ((with_reducible refine gate_callee (f := 93) rfl ?_); refine goesL_ (some 18) rfl rfl Tryz.func93 (by kernel_rfl) rfl #[.string t1081, .string t1078] rfl ag_ ?_; (with_reducible refine (torusref03_Reduced.calls k t1081 t1078 t1082 _ A14.out).mono ?_); rintro e w18 ⟨rfl, hb⟩; refine ⟨_, rfl, ?_⟩; have n0_ := Aside0.mk (below_step bw_ hb); clear HB; have HB := n0_; clear n0_; (try clear hb); (try clear hb2); (try clear hk); (try clear hi)))
  go_ret
  exact ⟨by first | rfl | (simp [errW_none, errW_some] <;> rfl) | (simp [*, errW_none, errW_some] <;> rfl), bw_⟩
theorem RT_one {q : Rat} (h : q.den = 1) : RT q = TX q.num := by
 unfold RT rtx
 rw [if_pos h]
 rfl
theorem RT_frac {q : Rat} (h : q.den ≠ 1) : RT q = (TX q.num ++ ⟨#[47]⟩) ++ TX q.den := by
 refine bytesOf_inj ?_
 rw [bytesOf_RT, bytesOf_append, bytesOf_append, bytesOf_TX, bytesOf_TX]
 unfold rtx
 rw [if_neg h]
 have e : bytesOf ⟨#[47]⟩ = [47] := rfl
 rw [e, List.append_assoc]
 rfl
def Sd (z : Int) : Prop := nd z.natAbs ≤ 999999990
theorem Sd.sz {z : Int} (h : Sd z) : Sz z := sz_of (by unfold Sd at h; omega)
theorem Sd.mono {z w : Int} (h : Sd z) (hw : w.natAbs ≤ z.natAbs) : Sd w := by
 unfold Sd at h ⊢
 have h1 := (nd_le (nd z.natAbs) z.natAbs).1 (Nat.le_refl _)
 have h2 := (nd_le (nd z.natAbs) w.natAbs).2 (by omega)
 omega
theorem Sd.neg {z : Int} (h : Sd z) : Sd (-z) := h.mono (by omega)
theorem reduced_tail {n d : Int} (hn : Sd n) (hd : Sd d) (hd0 : 0 < d) {a b : Int} (ha : a = (Rat.divInt n d).num) (hb : b = ((Rat.divInt n d).den : Int)) (la : Sd a) (lb : Sd b) :
  (if (TX b).toList = ([49] : List UInt8) then (some (TX a)) else (if (TX a).size + 1 ≤ 9223372036854775807 then (if (TX a ++ (⟨#[47]⟩ : ByteArray)).size + (TX b).size ≤ 9223372036854775807 then (some ((TX a ++ (⟨#[47]⟩ : ByteArray)) ++ TX b)) else (none)) else (none))) = some (RT (Rat.divInt n d)) := by
 have s1 : (TX a).size ≤ 1000000000 := la.sz
 have s2 : (TX b).size ≤ 1000000000 := lb.sz
 by_cases h1 : b = 1
 ·rw [if_pos ((toList49 b).2 h1), RT_one (by omega), ha]
 ·have s3 : (TX a ++ (⟨#[47]⟩ : ByteArray)).size = (TX a).size + 1 := by rw [ByteArray.size_append]; rfl
  rw [if_neg (fun h => h1 ((toList49 b).1 h)), if_pos (by omega), if_pos (by omega), RT_frac (by omega), ha, hb]
theorem reduced_pos {n d : Int} (hn : Sd n) (hd : Sd d) (hd0 : 0 < d) : Ev (fun k => torusref03_Reduced.j0 k (TX n) (TX d)) (RT (Rat.divInt n d)) := by
 refine ev_succ ?_
 simp only [torusref03_Reduced.j0]
 refine (ev_bind (Divisor_ev hn.sz hd.sz hn hd)).2 ?_
 have ho := over_rat (n := n) hd0
 have hg : 0 < Int.gcd n d := Int.gcd_pos_of_ne_zero_right _ (by omega)
 simp only [toList49]
 by_cases h1 : ((Int.gcd n d : Nat) : Int) = 1
 ·simp only [h1, if_true]
  rw [h1, Int.fdiv_one, Int.fdiv_one] at ho
  have := reduced_tail hn hd hd0 ho.1 ho.2 hn hd
  simp only [toList49] at this
  rw [this]
  exact Ev.now _
 ·simp only [h1, if_false]
  have hgd : Int.gcd n d ≤ d.natAbs := Nat.le_of_dvd (by omega) (Int.gcd_dvd_natAbs_right n d)
  have lg : Sd ((Int.gcd n d : Nat) : Int) := hd.mono (by rw [Int.natAbs_natCast]; exact hgd)
  refine (ev_bind (Quotient_ev hn.sz lg.sz hn lg (by omega))).2 ((ev_bind (Quotient_ev hd.sz lg.sz hd lg (by omega))).2 ?_)
  have ab : ∀ z : Int, (z.fdiv ((Int.gcd n d : Nat) : Int)).natAbs ≤ z.natAbs := fun z => by
   rw [Int.fdiv_eq_ediv_of_nonneg _ (by omega)]
   exact Int.natAbs_ediv_le_natAbs _ _
  have := reduced_tail hn hd hd0 ho.1 ho.2 (hn.mono (ab n)) (hd.mono (ab d))
  simp only [toList49] at this ⊢
  rw [this]
  exact Ev.now _
theorem Reduced_ev {n d : Int} (hn : Sd n) (hd : Sd d) (hd0 : d ≠ 0) : Ev (fun k => torusref03_Reduced.f k (TX n) (TX d)) (RT (Rat.divInt n d)) := by
 unfold torusref03_Reduced.f
 rw [← TX_zero]
 refine (ev_bind (Compare_ev hd.sz (sz_small (by decide)))).2 ?_
 rw [Int.sub_zero]
 by_cases h : d < 0
 ·simp only [show d.sign < 0 from Int.sign_neg_iff.2 h, if_true]
  refine (ev_bind (Opposite_ev hn.sz)).2 ((ev_bind (Opposite_ev hd.sz)).2 ?_)
  have := reduced_pos hn.neg hd.neg (by omega)
  rwa [Rat.neg_divInt_neg] at this
 ·simp only [show ¬ d.sign < 0 from fun h2 => h (Int.sign_neg_iff.1 h2), if_false]
  exact reduced_pos hn hd (by omega)
theorem fit_l0 {s : ByteArray} {m : Nat} (hs : s.size ≤ 9223372036854775807) (hm : m ≤ 1000) : ∀ (j i : Nat) (d : List Int), i + j = s.size → Ten.Lim d → d.length ≤ m → ∃ z : Int, z.natAbs < 10 ^ m ∧ Ev (fun k => torusref02_Fit.l0 k s (m : Int) d (i : Int)) (TX z) := by
 have fin : ∀ (i : Nat) (d : List Int), Ten.Lim d → d.length ≤ m → ∃ z : Int, z.natAbs < 10 ^ m ∧ Ev (fun k => torusref02_Fit.j1 k s (m : Int) d (i : Int) false) (TX z) := fun i d hl hd => by
  have hz : ∀ b, (sgnd b (Ten.val d)).natAbs < 10 ^ m := fun b => by
   rw [sgnd_abs]
   exact (nd_le m _).1 (Nat.le_trans (nd_val hl) hd)
  by_cases h0 : s.size = 0
  ·refine ⟨_, hz false, ev_succ ?_⟩
   simp only [torusref02_Fit.j1, Bool.false_eq_true, if_false, show ¬ ((s.size : Int) > 0) by omega]
   exact ev_some (text_ev false hl (by omega))
  ·refine ⟨_, hz (bt s 0 == 45), ev_succ ?_⟩
   simp only [torusref02_Fit.j1, Bool.false_eq_true, if_false, show ((s.size : Int) > 0) by omega, show (0 < (s.size : Int)) by omega, if_true]
   exact ev_some (text_ev _ hl (by omega))
 intro j
 induction j with
 |zero =>
  intro i d hi hl hd
  obtain ⟨z, hz, he⟩ := fin i d hl hd
  refine ⟨z, hz, ev_succ ?_⟩
  simp only [torusref02_Fit.l0, show ¬ ((i : Int) < (s.size : Int)) by omega, if_false]
  exact he
 |succ j ih =>
  intro i d hi hl hd
  by_cases hdm : d.length < m
  ·have e1 : wrap64 ((i : Int) + 1) = ((i + 1 : Nat) : Int) := by rw [wrap_id (by omega) (by omega)]; omega
   have p1 : ((i : Int) < (s.size : Int)) := by omega
   have p2 : (0 : Int) ≤ (i : Int) := by omega
   have p3 : decide ((d.length : Int) < (m : Int)) = true := decide_eq_true (by omega)
   by_cases hc : 48 ≤ bt s i ∧ bt s i ≤ 57
   ·obtain ⟨z, hz, he⟩ := ih (i + 1) (d ++ [bt s i - 48]) (by omega) (hl.append (Ten.Lim.cons (by omega) (by omega) Ten.Lim.nil)) (by rw [List.length_append, List.length_singleton]; omega)
    refine ⟨z, hz, ev_succ (ev_succ ?_)⟩
    have e2 : wrap64 (wrap64 (bt s i) - 48) = bt s i - 48 := by rw [wrap_id (a := bt s i) (by omega) (by omega), wrap_id (by omega) (by omega)]
    simp only [torusref02_Fit.l0, torusref02_Fit.j1, p1, p2, p3, e1, e2, if_true, show bt s i ≥ 48 from hc.1, hc.2, show d.length < 17592186044416 by omega]
    exact he
   ·obtain ⟨z, hz, he⟩ := ih (i + 1) d (by omega) hl hd
    refine ⟨z, hz, ev_succ (ev_succ ?_)⟩
    by_cases h1 : bt s i ≥ 48
    ·simp only [torusref02_Fit.l0, torusref02_Fit.j1, p1, p2, p3, e1, if_true, h1, show ¬ bt s i ≤ 57 from fun h => hc ⟨h1, h⟩, if_false]
     exact he
    ·simp only [torusref02_Fit.l0, torusref02_Fit.j1, p1, p2, p3, e1, if_true, h1, if_false]
     exact he
  ·obtain ⟨z, hz, he⟩ := fin i d hl hd
   refine ⟨z, hz, ev_succ ?_⟩
   simp only [torusref02_Fit.l0, show ((i : Int) < (s.size : Int)) by omega, if_true, show decide ((d.length : Int) < (m : Int)) = false from decide_eq_false (by omega)]
   exact he
theorem Fit02_ev {s : ByteArray} {m : Nat} (hs : s.size ≤ 9223372036854775807) (hm : m ≤ 1000) : ∃ z : Int, z.natAbs < 10 ^ m ∧ Ev (fun k => torusref02_Fit.f k s (m : Int)) (TX z) := fit_l0 hs hm s.size 0 [] (by omega) Ten.Lim.nil (by simp)
theorem Fit03_ev {s t : ByteArray} {m : Nat} (hs : s.size ≤ 9223372036854775807) (ht : t.size ≤ 9223372036854775807) (h1 : 1 ≤ m) (hm : m ≤ 1000) : ∃ q : Rat, Lq q m ∧ Ev (fun k => torusref03_Fit.f k s t (m : Int)) (RT q) := by
 obtain ⟨n, hn, en⟩ := Fit02_ev hs hm
 obtain ⟨d, hd, ed⟩ := Fit02_ev ht hm
 have sn : Sd n := by have := (nd_le m _).2 hn; unfold Sd; omega
 have sd : Sd d := by have := (nd_le m _).2 hd; unfold Sd; omega
 have sd' : Sd (d.natAbs : Int) := sd.mono (by omega)
 have o1 : 1 < 10 ^ m := Nat.one_lt_pow (by omega) (by decide)
 by_cases h0 : d = 0
 ·refine ⟨Rat.divInt n 1, lq_div hn o1 h1, ?_⟩
  unfold torusref03_Fit.f
  refine (ev_bind ed).2 ((ev_bind (Positive_ev sd.sz)).2 ?_)
  simp only [toList48, show (d.natAbs : Int) = 0 by omega, if_true]
  refine (ev_bind en).2 ?_
  rw [← TX_one]
  exact ev_some (Reduced_ev sn (Sd.mono (z := d.natAbs + 1) (by unfold Sd; have := (nd_le 1 1).2 (by decide); rw [show ((d.natAbs : Int) + 1).natAbs = 1 by omega]; omega) (by omega)) (by decide))
 ·refine ⟨Rat.divInt n d.natAbs, lq_div hn (by rw [Int.natAbs_natCast]; exact hd) h1, ?_⟩
  unfold torusref03_Fit.f
  refine (ev_bind ed).2 ((ev_bind (Positive_ev sd.sz)).2 ?_)
  simp only [toList48, show ¬ (d.natAbs : Int) = 0 by omega, if_false]
  refine (ev_bind en).2 ?_
  exact ev_some (Reduced_ev sn sd' (by omega))
theorem fit_calls (W : World) {s t : ByteArray} {m : Nat} (hs : s.size ≤ 9223372036854775807) (ht : t.size ≤ 9223372036854775807) (h1 : 1 ≤ m) (hm : m ≤ 1000) : ∃ q : Rat, Lq q m ∧ ∀ W : World, Calls Tryz.prog 18 #[.string s, .string t, .int .i64 (m : Int)] W fun e w' => Below W.heap.size W w' ∧ e = .returned (.string (RT q)) := by
 obtain ⟨q, hq, he⟩ := Fit03_ev hs ht h1 hm
 obtain ⟨k, hk⟩ := he.rounds
 refine ⟨q, hq, fun W => (torusref03_Fit.calls k s t m (RT q) W hk).mono ?_⟩
 rintro e w' ⟨rfl, hb⟩
 exact ⟨hb, rfl⟩
theorem rt_size {q : Rat} (h : lgq q = false) : (RT q).size ≤ 9000000000000 := by
 have h1 : nd q.num.natAbs ≤ 1000 := by
  unfold lgq at h
  have := (Bool.or_eq_false_iff.1 h).1
  unfold Lg at this
  have := of_decide_eq_false this
  omega
 have h2 : nd q.den ≤ 1000 := by
  unfold lgq at h
  have := (Bool.or_eq_false_iff.1 h).2
  unfold Lg at this
  have := of_decide_eq_false this
  rw [Int.natAbs_natCast] at this
  omega
 have l1 := rtx_len_ q.num
 have l2 := rtx_len_ (q.den : Int)
 rw [Int.natAbs_natCast] at l2
 rw [← bytesOf_size, bytesOf_RT]
 unfold rtx
 split
 ·omega
 ·rw [List.length_append, List.length_cons]
  omega
section
variable {x y z : Rat} {a b : Nat}
end
section
variable {x y z : Rat}
theorem sign_rt (hx : lgq x = false) {o : Int} (ho : sgnI x.num = o) (W : World) : Calls Tryz.prog 31 #[.string (RT x)] W fun e w' => Below W.heap.size W w' ∧ e = .returned (.int .i64 o) := by
 have := rsgn_calls W (RT x) (rt_size hx)
 rw [rv_RT hx] at this
 simp only [Option.elim, ho] at this
 exact this
end
attribute [local go_sem] max2_int min2_int max_two min_two max_three min_three max_four min_four
set_option linter.unusedVariables false
set_option linter.unusedSimpArgs false
attribute [local go_sem] max2_int min2_int max_two min_two max_three min_three max_four min_four
set_option linter.unusedVariables false
set_option linter.unusedSimpArgs false
attribute [local go_sem] max2_int min2_int max_two min_two max_three min_three max_four min_four
set_option linter.unusedVariables false
set_option linter.unusedSimpArgs false
attribute [local go_sem] max2_int min2_int max_two min_two max_three min_three max_four min_four
set_option linter.unusedVariables false
set_option linter.unusedSimpArgs false
attribute [local go_sem] max2_int min2_int max_two min_two max_three min_three max_four min_four
set_option linter.unusedVariables false
set_option linter.unusedSimpArgs false
section
variable {s1 s2 : Bool} {x y : List Int} {R : ByteArray} {B : Int}
end
section
variable {x y : Rat}
end
theorem iv_TX {z : Int} (h : Lg z = false) : iv (TX z) = some z := by
 unfold iv
 rw [bytesOf_TX, int?_tx, Option.bind_some, if_neg (by rw [h]; decide)]
theorem Lg_abs (z : Int) : Lg (z.natAbs : Int) = Lg z := by
 unfold Lg
 rw [Int.natAbs_natCast]
theorem lgq_parts {q : Rat} (h : lgq q = false) : Lg q.num = false ∧ Lg (q.den : Int) = false := Bool.or_eq_false_iff.1 h
theorem tx_size9 {z : Int} (h : Lg z = false) : (TX z).size ≤ 9000000000000 := by
 have h1 : nd z.natAbs ≤ 1000 := by
  have := of_decide_eq_false h
  omega
 have := rtx_len_ z
 rw [TX_size]
 omega
section
variable {x y : Rat}
theorem den_rt (hx : lgq x = false) {r : ByteArray} (hr : TX x.den = r) (W : World) : Calls Tryz.prog 28 #[.string (RT x)] W fun e w' => Below W.heap.size W w' ∧ e = .returned (.string r) := by
 have := rden_calls W (RT x) (rt_size hx)
 rw [rv_RT hx] at this
 simp only [Option.elim, hr] at this
 exact this
theorem num_rt (hx : lgq x = false) (W : World) : Calls Tryz.prog 54 #[.string (RT x)] W fun e w' => Below W.heap.size W w' ∧ e = .returned (.string (TX x.num)) := by
 have := rnum_calls W (RT x) (rt_size hx)
 rw [rv_RT hx] at this
 exact this
end
end Go.Proofs.YtfmcgammhfdfnaaGreatDoor.PRatio
namespace Go.Proofs.YtfmcgammhfdfnaaGreatDoor.PRatio
open Go.RowKit Go.Proofs.YtfmcgammhfdfnaaGreatDoorW.PrintWords
set_option linter.unusedVariables false
set_option linter.unusedSimpArgs false
def cvS (s : (Int × Int) × (Int × Int)) (c : Int) : (Int × Int) × (Int × Int) := ((s.1.1 * c + s.1.2, s.1.1), (s.2.1 * c + s.2.2, s.2.1))
def cv (l : List Int) : (Int × Int) × (Int × Int) := l.foldl cvS ((1, 0), (0, 1))
end Go.Proofs.YtfmcgammhfdfnaaGreatDoor.PRatio
namespace Go.Proofs.YtfmcgammhfdfnaaGreatDoor.PRatio
open Go.RowKit Go.Proofs.YtfmcgammhfdfnaaGreatDoorW.PrintWords Go.Proofs.YtfmcgammhfdfnaaGreatDoorW.PrintLast Go.Proofs.YtfmcgammhfdfnaaGreatDoorW.PrintMore
set_option linter.unusedVariables false
set_option linter.unusedSimpArgs false
set_option maxHeartbeats 8000000
set_option maxRecDepth 100000
section
variable {w W : World} {rows : List (World → Prop)} {bx bo : List (Nat × List Value × Nat)} {g g' : Nat} {b b' : Bool} {A A' : Option Addr} {x c x' c' : Nat} {n d : Int}
end
theorem Lg_nd (z : Int) : Lg z = false ↔ nd z.natAbs ≤ 1000 := by
 unfold Lg
 rw [decide_eq_false_iff_not]
 omega
abbrev nineZ : ByteArray := ⟨#[48, 48, 48, 48, 48, 48, 48, 48, 48]⟩
theorem TX_ten : TX 10 = ⟨#[49, 48]⟩ := (int?_TX (s := ⟨#[49, 48]⟩) (by decide)).symm
theorem zr_bytes : ∀ (i : Nat) (a : ByteArray), bytesOf (zr i a) = List.replicate i 48 ++ bytesOf a
 |0, a => rfl
 |i + 1, a => by
  rw [zr, bytesOf_append, zr_bytes i a, List.replicate_succ]
  rfl
theorem nine_bytes {z : Nat} (h : z ≤ 9) : bytesOf (nineZ.extract 0 z) = List.replicate z 48 := by
 rw [bytesOf_extract, List.drop_zero, show bytesOf nineZ = List.replicate 9 48 from rfl, List.take_replicate, Nat.min_eq_left h]
theorem tx_ntx (n : Nat) : bytesOf (TX (n : Int)) = ntx n := by rw [bytesOf_TX, tx_nonneg (by omega)]
theorem par_rt {s r : ByteArray} (h : parS s = (r, 0)) (W : World) : Calls Tryz.prog 13 #[.string s] W fun e w' => Below W.heap.size W w' ∧ e = .returned (.tuple #[.string r, .int .i64 0]) := by
 have hs : s.size ≤ 9223372036854775807 := by
  by_cases hl : 4000 < s.size
  ·exfalso
   unfold parS at h
   rw [if_pos hl] at h
   cases h
  ·omega
 have := parse_calls W s hs
 rwa [h] at this
theorem wres_ok {z : Int} (h : Lg z = false) : wres z = (TX z, 0) := by unfold wres; rw [if_neg (by rw [h]; decide)]
theorem lg_small {z : Int} {k : Nat} (h : z.natAbs < 10 ^ k) (hk : k ≤ 1000) : Lg z = false := (Lg_nd z).2 (Nat.le_trans ((nd_le k _).2 h) hk)
theorem wmul_rt {x y : Int} {r : ByteArray} (hx : Lg x = false) (hy : Lg y = false) (hp : Lg (x * y) = false) (hr : TX (x * y) = r) (W : World) : Calls Tryz.prog 75 #[.string (TX x), .string (TX y)] W fun e w' => Below W.heap.size W w' ∧ e = .returned (.tuple #[.string r, .int .i64 0]) := by
 have := wmul_calls W (iv_TX hx) (iv_TX hy) (tx_size9 hx) (tx_size9 hy)
 rwa [wres_ok hp, hr] at this
theorem tx_size2 {z : Int} (h : Lg z = false) : (TX z).size ≤ 2000 := by
 have h1 : nd z.natAbs ≤ 1000 := by
  have := of_decide_eq_false h
  omega
 have := rtx_len_ z
 rw [TX_size]
 omega
def mn (b : Bool) : ByteArray := if b = true then ⟨#[45]⟩ else ⟨#[]⟩
theorem mn_bytes (b : Bool) : bytesOf (mn b) = if b = true then [45] else [] := by cases b <;> rfl
theorem txt_calls {A0 A1 : ByteArray} {k : Int} (hA0 : A0.size ≤ 9223372036854775807) (hA1 : A1.size ≤ 9223372036854775807) (k0 : 0 ≤ k) (k1 : k < 256) (W : World) :
  Calls Tryz.prog 11 #[.agg #[.string A0, .string A1], .int .u8 k] W fun e w' => Below W.heap.size W w' ∧ e = .returned (.bool true) := by
 obtain ⟨q, hq, cq⟩ := fit_calls W hA0 hA1 (m := 60) (by decide) (by decide)
 have hl := hq.lg (by decide)
 have hq3 : Lq q 300 := hq.mono (by decide)
 obtain ⟨z, hz⟩ : ∃ z : Nat, k % 10 = (z : Int) := ⟨(k % 10).toNat, by omega⟩
 have hz9 : z ≤ 9 := by omega
 obtain ⟨Z, hZ⟩ : ∃ Z, nineZ.extract 0 z = Z := ⟨_, rfl⟩
 have hZb : bytesOf Z = List.replicate z 48 := hZ ▸ nine_bytes hz9
 have hZs : Z.size = z := by rw [← bytesOf_size, hZb, List.length_replicate]
 have pq := lgq_parts hl
 have la : Lg (q.num.natAbs : Int) = false := by rw [Lg_abs]; exact pq.1
 have lf : Lg (1 + k) = false := lg_small (k := 3) (by omega) (by decide)
 have hf3 : (1 + k).natAbs < 10 ^ 3 := by omega
 have lm : Lg ((q.num.natAbs : Int) * (1 + k)) = false := lg_small (k := 60 + 3) (by rw [Int.natAbs_mul, Int.natAbs_natCast, Nat.pow_add]; exact Nat.mul_lt_mul'' hq.1 hf3) (by decide)
 have lc : Lg ((q.den : Int) * (1 + k)) = false := lg_small (k := 60 + 3) (by rw [Int.natAbs_mul, Int.natAbs_natCast, Nat.pow_add]; exact Nat.mul_lt_mul'' hq.2 hf3) (by decide)
 have lt : ∀ i, i ≤ z → Lg ((10 : Int) ^ i) = false := fun i hi => lg_small (k := 10) (by rw [Int.natAbs_pow]; exact Nat.pow_lt_pow_right (by decide) (by omega)) (by decide)
 obtain ⟨mi, hmi, hM⟩ : ∃ mi : Bool, (mi = true ∧ q.num ≤ 0 ∨ mi = false ∧ 0 ≤ q.num) ∧ ((sgnI q.num < 0 ∧ mn mi = ⟨#[45]⟩) ∨ (¬ sgnI q.num < 0 ∧ k % 2 = 1 ∧ ((RT q).toList == [48]) = true ∧ mn mi = ⟨#[45]⟩) ∨ (¬ sgnI q.num < 0 ∧ k % 2 = 1 ∧ ((RT q).toList == [48]) = false ∧ mn mi = ⟨#[]⟩) ∨ (¬ sgnI q.num < 0 ∧ k % 2 ≠ 1 ∧ mn mi = ⟨#[]⟩)) := by
  by_cases h1 : q.num < 0
  ·exact ⟨true, .inl ⟨rfl, by omega⟩, .inl ⟨(sgnI_neg _).2 h1, rfl⟩⟩
  ·have h1' : ¬ sgnI q.num < 0 := fun h => h1 ((sgnI_neg _).1 h)
   by_cases h2 : k % 2 = 1
   ·cases h3 : (RT q).toList == [48] with
    |true =>
     have h4 : RT q = RT 0 := by
      refine bytesOf_inj ?_
      have := beq_iff_eq.1 h3
      rw [ByteArray.toList_eq] at this
      unfold bytesOf
      rw [this]
      rfl
     have h5 := RT_inj h4
     exact ⟨true, .inl ⟨rfl, by rw [h5]; decide⟩, .inr (.inl ⟨h1', h2, rfl, rfl⟩)⟩
    |false => exact ⟨false, .inr ⟨rfl, by omega⟩, .inr (.inr (.inl ⟨h1', h2, rfl, rfl⟩))⟩
   ·exact ⟨false, .inr ⟨rfl, by omega⟩, .inr (.inr (.inr ⟨h1', h2, rfl⟩))⟩
 have han : (TX (q.num.natAbs : Int)).size = (ntx q.num.natAbs).length := by rw [← bytesOf_size, tx_ntx]
 have hzb : bytesOf (zr (z + 1 - (TX (q.num.natAbs : Int)).size) (TX (q.num.natAbs : Int))) = List.replicate (z + 1 - (ntx q.num.natAbs).length) 48 ++ ntx q.num.natAbs := by rw [zr_bytes, tx_ntx, han]
 refine txtl_walk (Ft := fun u v r => ∀ W : World, Calls Tryz.prog 18 #[.string u, .string v, .int .i64 60] W fun e w' => Below W.heap.size W w' ∧ e = .returned (.string r))
   (Nu := fun u r => ∀ W : World, Calls Tryz.prog 54 #[.string u] W fun e w' => Below W.heap.size W w' ∧ e = .returned (.string r))
   (De := fun u r => ∀ W : World, Calls Tryz.prog 28 #[.string u] W fun e w' => Below W.heap.size W w' ∧ e = .returned (.string r))
   (Ab := fun u r => ∀ W : World, Calls Tryz.prog 76 #[.string u] W fun e w' => Below W.heap.size W w' ∧ e = .returned (.string r))
   (Mu := fun u v r => ∀ W : World, Calls Tryz.prog 75 #[.string u, .string v] W fun e w' => Below W.heap.size W w' ∧ e = .returned (.tuple #[.string r, .int .i64 0]))
   (Mk := fun u v r => ∀ W : World, Calls Tryz.prog 16 #[.string u, .string v] W fun e w' => Below W.heap.size W w' ∧ e = .returned (.tuple #[.string r, .int .i64 0]))
   (Pa := fun u r => ∀ W : World, Calls Tryz.prog 13 #[.string u] W fun e w' => Below W.heap.size W w' ∧ e = .returned (.tuple #[.string r, .int .i64 0]))
   (x := RT q) (n := TX q.num) (d := TX q.den) (f := TX (1 + k)) (an := TX (q.num.natAbs : Int)) (m := TX ((q.num.natAbs : Int) * (1 + k))) (c := TX ((q.den : Int) * (1 + k))) (ten := TX (10 ^ z)) (w := RT (Rat.divInt q.num (10 ^ z))) (M := mn mi) (Z := Z) (g := sgnI q.num) (z := z)
   (fun W u v r h => h W) (fun W u r h => h W) (fun W u r h => h W) (fun W u r h => h W) (fun W u v r h => h W) (fun W u v r h => h W) (fun W u r h => h W)
   (fun W => wof_calls W (by omega) (by omega)) (sign_rt hl rfl) (fun W => ?_) cq
   ⟨num_rt hl, den_rt hl rfl, fun W => wabs_calls W (iv_TX pq.1) (tx_size9 pq.1), wmul_rt la lf lm rfl, wmul_rt pq.2 lf lc rfl, fun W => ?_, par_rt (parS_self hq3), par_rt ?_, fun h0 => par_rt ?_, fun h0 => par_rt ?_, hZs, hz9, tx_size2 lm, tx_size2 lc, tx_size2 la⟩ k0 k1 hz hZ hM W
 ·have := wpow_calls W (a := ⟨#[49, 48]⟩) (x := 10) (n := z) (by rw [← TX_ten]; exact iv_TX (lg_small (k := 2) (by decide) (by decide))) (by decide) (by decide) (by omega) lt
  rwa [← hZs] at this ⊢
 ·exact make_some W (tx_size9 pq.1) (tx_size9 (lt z (Nat.le_refl z))) (iv_TX pq.1) (iv_TX (lt z (Nat.le_refl z))) (Int.ne_of_gt (Int.pow_pos (by decide)))
 ·refine parS_quot (mi := mi) (f := 1 + k) (k := z) hq3 hmi (by omega) (by omega) hz9 ?_
  simp only [bytesOf_append, mn_bytes, hZb]
  rw [bytesOf_TX, bytesOf_TX, tx_nonneg (Int.mul_nonneg (by omega) (by omega)), tx_nonneg (Int.mul_nonneg (by omega) (by omega)), show bytesOf ⟨#[47]⟩ = [47] from rfl]
  simp only [List.append_assoc, List.singleton_append, List.cons_append, List.nil_append]
 ·subst h0
  exact parS_dec (k := 0) (mi := mi) hq3 hmi (by decide) (a := _) (b := []) (by rw [List.append_nil]) rfl (by rw [bytesOf_append, mn_bytes, hzb]; rfl)
 ·obtain ⟨t, ht⟩ : ∃ t, zr (z + 1 - (TX (q.num.natAbs : Int)).size) (TX (q.num.natAbs : Int)) = t := ⟨_, rfl⟩
  rw [ht] at hzb ⊢
  have hts : z + 1 ≤ t.size := by rw [← ht, zr_size]; omega
  refine parS_dec (k := z) (mi := mi) hq3 hmi hz9 (a := (bytesOf t).take (t.size - z)) (b := (bytesOf t).drop (t.size - z)) (by rw [List.take_append_drop]; exact hzb) (by rw [List.length_drop, bytesOf_size]; omega) ?_
  rw [if_neg (show ¬ z = 0 by omega), bytesOf_append, bytesOf_append, bytesOf_append, mn_bytes, bytesOf_extract, bytesOf_extract, List.drop_zero, ← bytesOf_size t, List.take_length, show bytesOf ⟨#[46]⟩ = [46] from rfl]
  simp only [List.append_assoc, List.singleton_append]
end Go.Proofs.YtfmcgammhfdfnaaGreatDoor.PRatio

